/- The reference's operation of a name, and what an operation is made of. No condition. -/
import Derived.Test.YtjcnlfihjfcpoaaDoorCNamed
set_option linter.unusedSimpArgs false
set_option linter.unusedVariables false
set_option maxRecDepth 100000
namespace Go.Proofs.YtjcnlfihjfcpoaaDoor
open Go.RowKit

set_option maxHeartbeats 8000000 in
theorem rnamed (s : ByteArray) (w : World) : Calls Tryd.prog 13 #[.string s] w fun e w' => e = .returned (.tuple #[.int .i64 ((namedL s.data.toList).1 : Nat), .bool (namedL s.data.toList).2]) ∧ Upd [] w w' := by
  have HS := Lib.hid (findN_step · s.data.toList)
  obtain ⟨L, hL⟩ : ∃ L, namedL s.data.toList = L := ⟨_, rfl⟩
  rw [hL]
  have HL := Lib.hid hL
  clear hL
  have HR := fun (k : Nat) (hk : k < 18) (w : World) => show Calls Tryd.prog 15 #[.int .i64 (k : Int)] w fun e w' => e = .returned (strV (nameBs.getD k [])) ∧ Upd [] w w' by
    have h := rname k w
    unfold nameI at h
    rw [if_neg (by omega), Int.toNat_natCast] at h
    exact h
  refine calls_all fun K hK => ?_
  go_enter Tryd.func13, Tryd.ntmps13
  go_wp2
  go_loopw [4] (fun v4 wr => ∃ k : Nat, 1 ≤ k ∧ k ≤ 18 ∧ v4 = .int .i64 k ∧ findN (nameBs.drop k) k s.data.toList = L ∧ Upd [] w wr) (fun v4 _ => 18 - (intOf v4).toNat)
  case atStart => exact ⟨1, by omega, by omega, rfl, HL.out, Upd.refl _ _⟩
  case round =>
    obtain ⟨k, hk1, hk, rfl, hF, hu⟩ := hrel
    have HF := Lib.hid hF
    have HU := Lib.hid hu
    clear hF hu
    by_cases hlt : k < 18
    · have hkl : (k : Int) ≤ 17 := by omega
      have hst := HS.out k hlt
      have heq := str_eql (nameBs.getD k []) s
      have HR' := HR k hlt
      obtain ⟨l, hl⟩ : ∃ l, nameBs.getD k [] = l := ⟨_, rfl⟩
      rw [hl] at hst heq HR'
      have HL2 := Lib.hid hl
      clear hl HR
      simp only [strV] at HR'
      by_cases he : l = s.data.toList
      · rw [if_pos he, HF.out] at hst
        rw [decide_eq_true he] at heq
        have HST := Lib.hid hst
        clear hst he
        go_wp2_with fail
        refine (HR' _).mono ?_
        rintro e w1 ⟨rfl, u1⟩
        have HU1 := Lib.hid (HU.out.trans u1)
        clear u1
        go_wp2
        all_goals first | exact ⟨by rw [HST.out]; rfl, HU1.out⟩ | (rw [HST.out]; exact ⟨rfl, HU1.out⟩) | (rw [HST.out]; exact HU1.out)
      · rw [if_neg he, HF.out] at hst
        rw [decide_eq_false he] at heq
        have HST := Lib.hid hst
        clear hst he
        go_wp2_with fail
        refine (HR' _).mono ?_
        rintro e w1 ⟨rfl, u1⟩
        have HU1 := Lib.hid (HU.out.trans u1)
        clear u1
        go_wp2
        go_roundw
        case rel => exact ⟨k + 1, by omega, by omega, by go_num, HST.out.symm, HU1.out⟩
        case measure => simp [intOf]; omega
    · obtain rfl : k = 18 := by omega
      have hst := HF.out
      have HST := Lib.hid (hst.symm.trans (show _ = ((0 : Nat), false) from rfl))
      clear hst HR
      go_wp2
      all_goals first | exact ⟨by rw [HST.out]; rfl, HU.out⟩ | (rw [HST.out]; exact ⟨rfl, HU.out⟩) | (rw [HST.out]; exact HU.out)
end Go.Proofs.YtjcnlfihjfcpoaaDoor
