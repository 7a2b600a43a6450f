/- The reference: what an operation is made of, is an instruction formed. No condition. -/
import Derived.Test.YtjcnlfihjfcpoaaDoorCRNamed
import Derived.Test.YtjcnlfihjfcpoaaDoorCode3
set_option linter.unusedSimpArgs false
set_option linter.unusedVariables false
set_option maxRecDepth 100000
namespace Go.Proofs.YtjcnlfihjfcpoaaDoor
open Go.RowKit

set_option maxHeartbeats 8000000 in
/-- the reference's name: no table -/
theorem rname_at (op : Int) (w : World) : Calls Tryd.prog 15 #[.int .i64 op] w fun e w' => e = .returned (strV (nameI op)) ∧ ∃ o, w' = w.alloc o := by
  by_cases h : 0 ≤ op ∧ op < 18
  · have hc : op = 0 ∨ op = 1 ∨ op = 2 ∨ op = 3 ∨ op = 4 ∨ op = 5 ∨ op = 6 ∨ op = 7 ∨ op = 8 ∨ op = 9 ∨ op = 10 ∨ op = 11 ∨ op = 12 ∨ op = 13 ∨ op = 14 ∨ op = 15 ∨ op = 16 ∨ op = 17 := by omega
    clear h
    rcases hc with rfl | rfl | rfl | rfl | rfl | rfl | rfl | rfl | rfl | rfl | rfl | rfl | rfl | rfl | rfl | rfl | rfl | rfl
    all_goals
      refine calls_all fun K hK => ?_
      go_enter Tryd.func15, Tryd.ntmps15
      go_wp2
      first | exact ⟨rfl, _, rfl⟩ | exact ⟨_, rfl⟩
  · by_cases hn : op < 0
    · have e1 : decide (op < 0) = true := decide_eq_true hn
      have en : nameI op = [] := if_pos hn
      rw [en]
      clear h
      refine calls_all fun K hK => ?_
      go_enter Tryd.func15, Tryd.ntmps15
      go_wp2
      first | exact ⟨rfl, _, rfl⟩ | exact ⟨_, rfl⟩
    · obtain ⟨n, rfl⟩ : ∃ n : Nat, op = n := ⟨op.toNat, by omega⟩
      have hge : 18 ≤ n := by omega
      have en : nameI n = [] := by
        unfold nameI
        rw [if_neg hn]
        rw [List.getD_eq_getElem?_getD, List.getElem?_eq_none (by simp [nameBs]; omega)]
        rfl
      rw [en]
      clear h hn
      refine calls_all fun K hK => ?_
      go_enter Tryd.func15, Tryd.ntmps15
      go_wp2
      first | exact ⟨rfl, _, rfl⟩ | exact ⟨_, rfl⟩


set_option maxHeartbeats 40000000 in
theorem rinfo (op : Int) (w : World) : Calls Tryd.prog 11 #[.int .i64 op] w fun e w' => e = .returned (.tuple #[(formI op).val, .bool (isOp op)]) ∧ Upd [] w w' := by
  have HM := fun w => rname_at op w
  by_cases h : 1 ≤ op ∧ op ≤ 17
  · have hc : op = 1 ∨ op = 2 ∨ op = 3 ∨ op = 4 ∨ op = 5 ∨ op = 6 ∨ op = 7 ∨ op = 8 ∨ op = 9 ∨ op = 10 ∨ op = 11 ∨ op = 12 ∨ op = 13 ∨ op = 14 ∨ op = 15 ∨ op = 16 ∨ op = 17 := by omega
    clear h
    rcases hc with rfl | rfl | rfl | rfl | rfl | rfl | rfl | rfl | rfl | rfl | rfl | rfl | rfl | rfl | rfl | rfl | rfl
    all_goals
      simp [strV, nameI, nameBs] at HM
      refine calls_all fun K hK => ?_
      go_enter Tryd.func11, Tryd.ntmps11
      go_wp2_with fail
      refine (HM _).mono ?_
      rintro e w1 ⟨rfl, o, rfl⟩
      go_wp2
      all_goals first | exact ⟨rfl, ((((Upd.refl _ _).alloc _).alloc _).alloc _)⟩ | (go_returns; exact hK _ _ ⟨rfl, ((((Upd.refl _ _).alloc _).alloc _).alloc _)⟩)
  · have ef : formI op = ⟨0, false, false, false, false⟩ := if_neg h
    have ei : isOp op = false := decide_eq_false h
    have en : nameI op = [] := by
      unfold nameI
      by_cases hn : op < 0
      · rw [if_pos hn]
      · rw [if_neg hn]
        obtain ⟨n, rfl⟩ : ∃ n : Nat, op = n := ⟨op.toNat, by omega⟩
        have hn' : n = 0 ∨ 18 ≤ n := by omega
        rcases hn' with rfl | hn'
        · rfl
        · rw [Int.toNat_natCast, List.getD_eq_getElem?_getD, List.getElem?_eq_none (by simp [nameBs]; omega)]
          rfl
    rw [en] at HM
    rw [ef, ei]
    simp [strV] at HM
    clear h ef ei en
    refine calls_all fun K hK => ?_
    go_enter Tryd.func11, Tryd.ntmps11
    go_wp2_with fail
    refine (HM _).mono ?_
    rintro e w1 ⟨rfl, o, rfl⟩
    go_wp2
    all_goals first | exact ⟨rfl, ((((Upd.refl _ _).alloc _).alloc _).alloc _)⟩ | (go_returns; exact hK _ _ ⟨rfl, ((((Upd.refl _ _).alloc _).alloc _).alloc _)⟩)
end Go.Proofs.YtjcnlfihjfcpoaaDoor
