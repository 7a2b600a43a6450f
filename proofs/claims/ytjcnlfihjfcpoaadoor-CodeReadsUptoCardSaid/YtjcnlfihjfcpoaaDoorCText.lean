/- The text of an instruction that is formed. The conditions: the table of names and the library's table are laid; N is a word. -/
import Derived.Test.YtjcnlfihjfcpoaaDoorCode3
import Derived.Test.YtjcnlfihjfcpoaaDoorFmt
import Derived.Deep.RegionHeld3
import Derived.Lib.ItoaLen
set_option linter.unusedSimpArgs false
set_option linter.unusedVariables false
set_option maxRecDepth 100000
namespace Go.Proofs.YtjcnlfihjfcpoaaDoor
open Go.RowKit

def regsText (i : Ins) (k : Nat) : List UInt8 := (List.range k).flatMap fun j => 32 :: Lib.decDigits (i.reg j).toNat
def textOf (i : Ins) : List UInt8 := nameI i.op ++ regsText i (formI i.op).regs ++ if (formI i.op).num then 32 :: Lib.decDigits i.n.toNat else []

theorem regsText_succ (i : Ins) (k : Nat) : regsText i (k + 1) = regsText i k ++ (32 :: Lib.decDigits (i.reg k).toNat) := by
  unfold regsText
  rw [List.range_succ, List.flatMap_append]
  simp

theorem regs_le (op : Int) : (formI op).regs ≤ 3 := by
  unfold formI
  split
  · rename_i h
    have hc : op = 1 ∨ op = 2 ∨ op = 3 ∨ op = 4 ∨ op = 5 ∨ op = 6 ∨ op = 7 ∨ op = 8 ∨ op = 9 ∨ op = 10 ∨ op = 11 ∨ op = 12 ∨ op = 13 ∨ op = 14 ∨ op = 15 ∨ op = 16 ∨ op = 17 := by omega
    rcases hc with rfl | rfl | rfl | rfl | rfl | rfl | rfl | rfl | rfl | rfl | rfl | rfl | rfl | rfl | rfl | rfl | rfl <;> decide
  · decide

theorem formed_reg {i : Ins} (h : formed i = true) (k : Nat) (hk : k < (formI i.op).regs) : 0 ≤ i.reg k ∧ i.reg k < 8 := by
  have hle := regs_le i.op
  have hok : okReg (formI i.op).regs i.reg k = true := by
    cases hb : okReg (formI i.op).regs i.reg k with
    | true => rfl
    | false => exact absurd (h.symm.trans (formedF_no hb (by omega))) (by decide)
  unfold okReg at hok
  rw [if_pos hk] at hok
  exact of_decide_eq_true hok

theorem digits_small (r : Nat) (h : r < 8) : (Lib.decDigits r).length = 1 := by
  rw [Lib.decDigits_one (by omega)]
  rfl

theorem nameBs_len (n : Nat) : (nameBs.getD n []).length ≤ 5 := by
  by_cases h : n < 18
  · have : ∀ n, n < 18 → (nameBs.getD n []).length ≤ 5 := by decide
    exact this n h
  · rw [List.getD_eq_getElem?_getD, List.getElem?_eq_none (by simp [nameBs]; omega)]
    simp

theorem nameI_len (op : Int) : (nameI op).length ≤ 5 := by
  unfold nameI
  split
  · simp
  · exact nameBs_len _

theorem regsText_len {i : Ins} (h : ∀ k, k < (formI i.op).regs → 0 ≤ i.reg k ∧ i.reg k < 8) : ∀ k, k ≤ (formI i.op).regs → (regsText i k).length ≤ 2 * k
  | 0, _ => by simp [regsText]
  | k + 1, hk => by
    have ih := regsText_len h k (by omega)
    have hr := h k (by omega)
    have := digits_small (i.reg k).toNat (by omega)
    rw [regsText_succ, List.length_append, List.length_cons]
    omega

set_option maxHeartbeats 8000000 in
theorem text_formed (i : Ins) (w : World) (h : formed i = true) (hn : 0 ≤ i.n ∧ i.n < 18446744073709551616) (hN : NamesAt w) (hT : Tab w) :
    Calls Tryd.prog 17 #[i.val] w fun e w' => e = .returned (.tuple #[.string ⟨(textOf i).toArray⟩, .int .i64 0]) ∧ Upd [] w w' := by
  obtain ⟨f, hf⟩ : ∃ f, formI i.op = f := ⟨_, rfl⟩
  obtain ⟨ok, hok⟩ : ∃ ok, isOp i.op = ok := ⟨_, rfl⟩
  obtain ⟨nm, hnm⟩ : ∃ nm, nameI i.op = nm := ⟨_, rfl⟩
  have HI : ∀ w, Calls Tryd.prog 10 #[.int .i64 i.op] w fun e w' => e = .returned (.tuple #[f.val, .bool ok]) ∧ Upd [] w w' := fun w => by rw [← hf, ← hok]; exact info i.op w
  have HM : ∀ w, NamesAt w → Calls Tryd.prog 14 #[.int .i64 i.op] w fun e w' => e = .returned (strV nm) ∧ w' = w := fun w h => by rw [← hnm]; exact name_at i.op w h
  have HFo : ∀ w, Calls Tryd.prog 19 #[i.val] w fun e w' => e = .returned (.bool true) ∧ Upd [] w w' := fun w => by rw [← h]; exact formed_code i w
  have HR := fun w => regs i w
  have hreg := formed_reg h
  have hle := regs_le i.op
  have hrc := reg_cell i
  have hRL := regsText_len hreg
  have hNL := nameI_len i.op
  rw [hf] at hreg hle hRL
  rw [hnm] at hNL
  have HX : textOf i = nm ++ regsText i f.regs ++ if f.num then 32 :: Lib.decDigits i.n.toNat else [] := by unfold textOf; rw [hf, hnm]
  have HS := Lib.hid (regsText_succ i)
  have H0 : regsText i 0 = [] := rfl
  generalize textOf i = TX at *
  generalize regsText i = RT at *
  clear hf hok hnm h
  obtain ⟨op, a, b, c, n⟩ := i
  simp only [Ins.val] at HR HI HFo HM ⊢
  obtain ⟨R, num, tg, ou, ins⟩ := f
  simp only [Form.val, strV] at HI HM
  simp only at hn hreg hle HX hRL
  obtain ⟨reg, hrg⟩ : ∃ reg, Ins.reg ⟨op, a, b, c, n⟩ = reg := ⟨_, rfl⟩
  rw [hrg] at hrc HS hreg
  clear hrg
  have HX' := Lib.hid HX
  have H0' := Lib.hid H0
  clear HX H0
  refine calls_all fun K hK => ?_
  go_enter Tryd.func17, Tryd.ntmps17
  go_wp2_with fail
  refine (HFo _).mono ?_
  rintro e w1 ⟨rfl, u1⟩
  have u0 : Upd [] w w1 := ((Upd.refl _ _).alloc _).trans u1
  have hb : Blk w1 w.heap.size [.int .i64 op, .int .i64 a, .int .i64 b, .int .i64 c, .int .u64 n] 38 := (Blk.new w _ _).upd u1 (by simp)
  have dd0 := hb.cell 0 rfl
  have HB := Lib.hid hb
  have U0 := Lib.hid u0
  clear u1 hb u0
  go_wp2_with fail
  refine (HI _).mono ?_
  rintro e w2 ⟨rfl, u2⟩
  have HB2 := Lib.hid ((HB.out.upd u2 (by simp)).alloc (.cells #[.int .i64 (R : Int), .bool num, .bool tg, .bool ou, .bool ins] 24))
  have U2 := Lib.hid ((U0.out.trans u2).alloc (.cells #[.int .i64 (R : Int), .bool num, .bool tg, .bool ou, .bool ins] 24))
  have d0 := HB2.out.cell 0 rfl
  have hN2 := hN.upd U2.out (by simp)
  clear u2 HB U0 dd0
  have HFb : Hid (Blk (w2.alloc (.cells #[.int .i64 (R : Int), .bool num, .bool tg, .bool ou, .bool ins] 24)) w2.heap.size [.int .i64 (R : Int), .bool num, .bool tg, .bool ou, .bool ins] 24) := Lib.hid (Blk.new w2 _ _)
  go_wp2_with fail
  refine (HM _ hN2).mono ?_
  rintro e w3 ⟨rfl, hw3⟩
  subst hw3
  clear d0
  generalize w2.alloc (.cells #[.int .i64 (R : Int), .bool num, .bool tg, .bool ou, .bool ins] 24) = W at *
  generalize w2.heap.size = fb at *
  generalize w.heap.size = bb at *
  have hfb := HFb.out.lt
  have hbb := HB2.out.lt
  have d0 := HB2.out.cell 0 rfl
  have d1 := HB2.out.cell 1 rfl
  have d2 := HB2.out.cell 2 rfl
  have d3 := HB2.out.cell 3 rfl
  have d4 := HB2.out.cell 4 rfl
  have f0 := HFb.out.cell 0 rfl
  have f1 := HFb.out.cell 1 rfl
  have hR3 : (R : Int) ≤ 3 := by omega
  go_wp2_with fail
  go_region_held3 (fun w' => (w'.cell? ⟨bb, 0, none⟩ = some (.int .i64 op) ∧ w'.cell? ⟨bb, 1, none⟩ = some (.int .i64 a) ∧ w'.cell? ⟨bb, 2, none⟩ = some (.int .i64 b) ∧ w'.cell? ⟨bb, 3, none⟩ = some (.int .i64 c) ∧ w'.cell? ⟨bb, 4, none⟩ = some (.int .u64 n)) ∧ w'.cell? ⟨fb, 0, none⟩ = some (.int .i64 (R : Int))) (first | go_keep | exact ⟨⟨d0', d1', d2', d3', d4'⟩, f0'⟩) (first | (go_at_call 33; refine (HR _).mono ?_; rintro e w5 ⟨g, rfl, hg, hg2, u5d⟩; have u5 := (Upd.refl [] W).drew.trans u5d; have d0' := cell_upd d0 u5 (by simp); have d1' := cell_upd d1 u5 (by simp); have d2' := cell_upd d2 u5 (by simp); have d3' := cell_upd d3 u5 (by simp); have d4' := cell_upd d4 u5 (by simp); have f0' := cell_upd f0 u5 (by simp)))
  have U5 := Lib.hid (U2.out.trans u5)
  have hf1 := cell_upd f1 u5 (by simp)
  clear d0 d1 d2 d3 d4 f0 f1 d0' d1' d2' d3' u5 u5d hbb hfb HB2 U2 HFb
  have hT5 := hT.upd U5.out
  go_wp2_with fail
  go_loopw [6, 27] (fun v6 v27 wr => ∃ k : Nat, k ≤ R ∧ v27 = .int .i64 k ∧ v6 = .string ⟨(nm ++ RT k).toArray⟩ ∧ wr = w5) (fun _ v27 _ => R - (intOf v27).toNat)
  case atStart => exact ⟨0, by omega, rfl, by rw [H0'.out, List.append_nil], rfl⟩
  case round =>
    obtain ⟨k, hk, rfl, rfl, rfl⟩ := hrel
    by_cases hlt : k < R
    · have hc := hg2.cell k (hrc k (by omega))
      have hkl : (k : Int) < (R : Int) := by omega
      obtain ⟨r0, r8⟩ := hreg k hlt
      have hs := HS.out k
      obtain ⟨r, hr⟩ : ∃ r : Nat, reg k = r := ⟨(reg k).toNat, by omega⟩
      rw [hr] at hc hs r0 r8
      rw [Int.toNat_natCast] at hs
      have HSK := Lib.hid hs
      clear hs hr hrc
      have hl1 := hRL k hk
      have hl3 := digits_small r (by omega)
      have hb1 : ¬ 9223372036854775807 < 1 + (Lib.decDigits r).length := by omega
      have hb2 : ¬ 9223372036854775807 < nm.length + (RT k).length + (1 + (Lib.decDigits r).length) := by omega
      clear hl1 hl3 hRL
      go_wp2_with fail
      refine (Tryd.strconv_Itoa_small r (by omega) _).mono ?_
      rintro e w6 ⟨rfl, rfl⟩
      go_wp2
      go_round
      case rel => exact ⟨k + 1, by omega, by go_num, by rw [HSK.out]; simp [ByteArray.ext_iff], by first | trivial | rfl⟩
      case measure => simp [intOf]; omega
    · obtain rfl : k = R := by omega
      have hl1 := hRL k (Nat.le_refl _)
      cases num with
      | false =>
        have hX := HX'.out
        have HE := Lib.hid (hX.trans (List.append_nil _))
        clear hX HX' hl1 hRL
        go_wp2
        all_goals first | exact ⟨by rw [HE.out]; rfl, U5.out⟩ | (rw [HE.out]; exact ⟨rfl, U5.out⟩)
      | true =>
        have hX := HX'.out
        rw [if_pos rfl] at hX
        obtain ⟨u, rfl⟩ : ∃ u : Nat, n = u := ⟨n.toNat, by omega⟩
        rw [Int.toNat_natCast] at hX
        have hu64 : u < 18446744073709551616 := by omega
        have hdl := Lib.nDigits_le20 u hu64
        rw [← Lib.decDigits_length] at hdl
        have hb1 : ¬ 9223372036854775807 < 1 + (Lib.decDigits u).length := by omega
        have hb2 : ¬ 9223372036854775807 < nm.length + (RT k).length + (1 + (Lib.decDigits u).length) := by omega
        have HE := Lib.hid hX
        clear hX HX' hl1 hRL hdl hn
        go_wp2_with fail
        refine (fmtu u hu64 _ hT5).mono ?_
        rintro e w7 ⟨rfl, u7⟩
        have U7 := Lib.hid (U5.out.trans u7)
        clear u7 U5
        go_wp2
        all_goals first | exact ⟨by rw [HE.out]; simp [ByteArray.ext_iff], U7.out⟩ | (rw [HE.out]; exact ⟨by simp [ByteArray.ext_iff], U7.out⟩)
end Go.Proofs.YtjcnlfihjfcpoaaDoor
