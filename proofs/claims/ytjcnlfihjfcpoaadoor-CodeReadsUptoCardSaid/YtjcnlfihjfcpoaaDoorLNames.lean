/- CodeNames' walk: the numbers of the operations, and works. The condition: the tables are laid. -/
import Derived.Test.YtjcnlfihjfcpoaaDoorCWorks
import Derived.Test.YtjcnlfihjfcpoaaDoorCRForm
set_option linter.unusedSimpArgs false
set_option linter.unusedVariables false
set_option maxRecDepth 100000
namespace Go.Proofs.YtjcnlfihjfcpoaaDoor
open Go.RowKit

set_option maxHeartbeats 4000000 in
theorem codeNames_walk (w : World) (hP : Pre w) : Calls Tryd.prog 6 #[] w fun e w' => e = .returned (.bool true) ∧ Upd [] w w' := by
  refine calls_all fun K hK => ?_
  go_enter Tryd.func6, Tryd.ntmps6
  go_wp2_with fail
  go_loopw [1] (fun v1 wr => ∃ k : Nat, 1 ≤ k ∧ k ≤ 18 ∧ v1 = .int .i64 k ∧ Upd [] w wr) (fun v1 _ => 18 - (intOf v1).toNat)
  case atStart => exact ⟨1, by omega, by omega, rfl, Upd.refl _ _⟩
  case round =>
    obtain ⟨k, hk1, hk, rfl, hu⟩ := hrel
    have HU := Lib.hid hu
    have hPr := hP.upd hu
    clear hu
    by_cases hlt : k < 18
    · have hkl : (k : Int) ≤ 17 := by omega
      have HM := fun w h => name_at k w h
      have HR := fun w => rname k w
      obtain ⟨l, hl⟩ : ∃ l, nameI k = l := ⟨_, rfl⟩
      rw [hl] at HM HR
      clear hl
      simp only [strV] at HM HR
      have hll : (l == l) = true := by simp
      go_wp2_with fail
      refine (HM _ hPr.names).mono ?_
      rintro e w1 ⟨rfl, hw1⟩
      subst hw1
      go_wp2_with fail
      refine (HR _).mono ?_
      rintro e w2 ⟨rfl, u2⟩
      have HU2 := Lib.hid (HU.out.trans u2)
      clear u2
      go_wp2_with fail
      go_roundw
      case rel => exact ⟨k + 1, by omega, by omega, by go_num, HU2.out⟩
      case measure => simp [intOf]; omega
    · obtain rfl : k = 18 := by omega
      go_wp2_with (go_at_call 16; refine (works _ hPr).mono ?_; rintro e w3 ⟨rfl, u3⟩)
      all_goals exact ⟨rfl, HU.out.trans u3⟩

theorem namedL_name (op : Int) : ((namedL (nameI op)).2 = isOp op) ∧ (isOp op = true → ((namedL (nameI op)).1 : Int) = op) := by
  by_cases h : 1 ≤ op ∧ op ≤ 17
  · have hc : op = 1 ∨ op = 2 ∨ op = 3 ∨ op = 4 ∨ op = 5 ∨ op = 6 ∨ op = 7 ∨ op = 8 ∨ op = 9 ∨ op = 10 ∨ op = 11 ∨ op = 12 ∨ op = 13 ∨ op = 14 ∨ op = 15 ∨ op = 16 ∨ op = 17 := by omega
    rcases hc with rfl | rfl | rfl | rfl | rfl | rfl | rfl | rfl | rfl | rfl | rfl | rfl | rfl | rfl | rfl | rfl | rfl <;> decide
  · have en : nameI op = [] := by
      unfold nameI
      by_cases hn : op < 0
      · rw [if_pos hn]
      · rw [if_neg hn]
        obtain ⟨n, rfl⟩ : ∃ n : Nat, op = n := ⟨op.toNat, by omega⟩
        have hn' : n = 0 ∨ 18 ≤ n := by omega
        rcases hn' with rfl | hn'
        · rfl
        · rw [Int.toNat_natCast, List.getD_eq_getElem?_getD, List.getElem?_eq_none (by simp [nameBs]; omega)]
          rfl
    have ei : isOp op = false := decide_eq_false h
    rw [en, ei]
    exact ⟨by decide, fun e => by cases e⟩

set_option maxHeartbeats 4000000 in
theorem codeInfo_walk (op : Int) (s : ByteArray) (w : World) (hP : Pre w) : Calls Tryd.prog 3 #[.int .i64 op, .string s] w fun e w' => e = .returned (.bool true) ∧ Upd [] w w' := by
  have HI := fun w => info op w
  have HRI := fun w => rinfo op w
  have HN := fun w h => named s w h
  have HRN := fun w => rnamed s w
  have HM := fun w h => name_at op w h
  have HRM := fun w => rname op w
  have HB := fun w h => named ⟨(nameI op).toArray⟩ w h
  obtain ⟨n2, n1⟩ := namedL_name op
  simp only [List.toList_toArray] at HB
  generalize nameI op = nm at *
  generalize namedL nm = q at *
  generalize namedL s.data.toList = p at *
  generalize formI op = f at *
  obtain ⟨ok, hok⟩ : ∃ ok, isOp op = ok := ⟨_, rfl⟩
  rw [hok] at HI HRI n1 n2
  clear hok
  obtain ⟨q1, q2⟩ := q
  obtain ⟨p1, p2⟩ := p
  obtain ⟨R, num, tg, ou, ins⟩ := f
  simp only at n1 n2
  subst n2
  simp only [Form.val] at HI HRI
  simp only [strV] at HM HRM
  have hnn : (nm == nm) = true := by simp
  refine calls_all fun K hK => ?_
  go_enter Tryd.func3, Tryd.ntmps3
  go_wp2_with fail
  refine (HI _).mono ?_
  rintro e w1 ⟨rfl, u1⟩
  have U1 := Lib.hid u1
  clear u1
  go_wp2_with fail
  refine (HRI _).mono ?_
  rintro e w2 ⟨rfl, u2⟩
  have HA := Lib.hid ((Blk.new w1 [.int .i64 (R : Int), .bool num, .bool tg, .bool ou, .bool ins] 24).upd u2 (by simp))
  have U2 := Lib.hid ((U1.out.alloc (.cells #[.int .i64 (R : Int), .bool num, .bool tg, .bool ou, .bool ins] 24)).trans u2)
  clear u2 U1
  go_wp2_with fail
  refine (HN _ ((hP.upd (U2.out.alloc (.cells #[.int .i64 (R : Int), .bool num, .bool tg, .bool ou, .bool ins] 24))).names)).mono ?_
  rintro e w3 ⟨rfl, hw3⟩
  subst hw3
  go_wp2_with fail
  refine (HRN _).mono ?_
  rintro e w4 ⟨rfl, u4⟩
  have ha4 := (HA.out.alloc (.cells #[.int .i64 (R : Int), .bool num, .bool tg, .bool ou, .bool ins] 24)).upd u4 (by simp)
  have hb4 := (Blk.new w2 [.int .i64 (R : Int), .bool num, .bool tg, .bool ou, .bool ins] 24).upd u4 (by simp)
  have U4 := Lib.hid ((U2.out.alloc (.cells #[.int .i64 (R : Int), .bool num, .bool tg, .bool ou, .bool ins] 24)).trans u4)
  clear u4 U2
  go_wp2_with fail
  refine (HM _ ((hP.upd U4.out).names)).mono ?_
  rintro e w5 ⟨rfl, hw5⟩
  subst hw5
  go_wp2_with fail
  refine (HB _ ((hP.upd U4.out).names)).mono ?_
  rintro e w6 ⟨rfl, hw6⟩
  subst hw6
  have a0 := ha4.cell 0 rfl
  have a1 := ha4.cell 1 rfl
  have a2 := ha4.cell 2 rfl
  have a3 := ha4.cell 3 rfl
  have a4 := ha4.cell 4 rfl
  have b0 := hb4.cell 0 rfl
  have b1 := hb4.cell 1 rfl
  have b2 := hb4.cell 2 rfl
  have b3 := hb4.cell 3 rfl
  have b4 := hb4.cell 4 rfl
  clear ha4 hb4
  cases q2 with
  | false =>
    go_wp2_with (first | (go_at_call 14; refine (HM _ ((hP.upd U4.out).names)).mono ?_; rintro e w7 ⟨rfl, rfl⟩) | (go_at_call 15; refine (HRM _).mono ?_; rintro e w8 ⟨rfl, u8⟩) | (go_at_call 16; refine (works _ (hP.upd (U4.out.trans u8))).mono ?_; rintro e w9 ⟨rfl, u9⟩))
    all_goals exact ⟨rfl, (U4.out.trans u8).trans u9⟩
  | true =>
    have hq := n1 rfl
    subst hq
    have hqq : ((q1 : Int) == (q1 : Int)) = true := by simp
    go_wp2_with (first | (go_at_call 14; refine (HM _ ((hP.upd U4.out).names)).mono ?_; rintro e w7 ⟨rfl, rfl⟩) | (go_at_call 15; refine (HRM _).mono ?_; rintro e w8 ⟨rfl, u8⟩) | (go_at_call 16; refine (works _ (hP.upd (U4.out.trans u8))).mono ?_; rintro e w9 ⟨rfl, u9⟩))
    all_goals exact ⟨rfl, (U4.out.trans u8).trans u9⟩
end Go.Proofs.YtjcnlfihjfcpoaaDoor
