/- AttemptNil's walk. No condition. -/
import Derived.Test.YthfeljongackcaaANil
set_option linter.unusedSimpArgs false
set_option linter.unusedVariables false
set_option maxRecDepth 100000
namespace Go.Proofs.Ythfeljongackcaa
open Go.RowKit
open Go.Maps
set_option maxHeartbeats 4000000 in
theorem nothing_walk (w : World) (p r c : Option Addr) (h : NT w p) : Calls Try.prog 23 #[.pointer p, .pointer r, .pointer c] w fun e w' => e = .returned (.bool true) ∧ Upd [] w w' := by
  have H := Lib.hid h
  refine calls_all fun K hK => ?_
  go_enter Try.func23, Try.ntmps23
  go_wp2_with fail
  refine (get_no H.out 0).mono ?_
  rintro e W8 ⟨rfl, u8⟩
  simp only [Trn.val, trnNone, evNone]
  go_wp2_with fail
  obtain ⟨W9, hW9⟩ : ∃ W9, W9 = W8.alloc (.cells #[.int .i64 0, .int .u64 0, .int .i64 0, .int .i64 0, .int .u64 0, .int .u64 0, .bool false, .int .i64 0] 36) := ⟨_, rfl⟩
  have TA : Blk W9 W8.heap.size trnNone.cells 36 := by rw [hW9]; exact Blk.new W8 _ _
  have u9 : Upd [] W8 W9 := by rw [hW9]; exact (Upd.refl [] _).alloc _
  rw [← hW9]
  clear hW9
  have HU := u8.trans u9
  clear u8 u9
  refine (put_no (H.out.upd0 HU) 0 1).mono ?_
  rintro e W8 ⟨rfl, u8⟩
  simp only [Trn.val, trnNone, evNone]
  go_wp2_with fail
  obtain ⟨W9, hW9⟩ : ∃ W9, W9 = W8.alloc (.cells #[.int .i64 0, .int .u64 0, .int .i64 0, .int .i64 0, .int .u64 0, .int .u64 0, .bool false, .int .i64 0] 36) := ⟨_, rfl⟩
  have TB : Blk W9 W8.heap.size trnNone.cells 36 := by rw [hW9]; exact Blk.new W8 _ _
  have u9 : Upd [] W8 W9 := by rw [hW9]; exact (Upd.refl [] _).alloc _
  rw [← hW9]
  clear hW9
  replace TA := TA.upd (u8.trans u9) (by simp)
  replace HU := HU.trans (u8.trans u9)
  clear u8 u9
  refine (end_no (H.out.upd0 HU)).mono ?_
  rintro e W8 ⟨rfl, u8⟩
  simp only [Trn.val, trnNone, evNone]
  go_wp2_with fail
  obtain ⟨W9, hW9⟩ : ∃ W9, W9 = W8.alloc (.cells #[.int .i64 0, .int .u64 0, .int .i64 0, .int .i64 0, .int .u64 0, .int .u64 0, .bool false, .int .i64 0] 36) := ⟨_, rfl⟩
  have TC : Blk W9 W8.heap.size trnNone.cells 36 := by rw [hW9]; exact Blk.new W8 _ _
  have u9 : Upd [] W8 W9 := by rw [hW9]; exact (Upd.refl [] _).alloc _
  rw [← hW9]
  clear hW9
  replace TA := TA.upd (u8.trans u9) (by simp)
  replace TB := TB.upd (u8.trans u9) (by simp)
  replace HU := HU.trans (u8.trans u9)
  clear u8 u9
  refine (step_no (H.out.upd0 HU)).mono ?_
  rintro e W8 ⟨rfl, u8⟩
  simp only [Trn.val, trnNone, evNone]
  replace TA := TA.upd u8 (by simp)
  replace TB := TB.upd u8 (by simp)
  replace TC := TC.upd u8 (by simp)
  simp only [trnNone, evNone, Trn.cells] at TA TB TC
  have la := TA.lt
  have a0' := TA.cell 0 rfl
  have a1' := TA.cell 1 rfl
  have a2' := TA.cell 2 rfl
  have a3' := TA.cell 3 rfl
  have a4' := TA.cell 4 rfl
  have a5' := TA.cell 5 rfl
  have a6' := TA.cell 6 rfl
  have a7' := TA.cell 7 rfl
  have lb := TB.lt
  have b0' := TB.cell 0 rfl
  have b1' := TB.cell 1 rfl
  have b2' := TB.cell 2 rfl
  have b3' := TB.cell 3 rfl
  have b4' := TB.cell 4 rfl
  have b5' := TB.cell 5 rfl
  have b6' := TB.cell 6 rfl
  have b7' := TB.cell 7 rfl
  have lc := TC.lt
  have c0' := TC.cell 0 rfl
  have c1' := TC.cell 1 rfl
  have c2' := TC.cell 2 rfl
  have c3' := TC.cell 3 rfl
  have c4' := TC.cell 4 rfl
  have c5' := TC.cell 5 rfl
  have c6' := TC.cell 6 rfl
  have c7' := TC.cell 7 rfl
  have HU8 := HU.trans u8
  clear HU u8 TA TB TC
  go_wp2_with fail
  have U9 : Upd [] w ((W8.alloc (.cells #[.int .i64 0, .int .u64 0, .int .i64 0, .int .i64 0, .int .u64 0, .int .u64 0, .bool false, .int .i64 0] 36)).alloc (.cells #[.int .i64 0, .int .u64 0, .int .i64 0, .int .i64 0, .int .u64 0, .int .u64 0, .bool false, .int .i64 0] 36)) := (HU8.alloc _).alloc _
  clear HU8
  generalize (W8.alloc (.cells #[.int .i64 0, .int .u64 0, .int .i64 0, .int .i64 0, .int .u64 0, .int .u64 0, .bool false, .int .i64 0] 36)).alloc (.cells #[.int .i64 0, .int .u64 0, .int .i64 0, .int .i64 0, .int .u64 0, .int .u64 0, .bool false, .int .i64 0] 36) = W9 at U9 ⊢
  clear la lb lc a0' a1' a2' a3' a4' a5' a6' a7' b0' b1' b2' b3' b4' b5' b6' b7' c0' c1' c2' c3' c4' c5' c6' c7'
  refine (num07 _ _).mono ?_
  rintro e w' ⟨rfl, rfl⟩
  go_wp2_with fail
  refine (num07 _ _).mono ?_
  rintro e w' ⟨rfl, rfl⟩
  go_wp2_with fail
  refine (num07 _ _).mono ?_
  rintro e w' ⟨rfl, rfl⟩
  go_wp2_with fail
  refine (num07 _ _).mono ?_
  rintro e w' ⟨rfl, rfl⟩
  go_wp2_with fail
  refine (drop_no (H.out.upd0 U9)).mono ?_
  rintro e w' ⟨rfl, rfl⟩
  go_wp2_with fail
  refine (num07 _ _).mono ?_
  rintro e w' ⟨rfl, rfl⟩
  go_wp2_with fail
  refine (phase_no (H.out.upd0 U9)).mono ?_
  rintro e w' ⟨rfl, rfl⟩
  go_wp2_with fail
  refine (locked_no (H.out.upd0 U9)).mono ?_
  rintro e w' ⟨rfl, rfl⟩
  go_wp2_with fail
  refine (state_no (H.out.upd0 U9)).mono ?_
  rintro e W10 ⟨rfl, u10⟩
  simp only [stateV, zeroAS]
  go_wp2_with fail
  have hss := same_state W10 zeroAS (.slice none 0 0) (.slice none 0 0) (.slice none 0 0) (.slice none 0 0) (SlC.nil _) (SlC.nil _) (SlC.nil _) (SlC.nil _) (by simp [zeroAS]) (by simp [zeroAS])
  simp only [stateV, zeroAS] at hss
  refine hss.mono ?_
  rintro e W11 ⟨rfl, u11⟩
  have U11 := (U9.trans u10).trans u11
  clear hss u10 u11
  go_wp2_with fail
  refine (copy_no (H.out.upd0 U11) r c).mono ?_
  rintro e w' ⟨rfl, rfl⟩
  go_wp2_with fail
  all_goals exact ⟨rfl, U11⟩

set_option maxHeartbeats 4000000 in
theorem attemptNil_walk (w : World) : Calls Try.prog 6 #[] w fun e w' => e = .returned (.bool true) ∧ Upd [] w w' := by
  refine calls_all fun K hK => ?_
  go_enter Try.func6, Try.ntmps6
  go_wp2_with fail
  refine (new_row 1 w (by omega) (by omega)).mono ?_
  rintro e w1 ⟨ra, rb, rfl, hR, hra, hrb, u1⟩
  go_wp2_with fail
  refine (clkNew w1).mono ?_
  rintro e w2 ⟨ca, cr, cb, rfl, hC, h1, h2, h3, u2⟩
  have hX : XAt w2 ⟨ra, rb, ca, cr, cb⟩ ⟨[0], 0⟩ := XAt.made hR hC u2 h1 h2 h3 ⟨by simp, by simp⟩
  have U2 := u1.trans u2
  clear hR hC u2 h1 h2 h3 hra hrb u1
  generalize hXe : (⟨ra, rb, ca, cr, cb⟩ : SX) = X at hX
  obtain rfl : ra = X.ra := by rw [← hXe]
  obtain rfl : ca = X.ca := by rw [← hXe]
  clear hXe
  go_wp2_with fail
  refine (begin_nil1 w2 _).mono ?_
  rintro e W8 ⟨rfl, u8⟩
  simp only [Trn.val, trnNone, evNone]
  go_wp2_with fail
  obtain ⟨W9, hW9⟩ : ∃ W9, W9 = W8.alloc (.cells #[.int .i64 0, .int .u64 0, .int .i64 0, .int .i64 0, .int .u64 0, .int .u64 0, .bool false, .int .i64 0] 36) := ⟨_, rfl⟩
  have TA : Blk W9 W8.heap.size trnNone.cells 36 := by rw [hW9]; exact Blk.new W8 _ _
  have u9 : Upd [] W8 W9 := by rw [hW9]; exact (Upd.refl [] _).alloc _
  rw [← hW9]
  clear hW9
  have HU := u8.trans u9
  clear u8 u9
  refine (begin_nil2 (hX.upd HU (by simp))).mono ?_
  rintro e W8 ⟨rfl, u8⟩
  simp only [Trn.val, trnNone, evNone]
  replace TA := TA.upd u8 (by simp)
  have HU8 := HU.trans u8
  clear HU u8
  go_wp2_with fail
  have TB := Blk.new W8 trnNone.cells 36
  replace TA := TA.alloc (.cells trnNone.cells.toArray 36)
  have HU9 : Upd [] w2 (W8.alloc (.cells trnNone.cells.toArray 36)) := HU8.alloc _
  simp only [trnNone, evNone, Trn.cells] at TA TB HU9
  generalize W8.alloc (.cells #[.int .i64 0, .int .u64 0, .int .i64 0, .int .i64 0, .int .u64 0, .int .u64 0, .bool false, .int .i64 0] 36) = W9 at TA TB HU9 ⊢
  clear HU8
  refine (from_nil1 W9 (fresh 0) (.slice none 0 0) (.slice none 0 0) _).mono ?_
  rintro e W10 ⟨rfl, u10⟩
  go_wp2_with fail
  refine (from_nil2 (hX.upd (HU9.trans u10) (by simp)) (fresh 0) (.slice none 0 0) (.slice none 0 0)).mono ?_
  rintro e W11 ⟨rfl, u11⟩
  have HU11 := (HU9.trans u10).trans u11
  replace TA := TA.upd (u10.trans u11) (by simp)
  replace TB := TB.upd (u10.trans u11) (by simp)
  have a0' := TA.cell 0 rfl
  have a1' := TA.cell 1 rfl
  have a2' := TA.cell 2 rfl
  have a3' := TA.cell 3 rfl
  have a4' := TA.cell 4 rfl
  have a5' := TA.cell 5 rfl
  have a6' := TA.cell 6 rfl
  have a7' := TA.cell 7 rfl
  have b0' := TB.cell 0 rfl
  have b1' := TB.cell 1 rfl
  have b2' := TB.cell 2 rfl
  have b3' := TB.cell 3 rfl
  have b4' := TB.cell 4 rfl
  have b5' := TB.cell 5 rfl
  have b6' := TB.cell 6 rfl
  have b7' := TB.cell 7 rfl
  clear HU9 u10 u11 TA TB
  go_wp2_with fail
  refine (num07 _ _).mono ?_
  rintro e w' ⟨rfl, rfl⟩
  go_wp2_with fail
  refine (num07 _ _).mono ?_
  rintro e w' ⟨rfl, rfl⟩
  go_wp2_with fail
  refine (num07 _ _).mono ?_
  rintro e w' ⟨rfl, rfl⟩
  go_wp2_with fail
  refine (num07 _ _).mono ?_
  rintro e w' ⟨rfl, rfl⟩
  go_wp2_with fail
  refine (nothing_walk W11 none _ _ (.inl rfl)).mono ?_
  rintro e W12 ⟨rfl, u12⟩
  have HU12 := HU11.trans u12
  clear HU11 u12
  go_wp2_with fail
  have ZB := Blk.new W12 [.pointer none, .pointer none, .int .u64 0, .slice none 0 0, .slice none 0 0, .int .i64 0, .int .i64 0, .int .u64 0, .int .u64 0, .int .u64 0, .int .i64 0, .map none, .nilFunc, .nilFunc, .nilFunc, .nilFunc, .nilFunc, .nilFunc, .nilFunc, .nilFunc, .nilFunc, .nilFunc, .nilFunc] 66
  have HU13 : Upd [] w2 (W12.alloc (.cells #[.pointer none, .pointer none, .int .u64 0, .slice none 0 0, .slice none 0 0, .int .i64 0, .int .i64 0, .int .u64 0, .int .u64 0, .int .u64 0, .int .i64 0, .map none, .nilFunc, .nilFunc, .nilFunc, .nilFunc, .nilFunc, .nilFunc, .nilFunc, .nilFunc, .nilFunc, .nilFunc, .nilFunc] 66)) := HU12.alloc _
  have hnt : NT (W12.alloc (.cells #[.pointer none, .pointer none, .int .u64 0, .slice none 0 0, .slice none 0 0, .int .i64 0, .int .i64 0, .int .u64 0, .int .u64 0, .int .u64 0, .int .i64 0, .map none, .nilFunc, .nilFunc, .nilFunc, .nilFunc, .nilFunc, .nilFunc, .nilFunc, .nilFunc, .nilFunc, .nilFunc, .nilFunc] 66)) (some ⟨W12.heap.size, 0, none⟩) := .inr ⟨_, rfl, ZB.cell 1 rfl⟩
  clear ZB HU12
  refine (nothing_walk _ _ _ _ hnt).mono ?_
  rintro e W14 ⟨rfl, u14⟩
  go_wp2_with fail
  refine (known07_walk W14).mono ?_
  rintro e W15 ⟨rfl, u15⟩
  go_wp2_with fail
  all_goals exact ⟨rfl, ((U2.trans HU13).trans u14).trans u15⟩
end Go.Proofs.Ythfeljongackcaa
