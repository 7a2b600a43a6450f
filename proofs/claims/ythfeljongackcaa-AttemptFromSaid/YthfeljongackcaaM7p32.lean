/- The law's begins: an attempt begins on both sides. No condition. The law's over: a state's lists are written over, and grown. No condition. -/
import Derived.Test.YthfeljongackcaaM7p31
set_option linter.unusedSimpArgs false
set_option linter.unusedVariables false
set_option maxRecDepth 100000
namespace Go.Proofs.Ythfeljongackcaa
open Go.RowKit
open Go.Maps

set_option maxHeartbeats 2000000 in
theorem begins_code {w0 W : World} {p : Nat} {X : SX} {Y : RX} {sh : Sh} {att ratt : Atts} {held : Bool} {tk : Int} (h : PS w0 p X Y sh att ratt held tk W) (i : Nat) (hi : i < 3) :
    Calls Try.prog 60 #[.pointer (some ⟨p, 0, none⟩), .int .i64 i] W (OwnOk w0 p X Y held tk) := by
  have hi3 : (i : Int) < 3 := by omega
  have hsm := h.same
  have htk := h.tkw
  have P1 := h.pl
  clear h
  refine calls_all fun K hK => ?_
  go_enter Try.func60, Try.ntmps60
  go_wp2_with fail
  have ud := (Upd.refl [] W).drew
  replace P1 := P1.free0 ud
  refine wp_region_br (fun w' => w'.cell? ⟨p, 0, none⟩ = some (.pointer (some ⟨X.ra, 0, none⟩)) ∧ w'.cell? ⟨p, 1, none⟩ = some (.pointer (some ⟨X.ca, 0, none⟩))) [0, 1, 2, 3, 4, 5, 6, 7, 8, 9, 10, 11, 12, 13, 14, 15, 16] (by kernel_rfl) (by kernel_rfl) ⟨P1.head.cell 0 rfl, P1.head.cell 1 rfl⟩ ?_
  clear ud
  generalize W.drew = W2 at P1 ⊢
  repeat
    first
      | (refine wpB_skip rfl (by kernel_rfl) (by rfl) ?_)
      | ((refine wpB_take (v := ?_) rfl rfl (by kernel_rfl) (by rfl) ?_ ?_); rotate_left 1; (· ((intro w hSw; (try dsimp only at hSw); go_simp); try with_reducible rfl)))
    try simp only [Act.put, List.setIfInBounds_toArray, List.set_cons_zero, List.set_cons_succ]
  refine wpB_two (i := 8) (j := 13) [8, 9, 10, 11, 12, 14, 15, 16] (by kernel_rfl) rfl rfl (by rfl) (by rfl) (fun K2 hK2 => ?_) (fun K2 hK2 => ?_)
  · go_simp
    have hc := pbegin P1.m i
    obtain ⟨T, hT⟩ : ∃ T, begT sh = T := ⟨_, rfl⟩
    obtain ⟨so, hso⟩ : ∃ so, begS sh = so := ⟨_, rfl⟩
    rw [hT, hso] at hc
    have HT := Lib.hid hT
    have HSO := Lib.hid hso
    clear hT hso
    refine hc.mono ?_
    clear hc
    rintro e W3 ⟨o, rfl, m3, mv3, hs3⟩
    have P3 := P1.prog m3 mv3
    have hlt3 : ∀ g, Foot X.foot (upd1 att i o) g → g < W3.heap.size := fun g hg => (P3.m.out hg).2
    have hrl3 : ∀ g, Foot Y.foot ratt g → g < W3.heap.size := fun g hg => (P3.r.out hg).2
    have HLT := Lib.hid hlt3
    have HRLT := Lib.hid hrl3
    have HS3 := Lib.hid hs3
    have HSM := Lib.hid hsm
    have hpl := P3.head.lt
    have hw0 := P3.low.size
    clear m3 mv3 hs3 hlt3 hrl3 hsm P1
    obtain ⟨to_, tw, ⟨tk2, ta, tv, tb⟩⟩ := T
    simp only [Trn.val]
    refine hK2.out _ _ ⟨P3.head.cell 0 rfl, P3.head.cell 1 rfl⟩ ?_
    clear hK2 K2
    repeat
      first
        | (refine wpB_skip rfl (by kernel_rfl) (by rfl) ?_)
        | ((refine wpB_take (v := ?_) rfl rfl (by kernel_rfl) (by rfl) ?_ ?_); rotate_left 1; (· ((intro w hSw; (try dsimp only at hSw); go_simp); try with_reducible rfl)))
      try simp only [Act.put, List.setIfInBounds_toArray, List.set_cons_zero, List.set_cons_succ]
    refine wpB_eff rfl (by kernel_rfl) (by rfl) (fun K2 hK2 => ?_)
    go_simp
    obtain ⟨W4, hW4⟩ : ∃ W4, W3.alloc (.cells turn0.toArray 36) = W4 := ⟨_, rfl⟩
    have uA : Upd [] W3 W4 := by rw [← hW4]; exact (Upd.refl [] _).alloc _
    have A1 : Blk W4 W3.heap.size turn0 36 := by rw [← hW4]; exact Blk.new W3 turn0 36
    have P4 := P3.free0 uA
    have hb0 : w0.heap.size ≤ W3.heap.size := hw0
    have hbX : ¬ Foot X.foot (upd1 att i o) W3.heap.size := fun e => by have := HLT.out _ e; omega
    have hbY : ¬ Foot Y.foot ratt W3.heap.size := fun e => by have := HRLT.out _ e; omega
    have hbp : p ≠ W3.heap.size := by omega
    have hbl0 : W3.heap.size < W4.heap.size := A1.lt
    have HBX := Lib.hid hbX
    have HBY := Lib.hid hbY
    simp only [turn0, trnNone, evNone, Trn.cells] at hW4
    rw [hW4]
    clear hW4 uA hbX hbY P3 HLT HRLT
    generalize W3.heap.size = bt at A1 hb0 HBX HBY hbp hbl0 ⊢
    refine hK2.out _ _ ⟨P4.head.cell 0 rfl, P4.head.cell 1 rfl⟩ ?_
    clear hK2 K2
    repeat
      first
        | (refine wpB_skip rfl (by kernel_rfl) (by rfl) ?_)
        | ((refine wpB_take (v := ?_) rfl rfl (by kernel_rfl) (by rfl) ?_ ?_); rotate_left 1; (· ((intro w hSw; (try dsimp only at hSw); go_simp); try with_reducible rfl)))
      try simp only [Act.put, List.setIfInBounds_toArray, List.set_cons_zero, List.set_cons_succ]
    have q0 := (A1).cell 0 rfl
    have q1 := (A1).cell 1 rfl
    have q2 := (A1).cell 2 rfl
    have q3 := (A1).cell 3 rfl
    have q4 := (A1).cell 4 rfl
    have q5 := (A1).cell 5 rfl
    have q6 := (A1).cell 6 rfl
    have q7 := (A1).cell 7 rfl
    have g0 := (A1).free 0
    have g1 := (A1).free 1
    have g2 := (A1).free 2
    have g3 := (A1).free 3
    have g4 := (A1).free 4
    have g5 := (A1).free 5
    have g6 := (A1).free 6
    have g7 := (A1).free 7
    refine wpB_eff rfl (by kernel_rfl) (by rfl) (fun K2 hK2 => ?_)
    go_simp
    have uB : Upd [bt] W4 ((((((((W4.setCell ⟨bt, 0, none⟩ (.int .i64 to_)).setCell ⟨bt, 1, none⟩ (.int .u64 tw)).setCell ⟨bt, 2, none⟩ (.int .i64 0)).setCell ⟨bt, 3, none⟩ (.int .i64 tk2)).setCell ⟨bt, 4, none⟩ (.int .u64 ta)).setCell ⟨bt, 5, none⟩ (.int .u64 tv)).setCell ⟨bt, 6, none⟩ (.bool tb)).setCell ⟨bt, 7, none⟩ (.int .i64 0)) :=
      ((((((((Upd.refl _ _).setCell (.inl (by simp)) _).setCell (.inl (by simp)) _).setCell (.inl (by simp)) _).setCell (.inl (by simp)) _).setCell (.inl (by simp)) _).setCell (.inl (by simp)) _).setCell (.inl (by simp)) _).setCell (.inl (by simp)) _
    have hbl := Nat.lt_of_lt_of_le hbl0 uB.size
    have P5 := P4.scratch uB hb0 HBX.out HBY.out hbp
    have A1 := turn_set A1 rfl (⟨to_, tw, ⟨tk2, ta, tv, tb⟩⟩ : Trn)
    dsimp only at A1
    refine hK2.out _ _ ⟨P5.head.cell 0 rfl, P5.head.cell 1 rfl⟩ ?_
    clear q0 q1 q2 q3 q4 q5 q6 q7 g0 g1 g2 g3 g4 g5 g6 g7
    clear hK2 K2 uB P4
    repeat
      first
        | (refine wpB_skip rfl (by kernel_rfl) (by rfl) ?_)
        | ((refine wpB_take (v := ?_) rfl rfl (by kernel_rfl) (by rfl) ?_ ?_); rotate_left 1; (· ((intro w hSw; (try dsimp only at hSw); go_simp); try with_reducible rfl)))
      try simp only [Act.put, List.setIfInBounds_toArray, List.set_cons_zero, List.set_cons_succ]
    refine wpB_end (by kernel_rfl) (NoPanic.normal ?_)
    generalize ((((((((W4.setCell ⟨bt, 0, none⟩ (.int .i64 to_)).setCell ⟨bt, 1, none⟩ (.int .u64 tw)).setCell ⟨bt, 2, none⟩ (.int .i64 0)).setCell ⟨bt, 3, none⟩ (.int .i64 tk2)).setCell ⟨bt, 4, none⟩ (.int .u64 ta)).setCell ⟨bt, 5, none⟩ (.int .u64 tv)).setCell ⟨bt, 6, none⟩ (.bool tb)).setCell ⟨bt, 7, none⟩ (.int .i64 0)) = W5 at P5 A1 hbl ⊢
    have cw := P5.head.cell 2 rfl
    go_wp2_with fail
    clear cw
    have hc := rbegin P5.r i
    rw [HT.out, HSO.out] at hc
    refine hc.mono ?_
    clear hc
    rintro e W6 ⟨o2, rfl, r6, mv6, hs6⟩
    have P6 := P5.doc r6 mv6
    obtain ⟨S6, hS6, u6⟩ := mv6.u
    replace A1 := A1.upd u6 (fun e => HBY.out (hS6 _ e))
    have hbY : ¬ Foot Y.foot (upd1 ratt i o2) bt := mv6.not HBY.out hbl
    have HS6 := Lib.hid hs6
    obtain ⟨W7, hW7⟩ : ∃ W7, W6.alloc (.cells turn0.toArray 36) = W7 := ⟨_, rfl⟩
    have uE : Upd [] W6 W7 := by rw [← hW7]; exact (Upd.refl [] _).alloc _
    have A2 : Blk W7 W6.heap.size turn0 36 := by rw [← hW7]; exact Blk.new W6 turn0 36
    have hq0 : w0.heap.size ≤ W6.heap.size := P6.low.size
    have HQX := Lib.hid (show ¬ Foot X.foot (upd1 att i o) W6.heap.size from fun e => by have := (P6.m.out e).2; omega)
    have HQY := Lib.hid (show ¬ Foot Y.foot (upd1 ratt i o2) W6.heap.size from fun e => by have := (P6.r.out e).2; omega)
    have hqp : p ≠ W6.heap.size := by have := P6.head.lt; omega
    replace P6 := P6.free0 uE
    have hbd : bt ≠ W6.heap.size := by have := A1.lt; omega
    replace A1 := A1.upd uE (by simp)
    simp only [turn0, trnNone, evNone, Trn.cells] at hW7
    clear r6 mv6 hs6 hS6 u6 uE P5
    simp only [Trn.val]
    have q0 := (A2).cell 0 rfl
    have q1 := (A2).cell 1 rfl
    have q2 := (A2).cell 2 rfl
    have q3 := (A2).cell 3 rfl
    have q4 := (A2).cell 4 rfl
    have q5 := (A2).cell 5 rfl
    have q6 := (A2).cell 6 rfl
    have q7 := (A2).cell 7 rfl
    have g0 := (A2).free 0
    have g1 := (A2).free 1
    have g2 := (A2).free 2
    have g3 := (A2).free 3
    have g4 := (A2).free 4
    have g5 := (A2).free 5
    have g6 := (A2).free 6
    have g7 := (A2).free 7
    go_wp2_with fail
    clear q0 q1 q2 q3 q4 q5 q6 q7 g0 g1 g2 g3 g4 g5 g6 g7
    have uB : Upd [W6.heap.size] W7 ((((((((W7.setCell ⟨W6.heap.size, 0, none⟩ (.int .i64 to_)).setCell ⟨W6.heap.size, 1, none⟩ (.int .u64 tw)).setCell ⟨W6.heap.size, 2, none⟩ (.int .i64 0)).setCell ⟨W6.heap.size, 3, none⟩ (.int .i64 tk2)).setCell ⟨W6.heap.size, 4, none⟩ (.int .u64 ta)).setCell ⟨W6.heap.size, 5, none⟩ (.int .u64 tv)).setCell ⟨W6.heap.size, 6, none⟩ (.bool tb)).setCell ⟨W6.heap.size, 7, none⟩ (.int .i64 0)) :=
      ((((((((Upd.refl _ _).setCell (.inl (by simp)) _).setCell (.inl (by simp)) _).setCell (.inl (by simp)) _).setCell (.inl (by simp)) _).setCell (.inl (by simp)) _).setCell (.inl (by simp)) _).setCell (.inl (by simp)) _).setCell (.inl (by simp)) _
    have P8 := P6.scratch uB hq0 HQX.out HQY.out hqp
    have A2 := turn_set A2 rfl (⟨to_, tw, ⟨tk2, ta, tv, tb⟩⟩ : Trn)
    dsimp only at A2
    replace A1 := A1.upd uB (by simpa using hbd)
    clear P6 hW7 uB
    generalize ((((((((W7.setCell ⟨W6.heap.size, 0, none⟩ (.int .i64 to_)).setCell ⟨W6.heap.size, 1, none⟩ (.int .u64 tw)).setCell ⟨W6.heap.size, 2, none⟩ (.int .i64 0)).setCell ⟨W6.heap.size, 3, none⟩ (.int .i64 tk2)).setCell ⟨W6.heap.size, 4, none⟩ (.int .u64 ta)).setCell ⟨W6.heap.size, 5, none⟩ (.int .u64 tv)).setCell ⟨W6.heap.size, 6, none⟩ (.bool tb)).setCell ⟨W6.heap.size, 7, none⟩ (.int .i64 0)) = W8 at P8 A1 A2 ⊢
    have ud := (Upd.refl [] W8).drew
    replace P8 := P8.free0 ud
    replace A1 := A1.drew
    replace A2 := A2.drew
    refine wp_region_br (fun w' => True) [0, 1, 2, 3, 4, 5, 6, 7, 8, 10, 11, 9, 12, 13] (by kernel_rfl) (by kernel_rfl) trivial ?_
    clear ud
    generalize W8.drew = W9 at P8 A1 A2 ⊢
    have hi6 : (i : Int) < 3 := by omega
    repeat
      first
        | (refine wpB_skip rfl (by kernel_rfl) (by rfl) ?_)
        | ((refine wpB_take (v := ?_) rfl rfl (by kernel_rfl) (by rfl) ?_ ?_); rotate_left 1; (· ((intro w hSw; (try dsimp only at hSw); go_simp); try with_reducible rfl)))
      try simp only [Act.put, List.setIfInBounds_toArray, List.set_cons_zero, List.set_cons_succ]
    have q3 := P8.head.cell (3 + i) (head_att hi)
    have g3 := P8.head.free (3 + i)
    refine wpB_eff rfl (by kernel_rfl) (by rfl) (fun K2 hK2 => ?_)
    go_simp
    refine hK2.out _ _ trivial ?_
    clear hK2 K2 q3 g3
    replace P8 := P8.put (3 + i) (.pointer (ptrO o))
    rw [head_set_att hi] at P8
    have hp1 : bt ≠ p := fun e => hbp e.symm
    have hp2 : W6.heap.size ≠ p := fun e => hqp e.symm
    replace A1 := A1.upd (show Upd [p] W9 (W9.setCell ⟨p, 3 + i, none⟩ (.pointer (ptrO o))) from (Upd.refl _ _).setCell (.inl (by simp)) _) (by simpa using hp1)
    replace A2 := A2.upd (show Upd [p] W9 (W9.setCell ⟨p, 3 + i, none⟩ (.pointer (ptrO o))) from (Upd.refl _ _).setCell (.inl (by simp)) _) (by simpa using hp2)
    generalize W9.setCell ⟨p, 3 + i, none⟩ (.pointer (ptrO o)) = Wa at P8 A1 A2 ⊢
    repeat
      first
        | (refine wpB_skip rfl (by kernel_rfl) (by rfl) ?_)
        | ((refine wpB_take (v := ?_) rfl rfl (by kernel_rfl) (by rfl) ?_ ?_); rotate_left 1; (· ((intro w hSw; (try dsimp only at hSw); go_simp); try with_reducible rfl)))
      try simp only [Act.put, List.setIfInBounds_toArray, List.set_cons_zero, List.set_cons_succ]
    have q3 := P8.head.cell (6 + i) (head_ratt hi)
    have g3 := P8.head.free (6 + i)
    refine wpB_eff rfl (by kernel_rfl) (by rfl) (fun K2 hK2 => ?_)
    go_simp
    refine hK2.out _ _ trivial ?_
    clear hK2 K2 q3 g3
    replace P8 := P8.put (6 + i) (.pointer (ptrO o2))
    rw [head_set_ratt hi] at P8
    replace A1 := A1.upd (show Upd [p] Wa (Wa.setCell ⟨p, 6 + i, none⟩ (.pointer (ptrO o2))) from (Upd.refl _ _).setCell (.inl (by simp)) _) (by simpa using hp1)
    replace A2 := A2.upd (show Upd [p] Wa (Wa.setCell ⟨p, 6 + i, none⟩ (.pointer (ptrO o2))) from (Upd.refl _ _).setCell (.inl (by simp)) _) (by simpa using hp2)
    generalize Wa.setCell ⟨p, 6 + i, none⟩ (.pointer (ptrO o2)) = Wb at P8 A1 A2 ⊢
    refine wpB_end (by kernel_rfl) (NoPanic.normal ?_)
    have hn : (ptrO o).isNone = (ptrO o2).isNone := none_eq (HS3.out.trans HS6.out.symm)
    have PSn : PS w0 p X Y sh (upd1 att i o) (upd1 ratt i o2) held tk Wb := ⟨P8, fun j => by
      by_cases hj : j = i
      · subst hj; rw [upd1_same, upd1_same]; exact HS3.out.trans HS6.out.symm
      · rw [upd1_other _ _ hj, upd1_other _ _ hj]; exact HSM.out j, htk⟩
    have HPS := Lib.hid PSn
    have x0 := A1.cell 0 rfl
    have x1 := A1.cell 1 rfl
    have x2 := A1.cell 2 rfl
    have x3 := A1.cell 3 rfl
    have x4 := A1.cell 4 rfl
    have x5 := A1.cell 5 rfl
    have x6 := A1.cell 6 rfl
    have x7 := A1.cell 7 rfl
    have y0 := A2.cell 0 rfl
    have y1 := A2.cell 1 rfl
    have y2 := A2.cell 2 rfl
    have y3 := A2.cell 3 rfl
    have y4 := A2.cell 4 rfl
    have y5 := A2.cell 5 rfl
    have y6 := A2.cell 6 rfl
    have y7 := A2.cell 7 rfl
    have E1 := eql_attp (ptrO o)
    have E2 := eql_rattp (ptrO o2)
    generalize (ptrO o).isNone = c1 at E1 hn
    generalize (ptrO o2).isNone = c2 at E2 hn
    subst hn
    have hcc : (c1 == c1) = true := by simp
    clear PSn P8 A1 A2
    go_wp2_with (go_at_call 12; refine (num07 _ _).mono ?_; rintro e w' ⟨rfl, rfl⟩)
    exact ⟨rfl, _, _, _, HPS.out⟩
  · go_simp
    obtain ⟨W4, hW4⟩ : ∃ W4, W2.alloc (.cells turn0.toArray 36) = W4 := ⟨_, rfl⟩
    have uA : Upd [] W2 W4 := by rw [← hW4]; exact (Upd.refl [] _).alloc _
    have A1 : Blk W4 W2.heap.size turn0 36 := by rw [← hW4]; exact Blk.new W2 turn0 36
    have P4 := P1.free0 uA
    have hb0 : w0.heap.size ≤ W2.heap.size := P1.low.size
    have hbX : ¬ Foot X.foot att W2.heap.size := fun e => by have := (P1.m.out e).2; omega
    have hbY : ¬ Foot Y.foot ratt W2.heap.size := fun e => by have := (P1.r.out e).2; omega
    have hbp : p ≠ W2.heap.size := by have := P1.head.lt; omega
    have hbl0 : W2.heap.size < W4.heap.size := A1.lt
    have HBY := Lib.hid hbY
    simp only [turn0, trnNone, evNone, Trn.cells] at hW4
    rw [hW4]
    clear hW4 uA hbY P1
    generalize W2.heap.size = bt at A1 hb0 hbX HBY hbp hbl0 ⊢
    refine hK2.out _ _ ⟨P4.head.cell 0 rfl, P4.head.cell 1 rfl⟩ ?_
    clear hK2 K2
    refine wpB_eff rfl (by kernel_rfl) (by rfl) (fun K2 hK2 => ?_)
    go_simp
    have hc := pbegin P4.m i
    obtain ⟨T, hT⟩ : ∃ T, begT sh = T := ⟨_, rfl⟩
    obtain ⟨so, hso⟩ : ∃ so, begS sh = so := ⟨_, rfl⟩
    rw [hT, hso] at hc
    have HT := Lib.hid hT
    have HSO := Lib.hid hso
    clear hT hso
    refine hc.mono ?_
    clear hc
    rintro e W3 ⟨o, rfl, m3, mv3, hs3⟩
    have P3 := P4.prog m3 mv3
    obtain ⟨S3, hS3, u3⟩ := mv3.u
    replace A1 := A1.upd u3 (fun e => hbX (hS3 _ e))
    have hbX3 : ¬ Foot X.foot (upd1 att i o) bt := mv3.not hbX hbl0
    have HBX := Lib.hid hbX3
    have HS3 := Lib.hid hs3
    have HSM := Lib.hid hsm
    replace hbl0 := Nat.lt_of_lt_of_le hbl0 u3.size
    clear m3 mv3 hs3 hsm P4 hbX hbX3 S3 hS3 u3
    obtain ⟨to_, tw, ⟨tk2, ta, tv, tb⟩⟩ := T
    simp only [Trn.val]
    refine hK2.out _ _ ⟨P3.head.cell 0 rfl, P3.head.cell 1 rfl⟩ ?_
    clear hK2 K2
    repeat
      first
        | (refine wpB_skip rfl (by kernel_rfl) (by rfl) ?_)
        | ((refine wpB_take (v := ?_) rfl rfl (by kernel_rfl) (by rfl) ?_ ?_); rotate_left 1; (· ((intro w hSw; (try dsimp only at hSw); go_simp); try with_reducible rfl)))
      try simp only [Act.put, List.setIfInBounds_toArray, List.set_cons_zero, List.set_cons_succ]
    have P4 := P3
    clear P3
    generalize W3 = W4 at P4 A1 hbl0 ⊢
    have q0 := (A1).cell 0 rfl
    have q1 := (A1).cell 1 rfl
    have q2 := (A1).cell 2 rfl
    have q3 := (A1).cell 3 rfl
    have q4 := (A1).cell 4 rfl
    have q5 := (A1).cell 5 rfl
    have q6 := (A1).cell 6 rfl
    have q7 := (A1).cell 7 rfl
    have g0 := (A1).free 0
    have g1 := (A1).free 1
    have g2 := (A1).free 2
    have g3 := (A1).free 3
    have g4 := (A1).free 4
    have g5 := (A1).free 5
    have g6 := (A1).free 6
    have g7 := (A1).free 7
    refine wpB_eff rfl (by kernel_rfl) (by rfl) (fun K2 hK2 => ?_)
    go_simp
    have uB : Upd [bt] W4 ((((((((W4.setCell ⟨bt, 0, none⟩ (.int .i64 to_)).setCell ⟨bt, 1, none⟩ (.int .u64 tw)).setCell ⟨bt, 2, none⟩ (.int .i64 0)).setCell ⟨bt, 3, none⟩ (.int .i64 tk2)).setCell ⟨bt, 4, none⟩ (.int .u64 ta)).setCell ⟨bt, 5, none⟩ (.int .u64 tv)).setCell ⟨bt, 6, none⟩ (.bool tb)).setCell ⟨bt, 7, none⟩ (.int .i64 0)) :=
      ((((((((Upd.refl _ _).setCell (.inl (by simp)) _).setCell (.inl (by simp)) _).setCell (.inl (by simp)) _).setCell (.inl (by simp)) _).setCell (.inl (by simp)) _).setCell (.inl (by simp)) _).setCell (.inl (by simp)) _).setCell (.inl (by simp)) _
    have hbl := Nat.lt_of_lt_of_le hbl0 uB.size
    have P5 := P4.scratch uB hb0 HBX.out HBY.out hbp
    have A1 := turn_set A1 rfl (⟨to_, tw, ⟨tk2, ta, tv, tb⟩⟩ : Trn)
    dsimp only at A1
    refine hK2.out _ _ ⟨P5.head.cell 0 rfl, P5.head.cell 1 rfl⟩ ?_
    clear q0 q1 q2 q3 q4 q5 q6 q7 g0 g1 g2 g3 g4 g5 g6 g7
    clear hK2 K2 uB P4
    repeat
      first
        | (refine wpB_skip rfl (by kernel_rfl) (by rfl) ?_)
        | ((refine wpB_take (v := ?_) rfl rfl (by kernel_rfl) (by rfl) ?_ ?_); rotate_left 1; (· ((intro w hSw; (try dsimp only at hSw); go_simp); try with_reducible rfl)))
      try simp only [Act.put, List.setIfInBounds_toArray, List.set_cons_zero, List.set_cons_succ]
    refine wpB_end (by kernel_rfl) (NoPanic.normal ?_)
    generalize ((((((((W4.setCell ⟨bt, 0, none⟩ (.int .i64 to_)).setCell ⟨bt, 1, none⟩ (.int .u64 tw)).setCell ⟨bt, 2, none⟩ (.int .i64 0)).setCell ⟨bt, 3, none⟩ (.int .i64 tk2)).setCell ⟨bt, 4, none⟩ (.int .u64 ta)).setCell ⟨bt, 5, none⟩ (.int .u64 tv)).setCell ⟨bt, 6, none⟩ (.bool tb)).setCell ⟨bt, 7, none⟩ (.int .i64 0)) = W5 at P5 A1 hbl ⊢
    have cw := P5.head.cell 2 rfl
    go_wp2_with fail
    clear cw
    have hc := rbegin P5.r i
    rw [HT.out, HSO.out] at hc
    refine hc.mono ?_
    clear hc
    rintro e W6 ⟨o2, rfl, r6, mv6, hs6⟩
    have P6 := P5.doc r6 mv6
    obtain ⟨S6, hS6, u6⟩ := mv6.u
    replace A1 := A1.upd u6 (fun e => HBY.out (hS6 _ e))
    have hbY : ¬ Foot Y.foot (upd1 ratt i o2) bt := mv6.not HBY.out hbl
    have HS6 := Lib.hid hs6
    obtain ⟨W7, hW7⟩ : ∃ W7, W6.alloc (.cells turn0.toArray 36) = W7 := ⟨_, rfl⟩
    have uE : Upd [] W6 W7 := by rw [← hW7]; exact (Upd.refl [] _).alloc _
    have A2 : Blk W7 W6.heap.size turn0 36 := by rw [← hW7]; exact Blk.new W6 turn0 36
    have hq0 : w0.heap.size ≤ W6.heap.size := P6.low.size
    have HQX := Lib.hid (show ¬ Foot X.foot (upd1 att i o) W6.heap.size from fun e => by have := (P6.m.out e).2; omega)
    have HQY := Lib.hid (show ¬ Foot Y.foot (upd1 ratt i o2) W6.heap.size from fun e => by have := (P6.r.out e).2; omega)
    have hqp : p ≠ W6.heap.size := by have := P6.head.lt; omega
    replace P6 := P6.free0 uE
    have hbd : bt ≠ W6.heap.size := by have := A1.lt; omega
    replace A1 := A1.upd uE (by simp)
    simp only [turn0, trnNone, evNone, Trn.cells] at hW7
    clear r6 mv6 hs6 hS6 u6 uE P5
    simp only [Trn.val]
    have q0 := (A2).cell 0 rfl
    have q1 := (A2).cell 1 rfl
    have q2 := (A2).cell 2 rfl
    have q3 := (A2).cell 3 rfl
    have q4 := (A2).cell 4 rfl
    have q5 := (A2).cell 5 rfl
    have q6 := (A2).cell 6 rfl
    have q7 := (A2).cell 7 rfl
    have g0 := (A2).free 0
    have g1 := (A2).free 1
    have g2 := (A2).free 2
    have g3 := (A2).free 3
    have g4 := (A2).free 4
    have g5 := (A2).free 5
    have g6 := (A2).free 6
    have g7 := (A2).free 7
    go_wp2_with fail
    clear q0 q1 q2 q3 q4 q5 q6 q7 g0 g1 g2 g3 g4 g5 g6 g7
    have uB : Upd [W6.heap.size] W7 ((((((((W7.setCell ⟨W6.heap.size, 0, none⟩ (.int .i64 to_)).setCell ⟨W6.heap.size, 1, none⟩ (.int .u64 tw)).setCell ⟨W6.heap.size, 2, none⟩ (.int .i64 0)).setCell ⟨W6.heap.size, 3, none⟩ (.int .i64 tk2)).setCell ⟨W6.heap.size, 4, none⟩ (.int .u64 ta)).setCell ⟨W6.heap.size, 5, none⟩ (.int .u64 tv)).setCell ⟨W6.heap.size, 6, none⟩ (.bool tb)).setCell ⟨W6.heap.size, 7, none⟩ (.int .i64 0)) :=
      ((((((((Upd.refl _ _).setCell (.inl (by simp)) _).setCell (.inl (by simp)) _).setCell (.inl (by simp)) _).setCell (.inl (by simp)) _).setCell (.inl (by simp)) _).setCell (.inl (by simp)) _).setCell (.inl (by simp)) _).setCell (.inl (by simp)) _
    have P8 := P6.scratch uB hq0 HQX.out HQY.out hqp
    have A2 := turn_set A2 rfl (⟨to_, tw, ⟨tk2, ta, tv, tb⟩⟩ : Trn)
    dsimp only at A2
    replace A1 := A1.upd uB (by simpa using hbd)
    clear P6 hW7 uB
    generalize ((((((((W7.setCell ⟨W6.heap.size, 0, none⟩ (.int .i64 to_)).setCell ⟨W6.heap.size, 1, none⟩ (.int .u64 tw)).setCell ⟨W6.heap.size, 2, none⟩ (.int .i64 0)).setCell ⟨W6.heap.size, 3, none⟩ (.int .i64 tk2)).setCell ⟨W6.heap.size, 4, none⟩ (.int .u64 ta)).setCell ⟨W6.heap.size, 5, none⟩ (.int .u64 tv)).setCell ⟨W6.heap.size, 6, none⟩ (.bool tb)).setCell ⟨W6.heap.size, 7, none⟩ (.int .i64 0)) = W8 at P8 A1 A2 ⊢
    have ud := (Upd.refl [] W8).drew
    replace P8 := P8.free0 ud
    replace A1 := A1.drew
    replace A2 := A2.drew
    refine wp_region_br (fun w' => True) [0, 1, 2, 3, 4, 5, 6, 7, 8, 10, 11, 9, 12, 13] (by kernel_rfl) (by kernel_rfl) trivial ?_
    clear ud
    generalize W8.drew = W9 at P8 A1 A2 ⊢
    have hi6 : (i : Int) < 3 := by omega
    repeat
      first
        | (refine wpB_skip rfl (by kernel_rfl) (by rfl) ?_)
        | ((refine wpB_take (v := ?_) rfl rfl (by kernel_rfl) (by rfl) ?_ ?_); rotate_left 1; (· ((intro w hSw; (try dsimp only at hSw); go_simp); try with_reducible rfl)))
      try simp only [Act.put, List.setIfInBounds_toArray, List.set_cons_zero, List.set_cons_succ]
    have q3 := P8.head.cell (3 + i) (head_att hi)
    have g3 := P8.head.free (3 + i)
    refine wpB_eff rfl (by kernel_rfl) (by rfl) (fun K2 hK2 => ?_)
    go_simp
    refine hK2.out _ _ trivial ?_
    clear hK2 K2 q3 g3
    replace P8 := P8.put (3 + i) (.pointer (ptrO o))
    rw [head_set_att hi] at P8
    have hp1 : bt ≠ p := fun e => hbp e.symm
    have hp2 : W6.heap.size ≠ p := fun e => hqp e.symm
    replace A1 := A1.upd (show Upd [p] W9 (W9.setCell ⟨p, 3 + i, none⟩ (.pointer (ptrO o))) from (Upd.refl _ _).setCell (.inl (by simp)) _) (by simpa using hp1)
    replace A2 := A2.upd (show Upd [p] W9 (W9.setCell ⟨p, 3 + i, none⟩ (.pointer (ptrO o))) from (Upd.refl _ _).setCell (.inl (by simp)) _) (by simpa using hp2)
    generalize W9.setCell ⟨p, 3 + i, none⟩ (.pointer (ptrO o)) = Wa at P8 A1 A2 ⊢
    repeat
      first
        | (refine wpB_skip rfl (by kernel_rfl) (by rfl) ?_)
        | ((refine wpB_take (v := ?_) rfl rfl (by kernel_rfl) (by rfl) ?_ ?_); rotate_left 1; (· ((intro w hSw; (try dsimp only at hSw); go_simp); try with_reducible rfl)))
      try simp only [Act.put, List.setIfInBounds_toArray, List.set_cons_zero, List.set_cons_succ]
    have q3 := P8.head.cell (6 + i) (head_ratt hi)
    have g3 := P8.head.free (6 + i)
    refine wpB_eff rfl (by kernel_rfl) (by rfl) (fun K2 hK2 => ?_)
    go_simp
    refine hK2.out _ _ trivial ?_
    clear hK2 K2 q3 g3
    replace P8 := P8.put (6 + i) (.pointer (ptrO o2))
    rw [head_set_ratt hi] at P8
    replace A1 := A1.upd (show Upd [p] Wa (Wa.setCell ⟨p, 6 + i, none⟩ (.pointer (ptrO o2))) from (Upd.refl _ _).setCell (.inl (by simp)) _) (by simpa using hp1)
    replace A2 := A2.upd (show Upd [p] Wa (Wa.setCell ⟨p, 6 + i, none⟩ (.pointer (ptrO o2))) from (Upd.refl _ _).setCell (.inl (by simp)) _) (by simpa using hp2)
    generalize Wa.setCell ⟨p, 6 + i, none⟩ (.pointer (ptrO o2)) = Wb at P8 A1 A2 ⊢
    refine wpB_end (by kernel_rfl) (NoPanic.normal ?_)
    have hn : (ptrO o).isNone = (ptrO o2).isNone := none_eq (HS3.out.trans HS6.out.symm)
    have PSn : PS w0 p X Y sh (upd1 att i o) (upd1 ratt i o2) held tk Wb := ⟨P8, fun j => by
      by_cases hj : j = i
      · subst hj; rw [upd1_same, upd1_same]; exact HS3.out.trans HS6.out.symm
      · rw [upd1_other _ _ hj, upd1_other _ _ hj]; exact HSM.out j, htk⟩
    have HPS := Lib.hid PSn
    have x0 := A1.cell 0 rfl
    have x1 := A1.cell 1 rfl
    have x2 := A1.cell 2 rfl
    have x3 := A1.cell 3 rfl
    have x4 := A1.cell 4 rfl
    have x5 := A1.cell 5 rfl
    have x6 := A1.cell 6 rfl
    have x7 := A1.cell 7 rfl
    have y0 := A2.cell 0 rfl
    have y1 := A2.cell 1 rfl
    have y2 := A2.cell 2 rfl
    have y3 := A2.cell 3 rfl
    have y4 := A2.cell 4 rfl
    have y5 := A2.cell 5 rfl
    have y6 := A2.cell 6 rfl
    have y7 := A2.cell 7 rfl
    have E1 := eql_attp (ptrO o)
    have E2 := eql_rattp (ptrO o2)
    generalize (ptrO o).isNone = c1 at E1 hn
    generalize (ptrO o2).isNone = c2 at E2 hn
    subst hn
    have hcc : (c1 == c1) = true := by simp
    clear PSn P8 A1 A2
    go_wp2_with (go_at_call 12; refine (num07 _ _).mono ?_; rintro e w' ⟨rfl, rfl⟩)
    exact ⟨rfl, _, _, _, HPS.out⟩
end Go.Proofs.Ythfeljongackcaa
set_option linter.unusedSimpArgs false
set_option linter.unusedVariables false
set_option maxRecDepth 100000
namespace Go.Proofs.Ythfeljongackcaa
open Go.RowKit
open Go.Maps
theorem pcells_set2 (l : List (Int × Int)) (i : Nat) (x y : Int) (h : i < l.length) : ((pcells l).set (i * 2) (.int .u64 x)).set (i * 2 + 1) (.int .u64 y) = pcells (l.set i (x, y)) := by
  induction l generalizing i with
  | nil => simp at h
  | cons c l ih =>
    cases i with
    | zero => simp [pcells]
    | succ i =>
      have := ih i (by simpa using h)
      have e : (i + 1) * 2 = i * 2 + 2 := by omega
      rw [e]
      simpa [pcells] using this
/-- a cell of a list of one's own is written whole -/
theorem OwnP.put2 {w : World} {l : List (Int × Int)} {F : List Nat} {g n cap : Nat} (h : OwnP w (.slice (some ⟨g, 0, none⟩) n cap) l F) {k : Nat} (hkl : k < l.length) (x y : Int) :
    OwnP ((w.setCell ⟨g, k * 2, none⟩ (.int .u64 x)).setCell ⟨g, k * 2 + 1, none⟩ (.int .u64 y)) (.slice (some ⟨g, 0, none⟩) n cap) (l.set k (x, y)) F := by
  obtain ⟨h1, h2⟩ := h.own
  rcases h2 with ⟨h2, _⟩ | ⟨g', cap', cur, hv, hb, hh, hn, hm, hs, ht⟩
  · cases h2
  · have e := hv
    simp only [Value.slice.injEq, Option.some.injEq, Addr.mk.injEq, and_true] at e
    obtain ⟨rfl, rfl, rfl⟩ := e
    refine ⟨⟨?_, .inr ⟨g, cap, (cur.setIfInBounds (k * 2) (.int .u64 x)).setIfInBounds (k * 2 + 1) (.int .u64 y), ?_, hb, ?_, ?_, hm, by simpa using hs, ?_⟩⟩, fun e => ?_, h.inF⟩
    · rw [pcells_len, List.length_set]; omega
    · rw [List.length_set]
    · simp [World.setCell, Array.getElem?_modify, hh]
    · rw [List.length_set]; exact hn
    · rw [← pcells_set2 l k x y hkl, List.length_set, ← ht]
      simp only [Array.toList_setIfInBounds]
      rw [List.take_set, List.take_set]
    · have := congrArg List.length e
      simp at this
      subst this
      simp at hkl
theorem app_pair2 {W : World} {v : Value} {l : List (Int × Int)} {F : List Nat} (h : OwnP W v l F) (x y : Int) (hl : (l.length + 1) * 16 ≤ 140737488355328) :
    ∃ v' w', (Builtin.append_ #[49, 49] 49 #[v, .slice (some ⟨W.heap.size, 0, none⟩) 1 1]).run Try.prog (W.alloc (.cells #[.int .u64 x, .int .u64 y] 53)) = .ok v' w' ∧
      OwnP w' v' (l ++ [(x, y)]) v'.ownBlock.toList ∧ Upd v.ownBlock.toList W w' ∧ (v'.ownBlock = v.ownBlock ∨ v'.ownBlock = some (W.heap.size + 1)) := by
  obtain ⟨i0, hi, hz0, hz1, hz2⟩ := info_parts info_cell
  have hW : OwnP (W.alloc (.cells #[.int .u64 x, .int .u64 y] 53)) v l F := h.upd ((Upd.refl [] W).alloc _) (by simp)
  obtain ⟨v', w', hr, ho, hg, hn, hat⟩ := run_append_own_at (P := Try.prog) (W.alloc (.cells #[.int .u64 x, .int .u64 y] 53)) 0 49 49 53 i0 (.agg #[.int .u64 0, .int .u64 0]) 2 16 Try.underlying49 hi hz0 hz1 hz2 rfl (by decide) v l.length (pcells l) hW.own
    ⟨W.heap.size, 0, none⟩ 1 1 [.int .u64 x, .int .u64 y] rfl (news_new _ 53 rfl) (by simp [Value.oneCell']) (by unfold maxLen; omega) (by omega) (Nat.zero_le _)
  rw [World.size_alloc] at hat
  have ho' : w'.ownsRow 0 53 2 v' (l ++ [(x, y)]).length (pcells (l ++ [(x, y)])) := by rw [pcells_snoc]; simpa using ho
  exact ⟨v', w', hr, ⟨ho', fun e => absurd e (by simp), fun g hg' => by simp [hg']⟩, (((Upd.refl _ W).alloc _).trans (Upd.own hg)), hat⟩
def mark2 : Int × Int := (991, 992)
def mk2 (k : Nat) (l : List (Int × Int)) : List (Int × Int) := List.replicate k mark2 ++ l.drop k
theorem mk2_zero (l : List (Int × Int)) : mk2 0 l = l := by simp [mk2]
theorem mk2_all (l : List (Int × Int)) : mk2 l.length l = List.replicate l.length mark2 := by simp [mk2]
theorem mk2_len {k : Nat} {l : List (Int × Int)} (h : k ≤ l.length) : (mk2 k l).length = l.length := by simp [mk2]; omega
theorem mk2_set {k : Nat} {l : List (Int × Int)} (h : k < l.length) : (mk2 k l).set k (991, 992) = mk2 (k + 1) l := by
  unfold mk2
  rw [List.set_append_right _ _ (by simp), List.length_replicate, Nat.sub_self, List.drop_eq_getElem_cons h, List.set_cons_zero, List.replicate_succ', List.append_assoc]
  rfl
/-- over's memory: the state's box, the mark's, two lists -/
structure Ov (w : World) (sb mb : Nat) (hv : List Value) (rv wv rv2 wv2 : Value) (l1 l2 : List (Int × Int)) (wr : World) : Prop where
  rd : OwnP wr rv l1 rv.ownBlock.toList
  wt : OwnP wr wv l2 wv.ownBlock.toList
  ap : ∀ g, rv.ownBlock = some g → wv.ownBlock ≠ some g
  b : Blk wr sb hv 60
  m : Blk wr mb [.int .u64 991, .int .u64 992] 53
  nr : rv.ownBlock ≠ some mb
  nw : wv.ownBlock ≠ some mb
  bs : w.heap.size ≤ sb
  bm : w.heap.size ≤ mb
  ir : ∀ g, rv.ownBlock = some g → rv2.ownBlock = some g ∨ w.heap.size ≤ g
  iw : ∀ g, wv.ownBlock = some g → wv2.ownBlock = some g ∨ w.heap.size ≤ g
  u : Upd (rv2.ownBlock.toList ++ wv2.ownBlock.toList) w wr
section
variable {w wr wr' : World} {sb mb : Nat} {hv : List Value} {rv wv rv2 wv2 v' : Value} {l1 l2 : List (Int × Int)}
theorem Ov.fst (h : Ov w sb mb hv rv wv rv2 wv2 l1 l2 wr) (u : Upd rv.ownBlock.toList wr wr') {l' : List (Int × Int)} (o : OwnP wr' v' l' v'.ownBlock.toList) (hat : v'.ownBlock = rv.ownBlock ∨ ∀ g, v'.ownBlock = some g → wr.heap.size ≤ g) :
    Ov w sb mb hv v' wv rv2 wv2 l' l2 wr' := by
  have hm := h.m.lt
  have hwl : ∀ g, wv.ownBlock = some g → g < wr.heap.size := fun g hg => h.wt.lt hg
  have hsz := h.u.size
  refine ⟨o, h.wt.upd u (fun g hg e => h.ap g (by simpa using hg) e), fun g hg e => ?_, h.b.upd u (fun hg => h.rd.ne_blk h.b (by decide) (by simpa using hg)), h.m.upd u (fun hg => h.nr (by simpa using hg)), fun e => ?_, h.nw, h.bs, h.bm, fun g hg => ?_, h.iw, h.u.tr u (fun g hg => .inl hg) (fun g hg => ?_)⟩
  · rcases hat with k | k
    · exact h.ap g (k ▸ hg) e
    · have := k g hg; have := hwl g e; omega
  · rcases hat with k | k
    · exact h.nr (k ▸ e)
    · have := k _ e; omega
  · rcases hat with k | k
    · exact h.ir g (k ▸ hg)
    · have := k g hg; exact .inr (by omega)
  · rcases h.ir g (by simpa using hg) with k | k
    · exact .inl (by simp [k])
    · exact .inr k
theorem Ov.snd (h : Ov w sb mb hv rv wv rv2 wv2 l1 l2 wr) (u : Upd wv.ownBlock.toList wr wr') {l' : List (Int × Int)} (o : OwnP wr' v' l' v'.ownBlock.toList) (hat : v'.ownBlock = wv.ownBlock ∨ ∀ g, v'.ownBlock = some g → wr.heap.size ≤ g) :
    Ov w sb mb hv rv v' rv2 wv2 l1 l' wr' := by
  have hm := h.m.lt
  have hwl : ∀ g, rv.ownBlock = some g → g < wr.heap.size := fun g hg => h.rd.lt hg
  have hsz := h.u.size
  refine ⟨h.rd.upd u (fun g hg e => h.ap g e (by simpa using hg)), o, fun g hg e => ?_, h.b.upd u (fun hg => h.wt.ne_blk h.b (by decide) (by simpa using hg)), h.m.upd u (fun hg => h.nw (by simpa using hg)), h.nr, fun e => ?_, h.bs, h.bm, h.ir, fun g hg => ?_, h.u.tr u (fun g hg => .inl hg) (fun g hg => ?_)⟩
  · rcases hat with k | k
    · exact h.ap g hg (k ▸ e)
    · have := k g e; have := hwl g hg; omega
  · rcases hat with k | k
    · exact h.nw (k ▸ e)
    · have := k _ e; omega
  · rcases hat with k | k
    · exact h.iw g (k ▸ hg)
    · have := k g hg; exact .inr (by omega)
  · rcases h.iw g (by simpa using hg) with k | k
    · exact .inl (by simp [k])
    · exact .inr k
theorem Ov.free0 (h : Ov w sb mb hv rv wv rv2 wv2 l1 l2 wr) (u : Upd [] wr wr') : Ov w sb mb hv rv wv rv2 wv2 l1 l2 wr' :=
  ⟨h.rd.upd u (by simp), h.wt.upd u (by simp), h.ap, h.b.upd u (by simp), h.m.upd u (by simp), h.nr, h.nw, h.bs, h.bm, h.ir, h.iw, h.u.tr u (fun g hg => .inl hg) (by simp)⟩
end
end Go.Proofs.Ythfeljongackcaa
