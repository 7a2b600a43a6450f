/- The law's own: the other calls. No condition. The law's own, all kinds. No condition. -/
import Derived.Test.YthfeljongackcaaM7p29
set_option linter.unusedSimpArgs false
set_option linter.unusedVariables false
set_option maxRecDepth 100000
namespace Go.Proofs.Ythfeljongackcaa
open Go.RowKit
open Go.Maps
set_option maxHeartbeats 1000000 in
theorem own_put {w0 W : World} {p : Nat} {X : SX} {Y : RX} {sh : Sh} {att ratt : Atts} {held : Bool} {tk : Int} (h : PS w0 p X Y sh att ratt held tk W) (i : Nat) (hi : i < 3) (who dst addr word : Int) (ha : 0 ≤ addr ∧ addr < 18446744073709551616) (hv : 0 ≤ word ∧ word < 18446744073709551616) :
    Calls Try.prog 64 #[.pointer (some ⟨p, 0, none⟩), .int .i64 i, .agg (stepC 3 who dst addr word).toArray] W (OwnOk w0 p X Y held tk) := by
  have hlt : ∀ g, Foot X.foot att g → g < W.heap.size := fun g hg => (h.pl.m.out hg).2
  have hrlt : ∀ g, Foot Y.foot ratt g → g < W.heap.size := fun g hg => (h.pl.r.out hg).2
  have hpl := h.pl.head.lt
  have hw0 := h.pl.low.size
  have hsame := h.same i
  have htk := h.tkw
  have hsm := h.same
  obtain ⟨W1, hW1⟩ : ∃ W1, ((W.alloc (.cells (stepC 3 who dst addr word).toArray 79)).alloc (.cells turn0.toArray 36)).alloc (.cells turn0.toArray 36) = W1 := ⟨_, rfl⟩
  have u1 : Upd [] W W1 := by rw [← hW1]; exact (((Upd.refl [] _).alloc _).alloc _).alloc _
  have B5 : Blk W1 W.heap.size (stepC 3 who dst addr word) 79 := by rw [← hW1]; exact ((Blk.new W _ _).alloc _).alloc _
  have A1 : Blk W1 (W.heap.size + 1) turn0 36 := by
    have := (Blk.new (W.alloc (.cells (stepC 3 who dst addr word).toArray 79)) turn0 36).alloc (.cells turn0.toArray 36)
    rw [← hW1]; simpa using this
  have A2 : Blk W1 (W.heap.size + 1 + 1) turn0 36 := by
    have := Blk.new ((W.alloc (.cells (stepC 3 who dst addr word).toArray 79)).alloc (.cells turn0.toArray 36)) turn0 36
    rw [← hW1]; simpa using this
  have hsz : W.heap.size + 2 < W1.heap.size := A2.lt
  have P1 := h.pl.free0 u1
  have HX := Lib.hid (show ∀ b, W.heap.size ≤ b → ¬ Foot X.foot att b from fun b hb e => by have := hlt b e; omega)
  have HY := Lib.hid (show ∀ b, W.heap.size ≤ b → ¬ Foot Y.foot ratt b from fun b hb e => by have := hrlt b e; omega)
  have HLT := Lib.hid hlt
  have HRLT := Lib.hid hrlt
  have HSAME := Lib.hid hsame
  have HSM := Lib.hid hsm
  clear hlt hrlt hsame hsm u1 h
  simp only [turn0, trnNone, evNone, Trn.cells, stepC] at hW1
  have k0 := B5.cell 0 rfl
  have hi3 : (i : Int) < 3 := by omega
  have cp := P1.head.cell (3 + i) (head_att hi)
  simp only [stepC]
  refine calls_all fun K hK => ?_
  go_enter Try.func64, Try.ntmps64
  go_wp2_with fail
  clear hW1 k0 cp
  have ud := (Upd.refl [] W1).drew
  replace P1 := P1.free0 ud
  replace B5 := B5.drew
  replace A1 := A1.drew
  replace A2 := A2.drew
  have c1 := P1.head.cell (3 + i) (head_att hi)
  have c2 := B5.cell 3 rfl
  refine wp_region_ord (fun w' => w'.cell? ⟨p, 3 + i, none⟩ = some (.pointer (ptrO (att i))) ∧ w'.cell? ⟨W.heap.size, 3, none⟩ = some (.int .u64 addr) ∧ w'.cell? ⟨W.heap.size, 4, none⟩ = some (.int .u64 word)) [0, 1, 2, 3, 4, 5, 6, 7, 8, 9, 10, 11, 12, 13, 14, 15] (by kernel_rfl) (by kernel_rfl) ⟨c1, c2, B5.cell 4 rfl⟩ ?_
  have hszd : W.heap.size + 2 < W1.drew.heap.size := hsz
  clear ud c1 c2 hsz
  generalize W1.drew = W2 at P1 B5 A1 A2 hszd ⊢
  repeat
    first
      | (refine wpL_skip rfl (by rfl) ?_)
      | ((refine wpL_take (v := ?_) rfl rfl (by rfl) ?_ ?_); rotate_left 1; (· ((intro w hSw; (try dsimp only at hSw); go_simp); try with_reducible rfl)))
    try simp only [Act.put, List.setIfInBounds_toArray, List.set_cons_zero, List.set_cons_succ]
  refine wpL_eff rfl (by kernel_rfl) (by rfl) (fun K2 hK2 => ?_)
  go_simp
  have hc := pput P1.m i addr word ha hv
  generalize hT : callO (.put addr word) (stO (att i)) sh = T at hc
  have HT := Lib.hid (show callO (.put addr word) (stO (ratt i)) sh = T by rw [← HSAME.out]; exact hT)
  clear hT
  refine hc.mono ?_
  clear hc
  rintro e W3 ⟨rfl, att', m3, mv3, hp3, hs3, ho3⟩
  have P3 := P1.prog m3 mv3
  obtain ⟨S3, hS3, u3⟩ := mv3.u
  have B5 := B5.upd u3 (fun e => by have := HLT.out _ (hS3 _ e); omega)
  have A1 := A1.upd u3 (fun e => by have := HLT.out _ (hS3 _ e); omega)
  have A2 := A2.upd u3 (fun e => by have := HLT.out _ (hS3 _ e); omega)
  have HX' := Lib.hid (show ∀ b, W.heap.size ≤ b → b < W.heap.size + 3 → ¬ Foot X.foot att' b from fun b h1 h2 => mv3.not (HX.out b h1) (by omega))
  have hsz3 := u3.size
  have HS3 := Lib.hid hs3
  have HO3 := Lib.hid ho3
  have HP3 := Lib.hid hp3
  clear m3 mv3 hS3 u3 hs3 ho3 hp3 P1
  obtain ⟨⟨to_, tw, ⟨tk2, ta, tv, tb⟩⟩, r, s', sh3⟩ := T
  simp only [Trn.val]
  refine hK2.out _ _ ⟨P3.head.cell (3 + i) (head_att hi), B5.cell 3 rfl, B5.cell 4 rfl⟩ ?_
  clear hK2 K2
  repeat
    first
      | (refine wpL_skip rfl (by rfl) ?_)
      | ((refine wpL_take (v := ?_) rfl rfl (by rfl) ?_ ?_); rotate_left 1; (· ((intro w hSw; (try dsimp only at hSw); go_simp); try with_reducible rfl)))
    try simp only [Act.put, List.setIfInBounds_toArray, List.set_cons_zero, List.set_cons_succ]
  have q0 := (A1).cell 0 rfl
  have q1 := (A1).cell 1 rfl
  have q2 := (A1).cell 2 rfl
  have q3 := (A1).cell 3 rfl
  have q4 := (A1).cell 4 rfl
  have q5 := (A1).cell 5 rfl
  have q6 := (A1).cell 6 rfl
  have q7 := (A1).cell 7 rfl
  have g0 := (A1).free 0
  have g1 := (A1).free 1
  have g2 := (A1).free 2
  have g3 := (A1).free 3
  have g4 := (A1).free 4
  have g5 := (A1).free 5
  have g6 := (A1).free 6
  have g7 := (A1).free 7
  refine wpL_eff rfl (by kernel_rfl) (by rfl) (fun K2 hK2 => ?_)
  go_simp
  have uA : Upd [W.heap.size + 1] W3 ((((((((W3.setCell ⟨W.heap.size + 1, 0, none⟩ (.int .i64 to_)).setCell ⟨W.heap.size + 1, 1, none⟩ (.int .u64 tw)).setCell ⟨W.heap.size + 1, 2, none⟩ (.int .i64 0)).setCell ⟨W.heap.size + 1, 3, none⟩ (.int .i64 tk2)).setCell ⟨W.heap.size + 1, 4, none⟩ (.int .u64 ta)).setCell ⟨W.heap.size + 1, 5, none⟩ (.int .u64 tv)).setCell ⟨W.heap.size + 1, 6, none⟩ (.bool tb)).setCell ⟨W.heap.size + 1, 7, none⟩ (.int .i64 0)) :=
    ((((((((Upd.refl _ _).setCell (.inl (by simp)) _).setCell (.inl (by simp)) _).setCell (.inl (by simp)) _).setCell (.inl (by simp)) _).setCell (.inl (by simp)) _).setCell (.inl (by simp)) _).setCell (.inl (by simp)) _).setCell (.inl (by simp)) _
  have P4 := P3.scratch uA (by omega) (HX'.out _ (by omega) (by omega)) (HY.out _ (by omega)) (by omega)
  have B5 := B5.upd uA (by simp)
  have A2 := A2.upd uA (by simp)
  have A1 := turn_set A1 rfl (⟨to_, tw, ⟨tk2, ta, tv, tb⟩⟩ : Trn)
  dsimp only at A1
  have hsz4 := uA.size
  clear uA P3
  refine hK2.out _ _ ⟨P4.head.cell (3 + i) (head_att hi), B5.cell 3 rfl, B5.cell 4 rfl⟩ ?_
  clear q0 q1 q2 q3 q4 q5 q6 q7 g0 g1 g2 g3 g4 g5 g6 g7
  clear hK2 K2
  repeat
    first
      | (refine wpL_skip rfl (by rfl) ?_)
      | ((refine wpL_take (v := ?_) rfl rfl (by rfl) ?_ ?_); rotate_left 1; (· ((intro w hSw; (try dsimp only at hSw); go_simp); try with_reducible rfl)))
    try simp only [Act.put, List.setIfInBounds_toArray, List.set_cons_zero, List.set_cons_succ]
  refine wpO_end (NoPanic.normal ?_)
  generalize ((((((((W3.setCell ⟨W.heap.size + 1, 0, none⟩ (.int .i64 to_)).setCell ⟨W.heap.size + 1, 1, none⟩ (.int .u64 tw)).setCell ⟨W.heap.size + 1, 2, none⟩ (.int .i64 0)).setCell ⟨W.heap.size + 1, 3, none⟩ (.int .i64 tk2)).setCell ⟨W.heap.size + 1, 4, none⟩ (.int .u64 ta)).setCell ⟨W.heap.size + 1, 5, none⟩ (.int .u64 tv)).setCell ⟨W.heap.size + 1, 6, none⟩ (.bool tb)).setCell ⟨W.heap.size + 1, 7, none⟩ (.int .i64 0)) = W4 at P4 B5 A1 A2 hsz4 ⊢
  go_wp2_with fail
  have ud := (Upd.refl [] W4).drew
  replace P4 := P4.free0 ud
  replace B5 := B5.drew
  replace A1 := A1.drew
  replace A2 := A2.drew
  have c1 := P4.head.cell (6 + i) (head_ratt hi)
  have c2 := P4.head.cell 2 rfl
  have c3 := B5.cell 3 rfl
  refine wp_region_ord (fun w' => w'.cell? ⟨p, 6 + i, none⟩ = some (.pointer (ptrO (ratt i))) ∧ w'.cell? ⟨p, 2, none⟩ = some (.pointer (some ⟨Y.wb, 0, none⟩)) ∧ w'.cell? ⟨W.heap.size, 3, none⟩ = some (.int .u64 addr) ∧ w'.cell? ⟨W.heap.size, 4, none⟩ = some (.int .u64 word)) [0, 1, 2, 3, 4, 5, 6, 7, 8, 9, 10, 11, 12, 13, 14, 15, 16, 17, 18, 19] (by kernel_rfl) (by kernel_rfl) ⟨c1, c2, c3, B5.cell 4 rfl⟩ ?_
  clear ud c1 c2 c3
  replace hsz4 : W3.heap.size ≤ W4.drew.heap.size := hsz4
  generalize W4.drew = W7 at P4 B5 A1 A2 hsz4 ⊢
  repeat
    first
      | (refine wpL_skip rfl (by rfl) ?_)
      | ((refine wpL_take (v := ?_) rfl rfl (by rfl) ?_ ?_); rotate_left 1; (· ((intro w hSw; (try dsimp only at hSw); go_simp); try with_reducible rfl)))
    try simp only [Act.put, List.setIfInBounds_toArray, List.set_cons_zero, List.set_cons_succ]
  refine wpL_eff rfl (by kernel_rfl) (by rfl) (fun K2 hK2 => ?_)
  go_simp
  have hc := rput P4.r i addr word ha hv
  rw [HT.out] at hc
  refine hc.mono ?_
  clear hc HT
  rintro e W5 ⟨rfl, ratt', m5, mv5, hp5, hs5, ho5⟩
  have P5 := P4.doc m5 mv5
  obtain ⟨S5, hS5, u5⟩ := mv5.u
  have B5 := B5.upd u5 (fun e => by have := HRLT.out _ (hS5 _ e); omega)
  have A1 := A1.upd u5 (fun e => by have := HRLT.out _ (hS5 _ e); omega)
  have A2 := A2.upd u5 (fun e => by have := HRLT.out _ (hS5 _ e); omega)
  have HY' := Lib.hid (show ∀ b, W.heap.size ≤ b → b < W.heap.size + 3 → ¬ Foot Y.foot ratt' b from fun b h1 h2 => mv5.not (HY.out b h1) (by omega))
  have hsz5 := u5.size
  have HS5 := Lib.hid hs5
  have HO5 := Lib.hid ho5
  have HP5 := Lib.hid hp5
  clear m5 mv5 hS5 u5 hs5 ho5 hp5 P4
  simp only [Trn.val]
  refine hK2.out _ _ ⟨P5.head.cell (6 + i) (head_ratt hi), P5.head.cell 2 rfl, B5.cell 3 rfl, B5.cell 4 rfl⟩ ?_
  clear hK2 K2
  repeat
    first
      | (refine wpL_skip rfl (by rfl) ?_)
      | ((refine wpL_take (v := ?_) rfl rfl (by rfl) ?_ ?_); rotate_left 1; (· ((intro w hSw; (try dsimp only at hSw); go_simp); try with_reducible rfl)))
    try simp only [Act.put, List.setIfInBounds_toArray, List.set_cons_zero, List.set_cons_succ]
  have q0 := (A2).cell 0 rfl
  have q1 := (A2).cell 1 rfl
  have q2 := (A2).cell 2 rfl
  have q3 := (A2).cell 3 rfl
  have q4 := (A2).cell 4 rfl
  have q5 := (A2).cell 5 rfl
  have q6 := (A2).cell 6 rfl
  have q7 := (A2).cell 7 rfl
  have g0 := (A2).free 0
  have g1 := (A2).free 1
  have g2 := (A2).free 2
  have g3 := (A2).free 3
  have g4 := (A2).free 4
  have g5 := (A2).free 5
  have g6 := (A2).free 6
  have g7 := (A2).free 7
  refine wpL_eff rfl (by kernel_rfl) (by rfl) (fun K2 hK2 => ?_)
  go_simp
  have uB : Upd [W.heap.size + 1 + 1] W5 ((((((((W5.setCell ⟨W.heap.size + 1 + 1, 0, none⟩ (.int .i64 to_)).setCell ⟨W.heap.size + 1 + 1, 1, none⟩ (.int .u64 tw)).setCell ⟨W.heap.size + 1 + 1, 2, none⟩ (.int .i64 0)).setCell ⟨W.heap.size + 1 + 1, 3, none⟩ (.int .i64 tk2)).setCell ⟨W.heap.size + 1 + 1, 4, none⟩ (.int .u64 ta)).setCell ⟨W.heap.size + 1 + 1, 5, none⟩ (.int .u64 tv)).setCell ⟨W.heap.size + 1 + 1, 6, none⟩ (.bool tb)).setCell ⟨W.heap.size + 1 + 1, 7, none⟩ (.int .i64 0)) :=
    ((((((((Upd.refl _ _).setCell (.inl (by simp)) _).setCell (.inl (by simp)) _).setCell (.inl (by simp)) _).setCell (.inl (by simp)) _).setCell (.inl (by simp)) _).setCell (.inl (by simp)) _).setCell (.inl (by simp)) _).setCell (.inl (by simp)) _
  have P6 := P5.scratch uB (by omega) (HX'.out _ (by omega) (by omega)) (HY'.out _ (by omega) (by omega)) (by omega)
  have B5 := B5.upd uB (fun h => by simp at h; omega)
  have A1 := A1.upd uB (fun h => by simp at h)
  have A2 := turn_set A2 rfl (⟨to_, tw, ⟨tk2, ta, tv, tb⟩⟩ : Trn)
  dsimp only at A2
  clear uB P5
  refine hK2.out _ _ ⟨P6.head.cell (6 + i) (head_ratt hi), P6.head.cell 2 rfl, B5.cell 3 rfl, B5.cell 4 rfl⟩ ?_
  clear q0 q1 q2 q3 q4 q5 q6 q7 g0 g1 g2 g3 g4 g5 g6 g7
  clear hK2 K2
  repeat
    first
      | (refine wpL_skip rfl (by rfl) ?_)
      | ((refine wpL_take (v := ?_) rfl rfl (by rfl) ?_ ?_); rotate_left 1; (· ((intro w hSw; (try dsimp only at hSw); go_simp); try with_reducible rfl)))
    try simp only [Act.put, List.setIfInBounds_toArray, List.set_cons_zero, List.set_cons_succ]
  refine wpO_end (NoPanic.normal ?_)
  have PSn : PS w0 p X Y sh3 att' ratt' held tk _ := ⟨by have := P6; rw [headP_eq HP3.out HP5.out] at this; exact this, fun j => by
    by_cases hj : j = i
    · subst hj; exact HS3.out.trans HS5.out.symm
    · rw [HO3.out j hj, HO5.out j hj]; exact HSM.out j, htk⟩
  have HPS := Lib.hid PSn
  have x0 := A1.cell 0 rfl
  have x1 := A1.cell 1 rfl
  have x2 := A1.cell 2 rfl
  have x3 := A1.cell 3 rfl
  have x4 := A1.cell 4 rfl
  have x5 := A1.cell 5 rfl
  have x6 := A1.cell 6 rfl
  have x7 := A1.cell 7 rfl
  have y0 := A2.cell 0 rfl
  have y1 := A2.cell 1 rfl
  have y2 := A2.cell 2 rfl
  have y3 := A2.cell 3 rfl
  have y4 := A2.cell 4 rfl
  have y5 := A2.cell 5 rfl
  have y6 := A2.cell 6 rfl
  have y7 := A2.cell 7 rfl
  have hrr : (r == r) = true := by simp
  clear PSn P6 B5 A1 A2
  go_wp2_with (go_at_call 12; refine (num07 _ _).mono ?_; rintro e w' ⟨rfl, rfl⟩)
  exact ⟨rfl, _, _, _, HPS.out⟩
set_option maxHeartbeats 1000000 in
theorem own_end {w0 W : World} {p : Nat} {X : SX} {Y : RX} {sh : Sh} {att ratt : Atts} {held : Bool} {tk : Int} (h : PS w0 p X Y sh att ratt held tk W) (i : Nat) (hi : i < 3) (who dst addr word : Int) (ha : 0 ≤ addr ∧ addr < 18446744073709551616) (hv : 0 ≤ word ∧ word < 18446744073709551616) :
    Calls Try.prog 64 #[.pointer (some ⟨p, 0, none⟩), .int .i64 i, .agg (stepC 4 who dst addr word).toArray] W (OwnOk w0 p X Y held tk) := by
  have hlt : ∀ g, Foot X.foot att g → g < W.heap.size := fun g hg => (h.pl.m.out hg).2
  have hrlt : ∀ g, Foot Y.foot ratt g → g < W.heap.size := fun g hg => (h.pl.r.out hg).2
  have hpl := h.pl.head.lt
  have hw0 := h.pl.low.size
  have hsame := h.same i
  have htk := h.tkw
  have hsm := h.same
  obtain ⟨W1, hW1⟩ : ∃ W1, ((W.alloc (.cells (stepC 4 who dst addr word).toArray 79)).alloc (.cells turn0.toArray 36)).alloc (.cells turn0.toArray 36) = W1 := ⟨_, rfl⟩
  have u1 : Upd [] W W1 := by rw [← hW1]; exact (((Upd.refl [] _).alloc _).alloc _).alloc _
  have B5 : Blk W1 W.heap.size (stepC 4 who dst addr word) 79 := by rw [← hW1]; exact ((Blk.new W _ _).alloc _).alloc _
  have A1 : Blk W1 (W.heap.size + 1) turn0 36 := by
    have := (Blk.new (W.alloc (.cells (stepC 4 who dst addr word).toArray 79)) turn0 36).alloc (.cells turn0.toArray 36)
    rw [← hW1]; simpa using this
  have A2 : Blk W1 (W.heap.size + 1 + 1) turn0 36 := by
    have := Blk.new ((W.alloc (.cells (stepC 4 who dst addr word).toArray 79)).alloc (.cells turn0.toArray 36)) turn0 36
    rw [← hW1]; simpa using this
  have hsz : W.heap.size + 2 < W1.heap.size := A2.lt
  have P1 := h.pl.free0 u1
  have HX := Lib.hid (show ∀ b, W.heap.size ≤ b → ¬ Foot X.foot att b from fun b hb e => by have := hlt b e; omega)
  have HY := Lib.hid (show ∀ b, W.heap.size ≤ b → ¬ Foot Y.foot ratt b from fun b hb e => by have := hrlt b e; omega)
  have HLT := Lib.hid hlt
  have HRLT := Lib.hid hrlt
  have HSAME := Lib.hid hsame
  have HSM := Lib.hid hsm
  clear hlt hrlt hsame hsm u1 h
  simp only [turn0, trnNone, evNone, Trn.cells, stepC] at hW1
  have k0 := B5.cell 0 rfl
  have hi3 : (i : Int) < 3 := by omega
  have cp := P1.head.cell (3 + i) (head_att hi)
  simp only [stepC]
  refine calls_all fun K hK => ?_
  go_enter Try.func64, Try.ntmps64
  go_wp2_with fail
  clear hW1 k0 cp
  clear hsz
  have hszd : W.heap.size + 2 < W1.heap.size := A2.lt
  have hc := pend P1.m i
  generalize hT : callO .fin (stO (att i)) sh = T at hc
  have HT := Lib.hid (show callO .fin (stO (ratt i)) sh = T by rw [← HSAME.out]; exact hT)
  clear hT
  refine hc.mono ?_
  clear hc
  rintro e W3 ⟨rfl, att', m3, mv3, hp3, hs3, ho3⟩
  have P3 := P1.prog m3 mv3
  obtain ⟨S3, hS3, u3⟩ := mv3.u
  have B5 := B5.upd u3 (fun e => by have := HLT.out _ (hS3 _ e); omega)
  have A1 := A1.upd u3 (fun e => by have := HLT.out _ (hS3 _ e); omega)
  have A2 := A2.upd u3 (fun e => by have := HLT.out _ (hS3 _ e); omega)
  have HX' := Lib.hid (show ∀ b, W.heap.size ≤ b → b < W.heap.size + 3 → ¬ Foot X.foot att' b from fun b h1 h2 => mv3.not (HX.out b h1) (by omega))
  have hsz3 := u3.size
  have HS3 := Lib.hid hs3
  have HO3 := Lib.hid ho3
  have HP3 := Lib.hid hp3
  clear m3 mv3 hS3 u3 hs3 ho3 hp3 P1
  obtain ⟨⟨to_, tw, ⟨tk2, ta, tv, tb⟩⟩, r, s', sh3⟩ := T
  simp only [Trn.val]
  have q0 := (A1).cell 0 rfl
  have q1 := (A1).cell 1 rfl
  have q2 := (A1).cell 2 rfl
  have q3 := (A1).cell 3 rfl
  have q4 := (A1).cell 4 rfl
  have q5 := (A1).cell 5 rfl
  have q6 := (A1).cell 6 rfl
  have q7 := (A1).cell 7 rfl
  have g0 := (A1).free 0
  have g1 := (A1).free 1
  have g2 := (A1).free 2
  have g3 := (A1).free 3
  have g4 := (A1).free 4
  have g5 := (A1).free 5
  have g6 := (A1).free 6
  have g7 := (A1).free 7
  have uA : Upd [W.heap.size + 1] W3 ((((((((W3.setCell ⟨W.heap.size + 1, 0, none⟩ (.int .i64 to_)).setCell ⟨W.heap.size + 1, 1, none⟩ (.int .u64 tw)).setCell ⟨W.heap.size + 1, 2, none⟩ (.int .i64 0)).setCell ⟨W.heap.size + 1, 3, none⟩ (.int .i64 tk2)).setCell ⟨W.heap.size + 1, 4, none⟩ (.int .u64 ta)).setCell ⟨W.heap.size + 1, 5, none⟩ (.int .u64 tv)).setCell ⟨W.heap.size + 1, 6, none⟩ (.bool tb)).setCell ⟨W.heap.size + 1, 7, none⟩ (.int .i64 0)) :=
    ((((((((Upd.refl _ _).setCell (.inl (by simp)) _).setCell (.inl (by simp)) _).setCell (.inl (by simp)) _).setCell (.inl (by simp)) _).setCell (.inl (by simp)) _).setCell (.inl (by simp)) _).setCell (.inl (by simp)) _).setCell (.inl (by simp)) _
  have P4 := P3.scratch uA (by omega) (HX'.out _ (by omega) (by omega)) (HY.out _ (by omega)) (by omega)
  have B5 := B5.upd uA (by simp)
  have A2 := A2.upd uA (by simp)
  have A1 := turn_set A1 rfl (⟨to_, tw, ⟨tk2, ta, tv, tb⟩⟩ : Trn)
  dsimp only at A1
  have hsz4 := uA.size
  clear uA P3
  go_wp2_with fail
  clear q0 q1 q2 q3 q4 q5 q6 q7 g0 g1 g2 g3 g4 g5 g6 g7
  generalize ((((((((W3.setCell ⟨W.heap.size + 1, 0, none⟩ (.int .i64 to_)).setCell ⟨W.heap.size + 1, 1, none⟩ (.int .u64 tw)).setCell ⟨W.heap.size + 1, 2, none⟩ (.int .i64 0)).setCell ⟨W.heap.size + 1, 3, none⟩ (.int .i64 tk2)).setCell ⟨W.heap.size + 1, 4, none⟩ (.int .u64 ta)).setCell ⟨W.heap.size + 1, 5, none⟩ (.int .u64 tv)).setCell ⟨W.heap.size + 1, 6, none⟩ (.bool tb)).setCell ⟨W.heap.size + 1, 7, none⟩ (.int .i64 0)) = W4 at P4 B5 A1 A2 hsz4 ⊢
  go_wp2_with fail
  have ud := (Upd.refl [] W4).drew
  replace P4 := P4.free0 ud
  replace B5 := B5.drew
  replace A1 := A1.drew
  replace A2 := A2.drew
  have c1 := P4.head.cell (6 + i) (head_ratt hi)
  have c2 := P4.head.cell 2 rfl
  have c3 := B5.cell 3 rfl
  refine wp_region_ord (fun w' => w'.cell? ⟨p, 6 + i, none⟩ = some (.pointer (ptrO (ratt i))) ∧ w'.cell? ⟨p, 2, none⟩ = some (.pointer (some ⟨Y.wb, 0, none⟩)) ) [0, 1, 2, 3, 4, 5, 6, 7, 8, 9, 10, 11, 12, 13, 14, 15] (by kernel_rfl) (by kernel_rfl) ⟨c1, c2⟩ ?_
  clear ud c1 c2 c3
  replace hsz4 : W3.heap.size ≤ W4.drew.heap.size := hsz4
  generalize W4.drew = W7 at P4 B5 A1 A2 hsz4 ⊢
  repeat
    first
      | (refine wpL_skip rfl (by rfl) ?_)
      | ((refine wpL_take (v := ?_) rfl rfl (by rfl) ?_ ?_); rotate_left 1; (· ((intro w hSw; (try dsimp only at hSw); go_simp); try with_reducible rfl)))
    try simp only [Act.put, List.setIfInBounds_toArray, List.set_cons_zero, List.set_cons_succ]
  refine wpL_eff rfl (by kernel_rfl) (by rfl) (fun K2 hK2 => ?_)
  go_simp
  have hc := rend P4.r i
  rw [HT.out] at hc
  refine hc.mono ?_
  clear hc HT
  rintro e W5 ⟨rfl, ratt', m5, mv5, hp5, hs5, ho5⟩
  have P5 := P4.doc m5 mv5
  obtain ⟨S5, hS5, u5⟩ := mv5.u
  have B5 := B5.upd u5 (fun e => by have := HRLT.out _ (hS5 _ e); omega)
  have A1 := A1.upd u5 (fun e => by have := HRLT.out _ (hS5 _ e); omega)
  have A2 := A2.upd u5 (fun e => by have := HRLT.out _ (hS5 _ e); omega)
  have HY' := Lib.hid (show ∀ b, W.heap.size ≤ b → b < W.heap.size + 3 → ¬ Foot Y.foot ratt' b from fun b h1 h2 => mv5.not (HY.out b h1) (by omega))
  have hsz5 := u5.size
  have HS5 := Lib.hid hs5
  have HO5 := Lib.hid ho5
  have HP5 := Lib.hid hp5
  clear m5 mv5 hS5 u5 hs5 ho5 hp5 P4
  simp only [Trn.val]
  refine hK2.out _ _ ⟨P5.head.cell (6 + i) (head_ratt hi), P5.head.cell 2 rfl⟩ ?_
  clear hK2 K2
  repeat
    first
      | (refine wpL_skip rfl (by rfl) ?_)
      | ((refine wpL_take (v := ?_) rfl rfl (by rfl) ?_ ?_); rotate_left 1; (· ((intro w hSw; (try dsimp only at hSw); go_simp); try with_reducible rfl)))
    try simp only [Act.put, List.setIfInBounds_toArray, List.set_cons_zero, List.set_cons_succ]
  have q0 := (A2).cell 0 rfl
  have q1 := (A2).cell 1 rfl
  have q2 := (A2).cell 2 rfl
  have q3 := (A2).cell 3 rfl
  have q4 := (A2).cell 4 rfl
  have q5 := (A2).cell 5 rfl
  have q6 := (A2).cell 6 rfl
  have q7 := (A2).cell 7 rfl
  have g0 := (A2).free 0
  have g1 := (A2).free 1
  have g2 := (A2).free 2
  have g3 := (A2).free 3
  have g4 := (A2).free 4
  have g5 := (A2).free 5
  have g6 := (A2).free 6
  have g7 := (A2).free 7
  refine wpL_eff rfl (by kernel_rfl) (by rfl) (fun K2 hK2 => ?_)
  go_simp
  have uB : Upd [W.heap.size + 1 + 1] W5 ((((((((W5.setCell ⟨W.heap.size + 1 + 1, 0, none⟩ (.int .i64 to_)).setCell ⟨W.heap.size + 1 + 1, 1, none⟩ (.int .u64 tw)).setCell ⟨W.heap.size + 1 + 1, 2, none⟩ (.int .i64 0)).setCell ⟨W.heap.size + 1 + 1, 3, none⟩ (.int .i64 tk2)).setCell ⟨W.heap.size + 1 + 1, 4, none⟩ (.int .u64 ta)).setCell ⟨W.heap.size + 1 + 1, 5, none⟩ (.int .u64 tv)).setCell ⟨W.heap.size + 1 + 1, 6, none⟩ (.bool tb)).setCell ⟨W.heap.size + 1 + 1, 7, none⟩ (.int .i64 0)) :=
    ((((((((Upd.refl _ _).setCell (.inl (by simp)) _).setCell (.inl (by simp)) _).setCell (.inl (by simp)) _).setCell (.inl (by simp)) _).setCell (.inl (by simp)) _).setCell (.inl (by simp)) _).setCell (.inl (by simp)) _).setCell (.inl (by simp)) _
  have P6 := P5.scratch uB (by omega) (HX'.out _ (by omega) (by omega)) (HY'.out _ (by omega) (by omega)) (by omega)
  have B5 := B5.upd uB (fun h => by simp at h; omega)
  have A1 := A1.upd uB (fun h => by simp at h)
  have A2 := turn_set A2 rfl (⟨to_, tw, ⟨tk2, ta, tv, tb⟩⟩ : Trn)
  dsimp only at A2
  clear uB P5
  refine hK2.out _ _ ⟨P6.head.cell (6 + i) (head_ratt hi), P6.head.cell 2 rfl⟩ ?_
  clear q0 q1 q2 q3 q4 q5 q6 q7 g0 g1 g2 g3 g4 g5 g6 g7
  clear hK2 K2
  repeat
    first
      | (refine wpL_skip rfl (by rfl) ?_)
      | ((refine wpL_take (v := ?_) rfl rfl (by rfl) ?_ ?_); rotate_left 1; (· ((intro w hSw; (try dsimp only at hSw); go_simp); try with_reducible rfl)))
    try simp only [Act.put, List.setIfInBounds_toArray, List.set_cons_zero, List.set_cons_succ]
  refine wpO_end (NoPanic.normal ?_)
  have PSn : PS w0 p X Y sh3 att' ratt' held tk _ := ⟨by have := P6; rw [headP_eq HP3.out HP5.out] at this; exact this, fun j => by
    by_cases hj : j = i
    · subst hj; exact HS3.out.trans HS5.out.symm
    · rw [HO3.out j hj, HO5.out j hj]; exact HSM.out j, htk⟩
  have HPS := Lib.hid PSn
  have x0 := A1.cell 0 rfl
  have x1 := A1.cell 1 rfl
  have x2 := A1.cell 2 rfl
  have x3 := A1.cell 3 rfl
  have x4 := A1.cell 4 rfl
  have x5 := A1.cell 5 rfl
  have x6 := A1.cell 6 rfl
  have x7 := A1.cell 7 rfl
  have y0 := A2.cell 0 rfl
  have y1 := A2.cell 1 rfl
  have y2 := A2.cell 2 rfl
  have y3 := A2.cell 3 rfl
  have y4 := A2.cell 4 rfl
  have y5 := A2.cell 5 rfl
  have y6 := A2.cell 6 rfl
  have y7 := A2.cell 7 rfl
  have hrr : (r == r) = true := by simp
  clear PSn P6 B5 A1 A2
  go_wp2_with (go_at_call 12; refine (num07 _ _).mono ?_; rintro e w' ⟨rfl, rfl⟩)
  exact ⟨rfl, _, _, _, HPS.out⟩
set_option maxHeartbeats 1000000 in
theorem own_step {w0 W : World} {p : Nat} {X : SX} {Y : RX} {sh : Sh} {att ratt : Atts} {held : Bool} {tk : Int} (h : PS w0 p X Y sh att ratt held tk W) (i : Nat) (hi : i < 3) (kind who dst addr word : Int) (hk : kind ≠ 2 ∧ kind ≠ 3 ∧ kind ≠ 4 ∧ kind ≠ 6) (ha : 0 ≤ addr ∧ addr < 18446744073709551616) (hv : 0 ≤ word ∧ word < 18446744073709551616) :
    Calls Try.prog 64 #[.pointer (some ⟨p, 0, none⟩), .int .i64 i, .agg (stepC kind who dst addr word).toArray] W (OwnOk w0 p X Y held tk) := by
  obtain ⟨n2, n3, n4, n6⟩ := hk
  have e2 : (kind == 2) = false := by simpa using n2
  have e3 : (kind == 3) = false := by simpa using n3
  have e4 : (kind == 4) = false := by simpa using n4
  have e6 : (kind == 6) = false := by simpa using n6
  have hlt : ∀ g, Foot X.foot att g → g < W.heap.size := fun g hg => (h.pl.m.out hg).2
  have hrlt : ∀ g, Foot Y.foot ratt g → g < W.heap.size := fun g hg => (h.pl.r.out hg).2
  have hpl := h.pl.head.lt
  have hw0 := h.pl.low.size
  have hsame := h.same i
  have htk := h.tkw
  have hsm := h.same
  obtain ⟨W1, hW1⟩ : ∃ W1, ((W.alloc (.cells (stepC kind who dst addr word).toArray 79)).alloc (.cells turn0.toArray 36)).alloc (.cells turn0.toArray 36) = W1 := ⟨_, rfl⟩
  have u1 : Upd [] W W1 := by rw [← hW1]; exact (((Upd.refl [] _).alloc _).alloc _).alloc _
  have B5 : Blk W1 W.heap.size (stepC kind who dst addr word) 79 := by rw [← hW1]; exact ((Blk.new W _ _).alloc _).alloc _
  have A1 : Blk W1 (W.heap.size + 1) turn0 36 := by
    have := (Blk.new (W.alloc (.cells (stepC kind who dst addr word).toArray 79)) turn0 36).alloc (.cells turn0.toArray 36)
    rw [← hW1]; simpa using this
  have A2 : Blk W1 (W.heap.size + 1 + 1) turn0 36 := by
    have := Blk.new ((W.alloc (.cells (stepC kind who dst addr word).toArray 79)).alloc (.cells turn0.toArray 36)) turn0 36
    rw [← hW1]; simpa using this
  have hsz : W.heap.size + 2 < W1.heap.size := A2.lt
  have P1 := h.pl.free0 u1
  have HX := Lib.hid (show ∀ b, W.heap.size ≤ b → ¬ Foot X.foot att b from fun b hb e => by have := hlt b e; omega)
  have HY := Lib.hid (show ∀ b, W.heap.size ≤ b → ¬ Foot Y.foot ratt b from fun b hb e => by have := hrlt b e; omega)
  have HLT := Lib.hid hlt
  have HRLT := Lib.hid hrlt
  have HSAME := Lib.hid hsame
  have HSM := Lib.hid hsm
  clear hlt hrlt hsame hsm u1 h
  simp only [turn0, trnNone, evNone, Trn.cells, stepC] at hW1
  have k0 := B5.cell 0 rfl
  have hi3 : (i : Int) < 3 := by omega
  have cp := P1.head.cell (3 + i) (head_att hi)
  simp only [stepC]
  refine calls_all fun K hK => ?_
  go_enter Try.func64, Try.ntmps64
  go_wp2_with fail
  clear hW1 k0 cp
  clear hsz
  have hszd : W.heap.size + 2 < W1.heap.size := A2.lt
  have hc := pstep P1.m i
  generalize hT : callO .step (stO (att i)) sh = T at hc
  have HT := Lib.hid (show callO .step (stO (ratt i)) sh = T by rw [← HSAME.out]; exact hT)
  clear hT
  refine hc.mono ?_
  clear hc
  rintro e W3 ⟨rfl, att', m3, mv3, hp3, hs3, ho3⟩
  have P3 := P1.prog m3 mv3
  obtain ⟨S3, hS3, u3⟩ := mv3.u
  have B5 := B5.upd u3 (fun e => by have := HLT.out _ (hS3 _ e); omega)
  have A1 := A1.upd u3 (fun e => by have := HLT.out _ (hS3 _ e); omega)
  have A2 := A2.upd u3 (fun e => by have := HLT.out _ (hS3 _ e); omega)
  have HX' := Lib.hid (show ∀ b, W.heap.size ≤ b → b < W.heap.size + 3 → ¬ Foot X.foot att' b from fun b h1 h2 => mv3.not (HX.out b h1) (by omega))
  have hsz3 := u3.size
  have HS3 := Lib.hid hs3
  have HO3 := Lib.hid ho3
  have HP3 := Lib.hid hp3
  clear m3 mv3 hS3 u3 hs3 ho3 hp3 P1
  obtain ⟨⟨to_, tw, ⟨tk2, ta, tv, tb⟩⟩, r, s', sh3⟩ := T
  simp only [Trn.val]
  have q0 := (A1).cell 0 rfl
  have q1 := (A1).cell 1 rfl
  have q2 := (A1).cell 2 rfl
  have q3 := (A1).cell 3 rfl
  have q4 := (A1).cell 4 rfl
  have q5 := (A1).cell 5 rfl
  have q6 := (A1).cell 6 rfl
  have q7 := (A1).cell 7 rfl
  have g0 := (A1).free 0
  have g1 := (A1).free 1
  have g2 := (A1).free 2
  have g3 := (A1).free 3
  have g4 := (A1).free 4
  have g5 := (A1).free 5
  have g6 := (A1).free 6
  have g7 := (A1).free 7
  have uA : Upd [W.heap.size + 1] W3 ((((((((W3.setCell ⟨W.heap.size + 1, 0, none⟩ (.int .i64 to_)).setCell ⟨W.heap.size + 1, 1, none⟩ (.int .u64 tw)).setCell ⟨W.heap.size + 1, 2, none⟩ (.int .i64 0)).setCell ⟨W.heap.size + 1, 3, none⟩ (.int .i64 tk2)).setCell ⟨W.heap.size + 1, 4, none⟩ (.int .u64 ta)).setCell ⟨W.heap.size + 1, 5, none⟩ (.int .u64 tv)).setCell ⟨W.heap.size + 1, 6, none⟩ (.bool tb)).setCell ⟨W.heap.size + 1, 7, none⟩ (.int .i64 0)) :=
    ((((((((Upd.refl _ _).setCell (.inl (by simp)) _).setCell (.inl (by simp)) _).setCell (.inl (by simp)) _).setCell (.inl (by simp)) _).setCell (.inl (by simp)) _).setCell (.inl (by simp)) _).setCell (.inl (by simp)) _).setCell (.inl (by simp)) _
  have P4 := P3.scratch uA (by omega) (HX'.out _ (by omega) (by omega)) (HY.out _ (by omega)) (by omega)
  have B5 := B5.upd uA (by simp)
  have A2 := A2.upd uA (by simp)
  have A1 := turn_set A1 rfl (⟨to_, tw, ⟨tk2, ta, tv, tb⟩⟩ : Trn)
  dsimp only at A1
  have hsz4 := uA.size
  clear uA P3
  go_wp2_with fail
  clear q0 q1 q2 q3 q4 q5 q6 q7 g0 g1 g2 g3 g4 g5 g6 g7
  generalize ((((((((W3.setCell ⟨W.heap.size + 1, 0, none⟩ (.int .i64 to_)).setCell ⟨W.heap.size + 1, 1, none⟩ (.int .u64 tw)).setCell ⟨W.heap.size + 1, 2, none⟩ (.int .i64 0)).setCell ⟨W.heap.size + 1, 3, none⟩ (.int .i64 tk2)).setCell ⟨W.heap.size + 1, 4, none⟩ (.int .u64 ta)).setCell ⟨W.heap.size + 1, 5, none⟩ (.int .u64 tv)).setCell ⟨W.heap.size + 1, 6, none⟩ (.bool tb)).setCell ⟨W.heap.size + 1, 7, none⟩ (.int .i64 0)) = W4 at P4 B5 A1 A2 hsz4 ⊢
  go_wp2_with fail
  have ud := (Upd.refl [] W4).drew
  replace P4 := P4.free0 ud
  replace B5 := B5.drew
  replace A1 := A1.drew
  replace A2 := A2.drew
  have c1 := P4.head.cell (6 + i) (head_ratt hi)
  have c2 := P4.head.cell 2 rfl
  have c3 := B5.cell 3 rfl
  refine wp_region_ord (fun w' => w'.cell? ⟨p, 6 + i, none⟩ = some (.pointer (ptrO (ratt i))) ∧ w'.cell? ⟨p, 2, none⟩ = some (.pointer (some ⟨Y.wb, 0, none⟩)) ) [0, 1, 2, 3, 4, 5, 6, 7, 8, 9, 10, 11, 12, 13, 14, 15] (by kernel_rfl) (by kernel_rfl) ⟨c1, c2⟩ ?_
  clear ud c1 c2 c3
  replace hsz4 : W3.heap.size ≤ W4.drew.heap.size := hsz4
  generalize W4.drew = W7 at P4 B5 A1 A2 hsz4 ⊢
  repeat
    first
      | (refine wpL_skip rfl (by rfl) ?_)
      | ((refine wpL_take (v := ?_) rfl rfl (by rfl) ?_ ?_); rotate_left 1; (· ((intro w hSw; (try dsimp only at hSw); go_simp); try with_reducible rfl)))
    try simp only [Act.put, List.setIfInBounds_toArray, List.set_cons_zero, List.set_cons_succ]
  refine wpL_eff rfl (by kernel_rfl) (by rfl) (fun K2 hK2 => ?_)
  go_simp
  have hc := rstep P4.r i
  rw [HT.out] at hc
  refine hc.mono ?_
  clear hc HT
  rintro e W5 ⟨rfl, ratt', m5, mv5, hp5, hs5, ho5⟩
  have P5 := P4.doc m5 mv5
  obtain ⟨S5, hS5, u5⟩ := mv5.u
  have B5 := B5.upd u5 (fun e => by have := HRLT.out _ (hS5 _ e); omega)
  have A1 := A1.upd u5 (fun e => by have := HRLT.out _ (hS5 _ e); omega)
  have A2 := A2.upd u5 (fun e => by have := HRLT.out _ (hS5 _ e); omega)
  have HY' := Lib.hid (show ∀ b, W.heap.size ≤ b → b < W.heap.size + 3 → ¬ Foot Y.foot ratt' b from fun b h1 h2 => mv5.not (HY.out b h1) (by omega))
  have hsz5 := u5.size
  have HS5 := Lib.hid hs5
  have HO5 := Lib.hid ho5
  have HP5 := Lib.hid hp5
  clear m5 mv5 hS5 u5 hs5 ho5 hp5 P4
  simp only [Trn.val]
  refine hK2.out _ _ ⟨P5.head.cell (6 + i) (head_ratt hi), P5.head.cell 2 rfl⟩ ?_
  clear hK2 K2
  repeat
    first
      | (refine wpL_skip rfl (by rfl) ?_)
      | ((refine wpL_take (v := ?_) rfl rfl (by rfl) ?_ ?_); rotate_left 1; (· ((intro w hSw; (try dsimp only at hSw); go_simp); try with_reducible rfl)))
    try simp only [Act.put, List.setIfInBounds_toArray, List.set_cons_zero, List.set_cons_succ]
  have q0 := (A2).cell 0 rfl
  have q1 := (A2).cell 1 rfl
  have q2 := (A2).cell 2 rfl
  have q3 := (A2).cell 3 rfl
  have q4 := (A2).cell 4 rfl
  have q5 := (A2).cell 5 rfl
  have q6 := (A2).cell 6 rfl
  have q7 := (A2).cell 7 rfl
  have g0 := (A2).free 0
  have g1 := (A2).free 1
  have g2 := (A2).free 2
  have g3 := (A2).free 3
  have g4 := (A2).free 4
  have g5 := (A2).free 5
  have g6 := (A2).free 6
  have g7 := (A2).free 7
  refine wpL_eff rfl (by kernel_rfl) (by rfl) (fun K2 hK2 => ?_)
  go_simp
  have uB : Upd [W.heap.size + 1 + 1] W5 ((((((((W5.setCell ⟨W.heap.size + 1 + 1, 0, none⟩ (.int .i64 to_)).setCell ⟨W.heap.size + 1 + 1, 1, none⟩ (.int .u64 tw)).setCell ⟨W.heap.size + 1 + 1, 2, none⟩ (.int .i64 0)).setCell ⟨W.heap.size + 1 + 1, 3, none⟩ (.int .i64 tk2)).setCell ⟨W.heap.size + 1 + 1, 4, none⟩ (.int .u64 ta)).setCell ⟨W.heap.size + 1 + 1, 5, none⟩ (.int .u64 tv)).setCell ⟨W.heap.size + 1 + 1, 6, none⟩ (.bool tb)).setCell ⟨W.heap.size + 1 + 1, 7, none⟩ (.int .i64 0)) :=
    ((((((((Upd.refl _ _).setCell (.inl (by simp)) _).setCell (.inl (by simp)) _).setCell (.inl (by simp)) _).setCell (.inl (by simp)) _).setCell (.inl (by simp)) _).setCell (.inl (by simp)) _).setCell (.inl (by simp)) _).setCell (.inl (by simp)) _
  have P6 := P5.scratch uB (by omega) (HX'.out _ (by omega) (by omega)) (HY'.out _ (by omega) (by omega)) (by omega)
  have B5 := B5.upd uB (fun h => by simp at h; omega)
  have A1 := A1.upd uB (fun h => by simp at h)
  have A2 := turn_set A2 rfl (⟨to_, tw, ⟨tk2, ta, tv, tb⟩⟩ : Trn)
  dsimp only at A2
  clear uB P5
  refine hK2.out _ _ ⟨P6.head.cell (6 + i) (head_ratt hi), P6.head.cell 2 rfl⟩ ?_
  clear q0 q1 q2 q3 q4 q5 q6 q7 g0 g1 g2 g3 g4 g5 g6 g7
  clear hK2 K2
  repeat
    first
      | (refine wpL_skip rfl (by rfl) ?_)
      | ((refine wpL_take (v := ?_) rfl rfl (by rfl) ?_ ?_); rotate_left 1; (· ((intro w hSw; (try dsimp only at hSw); go_simp); try with_reducible rfl)))
    try simp only [Act.put, List.setIfInBounds_toArray, List.set_cons_zero, List.set_cons_succ]
  refine wpO_end (NoPanic.normal ?_)
  have PSn : PS w0 p X Y sh3 att' ratt' held tk _ := ⟨by have := P6; rw [headP_eq HP3.out HP5.out] at this; exact this, fun j => by
    by_cases hj : j = i
    · subst hj; exact HS3.out.trans HS5.out.symm
    · rw [HO3.out j hj, HO5.out j hj]; exact HSM.out j, htk⟩
  have HPS := Lib.hid PSn
  have x0 := A1.cell 0 rfl
  have x1 := A1.cell 1 rfl
  have x2 := A1.cell 2 rfl
  have x3 := A1.cell 3 rfl
  have x4 := A1.cell 4 rfl
  have x5 := A1.cell 5 rfl
  have x6 := A1.cell 6 rfl
  have x7 := A1.cell 7 rfl
  have y0 := A2.cell 0 rfl
  have y1 := A2.cell 1 rfl
  have y2 := A2.cell 2 rfl
  have y3 := A2.cell 3 rfl
  have y4 := A2.cell 4 rfl
  have y5 := A2.cell 5 rfl
  have y6 := A2.cell 6 rfl
  have y7 := A2.cell 7 rfl
  have hrr : (r == r) = true := by simp
  clear PSn P6 B5 A1 A2
  go_wp2_with (go_at_call 12; refine (num07 _ _).mono ?_; rintro e w' ⟨rfl, rfl⟩)
  exact ⟨rfl, _, _, _, HPS.out⟩
end Go.Proofs.Ythfeljongackcaa
set_option linter.unusedSimpArgs false
set_option linter.unusedVariables false
set_option maxRecDepth 100000
namespace Go.Proofs.Ythfeljongackcaa
open Go.RowKit
open Go.Maps

def dropO (o : Option AS) : Int × Option AS := match o with | none => (1, none) | some s => ((dropS s).1, some (dropS s).2)
section
variable {w0 W W' : World} {X : SX} {Y : RX} {sh rsh : Sh} {att ratt : Atts}
def PDrop (w0 W : World) (X : SX) (sh : Sh) (att : Atts) (i : Nat) (T : Int × Option AS) (e : Ending) (W' : World) : Prop :=
  e = .returned (.int .i64 T.1) ∧ ∃ att', PH w0 X sh att' W' ∧ Moved (Foot X.foot att) (Foot X.foot att') W W' ∧ (∀ j, ptrO (att' j) = ptrO (att j)) ∧ stO (att' i) = T.2 ∧ ∀ j, j ≠ i → att' j = att j
def RDrop (w0 W : World) (Y : RX) (sh : Sh) (att : Atts) (i : Nat) (T : Int × Option AS) (e : Ending) (W' : World) : Prop :=
  e = .returned (.int .i64 T.1) ∧ ∃ att', RH w0 Y sh att' W' ∧ Moved (Foot Y.foot att) (Foot Y.foot att') W W' ∧ (∀ j, ptrO (att' j) = ptrO (att j)) ∧ stO (att' i) = T.2 ∧ ∀ j, j ≠ i → att' j = att j
theorem pdrop (h : PH w0 X sh att W) (i : Nat) : Calls Try.prog 55 #[.pointer (ptrO (att i))] W (PDrop w0 W X sh att i (dropO (stO (att i)))) := by
  cases hi : att i with
  | none => exact (drop_no (.inl rfl)).mono fun e w' ⟨he, hw⟩ => ⟨he, att, by rw [← hw]; exact h, by rw [← hw]; exact Moved.of0 (Upd.refl _ _), fun _ => rfl, by rw [hi]; rfl, fun _ _ => rfl⟩
  | some t =>
    obtain ⟨a, s, F⟩ := t
    refine (drop_x (h.m.hL i a s F hi)).mono fun e w' ⟨he, hL, hu⟩ => ?_
    obtain ⟨h1, h2⟩ := h.next hi hL hu (fun g hg => .inl hg) (may_drop (h.may i a s F hi))
    exact ⟨he, _, h1, h2, ptr_upd1 hi, by rw [upd1_same]; rfl, fun j hj => upd1_other _ _ hj⟩
theorem rdrop (h : RH w0 Y sh att W) (i : Nat) : Calls Try.prog 101 #[.pointer (ptrO (att i))] W (RDrop w0 W Y sh att i (dropO (stO (att i)))) := by
  cases hi : att i with
  | none => exact (rdrop_no W).mono fun e w' ⟨he, hw⟩ => ⟨he, att, by rw [← hw]; exact h, by rw [← hw]; exact Moved.of0 (Upd.refl _ _), fun _ => rfl, by rw [hi]; rfl, fun _ _ => rfl⟩
  | some t =>
    obtain ⟨a, s, F⟩ := t
    obtain ⟨acc, rv, wv, hL⟩ := h.m.hL i a s F hi
    refine (rdrop_code hL).mono fun e w' ⟨he, hL2, hu⟩ => ?_
    obtain ⟨h1, h2⟩ := h.next hi hL2 (hu.mono (by simp [rown])) (fun g hg => .inl hg) (may_drop (h.may i a s F hi))
    exact ⟨he, _, h1, h2, ptr_upd1 hi, by rw [upd1_same]; rfl, fun j hj => upd1_other _ _ hj⟩
end
set_option maxHeartbeats 1000000 in
theorem own_drop {w0 W : World} {p : Nat} {X : SX} {Y : RX} {sh : Sh} {att ratt : Atts} {held : Bool} {tk : Int} (h : PS w0 p X Y sh att ratt held tk W) (i : Nat) (hi : i < 3) (who dst addr word : Int) :
    Calls Try.prog 64 #[.pointer (some ⟨p, 0, none⟩), .int .i64 i, .agg (stepC 6 who dst addr word).toArray] W (OwnOk w0 p X Y held tk) := by
  have hlt : ∀ g, Foot X.foot att g → g < W.heap.size := fun g hg => (h.pl.m.out hg).2
  have hrlt : ∀ g, Foot Y.foot ratt g → g < W.heap.size := fun g hg => (h.pl.r.out hg).2
  have hpl := h.pl.head.lt
  have hw0 := h.pl.low.size
  have hsame := h.same i
  have htk := h.tkw
  have hsm := h.same
  obtain ⟨W1, hW1⟩ : ∃ W1, ((W.alloc (.cells (stepC 6 who dst addr word).toArray 79)).alloc (.cells turn0.toArray 36)).alloc (.cells turn0.toArray 36) = W1 := ⟨_, rfl⟩
  have u1 : Upd [] W W1 := by rw [← hW1]; exact (((Upd.refl [] _).alloc _).alloc _).alloc _
  have B5 : Blk W1 W.heap.size (stepC 6 who dst addr word) 79 := by rw [← hW1]; exact ((Blk.new W _ _).alloc _).alloc _
  have A1 : Blk W1 (W.heap.size + 1) turn0 36 := by
    have := (Blk.new (W.alloc (.cells (stepC 6 who dst addr word).toArray 79)) turn0 36).alloc (.cells turn0.toArray 36)
    rw [← hW1]; simpa using this
  have A2 : Blk W1 (W.heap.size + 1 + 1) turn0 36 := by
    have := Blk.new ((W.alloc (.cells (stepC 6 who dst addr word).toArray 79)).alloc (.cells turn0.toArray 36)) turn0 36
    rw [← hW1]; simpa using this
  have hsz : W.heap.size + 2 < W1.heap.size := A2.lt
  have P1 := h.pl.free0 u1
  have HX := Lib.hid (show ∀ b, W.heap.size ≤ b → ¬ Foot X.foot att b from fun b hb e => by have := hlt b e; omega)
  have HY := Lib.hid (show ∀ b, W.heap.size ≤ b → ¬ Foot Y.foot ratt b from fun b hb e => by have := hrlt b e; omega)
  have HLT := Lib.hid hlt
  have HRLT := Lib.hid hrlt
  have HSAME := Lib.hid hsame
  have HSM := Lib.hid hsm
  clear hlt hrlt hsame hsm u1 h
  simp only [turn0, trnNone, evNone, Trn.cells, stepC] at hW1
  have k0 := B5.cell 0 rfl
  have hi3 : (i : Int) < 3 := by omega
  have cp := P1.head.cell (3 + i) (head_att hi)
  simp only [stepC]
  refine calls_all fun K hK => ?_
  go_enter Try.func64, Try.ntmps64
  go_wp2_with fail
  clear hW1 k0 cp
  clear hsz
  have hszd : W.heap.size + 2 < W1.heap.size := A2.lt
  have hc := pdrop P1.m i
  generalize hT : dropO (stO (att i)) = T at hc
  have HT := Lib.hid (show dropO (stO (ratt i)) = T by rw [← HSAME.out]; exact hT)
  clear hT
  refine hc.mono ?_
  clear hc
  rintro e W3 ⟨rfl, att', m3, mv3, hp3, hs3, ho3⟩
  have P3 := P1.prog m3 mv3
  obtain ⟨S3, hS3, u3⟩ := mv3.u
  have A1 := A1.upd u3 (fun e => by have := HLT.out _ (hS3 _ e); omega)
  have A2 := A2.upd u3 (fun e => by have := HLT.out _ (hS3 _ e); omega)
  have HS3 := Lib.hid hs3
  have HO3 := Lib.hid ho3
  have HP3 := Lib.hid hp3
  clear m3 mv3 hS3 u3 hs3 ho3 hp3 P1
  have cr := P3.head.cell (6 + i) (head_ratt hi)
  go_wp2_with fail
  have hc := rdrop P3.r i
  rw [HT.out] at hc
  refine hc.mono ?_
  clear hc HT cr
  rintro e W5 ⟨rfl, ratt', m5, mv5, hp5, hs5, ho5⟩
  have P5 := P3.doc m5 mv5
  obtain ⟨S5, hS5, u5⟩ := mv5.u
  have A1 := A1.upd u5 (fun e => by have := HRLT.out _ (hS5 _ e); omega)
  have A2 := A2.upd u5 (fun e => by have := HRLT.out _ (hS5 _ e); omega)
  have HPS := Lib.hid (show PS w0 p X Y sh att' ratt' held tk W5 from ⟨by have := P5; rw [headP_eq HP3.out hp5] at this; exact this, fun j => by
    by_cases hj : j = i
    · subst hj; exact HS3.out.trans hs5.symm
    · rw [HO3.out j hj, ho5 j hj]; exact HSM.out j, htk⟩)
  clear m5 mv5 hS5 u5 hs5 ho5 hp5 P3 P5
  obtain ⟨r, s'⟩ := T
  dsimp only
  have x0 := A1.cell 0 rfl
  have x1 := A1.cell 1 rfl
  have x2 := A1.cell 2 rfl
  have x3 := A1.cell 3 rfl
  have x4 := A1.cell 4 rfl
  have x5 := A1.cell 5 rfl
  have x6 := A1.cell 6 rfl
  have x7 := A1.cell 7 rfl
  have y0 := A2.cell 0 rfl
  have y1 := A2.cell 1 rfl
  have y2 := A2.cell 2 rfl
  have y3 := A2.cell 3 rfl
  have y4 := A2.cell 4 rfl
  have y5 := A2.cell 5 rfl
  have y6 := A2.cell 6 rfl
  have y7 := A2.cell 7 rfl
  have hrr : (r == r) = true := by simp
  clear A1 A2 B5
  go_wp2_with (go_at_call 12; refine (num07 _ _).mono ?_; rintro e w' ⟨rfl, rfl⟩)
  exact ⟨rfl, _, _, _, HPS.out⟩
theorem own_any {w0 W : World} {p : Nat} {X : SX} {Y : RX} {sh : Sh} {att ratt : Atts} {held : Bool} {tk : Int} (h : PS w0 p X Y sh att ratt held tk W) (i : Nat) (hi : i < 3) (kind who dst addr word : Int) (ha : 0 ≤ addr ∧ addr < 18446744073709551616) (hv : 0 ≤ word ∧ word < 18446744073709551616) :
    Calls Try.prog 64 #[.pointer (some ⟨p, 0, none⟩), .int .i64 i, .agg (stepC kind who dst addr word).toArray] W (OwnOk w0 p X Y held tk) := by
  by_cases h2 : kind = 2
  · subst h2; exact own_get h i hi who dst addr word ha hv
  by_cases h3 : kind = 3
  · subst h3; exact own_put h i hi who dst addr word ha hv
  by_cases h4 : kind = 4
  · subst h4; exact own_end h i hi who dst addr word ha hv
  by_cases h6 : kind = 6
  · subst h6; exact own_drop h i hi who dst addr word
  exact own_step h i hi kind who dst addr word ⟨h2, h3, h4, h6⟩ ha hv
end Go.Proofs.Ythfeljongackcaa
