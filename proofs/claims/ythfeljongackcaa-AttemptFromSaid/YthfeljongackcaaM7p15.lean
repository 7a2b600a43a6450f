/- The document's attempt: Step. The condition: the state may be. The document's attempt: Get, End. The condition: the state may be. -/
import Derived.Test.YthfeljongackcaaM7p14
set_option linter.unusedSimpArgs false
set_option linter.unusedVariables false
set_option maxRecDepth 100000
namespace Go.Proofs.Ythfeljongackcaa
open Go.RowKit
open Go.Maps
-- behind a call to going: the turn is stored
-- the end: the turn T is stored
-- a store into the attempt's block, kept up in RB, U
section
variable {w : World} {Y : RX} {sh : Sh} {acc : Int} {b : Nat} {s : AS} {F : List Nat} {rv wv : Value}
/-- a call is done: its turn's block is written -/
theorem rcfin {W' : World} {s' : AS} {sh' : Sh} {acc' : Int} {F' : List Nat} {rv' wv' : Value} {T : Trn} {r : Int} {rb : Nat} (hr : w.heap.size ≤ rb) (H : RLive W' Y sh' acc' b s' F' rv' wv') (U : Upd (b :: (F ++ Y.foot)) w W') (hF : ∀ g ∈ F', g ∈ F ∨ w.heap.size ≤ g) (hn : rb ∉ b :: (F' ++ Y.foot)) (v0 v1 v2 v3 v4 v5 v6 v7 : Value) :
    RCall w Y b F T r s' sh' (.returned (.tuple #[T.val, .int .i64 r])) ((((((((W'.setCell ⟨rb, 0, none⟩ v0).setCell ⟨rb, 1, none⟩ v1).setCell ⟨rb, 2, none⟩ v2).setCell ⟨rb, 3, none⟩ v3).setCell ⟨rb, 4, none⟩ v4).setCell ⟨rb, 5, none⟩ v5).setCell ⟨rb, 6, none⟩ v6).setCell ⟨rb, 7, none⟩ v7) :=
  let h := rfin (T := T) hr H U hF hn v0 v1 v2 v3 v4 v5 v6 v7
  ⟨rfl, h.2⟩
-- a step was called: its turn goes on to the result (slots K, M)
-- has the row the address? (drawn)
set_option maxHeartbeats 2000000 in
theorem rstep_code (hL : RLive w Y sh acc b s F rv wv) (hM : May s) :
    Calls Try.prog 102 #[.pointer (some ⟨b, 0, none⟩), .pointer (some ⟨Y.wb, 0, none⟩)] w (RCall w Y b F (stepS s sh).1 (stepS s sh).2.1 (stepS s sh).2.2.1 (stepS s sh).2.2.2) := by
  have la := hL.lt
  have lx := hL.sh.lt
  have hnr : w.heap.size ∉ b :: (F ++ Y.foot) := by
    simp only [List.mem_cons, List.mem_append, not_or]
    exact ⟨by omega, fun h => Nat.lt_irrefl _ (hL.sep _ h).1, fun h => Nat.lt_irrefl _ (lx _ h)⟩
  have hwb : b ≠ Y.wb := fun e => hL.out (by simp [RX.foot, e])
  have lb0 : b ≠ w.heap.size := by omega
  have lw0 : Y.wb ≠ w.heap.size := by have := lx Y.wb (by simp [RX.foot]); omega
  have hph := hM.ph
  have hcases : s.phase = 1 ∨ s.phase = 2 ∨ s.phase = 3 ∨ s.phase = 4 ∨ s.phase = 5 ∨ s.phase = 6 ∨ s.phase = 7 ∨ s.phase = 8 ∨ s.phase = 9 ∨ s.phase = 10 := by omega
  clear hph
  rcases hcases with hp | hp | hp | hp | hp | hp | hp | hp | hp | hp
  · have he : stepS s sh = (trnNone, 2, s, sh) := by unfold stepS; simp [hp]
    rw [he]
    clear he
    refine calls_all fun K hK => ?_
    go_enter Try.func102, Try.ntmps102
    go_upto_region 3 with (fail)
    obtain ⟨W, hW⟩ : ∃ W, W = w.alloc (.cells turn0.toArray 36) := ⟨_, rfl⟩
    have RB : Blk W w.heap.size turn0 36 := by rw [hW]; exact Blk.new w _ _
    have HU : Upd [] w W := by rw [hW]; exact (Upd.refl _ _).alloc _
    simp only [turn0, trnNone, evNone, Trn.cells] at hW
    rw [← hW]
    clear hW
    have HL0 := hL.upd0 HU
    have U : Upd (b :: (F ++ Y.foot)) w W := HU.mono (by simp)
    have hzW : w.heap.size < W.heap.size := RB.lt
    have b3 : W.cell? ⟨b, 3, none⟩ = some (.int .i64 1) := by rw [← hp]; exact HL0.att.head.cell 3 rfl
    have q0 := (RB).cell 0 rfl
    have q1 := (RB).cell 1 rfl
    have q2 := (RB).cell 2 rfl
    have q3 := (RB).cell 3 rfl
    have q4 := (RB).cell 4 rfl
    have q5 := (RB).cell 5 rfl
    have q6 := (RB).cell 6 rfl
    have q7 := (RB).cell 7 rfl
    have g0 := (RB).free 0
    have g1 := (RB).free 1
    have g2 := (RB).free 2
    have g3 := (RB).free 3
    have g4 := (RB).free 4
    have g5 := (RB).free 5
    have g6 := (RB).free 6
    have g7 := (RB).free 7
    go_wp2_with fail
    exact bodyPost_ret (turn_results2 4 5 rfl _ _ _ trnNone (.int .i64 2) rfl rfl (turn_set RB rfl trnNone)) rfl (hK _ _ (rcfin (Nat.le_refl _) HL0 U (fun g hg => .inl hg) hnr _ _ _ _ _ _ _ _))
  · have ht : s.thn = 0 := by have := hM.thn; simp [validB, hp] at this; exact this
    have hf : s.found = 0 := hM.found (by omega) (by omega)
    by_cases hx : s.addr < sh.row.length
    · have he : stepS s sh = ((loadS s sh).1, 0, (loadS s sh).2, sh) := by unfold stepS; simp [hp, hx]
      rw [he]
      clear he
      have hd : decide (s.addr < (sh.row.length : Int)) = true := by simpa using hx
      refine calls_all fun K hK => ?_
      go_enter Try.func102, Try.ntmps102
      go_upto_region 3 with (fail)
      obtain ⟨W, hW⟩ : ∃ W, W = w.alloc (.cells turn0.toArray 36) := ⟨_, rfl⟩
      have RB : Blk W w.heap.size turn0 36 := by rw [hW]; exact Blk.new w _ _
      have HU : Upd [] w W := by rw [hW]; exact (Upd.refl _ _).alloc _
      simp only [turn0, trnNone, evNone, Trn.cells] at hW
      rw [← hW]
      clear hW
      have HL0 := hL.upd0 HU
      have U : Upd (b :: (F ++ Y.foot)) w W := HU.mono (by simp)
      have hzW : w.heap.size < W.heap.size := RB.lt
      have b3 : W.cell? ⟨b, 3, none⟩ = some (.int .i64 2) := by rw [← hp]; exact HL0.att.head.cell 3 rfl
      go_wp2_with fail
      clear b3
      have HL1 := HL0.upd0 (Upd.refl [] _).drew
      replace RB := RB.drew
      replace U := U.drew
      have a0 := HL1.sh.wld.cell 0 rfl
      have b5 := HL1.att.head.cell 5 rfl
      refine wp_region_eff (fun w' => w'.cell? ⟨Y.wb, 0, none⟩ = some (.pointer (some ⟨Y.ra, 0, none⟩)) ∧ w'.cell? ⟨b, 5, none⟩ = some (.int .u64 s.addr)) 9 (by kernel_rfl) (by kernel_rfl) ⟨a0, b5⟩ ?_
      have hzD : w.heap.size < W.drew.heap.size := RB.lt
      clear HL0 hzW
      generalize W.drew = W1 at HL1 RB U a0 b5 hzD ⊢
      repeat
        refine wpE_take (v := ?_) (by decide) rfl (by rfl) ?_ ?_
        rotate_left 1
        · ((intro w hSw; (try dsimp only at hSw); go_simp); try with_reducible rfl)
        try simp only [Act.put, List.setIfInBounds_toArray, List.set_cons_zero, List.set_cons_succ]
      refine wpE_tail ?_
      go_wp2_with fail
      refine (rhas_any HL1.sh.row s.addr).mono ?_
      rintro e w' ⟨rfl, rfl⟩
      go_wp2_with fail
      refine NoPanic.normal ?_
      have HL0 := HL1
      clear HL1 a0 b5
      go_wp2_with fail
      refine ((rload_code HL0 ht hf)).mono ?_
      rintro e w3 ⟨rfl, F3, ⟨acc3, rv3, wv3, HL3⟩, u3, hF3⟩
      have hn3 : w.heap.size ∉ b :: (F3 ++ Y.foot) := by
        simp only [List.mem_cons, List.mem_append, not_or] at hnr ⊢
        exact ⟨hnr.1, fun h => by rcases hF3 _ h with k | k; exact hnr.2.1 k; omega, hnr.2.2⟩
      have hF4 : ∀ g ∈ F3, g ∈ F ∨ w.heap.size ≤ g := fun g hg => (hF3 g hg).imp id (fun k => by omega)
      replace RB := RB.upd u3 hnr
      replace U := U.trans u3
      clear hF3 u3
      generalize (loadS s sh).1 = T at hK HL3 ⊢
      obtain ⟨to, tw, ⟨tk, ta, tv, tb⟩⟩ := T
      simp only [Trn.val]
      have q0 := (RB).cell 0 rfl
      have q1 := (RB).cell 1 rfl
      have q2 := (RB).cell 2 rfl
      have q3 := (RB).cell 3 rfl
      have q4 := (RB).cell 4 rfl
      have q5 := (RB).cell 5 rfl
      have q6 := (RB).cell 6 rfl
      have q7 := (RB).cell 7 rfl
      have g0 := (RB).free 0
      have g1 := (RB).free 1
      have g2 := (RB).free 2
      have g3 := (RB).free 3
      have g4 := (RB).free 4
      have g5 := (RB).free 5
      have g6 := (RB).free 6
      have g7 := (RB).free 7
      go_wp2_with fail
      exact bodyPost_ret (turn_results2 4 5 rfl _ _ _ (⟨to, tw, ⟨tk, ta, tv, tb⟩⟩ : Trn) (.int .i64 0) rfl rfl (turn_set RB rfl (⟨to, tw, ⟨tk, ta, tv, tb⟩⟩ : Trn))) rfl (hK _ _ (rcfin (Nat.le_refl _) HL3 U hF4 hn3 _ _ _ _ _ _ _ _))
    · have he : stepS s sh = (trnNone, 4, s, sh) := by unfold stepS; simp [hp, hx]
      rw [he]
      clear he
      have hd : decide (s.addr < (sh.row.length : Int)) = false := by simpa using hx
      refine calls_all fun K hK => ?_
      go_enter Try.func102, Try.ntmps102
      go_upto_region 3 with (fail)
      obtain ⟨W, hW⟩ : ∃ W, W = w.alloc (.cells turn0.toArray 36) := ⟨_, rfl⟩
      have RB : Blk W w.heap.size turn0 36 := by rw [hW]; exact Blk.new w _ _
      have HU : Upd [] w W := by rw [hW]; exact (Upd.refl _ _).alloc _
      simp only [turn0, trnNone, evNone, Trn.cells] at hW
      rw [← hW]
      clear hW
      have HL0 := hL.upd0 HU
      have U : Upd (b :: (F ++ Y.foot)) w W := HU.mono (by simp)
      have hzW : w.heap.size < W.heap.size := RB.lt
      have b3 : W.cell? ⟨b, 3, none⟩ = some (.int .i64 2) := by rw [← hp]; exact HL0.att.head.cell 3 rfl
      go_wp2_with fail
      clear b3
      have HL1 := HL0.upd0 (Upd.refl [] _).drew
      replace RB := RB.drew
      replace U := U.drew
      have a0 := HL1.sh.wld.cell 0 rfl
      have b5 := HL1.att.head.cell 5 rfl
      refine wp_region_eff (fun w' => w'.cell? ⟨Y.wb, 0, none⟩ = some (.pointer (some ⟨Y.ra, 0, none⟩)) ∧ w'.cell? ⟨b, 5, none⟩ = some (.int .u64 s.addr)) 9 (by kernel_rfl) (by kernel_rfl) ⟨a0, b5⟩ ?_
      have hzD : w.heap.size < W.drew.heap.size := RB.lt
      clear HL0 hzW
      generalize W.drew = W1 at HL1 RB U a0 b5 hzD ⊢
      repeat
        refine wpE_take (v := ?_) (by decide) rfl (by rfl) ?_ ?_
        rotate_left 1
        · ((intro w hSw; (try dsimp only at hSw); go_simp); try with_reducible rfl)
        try simp only [Act.put, List.setIfInBounds_toArray, List.set_cons_zero, List.set_cons_succ]
      refine wpE_tail ?_
      go_wp2_with fail
      refine (rhas_any HL1.sh.row s.addr).mono ?_
      rintro e w' ⟨rfl, rfl⟩
      go_wp2_with fail
      refine NoPanic.normal ?_
      have HL0 := HL1
      clear HL1 a0 b5
      have q0 := (RB).cell 0 rfl
      have q1 := (RB).cell 1 rfl
      have q2 := (RB).cell 2 rfl
      have q3 := (RB).cell 3 rfl
      have q4 := (RB).cell 4 rfl
      have q5 := (RB).cell 5 rfl
      have q6 := (RB).cell 6 rfl
      have q7 := (RB).cell 7 rfl
      have g0 := (RB).free 0
      have g1 := (RB).free 1
      have g2 := (RB).free 2
      have g3 := (RB).free 3
      have g4 := (RB).free 4
      have g5 := (RB).free 5
      have g6 := (RB).free 6
      have g7 := (RB).free 7
      go_wp2_with fail
      exact bodyPost_ret (turn_results2 4 5 rfl _ _ _ trnNone (.int .i64 4) rfl rfl (turn_set RB rfl trnNone)) rfl (hK _ _ (rcfin (Nat.le_refl _) HL0 U (fun g hg => .inl hg) hnr _ _ _ _ _ _ _ _))
  · have he : stepS s sh = ((lookS s sh).1, 0, (lookS s sh).2, sh) := by unfold stepS; simp [hp]
    rw [he]
    clear he
    have hlen : s.reads.length < 1024 := (hM.gets (by simp [getsB, hp])).1
    refine calls_all fun K hK => ?_
    go_enter Try.func102, Try.ntmps102
    go_upto_region 3 with (fail)
    obtain ⟨W, hW⟩ : ∃ W, W = w.alloc (.cells turn0.toArray 36) := ⟨_, rfl⟩
    have RB : Blk W w.heap.size turn0 36 := by rw [hW]; exact Blk.new w _ _
    have HU : Upd [] w W := by rw [hW]; exact (Upd.refl _ _).alloc _
    simp only [turn0, trnNone, evNone, Trn.cells] at hW
    rw [← hW]
    clear hW
    have HL0 := hL.upd0 HU
    have U : Upd (b :: (F ++ Y.foot)) w W := HU.mono (by simp)
    have hzW : w.heap.size < W.heap.size := RB.lt
    have b3 : W.cell? ⟨b, 3, none⟩ = some (.int .i64 3) := by rw [← hp]; exact HL0.att.head.cell 3 rfl
    go_wp2_with fail
    clear b3
    refine ((rlook_code HL0 hlen)).mono ?_
    rintro e w3 ⟨rfl, F3, ⟨acc3, rv3, wv3, HL3⟩, u3, hF3⟩
    have hn3 : w.heap.size ∉ b :: (F3 ++ Y.foot) := by
      simp only [List.mem_cons, List.mem_append, not_or] at hnr ⊢
      exact ⟨hnr.1, fun h => by rcases hF3 _ h with k | k; exact hnr.2.1 k; omega, hnr.2.2⟩
    have hF4 : ∀ g ∈ F3, g ∈ F ∨ w.heap.size ≤ g := fun g hg => (hF3 g hg).imp id (fun k => by omega)
    replace RB := RB.upd u3 hnr
    replace U := U.trans u3
    clear hF3 u3
    generalize (lookS s sh).1 = T at hK HL3 ⊢
    obtain ⟨to, tw, ⟨tk, ta, tv, tb⟩⟩ := T
    simp only [Trn.val]
    have q0 := (RB).cell 0 rfl
    have q1 := (RB).cell 1 rfl
    have q2 := (RB).cell 2 rfl
    have q3 := (RB).cell 3 rfl
    have q4 := (RB).cell 4 rfl
    have q5 := (RB).cell 5 rfl
    have q6 := (RB).cell 6 rfl
    have q7 := (RB).cell 7 rfl
    have g0 := (RB).free 0
    have g1 := (RB).free 1
    have g2 := (RB).free 2
    have g3 := (RB).free 3
    have g4 := (RB).free 4
    have g5 := (RB).free 5
    have g6 := (RB).free 6
    have g7 := (RB).free 7
    go_wp2_with fail
    exact bodyPost_ret (turn_results2 4 5 rfl _ _ _ (⟨to, tw, ⟨tk, ta, tv, tb⟩⟩ : Trn) (.int .i64 0) rfl rfl (turn_set RB rfl (⟨to, tw, ⟨tk, ta, tv, tb⟩⟩ : Trn))) rfl (hK _ _ (rcfin (Nat.le_refl _) HL3 U hF4 hn3 _ _ _ _ _ _ _ _))
  · have he : stepS s sh = ((waitS s sh).1, 0, (waitS s sh).2, sh) := by unfold stepS; simp [hp]
    rw [he]
    clear he
    have ha : s.at_ = 0 := hM.at0 (by omega) (by omega)
    refine calls_all fun K hK => ?_
    go_enter Try.func102, Try.ntmps102
    go_upto_region 3 with (fail)
    obtain ⟨W, hW⟩ : ∃ W, W = w.alloc (.cells turn0.toArray 36) := ⟨_, rfl⟩
    have RB : Blk W w.heap.size turn0 36 := by rw [hW]; exact Blk.new w _ _
    have HU : Upd [] w W := by rw [hW]; exact (Upd.refl _ _).alloc _
    simp only [turn0, trnNone, evNone, Trn.cells] at hW
    rw [← hW]
    clear hW
    have HL0 := hL.upd0 HU
    have U : Upd (b :: (F ++ Y.foot)) w W := HU.mono (by simp)
    have hzW : w.heap.size < W.heap.size := RB.lt
    have b3 : W.cell? ⟨b, 3, none⟩ = some (.int .i64 4) := by rw [← hp]; exact HL0.att.head.cell 3 rfl
    go_wp2_with fail
    clear b3
    refine ((rwait_code HL0 hp ha hM.lenR)).mono ?_
    rintro e w3 ⟨rfl, F3, ⟨acc3, rv3, wv3, HL3⟩, u3, hF3⟩
    have hn3 : w.heap.size ∉ b :: (F3 ++ Y.foot) := by
      simp only [List.mem_cons, List.mem_append, not_or] at hnr ⊢
      exact ⟨hnr.1, fun h => by rcases hF3 _ h with k | k; exact hnr.2.1 k; omega, hnr.2.2⟩
    have hF4 : ∀ g ∈ F3, g ∈ F ∨ w.heap.size ≤ g := fun g hg => (hF3 g hg).imp id (fun k => by omega)
    replace RB := RB.upd u3 hnr
    replace U := U.trans u3
    clear hF3 u3
    generalize (waitS s sh).1 = T at hK HL3 ⊢
    obtain ⟨to, tw, ⟨tk, ta, tv, tb⟩⟩ := T
    simp only [Trn.val]
    have q0 := (RB).cell 0 rfl
    have q1 := (RB).cell 1 rfl
    have q2 := (RB).cell 2 rfl
    have q3 := (RB).cell 3 rfl
    have q4 := (RB).cell 4 rfl
    have q5 := (RB).cell 5 rfl
    have q6 := (RB).cell 6 rfl
    have q7 := (RB).cell 7 rfl
    have g0 := (RB).free 0
    have g1 := (RB).free 1
    have g2 := (RB).free 2
    have g3 := (RB).free 3
    have g4 := (RB).free 4
    have g5 := (RB).free 5
    have g6 := (RB).free 6
    have g7 := (RB).free 7
    go_wp2_with fail
    exact bodyPost_ret (turn_results2 4 5 rfl _ _ _ (⟨to, tw, ⟨tk, ta, tv, tb⟩⟩ : Trn) (.int .i64 0) rfl rfl (turn_set RB rfl (⟨to, tw, ⟨tk, ta, tv, tb⟩⟩ : Trn))) rfl (hK _ _ (rcfin (Nat.le_refl _) HL3 U hF4 hn3 _ _ _ _ _ _ _ _))
  · have he : stepS s sh = ((checkS s sh).1, 0, (checkS s sh).2, sh) := by unfold stepS; simp [hp]
    rw [he]
    clear he
    refine calls_all fun K hK => ?_
    go_enter Try.func102, Try.ntmps102
    go_upto_region 3 with (fail)
    obtain ⟨W, hW⟩ : ∃ W, W = w.alloc (.cells turn0.toArray 36) := ⟨_, rfl⟩
    have RB : Blk W w.heap.size turn0 36 := by rw [hW]; exact Blk.new w _ _
    have HU : Upd [] w W := by rw [hW]; exact (Upd.refl _ _).alloc _
    simp only [turn0, trnNone, evNone, Trn.cells] at hW
    rw [← hW]
    clear hW
    have HL0 := hL.upd0 HU
    have U : Upd (b :: (F ++ Y.foot)) w W := HU.mono (by simp)
    have hzW : w.heap.size < W.heap.size := RB.lt
    have b3 : W.cell? ⟨b, 3, none⟩ = some (.int .i64 5) := by rw [← hp]; exact HL0.att.head.cell 3 rfl
    go_wp2_with fail
    clear b3
    refine ((rcheck_code HL0 hp (hM.at5 hp) hM.lenR)).mono ?_
    rintro e w3 ⟨rfl, F3, ⟨acc3, rv3, wv3, HL3⟩, u3, hF3⟩
    have hn3 : w.heap.size ∉ b :: (F3 ++ Y.foot) := by
      simp only [List.mem_cons, List.mem_append, not_or] at hnr ⊢
      exact ⟨hnr.1, fun h => by rcases hF3 _ h with k | k; exact hnr.2.1 k; omega, hnr.2.2⟩
    have hF4 : ∀ g ∈ F3, g ∈ F ∨ w.heap.size ≤ g := fun g hg => (hF3 g hg).imp id (fun k => by omega)
    replace RB := RB.upd u3 hnr
    replace U := U.trans u3
    clear hF3 u3
    generalize (checkS s sh).1 = T at hK HL3 ⊢
    obtain ⟨to, tw, ⟨tk, ta, tv, tb⟩⟩ := T
    simp only [Trn.val]
    have q0 := (RB).cell 0 rfl
    have q1 := (RB).cell 1 rfl
    have q2 := (RB).cell 2 rfl
    have q3 := (RB).cell 3 rfl
    have q4 := (RB).cell 4 rfl
    have q5 := (RB).cell 5 rfl
    have q6 := (RB).cell 6 rfl
    have q7 := (RB).cell 7 rfl
    have g0 := (RB).free 0
    have g1 := (RB).free 1
    have g2 := (RB).free 2
    have g3 := (RB).free 3
    have g4 := (RB).free 4
    have g5 := (RB).free 5
    have g6 := (RB).free 6
    have g7 := (RB).free 7
    go_wp2_with fail
    exact bodyPost_ret (turn_results2 4 5 rfl _ _ _ (⟨to, tw, ⟨tk, ta, tv, tb⟩⟩ : Trn) (.int .i64 0) rfl rfl (turn_set RB rfl (⟨to, tw, ⟨tk, ta, tv, tb⟩⟩ : Trn))) rfl (hK _ _ (rcfin (Nat.le_refl _) HL3 U hF4 hn3 _ _ _ _ _ _ _ _))
  · have he : stepS s sh = ((closeS s sh).1, 0, (closeS s sh).2, sh) := by unfold stepS; simp [hp]
    rw [he]
    clear he
    refine calls_all fun K hK => ?_
    go_enter Try.func102, Try.ntmps102
    go_upto_region 3 with (fail)
    obtain ⟨W, hW⟩ : ∃ W, W = w.alloc (.cells turn0.toArray 36) := ⟨_, rfl⟩
    have RB : Blk W w.heap.size turn0 36 := by rw [hW]; exact Blk.new w _ _
    have HU : Upd [] w W := by rw [hW]; exact (Upd.refl _ _).alloc _
    simp only [turn0, trnNone, evNone, Trn.cells] at hW
    rw [← hW]
    clear hW
    have HL0 := hL.upd0 HU
    have U : Upd (b :: (F ++ Y.foot)) w W := HU.mono (by simp)
    have hzW : w.heap.size < W.heap.size := RB.lt
    have b3 : W.cell? ⟨b, 3, none⟩ = some (.int .i64 6) := by rw [← hp]; exact HL0.att.head.cell 3 rfl
    go_wp2_with fail
    clear b3
    refine ((rclose_code HL0 hp)).mono ?_
    rintro e w3 ⟨rfl, F3, ⟨acc3, rv3, wv3, HL3⟩, u3, hF3⟩
    have hn3 : w.heap.size ∉ b :: (F3 ++ Y.foot) := by
      simp only [List.mem_cons, List.mem_append, not_or] at hnr ⊢
      exact ⟨hnr.1, fun h => by rcases hF3 _ h with k | k; exact hnr.2.1 k; omega, hnr.2.2⟩
    have hF4 : ∀ g ∈ F3, g ∈ F ∨ w.heap.size ≤ g := fun g hg => (hF3 g hg).imp id (fun k => by omega)
    replace RB := RB.upd u3 hnr
    replace U := U.trans u3
    clear hF3 u3
    generalize (closeS s sh).1 = T at hK HL3 ⊢
    obtain ⟨to, tw, ⟨tk, ta, tv, tb⟩⟩ := T
    simp only [Trn.val]
    have q0 := (RB).cell 0 rfl
    have q1 := (RB).cell 1 rfl
    have q2 := (RB).cell 2 rfl
    have q3 := (RB).cell 3 rfl
    have q4 := (RB).cell 4 rfl
    have q5 := (RB).cell 5 rfl
    have q6 := (RB).cell 6 rfl
    have q7 := (RB).cell 7 rfl
    have g0 := (RB).free 0
    have g1 := (RB).free 1
    have g2 := (RB).free 2
    have g3 := (RB).free 3
    have g4 := (RB).free 4
    have g5 := (RB).free 5
    have g6 := (RB).free 6
    have g7 := (RB).free 7
    go_wp2_with fail
    exact bodyPost_ret (turn_results2 4 5 rfl _ _ _ (⟨to, tw, ⟨tk, ta, tv, tb⟩⟩ : Trn) (.int .i64 0) rfl rfl (turn_set RB rfl (⟨to, tw, ⟨tk, ta, tv, tb⟩⟩ : Trn))) rfl (hK _ _ (rcfin (Nat.le_refl _) HL3 U hF4 hn3 _ _ _ _ _ _ _ _))
  · have he : stepS s sh = ((lockS s sh).1, 0, (lockS s sh).2.1, (lockS s sh).2.2) := by unfold stepS; simp [hp]
    rw [he]
    clear he
    have ht : s.thn = 0 := by have := hM.thn; simp [validB, hp] at this; exact this
    have hf : s.found = 0 := hM.found (by omega) (by omega)
    have ha : s.at_ = 0 := hM.at0 (by omega) (by omega)
    refine calls_all fun K hK => ?_
    go_enter Try.func102, Try.ntmps102
    go_upto_region 3 with (fail)
    obtain ⟨W, hW⟩ : ∃ W, W = w.alloc (.cells turn0.toArray 36) := ⟨_, rfl⟩
    have RB : Blk W w.heap.size turn0 36 := by rw [hW]; exact Blk.new w _ _
    have HU : Upd [] w W := by rw [hW]; exact (Upd.refl _ _).alloc _
    simp only [turn0, trnNone, evNone, Trn.cells] at hW
    rw [← hW]
    clear hW
    have HL0 := hL.upd0 HU
    have U : Upd (b :: (F ++ Y.foot)) w W := HU.mono (by simp)
    have hzW : w.heap.size < W.heap.size := RB.lt
    have b3 : W.cell? ⟨b, 3, none⟩ = some (.int .i64 7) := by rw [← hp]; exact HL0.att.head.cell 3 rfl
    go_wp2_with fail
    clear b3
    refine ((rlock_code HL0 ht hf ha hM.even.1)).mono ?_
    rintro e w3 ⟨rfl, F3, ⟨acc3, rv3, wv3, HL3⟩, u3, hF3⟩
    have hn3 : w.heap.size ∉ b :: (F3 ++ Y.foot) := by
      simp only [List.mem_cons, List.mem_append, not_or] at hnr ⊢
      exact ⟨hnr.1, fun h => by rcases hF3 _ h with k | k; exact hnr.2.1 k; omega, hnr.2.2⟩
    have hF4 : ∀ g ∈ F3, g ∈ F ∨ w.heap.size ≤ g := fun g hg => (hF3 g hg).imp id (fun k => by omega)
    replace RB := RB.upd u3 hnr
    replace U := U.trans u3
    clear hF3 u3
    generalize (lockS s sh).1 = T at hK HL3 ⊢
    obtain ⟨to, tw, ⟨tk, ta, tv, tb⟩⟩ := T
    simp only [Trn.val]
    have q0 := (RB).cell 0 rfl
    have q1 := (RB).cell 1 rfl
    have q2 := (RB).cell 2 rfl
    have q3 := (RB).cell 3 rfl
    have q4 := (RB).cell 4 rfl
    have q5 := (RB).cell 5 rfl
    have q6 := (RB).cell 6 rfl
    have q7 := (RB).cell 7 rfl
    have g0 := (RB).free 0
    have g1 := (RB).free 1
    have g2 := (RB).free 2
    have g3 := (RB).free 3
    have g4 := (RB).free 4
    have g5 := (RB).free 5
    have g6 := (RB).free 6
    have g7 := (RB).free 7
    go_wp2_with fail
    exact bodyPost_ret (turn_results2 4 5 rfl _ _ _ (⟨to, tw, ⟨tk, ta, tv, tb⟩⟩ : Trn) (.int .i64 0) rfl rfl (turn_set RB rfl (⟨to, tw, ⟨tk, ta, tv, tb⟩⟩ : Trn))) rfl (hK _ _ (rcfin (Nat.le_refl _) HL3 U hF4 hn3 _ _ _ _ _ _ _ _))
  · have he : stepS s sh = ((storeS s sh).1, 0, (storeS s sh).2.1, (storeS s sh).2.2) := by unfold stepS; simp [hp]
    rw [he]
    clear he
    refine calls_all fun K hK => ?_
    go_enter Try.func102, Try.ntmps102
    go_upto_region 3 with (fail)
    obtain ⟨W, hW⟩ : ∃ W, W = w.alloc (.cells turn0.toArray 36) := ⟨_, rfl⟩
    have RB : Blk W w.heap.size turn0 36 := by rw [hW]; exact Blk.new w _ _
    have HU : Upd [] w W := by rw [hW]; exact (Upd.refl _ _).alloc _
    simp only [turn0, trnNone, evNone, Trn.cells] at hW
    rw [← hW]
    clear hW
    have HL0 := hL.upd0 HU
    have U : Upd (b :: (F ++ Y.foot)) w W := HU.mono (by simp)
    have hzW : w.heap.size < W.heap.size := RB.lt
    have b3 : W.cell? ⟨b, 3, none⟩ = some (.int .i64 8) := by rw [← hp]; exact HL0.att.head.cell 3 rfl
    go_wp2_with fail
    clear b3
    refine ((rstore_code HL0 hp (hM.at8 hp) hM.lenW)).mono ?_
    rintro e w3 ⟨rfl, F3, ⟨acc3, rv3, wv3, HL3⟩, u3, hF3⟩
    have hn3 : w.heap.size ∉ b :: (F3 ++ Y.foot) := by
      simp only [List.mem_cons, List.mem_append, not_or] at hnr ⊢
      exact ⟨hnr.1, fun h => by rcases hF3 _ h with k | k; exact hnr.2.1 k; omega, hnr.2.2⟩
    have hF4 : ∀ g ∈ F3, g ∈ F ∨ w.heap.size ≤ g := fun g hg => (hF3 g hg).imp id (fun k => by omega)
    replace RB := RB.upd u3 hnr
    replace U := U.trans u3
    clear hF3 u3
    generalize (storeS s sh).1 = T at hK HL3 ⊢
    obtain ⟨to, tw, ⟨tk, ta, tv, tb⟩⟩ := T
    simp only [Trn.val]
    have q0 := (RB).cell 0 rfl
    have q1 := (RB).cell 1 rfl
    have q2 := (RB).cell 2 rfl
    have q3 := (RB).cell 3 rfl
    have q4 := (RB).cell 4 rfl
    have q5 := (RB).cell 5 rfl
    have q6 := (RB).cell 6 rfl
    have q7 := (RB).cell 7 rfl
    have g0 := (RB).free 0
    have g1 := (RB).free 1
    have g2 := (RB).free 2
    have g3 := (RB).free 3
    have g4 := (RB).free 4
    have g5 := (RB).free 5
    have g6 := (RB).free 6
    have g7 := (RB).free 7
    go_wp2_with fail
    exact bodyPost_ret (turn_results2 4 5 rfl _ _ _ (⟨to, tw, ⟨tk, ta, tv, tb⟩⟩ : Trn) (.int .i64 0) rfl rfl (turn_set RB rfl (⟨to, tw, ⟨tk, ta, tv, tb⟩⟩ : Trn))) rfl (hK _ _ (rcfin (Nat.le_refl _) HL3 U hF4 hn3 _ _ _ _ _ _ _ _))
  · have he : stepS s sh = ((freeS s sh).1, 0, (freeS s sh).2.1, (freeS s sh).2.2) := by unfold stepS; simp [hp]
    rw [he]
    clear he
    refine calls_all fun K hK => ?_
    go_enter Try.func102, Try.ntmps102
    go_upto_region 3 with (fail)
    obtain ⟨W, hW⟩ : ∃ W, W = w.alloc (.cells turn0.toArray 36) := ⟨_, rfl⟩
    have RB : Blk W w.heap.size turn0 36 := by rw [hW]; exact Blk.new w _ _
    have HU : Upd [] w W := by rw [hW]; exact (Upd.refl _ _).alloc _
    simp only [turn0, trnNone, evNone, Trn.cells] at hW
    rw [← hW]
    clear hW
    have HL0 := hL.upd0 HU
    have U : Upd (b :: (F ++ Y.foot)) w W := HU.mono (by simp)
    have hzW : w.heap.size < W.heap.size := RB.lt
    have b3 : W.cell? ⟨b, 3, none⟩ = some (.int .i64 9) := by rw [← hp]; exact HL0.att.head.cell 3 rfl
    go_wp2_with fail
    clear b3
    refine ((rfree_code HL0 hp hM.even.1)).mono ?_
    rintro e w3 ⟨rfl, F3, ⟨acc3, rv3, wv3, HL3⟩, u3, hF3⟩
    have hn3 : w.heap.size ∉ b :: (F3 ++ Y.foot) := by
      simp only [List.mem_cons, List.mem_append, not_or] at hnr ⊢
      exact ⟨hnr.1, fun h => by rcases hF3 _ h with k | k; exact hnr.2.1 k; omega, hnr.2.2⟩
    have hF4 : ∀ g ∈ F3, g ∈ F ∨ w.heap.size ≤ g := fun g hg => (hF3 g hg).imp id (fun k => by omega)
    replace RB := RB.upd u3 hnr
    replace U := U.trans u3
    clear hF3 u3
    generalize (freeS s sh).1 = T at hK HL3 ⊢
    obtain ⟨to, tw, ⟨tk, ta, tv, tb⟩⟩ := T
    simp only [Trn.val]
    have q0 := (RB).cell 0 rfl
    have q1 := (RB).cell 1 rfl
    have q2 := (RB).cell 2 rfl
    have q3 := (RB).cell 3 rfl
    have q4 := (RB).cell 4 rfl
    have q5 := (RB).cell 5 rfl
    have q6 := (RB).cell 6 rfl
    have q7 := (RB).cell 7 rfl
    have g0 := (RB).free 0
    have g1 := (RB).free 1
    have g2 := (RB).free 2
    have g3 := (RB).free 3
    have g4 := (RB).free 4
    have g5 := (RB).free 5
    have g6 := (RB).free 6
    have g7 := (RB).free 7
    go_wp2_with fail
    exact bodyPost_ret (turn_results2 4 5 rfl _ _ _ (⟨to, tw, ⟨tk, ta, tv, tb⟩⟩ : Trn) (.int .i64 0) rfl rfl (turn_set RB rfl (⟨to, tw, ⟨tk, ta, tv, tb⟩⟩ : Trn))) rfl (hK _ _ (rcfin (Nat.le_refl _) HL3 U hF4 hn3 _ _ _ _ _ _ _ _))
  · have he : stepS s sh = (trnNone, 2, s, sh) := by unfold stepS; simp [hp]
    rw [he]
    clear he
    refine calls_all fun K hK => ?_
    go_enter Try.func102, Try.ntmps102
    go_upto_region 3 with (fail)
    obtain ⟨W, hW⟩ : ∃ W, W = w.alloc (.cells turn0.toArray 36) := ⟨_, rfl⟩
    have RB : Blk W w.heap.size turn0 36 := by rw [hW]; exact Blk.new w _ _
    have HU : Upd [] w W := by rw [hW]; exact (Upd.refl _ _).alloc _
    simp only [turn0, trnNone, evNone, Trn.cells] at hW
    rw [← hW]
    clear hW
    have HL0 := hL.upd0 HU
    have U : Upd (b :: (F ++ Y.foot)) w W := HU.mono (by simp)
    have hzW : w.heap.size < W.heap.size := RB.lt
    have b3 : W.cell? ⟨b, 3, none⟩ = some (.int .i64 10) := by rw [← hp]; exact HL0.att.head.cell 3 rfl
    have q0 := (RB).cell 0 rfl
    have q1 := (RB).cell 1 rfl
    have q2 := (RB).cell 2 rfl
    have q3 := (RB).cell 3 rfl
    have q4 := (RB).cell 4 rfl
    have q5 := (RB).cell 5 rfl
    have q6 := (RB).cell 6 rfl
    have q7 := (RB).cell 7 rfl
    have g0 := (RB).free 0
    have g1 := (RB).free 1
    have g2 := (RB).free 2
    have g3 := (RB).free 3
    have g4 := (RB).free 4
    have g5 := (RB).free 5
    have g6 := (RB).free 6
    have g7 := (RB).free 7
    go_wp2_with fail
    exact bodyPost_ret (turn_results2 4 5 rfl _ _ _ trnNone (.int .i64 2) rfl rfl (turn_set RB rfl trnNone)) rfl (hK _ _ (rcfin (Nat.le_refl _) HL0 U (fun g hg => .inl hg) hnr _ _ _ _ _ _ _ _))
end
end Go.Proofs.Ythfeljongackcaa
set_option linter.unusedSimpArgs false
set_option linter.unusedVariables false
set_option maxRecDepth 100000
namespace Go.Proofs.Ythfeljongackcaa
open Go.RowKit
open Go.Maps
-- behind a call to going: the turn is stored
-- the end: the turn T is stored
-- a store into the attempt's block, kept up in RB, U
-- a step was called: its turn goes on to the result (slots K, M)
-- the end: the turn T and a number are stored
section
variable {w : World} {Y : RX} {sh : Sh} {acc : Int} {b : Nat} {s : AS} {F : List Nat} {rv wv : Value}
set_option maxHeartbeats 2000000 in
theorem rget_code (hL : RLive w Y sh acc b s F rv wv) (hM : May s) (x : Int) (hx : 0 ≤ x ∧ x < 18446744073709551616) :
    Calls Try.prog 98 #[.pointer (some ⟨b, 0, none⟩), .pointer (some ⟨Y.wb, 0, none⟩), .int .u64 x] w (RCall w Y b F (getS s sh x).1 (getS s sh x).2.1 (getS s sh x).2.2 sh) := by
  have la := hL.lt
  have lx := hL.sh.lt
  have hnr : w.heap.size ∉ b :: (F ++ Y.foot) := by
    simp only [List.mem_cons, List.mem_append, not_or]
    exact ⟨by omega, fun h => Nat.lt_irrefl _ (hL.sep _ h).1, fun h => Nat.lt_irrefl _ (lx _ h)⟩
  have hwb : b ≠ Y.wb := fun e => hL.out (by simp [RX.foot, e])
  have lb0 : b ≠ w.heap.size := by omega
  have lw0 : Y.wb ≠ w.heap.size := by have := lx Y.wb (by simp [RX.foot]); omega
  obtain ⟨p1, c1, rfl⟩ := hL.att.rd.form
  obtain ⟨p2, c2, rfl⟩ := hL.att.wr.form
  by_cases hp : s.phase = 1
  · cases hpl : place s.writes x with
    | some k =>
      obtain ⟨hk, u, hku⟩ := place_some hpl
      have he : getS s sh x = (⟨2, u, ⟨2, x, u, true⟩⟩, 0, s) := by unfold getS; rw [if_neg (by simp [hp]), hpl]; simp [List.getD, hku]
      rw [he]
      have hpi : placeI s.writes x = k := by unfold placeI; rw [hpl]
      have HPI := Lib.hid hpi
      have hd : decide ((0 : Int) ≤ (k : Int)) = true := by simp
      have hk' : (k : Int) < (s.writes.length : Int) := by omega
      clear he hpl hpi
      refine calls_all fun K hK => ?_
      go_enter Try.func98, Try.ntmps98
      go_upto_region 3 with (fail)
      obtain ⟨W, hW⟩ : ∃ W, W = w.alloc (.cells turn0.toArray 36) := ⟨_, rfl⟩
      have RB : Blk W w.heap.size turn0 36 := by rw [hW]; exact Blk.new w _ _
      have HU : Upd [] w W := by rw [hW]; exact (Upd.refl _ _).alloc _
      simp only [turn0, trnNone, evNone, Trn.cells] at hW
      rw [← hW]
      clear hW
      have HL0 := hL.upd0 HU
      have U : Upd (b :: (F ++ Y.foot)) w W := HU.mono (by simp)
      have hzW : w.heap.size < W.heap.size := RB.lt
      have b3 := HL0.att.head.cell 3 rfl
      have b2 := HL0.att.head.cell 2 rfl
      have b1 := HL0.att.head.cell 1 rfl
      have a0 := HL0.sh.wld.cell 0 rfl
      have b5 := HL0.att.head.cell 5 rfl
      have f5 := HL0.att.head.free 5
      rw [hp] at b3
      go_wp2_with fail
      refine (rwritten W _ s.writes x HL0.att.wr.slc (by have := hM.lenW; omega)).mono ?_
      rintro e w' ⟨rfl, rfl⟩
      rw [HPI.out]
      obtain ⟨p, cap, hv, hcl⟩ := HL0.att.wr.slc
      obtain ⟨g, o, rfl, k0, k1⟩ := hcl k x u hku
      have hv2 : p2 = some ⟨g, o, none⟩ := by simpa using (Value.slice.inj hv).1
      subst hv2
      clear hv hcl hku
      have q0 := (RB).cell 0 rfl
      have q1 := (RB).cell 1 rfl
      have q2 := (RB).cell 2 rfl
      have q3 := (RB).cell 3 rfl
      have q4 := (RB).cell 4 rfl
      have q5 := (RB).cell 5 rfl
      have q6 := (RB).cell 6 rfl
      have q7 := (RB).cell 7 rfl
      have g0 := (RB).free 0
      have g1 := (RB).free 1
      have g2 := (RB).free 2
      have g3 := (RB).free 3
      have g4 := (RB).free 4
      have g5 := (RB).free 5
      have g6 := (RB).free 6
      have g7 := (RB).free 7
      go_wp2_with fail
      exact bodyPost_ret (turn_results2 6 7 rfl _ _ _ (⟨2, u, ⟨2, x, u, true⟩⟩ : Trn) (.int .i64 0) rfl rfl (turn_set RB rfl (⟨2, u, ⟨2, x, u, true⟩⟩ : Trn))) rfl (hK _ _ (rcfin (Nat.le_refl _) HL0 U (fun g hg => .inl hg) hnr _ _ _ _ _ _ _ _))
    | none =>
      have hpi : placeI s.writes x = -1 := by unfold placeI; rw [hpl]
      have HPI := Lib.hid hpi
      by_cases hin : x < sh.row.length
      · have hd : decide (x < (sh.row.length : Int)) = true := by simpa using hin
        by_cases hf : 1024 ≤ s.reads.length
        · have he : getS s sh x = (trnNone, 5, s) := by unfold getS; rw [if_neg (by simp [hp]), hpl]; simp only; rw [if_neg (by simpa using hin), if_pos hf]
          rw [he]
          have hd2 : decide ((1024 : Int) ≤ (s.reads.length : Int)) = true := by simp; omega
          have hd3 : decide (1024 ≤ s.reads.length) = true := by simpa using hf
          clear he hpl hpi
          refine calls_all fun K hK => ?_
          go_enter Try.func98, Try.ntmps98
          go_upto_region 3 with (fail)
          obtain ⟨W, hW⟩ : ∃ W, W = w.alloc (.cells turn0.toArray 36) := ⟨_, rfl⟩
          have RB : Blk W w.heap.size turn0 36 := by rw [hW]; exact Blk.new w _ _
          have HU : Upd [] w W := by rw [hW]; exact (Upd.refl _ _).alloc _
          simp only [turn0, trnNone, evNone, Trn.cells] at hW
          rw [← hW]
          clear hW
          have HL0 := hL.upd0 HU
          have U : Upd (b :: (F ++ Y.foot)) w W := HU.mono (by simp)
          have hzW : w.heap.size < W.heap.size := RB.lt
          have b3 := HL0.att.head.cell 3 rfl
          have b2 := HL0.att.head.cell 2 rfl
          have b1 := HL0.att.head.cell 1 rfl
          have a0 := HL0.sh.wld.cell 0 rfl
          have b5 := HL0.att.head.cell 5 rfl
          have f5 := HL0.att.head.free 5
          rw [hp] at b3
          go_wp2_with fail
          refine (rwritten W _ s.writes x HL0.att.wr.slc (by have := hM.lenW; omega)).mono ?_
          rintro e w' ⟨rfl, rfl⟩
          rw [HPI.out]
          go_wp2_with fail
          refine (rhas_any HL0.sh.row x).mono ?_
          rintro e w' ⟨rfl, rfl⟩
          have q0 := (RB).cell 0 rfl
          have q1 := (RB).cell 1 rfl
          have q2 := (RB).cell 2 rfl
          have q3 := (RB).cell 3 rfl
          have q4 := (RB).cell 4 rfl
          have q5 := (RB).cell 5 rfl
          have q6 := (RB).cell 6 rfl
          have q7 := (RB).cell 7 rfl
          have g0 := (RB).free 0
          have g1 := (RB).free 1
          have g2 := (RB).free 2
          have g3 := (RB).free 3
          have g4 := (RB).free 4
          have g5 := (RB).free 5
          have g6 := (RB).free 6
          have g7 := (RB).free 7
          go_wp2_with fail
          exact bodyPost_ret (turn_results2 6 7 rfl _ _ _ trnNone (.int .i64 5) rfl rfl (turn_set RB rfl trnNone)) rfl (hK _ _ (rcfin (Nat.le_refl _) HL0 U (fun g hg => .inl hg) hnr _ _ _ _ _ _ _ _))
        · have he : getS s sh x = ((loadS { s with addr := x } sh).1, 0, (loadS { s with addr := x } sh).2) := by unfold getS; rw [if_neg (by simp [hp]), hpl]; simp only; rw [if_neg (by simpa using hin), if_neg hf]
          rw [he]
          have hd2 : decide ((1024 : Int) ≤ (s.reads.length : Int)) = false := by simp; omega
          have hd3 : decide (1024 ≤ s.reads.length) = false := by simpa using hf
          have ht : s.thn = 0 := by have := hM.thn; simp [validB, hp] at this; exact this
          have hfo : s.found = 0 := hM.found (by omega) (by omega)
          clear he hpl hpi
          refine calls_all fun K hK => ?_
          go_enter Try.func98, Try.ntmps98
          go_upto_region 3 with (fail)
          obtain ⟨W, hW⟩ : ∃ W, W = w.alloc (.cells turn0.toArray 36) := ⟨_, rfl⟩
          have RB : Blk W w.heap.size turn0 36 := by rw [hW]; exact Blk.new w _ _
          have HU : Upd [] w W := by rw [hW]; exact (Upd.refl _ _).alloc _
          simp only [turn0, trnNone, evNone, Trn.cells] at hW
          rw [← hW]
          clear hW
          have HL0 := hL.upd0 HU
          have U : Upd (b :: (F ++ Y.foot)) w W := HU.mono (by simp)
          have hzW : w.heap.size < W.heap.size := RB.lt
          have b3 := HL0.att.head.cell 3 rfl
          have b2 := HL0.att.head.cell 2 rfl
          have b1 := HL0.att.head.cell 1 rfl
          have a0 := HL0.sh.wld.cell 0 rfl
          have b5 := HL0.att.head.cell 5 rfl
          have f5 := HL0.att.head.free 5
          rw [hp] at b3
          go_wp2_with fail
          refine (rwritten W _ s.writes x HL0.att.wr.slc (by have := hM.lenW; omega)).mono ?_
          rintro e w' ⟨rfl, rfl⟩
          rw [HPI.out]
          go_wp2_with fail
          refine (rhas_any HL0.sh.row x).mono ?_
          rintro e w' ⟨rfl, rfl⟩
          go_wp2_with fail
          clear b1 b2 b3 b5 f5 a0
          have HL1 := HL0.setAddr x hx
          replace RB := RB.other ⟨b, 5, none⟩ (.int .u64 x) (Ne.symm lb0)
          replace U := U.setCell (p := ⟨b, 5, none⟩) (.inl (by simp)) (.int .u64 x)
          have hzW : w.heap.size < (W.setCell ⟨b, 5, none⟩ (.int .u64 x)).heap.size := RB.lt
          refine ((rload_code HL1 ht hfo)).mono ?_
          rintro e w3 ⟨rfl, F3, ⟨acc3, rv3, wv3, HL3⟩, u3, hF3⟩
          have hn3 : w.heap.size ∉ b :: (F3 ++ Y.foot) := by
            simp only [List.mem_cons, List.mem_append, not_or] at hnr ⊢
            exact ⟨hnr.1, fun h => by rcases hF3 _ h with k | k; exact hnr.2.1 k; omega, hnr.2.2⟩
          have hF4 : ∀ g ∈ F3, g ∈ F ∨ w.heap.size ≤ g := fun g hg => (hF3 g hg).imp id (fun k => by omega)
          replace RB := RB.upd u3 hnr
          replace U := U.trans u3
          clear hF3 u3
          generalize (loadS { s with addr := x } sh).1 = T at hK HL3 ⊢
          obtain ⟨to, tw, ⟨tk, ta, tv, tb⟩⟩ := T
          simp only [Trn.val]
          have q0 := (RB).cell 0 rfl
          have q1 := (RB).cell 1 rfl
          have q2 := (RB).cell 2 rfl
          have q3 := (RB).cell 3 rfl
          have q4 := (RB).cell 4 rfl
          have q5 := (RB).cell 5 rfl
          have q6 := (RB).cell 6 rfl
          have q7 := (RB).cell 7 rfl
          have g0 := (RB).free 0
          have g1 := (RB).free 1
          have g2 := (RB).free 2
          have g3 := (RB).free 3
          have g4 := (RB).free 4
          have g5 := (RB).free 5
          have g6 := (RB).free 6
          have g7 := (RB).free 7
          go_wp2_with fail
          exact bodyPost_ret (turn_results2 6 7 rfl _ _ _ (⟨to, tw, ⟨tk, ta, tv, tb⟩⟩ : Trn) (.int .i64 0) rfl rfl (turn_set RB rfl (⟨to, tw, ⟨tk, ta, tv, tb⟩⟩ : Trn))) rfl (hK _ _ (rcfin (Nat.le_refl _) HL3 U hF4 hn3 _ _ _ _ _ _ _ _))
      · have he : getS s sh x = (trnNone, 4, s) := by unfold getS; rw [if_neg (by simp [hp]), hpl]; simp only; rw [if_pos (by simpa using hin)]
        rw [he]
        have hd : decide (x < (sh.row.length : Int)) = false := by simpa using hin
        clear he hpl hpi
        refine calls_all fun K hK => ?_
        go_enter Try.func98, Try.ntmps98
        go_upto_region 3 with (fail)
        obtain ⟨W, hW⟩ : ∃ W, W = w.alloc (.cells turn0.toArray 36) := ⟨_, rfl⟩
        have RB : Blk W w.heap.size turn0 36 := by rw [hW]; exact Blk.new w _ _
        have HU : Upd [] w W := by rw [hW]; exact (Upd.refl _ _).alloc _
        simp only [turn0, trnNone, evNone, Trn.cells] at hW
        rw [← hW]
        clear hW
        have HL0 := hL.upd0 HU
        have U : Upd (b :: (F ++ Y.foot)) w W := HU.mono (by simp)
        have hzW : w.heap.size < W.heap.size := RB.lt
        have b3 := HL0.att.head.cell 3 rfl
        have b2 := HL0.att.head.cell 2 rfl
        have b1 := HL0.att.head.cell 1 rfl
        have a0 := HL0.sh.wld.cell 0 rfl
        have b5 := HL0.att.head.cell 5 rfl
        have f5 := HL0.att.head.free 5
        rw [hp] at b3
        go_wp2_with fail
        refine (rwritten W _ s.writes x HL0.att.wr.slc (by have := hM.lenW; omega)).mono ?_
        rintro e w' ⟨rfl, rfl⟩
        rw [HPI.out]
        go_wp2_with fail
        refine (rhas_any HL0.sh.row x).mono ?_
        rintro e w' ⟨rfl, rfl⟩
        have q0 := (RB).cell 0 rfl
        have q1 := (RB).cell 1 rfl
        have q2 := (RB).cell 2 rfl
        have q3 := (RB).cell 3 rfl
        have q4 := (RB).cell 4 rfl
        have q5 := (RB).cell 5 rfl
        have q6 := (RB).cell 6 rfl
        have q7 := (RB).cell 7 rfl
        have g0 := (RB).free 0
        have g1 := (RB).free 1
        have g2 := (RB).free 2
        have g3 := (RB).free 3
        have g4 := (RB).free 4
        have g5 := (RB).free 5
        have g6 := (RB).free 6
        have g7 := (RB).free 7
        go_wp2_with fail
        exact bodyPost_ret (turn_results2 6 7 rfl _ _ _ trnNone (.int .i64 4) rfl rfl (turn_set RB rfl trnNone)) rfl (hK _ _ (rcfin (Nat.le_refl _) HL0 U (fun g hg => .inl hg) hnr _ _ _ _ _ _ _ _))
  · have he : getS s sh x = (trnNone, 2, s) := by unfold getS; rw [if_pos hp]
    rw [he]
    have hne : (s.phase != 1) = true := by simpa using hp
    clear he
    refine calls_all fun K hK => ?_
    go_enter Try.func98, Try.ntmps98
    go_upto_region 3 with (fail)
    obtain ⟨W, hW⟩ : ∃ W, W = w.alloc (.cells turn0.toArray 36) := ⟨_, rfl⟩
    have RB : Blk W w.heap.size turn0 36 := by rw [hW]; exact Blk.new w _ _
    have HU : Upd [] w W := by rw [hW]; exact (Upd.refl _ _).alloc _
    simp only [turn0, trnNone, evNone, Trn.cells] at hW
    rw [← hW]
    clear hW
    have HL0 := hL.upd0 HU
    have U : Upd (b :: (F ++ Y.foot)) w W := HU.mono (by simp)
    have hzW : w.heap.size < W.heap.size := RB.lt
    have b3 := HL0.att.head.cell 3 rfl
    have b2 := HL0.att.head.cell 2 rfl
    have b1 := HL0.att.head.cell 1 rfl
    have a0 := HL0.sh.wld.cell 0 rfl
    have b5 := HL0.att.head.cell 5 rfl
    have f5 := HL0.att.head.free 5
    have q0 := (RB).cell 0 rfl
    have q1 := (RB).cell 1 rfl
    have q2 := (RB).cell 2 rfl
    have q3 := (RB).cell 3 rfl
    have q4 := (RB).cell 4 rfl
    have q5 := (RB).cell 5 rfl
    have q6 := (RB).cell 6 rfl
    have q7 := (RB).cell 7 rfl
    have g0 := (RB).free 0
    have g1 := (RB).free 1
    have g2 := (RB).free 2
    have g3 := (RB).free 3
    have g4 := (RB).free 4
    have g5 := (RB).free 5
    have g6 := (RB).free 6
    have g7 := (RB).free 7
    go_wp2_with fail
    exact bodyPost_ret (turn_results2 6 7 rfl _ _ _ trnNone (.int .i64 2) rfl rfl (turn_set RB rfl trnNone)) rfl (hK _ _ (rcfin (Nat.le_refl _) HL0 U (fun g hg => .inl hg) hnr _ _ _ _ _ _ _ _))
end
end Go.Proofs.Ythfeljongackcaa
