/- An attempt's steps, the fourth part: check, store. No conditions but what the phase says. Plain laws of a redo log: what the stores leave, what is looked up. No conditions. -/
import Derived.Test.YthfeljongackcaaT1p05
import Derived.Test.YthfeljongackcaaT1p00
set_option linter.unusedSimpArgs false
set_option linter.unusedVariables false
set_option maxRecDepth 100000
namespace Go.Proofs.Ythfeljongackcaa
open Go.RowKit
open Go.Maps
section
variable {w : World} {X : SX} {sh : Sh} {acc st : Int} {a : Nat} {s : AS} {F : List Nat} {rv wv mv : Value}

-- the cell at a place of a log (cell N of the attempt) is copied into a block of its own (w.heap.size + 1)
-- the row is asked for that cell's word: E the answer

-- the place goes on by one
set_option maxHeartbeats 1000000 in
theorem check_code (hL : Live w X sh acc st a s F rv wv mv) (hp : s.phase ≠ 10) (j : Nat) (hj : Hid (s.at_ = j)) (x v : Int) (hx : s.reads[j]? = some (x, v)) (hl : s.reads.length ≤ 1024) :
    Calls Try.prog 81 #[.pointer (some ⟨a, 0, none⟩)] w (StepOk w X acc st a F (checkS s sh).1 (checkS s sh).2 sh) := by
  have la := hL.lt
  have no := hL.out
  simp only [SX.foot, List.mem_cons, List.not_mem_nil, or_false, not_or] at no
  have lx := hL.sh.lt
  have l1 := lx X.ra (by simp [SX.foot])
  have l2 := lx X.rb (by simp [SX.foot])
  have l3 := lx X.ca (by simp [SX.foot])
  have l4 := lx X.cr (by simp [SX.foot])
  have l5 := lx X.cb (by simp [SX.foot])
  have hjl : j < s.reads.length := by
    by_cases h : j < s.reads.length
    · exact h
    · rw [List.getElem?_eq_none (by omega)] at hx; cases hx
  have hjl' : (j : Int) < (s.reads.length : Int) := by omega
  have hwx := hL.wide.reads _ (List.mem_of_getElem? hx)
  obtain ⟨g, cap, sp, rfl, hcap, GB, hgF⟩ := hL.att.rd.open (by intro e; rw [e] at hjl; simp at hjl)
  obtain ⟨hx0', hx1'⟩ := pcells_get s.reads j x v hx
  have hx0 : (pcells s.reads ++ sp)[j * 2]? = some (.int .u64 x) := by rw [List.getElem?_append_left (by rw [pcells_len]; omega)]; exact hx0'
  have hx1 : (pcells s.reads ++ sp)[j * 2 + 1]? = some (.int .u64 v) := by rw [List.getElem?_append_left (by rw [pcells_len]; omega)]; exact hx1'
  clear hx0' hx1'
  have hga : g < w.heap.size := GB.lt
  by_cases hit : x < sh.row.length ∧ wd sh.row x.toNat = v
  · have HV : Hid (rLoad sh.row x = (v, 0)) := Lib.hid (by unfold rLoad; rw [if_pos hit.1, hit.2])
    have hvv : (v != v) = false := by simp
    have HE : Hid (checkS s sh = (going, if (j : Int) + 1 = (s.reads.length : Int) then { s with at_ := 0, phase := 6 } else { s with at_ := (j : Int) + 1 })) := Lib.hid (by
      unfold checkS
      rw [hj.out, Int.toNat_natCast, hx]
      simp only
      rw [if_pos hit])
    clear hit
    refine calls_all fun K hK => ?_
    go_enter Try.func81, Try.ntmps81
    go_wp2_with fail
    obtain ⟨W, hW⟩ : ∃ W, W = w.alloc (.cells turn0.toArray 36) := ⟨_, rfl⟩
    have RB : Blk W w.heap.size turn0 36 := by rw [hW]; exact Blk.new w _ _
    have HU : Upd [] w W := by rw [hW]; exact (Upd.refl _ _).alloc _
    have hWs : W.heap.size = w.heap.size + 1 := by rw [hW]; exact World.size_alloc _ _
    simp only [turn0, trnNone, evNone, Trn.cells] at hW
    rw [← hW]
    clear hW
    have hL1 := hL.upd0 HU
    have b3 := hL1.att.head.cell 3 rfl
    have b10 : W.cell? ⟨a, 10, none⟩ = some (.int .i64 (j : Int)) := by rw [← hj.out]; exact hL1.att.head.cell 10 rfl
    have GB1 := GB.upd HU (by simp)
    have e0 := GB1.cell (j * 2) hx0
    have e1 := GB1.cell (j * 2 + 1) hx1
    refine wp_region_eff (fun w' => w'.cell? ⟨a, 3, none⟩ = some (.slice (some ⟨g, 0, none⟩) s.reads.length cap) ∧ w'.cell? ⟨a, 10, none⟩ = some (.int .i64 (j : Int)) ∧ w'.cell? ⟨g, j * 2, none⟩ = some (.int .u64 x) ∧ w'.cell? ⟨g, j * 2 + 1, none⟩ = some (.int .u64 v)) 14 (by kernel_rfl) (by kernel_rfl) ⟨b3, b10, e0, e1⟩ ?_
    repeat
      refine wpE_take (v := ?_) (by decide) rfl (by rfl) ?_ ?_
      rotate_left 1
      · ((intro w hSw; (try dsimp only at hSw); go_simp); try with_reducible rfl)
      try simp only [Act.put, List.setIfInBounds_toArray, List.set_cons_zero, List.set_cons_succ]
    refine wpE_eff (by decide) rfl (by kernel_rfl) (by rfl) (fun K2 hK2 => ?_)
    go_simp
    obtain ⟨W2, hW2⟩ : ∃ W2, W2 = (W.alloc (.cells #[.int .u64 0, .int .u64 0] 53)).drew := ⟨_, rfl⟩
    have CB : Blk W2 (w.heap.size + 1) [.int .u64 0, .int .u64 0] 53 := by rw [hW2, ← hWs]; exact (Blk.new W _ _).drew
    have u2 : Upd [] W W2 := by rw [hW2]; exact ((Upd.refl [] _).alloc _).drew
    rw [← hW2]
    clear hW2
    have GB2 := GB1.upd u2 (by simp)
    have hL3 := hL1.upd0 u2
    have b10' : W2.cell? ⟨a, 10, none⟩ = some (.int .i64 (j : Int)) := by rw [← hj.out]; exact hL3.att.head.cell 10 rfl
    refine hK2.out _ _ ⟨hL3.att.head.cell 3 rfl, b10', GB2.cell (j * 2) hx0, GB2.cell (j * 2 + 1) hx1⟩ ?_
    clear hK2 K2
    repeat
      refine wpE_take (v := ?_) (by decide) rfl (by rfl) ?_ ?_
      rotate_left 1
      · ((intro w hSw; (try dsimp only at hSw); go_simp); try with_reducible rfl)
      try simp only [Act.put, List.setIfInBounds_toArray, List.set_cons_zero, List.set_cons_succ]
    have k0 := CB.cell 0 rfl
    have k1 := CB.cell 1 rfl
    have j0 := CB.free 0
    have j1 := CB.free 1
    refine wpE_eff (by decide) rfl (by kernel_rfl) (by rfl) (fun K2 hK2 => ?_)
    go_simp
    have u3 : Upd [w.heap.size + 1] W2 ((W2.setCell ⟨w.heap.size + 1, 0, none⟩ (.int .u64 x)).setCell ⟨w.heap.size + 1, 1, none⟩ (.int .u64 v)) := ((Upd.refl _ _).setCell (.inl (by simp)) _).setCell (.inl (by simp)) _
    have CB2 := (CB.set 0 (.int .u64 x)).set 1 (.int .u64 v)
    have hL4 := hL1.upd1 (b := w.heap.size + 1) ((u2.mono (by simp)).trans u3) (by omega)
    have GB4 := GB2.upd u3 (by simp; omega)
    have b10 : ((W2.setCell ⟨w.heap.size + 1, 0, none⟩ (.int .u64 x)).setCell ⟨w.heap.size + 1, 1, none⟩ (.int .u64 v)).cell? ⟨a, 10, none⟩ = some (.int .i64 (j : Int)) := by rw [← hj.out]; exact hL4.att.head.cell 10 rfl
    refine hK2.out _ _ ⟨hL4.att.head.cell 3 rfl, b10, GB4.cell (j * 2) hx0, GB4.cell (j * 2 + 1) hx1⟩ ?_
    refine wpE_end (NoPanic.normal ?_)
    have RB4 := (RB.upd u2 (by simp)).upd u3 (by simp)
    have U4 : Upd [] w _ := (HU.trans u2).tr u3 (fun _ h => .inl h) (fun x hx => .inr (by simp at hx; omega))
    clear hK2 K2 k0 k1 j0 j1 b3 b10' CB hL3 u2 u3 RB GB1 GB2 e0 e1 hL1 HU
    generalize (W2.setCell ⟨w.heap.size + 1, 0, none⟩ (.int .u64 x)).setCell ⟨w.heap.size + 1, 1, none⟩ (.int .u64 v) = W3 at CB2 hL4 RB4 U4 GB4 b10 ⊢
    have a0 := hL4.att.head.cell 0 rfl
    have c0 := CB2.cell 0 rfl
    have c1 := CB2.cell 1 rfl
    go_wp2_with fail
    refine wp_region_eff (fun w' => w'.cell? ⟨a, 0, none⟩ = some (.pointer (some ⟨X.ra, 0, none⟩)) ∧ w'.cell? ⟨w.heap.size + 1, 0, none⟩ = some (.int .u64 x)) 12 (by kernel_rfl) (by kernel_rfl) ⟨a0, c0⟩ ?_
    repeat
      refine wpE_take (v := ?_) (by decide) rfl (by rfl) ?_ ?_
      rotate_left 1
      · ((intro w hSw; (try dsimp only at hSw); go_simp); try with_reducible rfl)
      try simp only [Act.put, List.setIfInBounds_toArray, List.set_cons_zero, List.set_cons_succ]
    refine wpE_eff (by decide) rfl (by kernel_rfl) (by rfl) (fun K2 hK2 => ?_)
    go_simp
    refine (load_is (hL4.sh.row.upd (Upd.refl [] _).drew (by simp) (by simp)) x v 0 _ hwx.1.1 HV.out rfl).mono ?_
    rintro e w1 ⟨rfl, r1, u1⟩
    have hA1 := (hL4.att.upd (Upd.refl [] _).drew (by simp) (by simp)).upd u1 (by simp; omega) (fun g hg => by have := (hL.sep g hg).2.1; simp [SX.foot] at this; simp; omega)
    have CB5 := CB2.drew.upd u1 (by simp; omega)
    refine hK2.out _ _ ⟨hA1.head.cell 0 rfl, CB5.cell 0 rfl⟩ ?_
    clear hK2 K2
    repeat
      refine wpE_take (v := ?_) (by decide) rfl (by rfl) ?_ ?_
      rotate_left 1
      · ((intro w hSw; (try dsimp only at hSw); go_simp); try with_reducible rfl)
      try simp only [Act.put, List.setIfInBounds_toArray, List.set_cons_zero, List.set_cons_succ]
    refine wpE_end (NoPanic.normal ?_)
    have U5 : Upd [a, X.ra, X.rb] w w1 := (U4.mono (by simp)).trans ((Upd.refl [] _).drew.mono (by simp) |>.trans (u1.mono (by simp)))
    have hL5 := hL.row U5 hA1 r1 hL.sh.wide.row hL.wide
    have RB5 := RB4.drew.upd u1 (by simp; omega)
    clear a0 c0 c1 u1 r1 hA1 CB2 hL4 RB4 U4
    have c1 := CB5.cell 1 rfl
    have d10 : w1.cell? ⟨a, 10, none⟩ = some (.int .i64 (j : Int)) := by rw [← hj.out]; exact hL5.att.head.cell 10 rfl
    have f10 := hL5.att.head.free 10
    go_wp2_with fail
    have uw : Upd [a] w1 (w1.setCell ⟨a, 10, none⟩ (.int .i64 ((j : Int) + 1))) := (Upd.refl _ _).setCell (.inl (by simp)) _
    have hL6 := hL5.phase (hL5.att.setAt ((j : Int) + 1)) uw ⟨hL.wide.snap, hL.wide.reads, hL.wide.writes, hL.wide.addr, hL.wide.word, hL.wide.found⟩
    have RB6 := RB5.upd uw (by simp; omega)
    have U6 : Upd (a :: (F ++ X.foot)) w _ := (U5.mono (fun x hx => .inl (foot_row (F := F) x hx))).trans (uw.mono (by simp))
    clear uw d10 f10 hL5 RB5 U5 CB5 c1
    generalize w1.setCell ⟨a, 10, none⟩ (.int .i64 ((j : Int) + 1)) = W7 at hL6 RB6 U6 ⊢
    have b10 := hL6.att.head.cell 10 rfl
    have b3 := hL6.att.head.cell 3 rfl
    refine wp_region_eff (fun w' => w'.cell? ⟨a, 10, none⟩ = some (.int .i64 ((j : Int) + 1)) ∧ w'.cell? ⟨a, 3, none⟩ = some (.slice (some ⟨g, 0, none⟩) s.reads.length cap)) 12 (by kernel_rfl) (by kernel_rfl) ⟨b10, b3⟩ ?_
    repeat
      refine wpE_take (v := ?_) (by decide) rfl (by rfl) ?_ ?_
      rotate_left 1
      · ((intro w hSw; (try dsimp only at hSw); go_simp); try with_reducible rfl)
      try simp only [Act.put, List.setIfInBounds_toArray, List.set_cons_zero, List.set_cons_succ]
    refine wpE_end (NoPanic.normal ?_)
    have hL7 := hL6.upd0 (Upd.refl [] _).drew
    have RB7 := RB6.drew
    have U7 := U6.trans ((Upd.refl [] _).drew.mono (T := a :: (F ++ X.foot)) (by simp))
    clear b10 b3 hL6 RB6 U6
    by_cases hend : (j : Int) + 1 = (s.reads.length : Int)
    · have hq : ((j : Int) + 1 == (s.reads.length : Int)) = true := by simpa using hend
      rw [if_pos hend] at HE
      generalize W7.drew = W8 at hL7 RB7 U7 ⊢
      have d10 := hL7.att.head.cell 10 rfl
      have f10 := hL7.att.head.free 10
      have d5 := hL7.att.head.cell 5 rfl
      have f5 := hL7.att.head.free 5
      clear hend
      have uw : Upd [a] W8 ((W8.setCell ⟨a, 10, none⟩ (.int .i64 0)).setCell ⟨a, 5, none⟩ (.int .i64 6)) := ((Upd.refl _ _).setCell (.inl (by simp)) _).setCell (.inl (by simp)) _
      have HL8 := hL7.phase ((hL7.att.setAt 0).setPhase 6 hp) uw ⟨hL.wide.snap, hL.wide.reads, hL.wide.writes, hL.wide.addr, hL.wide.word, hL.wide.found⟩
      have RB8 := RB7.upd uw (by simp; omega)
      have U8 := U7.trans (uw.mono (T := a :: (F ++ X.foot)) (by simp))
      rw [HE.out] at hK
      clear uw HE
      go_wp2_with fail
      refine (going_code _).mono ?_
      rintro e w2 ⟨rfl, u2⟩
      simp only [Trn.val, going, evNone]
      have HL2 := (HL8).upd0 u2
      have RB2 := (RB8).upd u2 (by simp)
      have U2 := (U8).trans (u2.mono (by simp))
      have q0 := (RB2).cell 0 rfl
      have q1 := (RB2).cell 1 rfl
      have q2 := (RB2).cell 2 rfl
      have q3 := (RB2).cell 3 rfl
      have q4 := (RB2).cell 4 rfl
      have q5 := (RB2).cell 5 rfl
      have q6 := (RB2).cell 6 rfl
      have q7 := (RB2).cell 7 rfl
      have g0 := (RB2).free 0
      have g1 := (RB2).free 1
      have g2 := (RB2).free 2
      have g3 := (RB2).free 3
      have g4 := (RB2).free 4
      have g5 := (RB2).free 5
      have g6 := (RB2).free 6
      have g7 := (RB2).free 7
      go_wp2_with fail
      exact bodyPost_ret (turn_results 2 rfl _ _ _ going rfl (turn_set RB2 rfl going)) rfl (hK _ _ (fin_step hL (Nat.le_refl _) HL2 U2 (fun g hg => .inl hg) (.inr (.inl ⟨rfl, rfl⟩)) _ _ _ _ _ _ _ _))
    · have hq : ((j : Int) + 1 == (s.reads.length : Int)) = false := by simpa using hend
      rw [if_neg hend] at HE
      generalize W7.drew = W8 at hL7 RB7 U7 ⊢
      rw [HE.out] at hK
      clear hend HE
      go_wp2_with fail
      refine (going_code _).mono ?_
      rintro e w2 ⟨rfl, u2⟩
      simp only [Trn.val, going, evNone]
      have HL2 := (hL7).upd0 u2
      have RB2 := (RB7).upd u2 (by simp)
      have U2 := (U7).trans (u2.mono (by simp))
      have q0 := (RB2).cell 0 rfl
      have q1 := (RB2).cell 1 rfl
      have q2 := (RB2).cell 2 rfl
      have q3 := (RB2).cell 3 rfl
      have q4 := (RB2).cell 4 rfl
      have q5 := (RB2).cell 5 rfl
      have q6 := (RB2).cell 6 rfl
      have q7 := (RB2).cell 7 rfl
      have g0 := (RB2).free 0
      have g1 := (RB2).free 1
      have g2 := (RB2).free 2
      have g3 := (RB2).free 3
      have g4 := (RB2).free 4
      have g5 := (RB2).free 5
      have g6 := (RB2).free 6
      have g7 := (RB2).free 7
      go_wp2_with fail
      exact bodyPost_ret (turn_results 2 rfl _ _ _ going rfl (turn_set RB2 rfl going)) rfl (hK _ _ (fin_step hL (Nat.le_refl _) HL2 U2 (fun g hg => .inl hg) (.inr (.inl ⟨rfl, rfl⟩)) _ _ _ _ _ _ _ _))
  · have hne : ∃ (u e : Int), Hid (rLoad sh.row x = (u, e)) ∧ ((e != 0) = true ∨ (e = 0 ∧ (u != v) = true)) := by
      by_cases h : x < sh.row.length
      · exact ⟨wd sh.row x.toNat, 0, Lib.hid (by unfold rLoad; rw [if_pos h]), .inr ⟨rfl, by simpa using fun e => hit ⟨h, e⟩⟩⟩
      · exact ⟨0, 4, Lib.hid (by unfold rLoad; rw [if_neg h]), .inl (by simp)⟩
    obtain ⟨u, er, HV, hbad⟩ := hne
    have he : checkS s sh = (⟨5, 0, ⟨7, 0, 0, false⟩⟩, overS) := by
      unfold checkS
      rw [hj.out, Int.toNat_natCast, hx]
      simp only
      rw [if_neg hit]
    rw [he]
    clear he hit
    rcases hbad with hb | ⟨rfl, hb⟩
    · refine calls_all fun K hK => ?_
      go_enter Try.func81, Try.ntmps81
      go_wp2_with fail
      obtain ⟨W, hW⟩ : ∃ W, W = w.alloc (.cells turn0.toArray 36) := ⟨_, rfl⟩
      have RB : Blk W w.heap.size turn0 36 := by rw [hW]; exact Blk.new w _ _
      have HU : Upd [] w W := by rw [hW]; exact (Upd.refl _ _).alloc _
      have hWs : W.heap.size = w.heap.size + 1 := by rw [hW]; exact World.size_alloc _ _
      simp only [turn0, trnNone, evNone, Trn.cells] at hW
      rw [← hW]
      clear hW
      have hL1 := hL.upd0 HU
      have b3 := hL1.att.head.cell 3 rfl
      have b10 : W.cell? ⟨a, 10, none⟩ = some (.int .i64 (j : Int)) := by rw [← hj.out]; exact hL1.att.head.cell 10 rfl
      have GB1 := GB.upd HU (by simp)
      have e0 := GB1.cell (j * 2) hx0
      have e1 := GB1.cell (j * 2 + 1) hx1
      refine wp_region_eff (fun w' => w'.cell? ⟨a, 3, none⟩ = some (.slice (some ⟨g, 0, none⟩) s.reads.length cap) ∧ w'.cell? ⟨a, 10, none⟩ = some (.int .i64 (j : Int)) ∧ w'.cell? ⟨g, j * 2, none⟩ = some (.int .u64 x) ∧ w'.cell? ⟨g, j * 2 + 1, none⟩ = some (.int .u64 v)) 14 (by kernel_rfl) (by kernel_rfl) ⟨b3, b10, e0, e1⟩ ?_
      repeat
        refine wpE_take (v := ?_) (by decide) rfl (by rfl) ?_ ?_
        rotate_left 1
        · ((intro w hSw; (try dsimp only at hSw); go_simp); try with_reducible rfl)
        try simp only [Act.put, List.setIfInBounds_toArray, List.set_cons_zero, List.set_cons_succ]
      refine wpE_eff (by decide) rfl (by kernel_rfl) (by rfl) (fun K2 hK2 => ?_)
      go_simp
      obtain ⟨W2, hW2⟩ : ∃ W2, W2 = (W.alloc (.cells #[.int .u64 0, .int .u64 0] 53)).drew := ⟨_, rfl⟩
      have CB : Blk W2 (w.heap.size + 1) [.int .u64 0, .int .u64 0] 53 := by rw [hW2, ← hWs]; exact (Blk.new W _ _).drew
      have u2 : Upd [] W W2 := by rw [hW2]; exact ((Upd.refl [] _).alloc _).drew
      rw [← hW2]
      clear hW2
      have GB2 := GB1.upd u2 (by simp)
      have hL3 := hL1.upd0 u2
      have b10' : W2.cell? ⟨a, 10, none⟩ = some (.int .i64 (j : Int)) := by rw [← hj.out]; exact hL3.att.head.cell 10 rfl
      refine hK2.out _ _ ⟨hL3.att.head.cell 3 rfl, b10', GB2.cell (j * 2) hx0, GB2.cell (j * 2 + 1) hx1⟩ ?_
      clear hK2 K2
      repeat
        refine wpE_take (v := ?_) (by decide) rfl (by rfl) ?_ ?_
        rotate_left 1
        · ((intro w hSw; (try dsimp only at hSw); go_simp); try with_reducible rfl)
        try simp only [Act.put, List.setIfInBounds_toArray, List.set_cons_zero, List.set_cons_succ]
      have k0 := CB.cell 0 rfl
      have k1 := CB.cell 1 rfl
      have j0 := CB.free 0
      have j1 := CB.free 1
      refine wpE_eff (by decide) rfl (by kernel_rfl) (by rfl) (fun K2 hK2 => ?_)
      go_simp
      have u3 : Upd [w.heap.size + 1] W2 ((W2.setCell ⟨w.heap.size + 1, 0, none⟩ (.int .u64 x)).setCell ⟨w.heap.size + 1, 1, none⟩ (.int .u64 v)) := ((Upd.refl _ _).setCell (.inl (by simp)) _).setCell (.inl (by simp)) _
      have CB2 := (CB.set 0 (.int .u64 x)).set 1 (.int .u64 v)
      have hL4 := hL1.upd1 (b := w.heap.size + 1) ((u2.mono (by simp)).trans u3) (by omega)
      have GB4 := GB2.upd u3 (by simp; omega)
      have b10 : ((W2.setCell ⟨w.heap.size + 1, 0, none⟩ (.int .u64 x)).setCell ⟨w.heap.size + 1, 1, none⟩ (.int .u64 v)).cell? ⟨a, 10, none⟩ = some (.int .i64 (j : Int)) := by rw [← hj.out]; exact hL4.att.head.cell 10 rfl
      refine hK2.out _ _ ⟨hL4.att.head.cell 3 rfl, b10, GB4.cell (j * 2) hx0, GB4.cell (j * 2 + 1) hx1⟩ ?_
      refine wpE_end (NoPanic.normal ?_)
      have RB4 := (RB.upd u2 (by simp)).upd u3 (by simp)
      have U4 : Upd [] w _ := (HU.trans u2).tr u3 (fun _ h => .inl h) (fun x hx => .inr (by simp at hx; omega))
      clear hK2 K2 k0 k1 j0 j1 b3 b10' CB hL3 u2 u3 RB GB1 GB2 e0 e1 hL1 HU
      generalize (W2.setCell ⟨w.heap.size + 1, 0, none⟩ (.int .u64 x)).setCell ⟨w.heap.size + 1, 1, none⟩ (.int .u64 v) = W3 at CB2 hL4 RB4 U4 GB4 b10 ⊢
      have a0 := hL4.att.head.cell 0 rfl
      have c0 := CB2.cell 0 rfl
      have c1 := CB2.cell 1 rfl
      go_wp2_with fail
      refine wp_region_eff (fun w' => w'.cell? ⟨a, 0, none⟩ = some (.pointer (some ⟨X.ra, 0, none⟩)) ∧ w'.cell? ⟨w.heap.size + 1, 0, none⟩ = some (.int .u64 x)) 12 (by kernel_rfl) (by kernel_rfl) ⟨a0, c0⟩ ?_
      repeat
        refine wpE_take (v := ?_) (by decide) rfl (by rfl) ?_ ?_
        rotate_left 1
        · ((intro w hSw; (try dsimp only at hSw); go_simp); try with_reducible rfl)
        try simp only [Act.put, List.setIfInBounds_toArray, List.set_cons_zero, List.set_cons_succ]
      refine wpE_eff (by decide) rfl (by kernel_rfl) (by rfl) (fun K2 hK2 => ?_)
      go_simp
      refine (load_is (hL4.sh.row.upd (Upd.refl [] _).drew (by simp) (by simp)) x u er _ hwx.1.1 HV.out rfl).mono ?_
      rintro e w1 ⟨rfl, r1, u1⟩
      have hA1 := (hL4.att.upd (Upd.refl [] _).drew (by simp) (by simp)).upd u1 (by simp; omega) (fun g hg => by have := (hL.sep g hg).2.1; simp [SX.foot] at this; simp; omega)
      have CB5 := CB2.drew.upd u1 (by simp; omega)
      refine hK2.out _ _ ⟨hA1.head.cell 0 rfl, CB5.cell 0 rfl⟩ ?_
      clear hK2 K2
      repeat
        refine wpE_take (v := ?_) (by decide) rfl (by rfl) ?_ ?_
        rotate_left 1
        · ((intro w hSw; (try dsimp only at hSw); go_simp); try with_reducible rfl)
        try simp only [Act.put, List.setIfInBounds_toArray, List.set_cons_zero, List.set_cons_succ]
      refine wpE_end (NoPanic.normal ?_)
      have U5 : Upd [a, X.ra, X.rb] w w1 := (U4.mono (by simp)).trans ((Upd.refl [] _).drew.mono (by simp) |>.trans (u1.mono (by simp)))
      have hL5 := hL.row U5 hA1 r1 hL.sh.wide.row hL.wide
      have RB5 := RB4.drew.upd u1 (by simp; omega)
      clear a0 c0 c1 u1 r1 hA1 CB2 hL4 RB4 U4
      have c1 := CB5.cell 1 rfl
      go_wp2_with fail
      refine (over_code hL5 5 ⟨7, 0, 0, false⟩).mono ?_
      rintro e w3 ⟨rfl, HL3, u3⟩
      simp only [Trn.val]
      have U3 : Upd (a :: (F ++ X.foot)) w w3 := (U5.mono (fun x hx => .inl (foot_row (F := F) x hx))).trans (u3.mono (by simp; exact fun x h => .inl (.inr (.inl h))))
      have RB3 := RB5.upd u3 (by simp; exact ⟨by omega, fun h => Nat.lt_irrefl _ (hL.sep _ h).1⟩)
      clear RB5 hL5 CB5 c1
      have q0 := (RB3).cell 0 rfl
      have q1 := (RB3).cell 1 rfl
      have q2 := (RB3).cell 2 rfl
      have q3 := (RB3).cell 3 rfl
      have q4 := (RB3).cell 4 rfl
      have q5 := (RB3).cell 5 rfl
      have q6 := (RB3).cell 6 rfl
      have q7 := (RB3).cell 7 rfl
      have g0 := (RB3).free 0
      have g1 := (RB3).free 1
      have g2 := (RB3).free 2
      have g3 := (RB3).free 3
      have g4 := (RB3).free 4
      have g5 := (RB3).free 5
      have g6 := (RB3).free 6
      have g7 := (RB3).free 7
      go_wp2_with fail
      exact bodyPost_ret (turn_results 2 rfl _ _ _ (⟨5, 0, ⟨7, 0, 0, false⟩⟩ : Trn) rfl (turn_set RB3 rfl (⟨5, 0, ⟨7, 0, 0, false⟩⟩ : Trn))) rfl (hK _ _ (fin_step hL (Nat.le_refl _) HL3 U3 (fun g hg => .inl hg) (.inr (.inl ⟨rfl, rfl⟩)) _ _ _ _ _ _ _ _))
    · refine calls_all fun K hK => ?_
      go_enter Try.func81, Try.ntmps81
      go_wp2_with fail
      obtain ⟨W, hW⟩ : ∃ W, W = w.alloc (.cells turn0.toArray 36) := ⟨_, rfl⟩
      have RB : Blk W w.heap.size turn0 36 := by rw [hW]; exact Blk.new w _ _
      have HU : Upd [] w W := by rw [hW]; exact (Upd.refl _ _).alloc _
      have hWs : W.heap.size = w.heap.size + 1 := by rw [hW]; exact World.size_alloc _ _
      simp only [turn0, trnNone, evNone, Trn.cells] at hW
      rw [← hW]
      clear hW
      have hL1 := hL.upd0 HU
      have b3 := hL1.att.head.cell 3 rfl
      have b10 : W.cell? ⟨a, 10, none⟩ = some (.int .i64 (j : Int)) := by rw [← hj.out]; exact hL1.att.head.cell 10 rfl
      have GB1 := GB.upd HU (by simp)
      have e0 := GB1.cell (j * 2) hx0
      have e1 := GB1.cell (j * 2 + 1) hx1
      refine wp_region_eff (fun w' => w'.cell? ⟨a, 3, none⟩ = some (.slice (some ⟨g, 0, none⟩) s.reads.length cap) ∧ w'.cell? ⟨a, 10, none⟩ = some (.int .i64 (j : Int)) ∧ w'.cell? ⟨g, j * 2, none⟩ = some (.int .u64 x) ∧ w'.cell? ⟨g, j * 2 + 1, none⟩ = some (.int .u64 v)) 14 (by kernel_rfl) (by kernel_rfl) ⟨b3, b10, e0, e1⟩ ?_
      repeat
        refine wpE_take (v := ?_) (by decide) rfl (by rfl) ?_ ?_
        rotate_left 1
        · ((intro w hSw; (try dsimp only at hSw); go_simp); try with_reducible rfl)
        try simp only [Act.put, List.setIfInBounds_toArray, List.set_cons_zero, List.set_cons_succ]
      refine wpE_eff (by decide) rfl (by kernel_rfl) (by rfl) (fun K2 hK2 => ?_)
      go_simp
      obtain ⟨W2, hW2⟩ : ∃ W2, W2 = (W.alloc (.cells #[.int .u64 0, .int .u64 0] 53)).drew := ⟨_, rfl⟩
      have CB : Blk W2 (w.heap.size + 1) [.int .u64 0, .int .u64 0] 53 := by rw [hW2, ← hWs]; exact (Blk.new W _ _).drew
      have u2 : Upd [] W W2 := by rw [hW2]; exact ((Upd.refl [] _).alloc _).drew
      rw [← hW2]
      clear hW2
      have GB2 := GB1.upd u2 (by simp)
      have hL3 := hL1.upd0 u2
      have b10' : W2.cell? ⟨a, 10, none⟩ = some (.int .i64 (j : Int)) := by rw [← hj.out]; exact hL3.att.head.cell 10 rfl
      refine hK2.out _ _ ⟨hL3.att.head.cell 3 rfl, b10', GB2.cell (j * 2) hx0, GB2.cell (j * 2 + 1) hx1⟩ ?_
      clear hK2 K2
      repeat
        refine wpE_take (v := ?_) (by decide) rfl (by rfl) ?_ ?_
        rotate_left 1
        · ((intro w hSw; (try dsimp only at hSw); go_simp); try with_reducible rfl)
        try simp only [Act.put, List.setIfInBounds_toArray, List.set_cons_zero, List.set_cons_succ]
      have k0 := CB.cell 0 rfl
      have k1 := CB.cell 1 rfl
      have j0 := CB.free 0
      have j1 := CB.free 1
      refine wpE_eff (by decide) rfl (by kernel_rfl) (by rfl) (fun K2 hK2 => ?_)
      go_simp
      have u3 : Upd [w.heap.size + 1] W2 ((W2.setCell ⟨w.heap.size + 1, 0, none⟩ (.int .u64 x)).setCell ⟨w.heap.size + 1, 1, none⟩ (.int .u64 v)) := ((Upd.refl _ _).setCell (.inl (by simp)) _).setCell (.inl (by simp)) _
      have CB2 := (CB.set 0 (.int .u64 x)).set 1 (.int .u64 v)
      have hL4 := hL1.upd1 (b := w.heap.size + 1) ((u2.mono (by simp)).trans u3) (by omega)
      have GB4 := GB2.upd u3 (by simp; omega)
      have b10 : ((W2.setCell ⟨w.heap.size + 1, 0, none⟩ (.int .u64 x)).setCell ⟨w.heap.size + 1, 1, none⟩ (.int .u64 v)).cell? ⟨a, 10, none⟩ = some (.int .i64 (j : Int)) := by rw [← hj.out]; exact hL4.att.head.cell 10 rfl
      refine hK2.out _ _ ⟨hL4.att.head.cell 3 rfl, b10, GB4.cell (j * 2) hx0, GB4.cell (j * 2 + 1) hx1⟩ ?_
      refine wpE_end (NoPanic.normal ?_)
      have RB4 := (RB.upd u2 (by simp)).upd u3 (by simp)
      have U4 : Upd [] w _ := (HU.trans u2).tr u3 (fun _ h => .inl h) (fun x hx => .inr (by simp at hx; omega))
      clear hK2 K2 k0 k1 j0 j1 b3 b10' CB hL3 u2 u3 RB GB1 GB2 e0 e1 hL1 HU
      generalize (W2.setCell ⟨w.heap.size + 1, 0, none⟩ (.int .u64 x)).setCell ⟨w.heap.size + 1, 1, none⟩ (.int .u64 v) = W3 at CB2 hL4 RB4 U4 GB4 b10 ⊢
      have a0 := hL4.att.head.cell 0 rfl
      have c0 := CB2.cell 0 rfl
      have c1 := CB2.cell 1 rfl
      go_wp2_with fail
      refine wp_region_eff (fun w' => w'.cell? ⟨a, 0, none⟩ = some (.pointer (some ⟨X.ra, 0, none⟩)) ∧ w'.cell? ⟨w.heap.size + 1, 0, none⟩ = some (.int .u64 x)) 12 (by kernel_rfl) (by kernel_rfl) ⟨a0, c0⟩ ?_
      repeat
        refine wpE_take (v := ?_) (by decide) rfl (by rfl) ?_ ?_
        rotate_left 1
        · ((intro w hSw; (try dsimp only at hSw); go_simp); try with_reducible rfl)
        try simp only [Act.put, List.setIfInBounds_toArray, List.set_cons_zero, List.set_cons_succ]
      refine wpE_eff (by decide) rfl (by kernel_rfl) (by rfl) (fun K2 hK2 => ?_)
      go_simp
      refine (load_is (hL4.sh.row.upd (Upd.refl [] _).drew (by simp) (by simp)) x u 0 _ hwx.1.1 HV.out rfl).mono ?_
      rintro e w1 ⟨rfl, r1, u1⟩
      have hA1 := (hL4.att.upd (Upd.refl [] _).drew (by simp) (by simp)).upd u1 (by simp; omega) (fun g hg => by have := (hL.sep g hg).2.1; simp [SX.foot] at this; simp; omega)
      have CB5 := CB2.drew.upd u1 (by simp; omega)
      refine hK2.out _ _ ⟨hA1.head.cell 0 rfl, CB5.cell 0 rfl⟩ ?_
      clear hK2 K2
      repeat
        refine wpE_take (v := ?_) (by decide) rfl (by rfl) ?_ ?_
        rotate_left 1
        · ((intro w hSw; (try dsimp only at hSw); go_simp); try with_reducible rfl)
        try simp only [Act.put, List.setIfInBounds_toArray, List.set_cons_zero, List.set_cons_succ]
      refine wpE_end (NoPanic.normal ?_)
      have U5 : Upd [a, X.ra, X.rb] w w1 := (U4.mono (by simp)).trans ((Upd.refl [] _).drew.mono (by simp) |>.trans (u1.mono (by simp)))
      have hL5 := hL.row U5 hA1 r1 hL.sh.wide.row hL.wide
      have RB5 := RB4.drew.upd u1 (by simp; omega)
      clear a0 c0 c1 u1 r1 hA1 CB2 hL4 RB4 U4
      have c1 := CB5.cell 1 rfl
      go_wp2_with fail
      refine (over_code hL5 5 ⟨7, 0, 0, false⟩).mono ?_
      rintro e w3 ⟨rfl, HL3, u3⟩
      simp only [Trn.val]
      have U3 : Upd (a :: (F ++ X.foot)) w w3 := (U5.mono (fun x hx => .inl (foot_row (F := F) x hx))).trans (u3.mono (by simp; exact fun x h => .inl (.inr (.inl h))))
      have RB3 := RB5.upd u3 (by simp; exact ⟨by omega, fun h => Nat.lt_irrefl _ (hL.sep _ h).1⟩)
      clear RB5 hL5 CB5 c1
      have q0 := (RB3).cell 0 rfl
      have q1 := (RB3).cell 1 rfl
      have q2 := (RB3).cell 2 rfl
      have q3 := (RB3).cell 3 rfl
      have q4 := (RB3).cell 4 rfl
      have q5 := (RB3).cell 5 rfl
      have q6 := (RB3).cell 6 rfl
      have q7 := (RB3).cell 7 rfl
      have g0 := (RB3).free 0
      have g1 := (RB3).free 1
      have g2 := (RB3).free 2
      have g3 := (RB3).free 3
      have g4 := (RB3).free 4
      have g5 := (RB3).free 5
      have g6 := (RB3).free 6
      have g7 := (RB3).free 7
      go_wp2_with fail
      exact bodyPost_ret (turn_results 2 rfl _ _ _ (⟨5, 0, ⟨7, 0, 0, false⟩⟩ : Trn) rfl (turn_set RB3 rfl (⟨5, 0, ⟨7, 0, 0, false⟩⟩ : Trn))) rfl (hK _ _ (fin_step hL (Nat.le_refl _) HL3 U3 (fun g hg => .inl hg) (.inr (.inl ⟨rfl, rfl⟩)) _ _ _ _ _ _ _ _))

set_option maxHeartbeats 1000000 in
theorem store_code (hL : Live w X sh acc st a s F rv wv mv) (hp : s.phase ≠ 10) (j : Nat) (hj : Hid (s.at_ = j)) (x v : Int) (hx : s.writes[j]? = some (x, v)) (hl : s.writes.length ≤ 1024) :
    Calls Try.prog 84 #[.pointer (some ⟨a, 0, none⟩)] w (StepOk w X acc st a F (storeS s sh).1 (storeS s sh).2.1 (storeS s sh).2.2) := by
  have la := hL.lt
  have no := hL.out
  simp only [SX.foot, List.mem_cons, List.not_mem_nil, or_false, not_or] at no
  have lx := hL.sh.lt
  have l1 := lx X.ra (by simp [SX.foot])
  have l2 := lx X.rb (by simp [SX.foot])
  have l3 := lx X.ca (by simp [SX.foot])
  have l4 := lx X.cr (by simp [SX.foot])
  have l5 := lx X.cb (by simp [SX.foot])
  have hjl : j < s.writes.length := by
    by_cases h : j < s.writes.length
    · exact h
    · rw [List.getElem?_eq_none (by omega)] at hx; cases hx
  have hjl' : (j : Int) < (s.writes.length : Int) := by omega
  have hwx := hL.wide.writes _ (List.mem_of_getElem? hx)
  obtain ⟨g, cap, sp, rfl, hcap, GB, hgF⟩ := hL.att.wr.open (by intro e; rw [e] at hjl; simp at hjl)
  obtain ⟨hx0', hx1'⟩ := pcells_get s.writes j x v hx
  have hx0 : (pcells s.writes ++ sp)[j * 2]? = some (.int .u64 x) := by rw [List.getElem?_append_left (by rw [pcells_len]; omega)]; exact hx0'
  have hx1 : (pcells s.writes ++ sp)[j * 2 + 1]? = some (.int .u64 v) := by rw [List.getElem?_append_left (by rw [pcells_len]; omega)]; exact hx1'
  clear hx0' hx1'
  have hga : g < w.heap.size := GB.lt
  have HE : Hid (storeS s sh = (going, (if (j : Int) + 1 = (s.writes.length : Int) then { s with at_ := 0, phase := 9 } else { s with at_ := (j : Int) + 1 }), { sh with row := storeW sh.row x v })) := Lib.hid (by
    unfold storeS
    rw [hj.out, Int.toNat_natCast, hx])
  have HV : Hid (sh.row.set x.toNat v = storeW sh.row x v) := Lib.hid (by
    unfold storeW
    split
    · rfl
    · exact List.set_eq_of_length_le (by have := hwx.1; omega))
  refine calls_all fun K hK => ?_
  go_enter Try.func84, Try.ntmps84
  go_wp2_with fail
  obtain ⟨W, hW⟩ : ∃ W, W = w.alloc (.cells turn0.toArray 36) := ⟨_, rfl⟩
  have RB : Blk W w.heap.size turn0 36 := by rw [hW]; exact Blk.new w _ _
  have HU : Upd [] w W := by rw [hW]; exact (Upd.refl _ _).alloc _
  have hWs : W.heap.size = w.heap.size + 1 := by rw [hW]; exact World.size_alloc _ _
  simp only [turn0, trnNone, evNone, Trn.cells] at hW
  rw [← hW]
  clear hW
  have hL1 := hL.upd0 HU
  have b3 := hL1.att.head.cell 4 rfl
  have b10 : W.cell? ⟨a, 10, none⟩ = some (.int .i64 (j : Int)) := by rw [← hj.out]; exact hL1.att.head.cell 10 rfl
  have GB1 := GB.upd HU (by simp)
  have e0 := GB1.cell (j * 2) hx0
  have e1 := GB1.cell (j * 2 + 1) hx1
  refine wp_region_eff (fun w' => w'.cell? ⟨a, 4, none⟩ = some (.slice (some ⟨g, 0, none⟩) s.writes.length cap) ∧ w'.cell? ⟨a, 10, none⟩ = some (.int .i64 (j : Int)) ∧ w'.cell? ⟨g, j * 2, none⟩ = some (.int .u64 x) ∧ w'.cell? ⟨g, j * 2 + 1, none⟩ = some (.int .u64 v)) 14 (by kernel_rfl) (by kernel_rfl) ⟨b3, b10, e0, e1⟩ ?_
  repeat
    refine wpE_take (v := ?_) (by decide) rfl (by rfl) ?_ ?_
    rotate_left 1
    · ((intro w hSw; (try dsimp only at hSw); go_simp); try with_reducible rfl)
    try simp only [Act.put, List.setIfInBounds_toArray, List.set_cons_zero, List.set_cons_succ]
  refine wpE_eff (by decide) rfl (by kernel_rfl) (by rfl) (fun K2 hK2 => ?_)
  go_simp
  obtain ⟨W2, hW2⟩ : ∃ W2, W2 = (W.alloc (.cells #[.int .u64 0, .int .u64 0] 53)).drew := ⟨_, rfl⟩
  have CB : Blk W2 (w.heap.size + 1) [.int .u64 0, .int .u64 0] 53 := by rw [hW2, ← hWs]; exact (Blk.new W _ _).drew
  have u2 : Upd [] W W2 := by rw [hW2]; exact ((Upd.refl [] _).alloc _).drew
  rw [← hW2]
  clear hW2
  have GB2 := GB1.upd u2 (by simp)
  have hL3 := hL1.upd0 u2
  have b10' : W2.cell? ⟨a, 10, none⟩ = some (.int .i64 (j : Int)) := by rw [← hj.out]; exact hL3.att.head.cell 10 rfl
  refine hK2.out _ _ ⟨hL3.att.head.cell 4 rfl, b10', GB2.cell (j * 2) hx0, GB2.cell (j * 2 + 1) hx1⟩ ?_
  clear hK2 K2
  repeat
    refine wpE_take (v := ?_) (by decide) rfl (by rfl) ?_ ?_
    rotate_left 1
    · ((intro w hSw; (try dsimp only at hSw); go_simp); try with_reducible rfl)
    try simp only [Act.put, List.setIfInBounds_toArray, List.set_cons_zero, List.set_cons_succ]
  have k0 := CB.cell 0 rfl
  have k1 := CB.cell 1 rfl
  have j0 := CB.free 0
  have j1 := CB.free 1
  refine wpE_eff (by decide) rfl (by kernel_rfl) (by rfl) (fun K2 hK2 => ?_)
  go_simp
  have u3 : Upd [w.heap.size + 1] W2 ((W2.setCell ⟨w.heap.size + 1, 0, none⟩ (.int .u64 x)).setCell ⟨w.heap.size + 1, 1, none⟩ (.int .u64 v)) := ((Upd.refl _ _).setCell (.inl (by simp)) _).setCell (.inl (by simp)) _
  have CB2 := (CB.set 0 (.int .u64 x)).set 1 (.int .u64 v)
  have hL4 := hL1.upd1 (b := w.heap.size + 1) ((u2.mono (by simp)).trans u3) (by omega)
  have GB4 := GB2.upd u3 (by simp; omega)
  have b10 : ((W2.setCell ⟨w.heap.size + 1, 0, none⟩ (.int .u64 x)).setCell ⟨w.heap.size + 1, 1, none⟩ (.int .u64 v)).cell? ⟨a, 10, none⟩ = some (.int .i64 (j : Int)) := by rw [← hj.out]; exact hL4.att.head.cell 10 rfl
  refine hK2.out _ _ ⟨hL4.att.head.cell 4 rfl, b10, GB4.cell (j * 2) hx0, GB4.cell (j * 2 + 1) hx1⟩ ?_
  refine wpE_end (NoPanic.normal ?_)
  have RB4 := (RB.upd u2 (by simp)).upd u3 (by simp)
  have U4 : Upd [] w _ := (HU.trans u2).tr u3 (fun _ h => .inl h) (fun x hx => .inr (by simp at hx; omega))
  clear hK2 K2 k0 k1 j0 j1 b3 b10' CB hL3 u2 u3 RB GB1 GB2 e0 e1 hL1 HU
  generalize (W2.setCell ⟨w.heap.size + 1, 0, none⟩ (.int .u64 x)).setCell ⟨w.heap.size + 1, 1, none⟩ (.int .u64 v) = W3 at CB2 hL4 RB4 U4 GB4 b10 ⊢
  have a0 := hL4.att.head.cell 0 rfl
  have c0 := CB2.cell 0 rfl
  have c1 := CB2.cell 1 rfl
  go_wp2_with fail
  refine wp_region_eff (fun w' => w'.cell? ⟨a, 0, none⟩ = some (.pointer (some ⟨X.ra, 0, none⟩)) ∧ w'.cell? ⟨w.heap.size + 1, 0, none⟩ = some (.int .u64 x) ∧ w'.cell? ⟨w.heap.size + 1, 1, none⟩ = some (.int .u64 v)) 9 (by kernel_rfl) (by kernel_rfl) ⟨a0, c0, c1⟩ ?_
  repeat
    refine wpE_take (v := ?_) (by decide) rfl (by rfl) ?_ ?_
    rotate_left 1
    · ((intro w hSw; (try dsimp only at hSw); go_simp); try with_reducible rfl)
    try simp only [Act.put, List.setIfInBounds_toArray, List.set_cons_zero, List.set_cons_succ]
  refine wpE_eff (by decide) rfl (by kernel_rfl) (by rfl) (fun K2 hK2 => ?_)
  go_simp
  refine (store_is (hL4.sh.row.upd (Upd.refl [] _).drew (by simp) (by simp)) x v _ _ (storeW sh.row x v) hwx.1.1 rfl HV.out rfl).mono ?_
  rintro e w1 ⟨rfl, r1, u1⟩
  have hA1 := (hL4.att.upd (Upd.refl [] _).drew (by simp) (by simp)).upd u1 (by simp; omega) (fun g hg => by have := (hL.sep g hg).2.1; simp [SX.foot] at this; simp; omega)
  have CB5 := CB2.drew.upd u1 (by simp; omega)
  refine hK2.out _ _ ⟨hA1.head.cell 0 rfl, CB5.cell 0 rfl, CB5.cell 1 rfl⟩ ?_
  clear hK2 K2
  refine wpE_end (NoPanic.normal ?_)
  have U5 : Upd [a, X.ra, X.rb] w w1 := (U4.mono (by simp)).trans ((Upd.refl [] _).drew.mono (by simp) |>.trans (u1.mono (by simp)))
  have hL5 := hL.row U5 hA1 r1 (storeW_wide hL.sh.wide.row x v hwx.2) hL.wide
  have RB5 := RB4.drew.upd u1 (by simp; omega)
  clear a0 c0 u1 r1 hA1 CB2 hL4 RB4 U4
  have d10 : w1.cell? ⟨a, 10, none⟩ = some (.int .i64 (j : Int)) := by rw [← hj.out]; exact hL5.att.head.cell 10 rfl
  have f10 := hL5.att.head.free 10
  go_wp2_with fail
  have uw : Upd [a] w1 (w1.setCell ⟨a, 10, none⟩ (.int .i64 ((j : Int) + 1))) := (Upd.refl _ _).setCell (.inl (by simp)) _
  have hL6 := hL5.phase (hL5.att.setAt ((j : Int) + 1)) uw ⟨hL.wide.snap, hL.wide.reads, hL.wide.writes, hL.wide.addr, hL.wide.word, hL.wide.found⟩
  have RB6 := RB5.upd uw (by simp; omega)
  have U6 : Upd (a :: (F ++ X.foot)) w _ := (U5.mono (fun x hx => .inl (foot_row (F := F) x hx))).trans (uw.mono (by simp))
  clear uw d10 f10 hL5 RB5 U5 CB5 c1
  generalize w1.setCell ⟨a, 10, none⟩ (.int .i64 ((j : Int) + 1)) = W7 at hL6 RB6 U6 ⊢
  have b10 := hL6.att.head.cell 10 rfl
  have b3 := hL6.att.head.cell 4 rfl
  refine wp_region_eff (fun w' => w'.cell? ⟨a, 10, none⟩ = some (.int .i64 ((j : Int) + 1)) ∧ w'.cell? ⟨a, 4, none⟩ = some (.slice (some ⟨g, 0, none⟩) s.writes.length cap)) 12 (by kernel_rfl) (by kernel_rfl) ⟨b10, b3⟩ ?_
  repeat
    refine wpE_take (v := ?_) (by decide) rfl (by rfl) ?_ ?_
    rotate_left 1
    · ((intro w hSw; (try dsimp only at hSw); go_simp); try with_reducible rfl)
    try simp only [Act.put, List.setIfInBounds_toArray, List.set_cons_zero, List.set_cons_succ]
  refine wpE_end (NoPanic.normal ?_)
  have hL7 := hL6.upd0 (Upd.refl [] _).drew
  have RB7 := RB6.drew
  have U7 := U6.trans ((Upd.refl [] _).drew.mono (T := a :: (F ++ X.foot)) (by simp))
  clear b10 b3 hL6 RB6 U6
  by_cases hend : (j : Int) + 1 = (s.writes.length : Int)
  · have hq : ((j : Int) + 1 == (s.writes.length : Int)) = true := by simpa using hend
    rw [if_pos hend] at HE
    generalize W7.drew = W8 at hL7 RB7 U7 ⊢
    have d10 := hL7.att.head.cell 10 rfl
    have f10 := hL7.att.head.free 10
    have d5 := hL7.att.head.cell 5 rfl
    have f5 := hL7.att.head.free 5
    clear hend
    have uw : Upd [a] W8 ((W8.setCell ⟨a, 10, none⟩ (.int .i64 0)).setCell ⟨a, 5, none⟩ (.int .i64 9)) := ((Upd.refl _ _).setCell (.inl (by simp)) _).setCell (.inl (by simp)) _
    have HL8 := hL7.phase ((hL7.att.setAt 0).setPhase 9 hp) uw ⟨hL.wide.snap, hL.wide.reads, hL.wide.writes, hL.wide.addr, hL.wide.word, hL.wide.found⟩
    have RB8 := RB7.upd uw (by simp; omega)
    have U8 := U7.trans (uw.mono (T := a :: (F ++ X.foot)) (by simp))
    rw [HE.out] at hK
    clear uw HE
    go_wp2_with fail
    refine (going_code _).mono ?_
    rintro e w2 ⟨rfl, u2⟩
    simp only [Trn.val, going, evNone]
    have HL2 := (HL8).upd0 u2
    have RB2 := (RB8).upd u2 (by simp)
    have U2 := (U8).trans (u2.mono (by simp))
    have q0 := (RB2).cell 0 rfl
    have q1 := (RB2).cell 1 rfl
    have q2 := (RB2).cell 2 rfl
    have q3 := (RB2).cell 3 rfl
    have q4 := (RB2).cell 4 rfl
    have q5 := (RB2).cell 5 rfl
    have q6 := (RB2).cell 6 rfl
    have q7 := (RB2).cell 7 rfl
    have g0 := (RB2).free 0
    have g1 := (RB2).free 1
    have g2 := (RB2).free 2
    have g3 := (RB2).free 3
    have g4 := (RB2).free 4
    have g5 := (RB2).free 5
    have g6 := (RB2).free 6
    have g7 := (RB2).free 7
    go_wp2_with fail
    exact bodyPost_ret (turn_results 2 rfl _ _ _ going rfl (turn_set RB2 rfl going)) rfl (hK _ _ (fin_step hL (Nat.le_refl _) HL2 U2 (fun g hg => .inl hg) (.inr (.inl ⟨rfl, rfl⟩)) _ _ _ _ _ _ _ _))
  · have hq : ((j : Int) + 1 == (s.writes.length : Int)) = false := by simpa using hend
    rw [if_neg hend] at HE
    generalize W7.drew = W8 at hL7 RB7 U7 ⊢
    rw [HE.out] at hK
    clear hend HE
    go_wp2_with fail
    refine (going_code _).mono ?_
    rintro e w2 ⟨rfl, u2⟩
    simp only [Trn.val, going, evNone]
    have HL2 := (hL7).upd0 u2
    have RB2 := (RB7).upd u2 (by simp)
    have U2 := (U7).trans (u2.mono (by simp))
    have q0 := (RB2).cell 0 rfl
    have q1 := (RB2).cell 1 rfl
    have q2 := (RB2).cell 2 rfl
    have q3 := (RB2).cell 3 rfl
    have q4 := (RB2).cell 4 rfl
    have q5 := (RB2).cell 5 rfl
    have q6 := (RB2).cell 6 rfl
    have q7 := (RB2).cell 7 rfl
    have g0 := (RB2).free 0
    have g1 := (RB2).free 1
    have g2 := (RB2).free 2
    have g3 := (RB2).free 3
    have g4 := (RB2).free 4
    have g5 := (RB2).free 5
    have g6 := (RB2).free 6
    have g7 := (RB2).free 7
    go_wp2_with fail
    exact bodyPost_ret (turn_results 2 rfl _ _ _ going rfl (turn_set RB2 rfl going)) rfl (hK _ _ (fin_step hL (Nat.le_refl _) HL2 U2 (fun g hg => .inl hg) (.inr (.inl ⟨rfl, rfl⟩)) _ _ _ _ _ _ _ _))
end
end Go.Proofs.Ythfeljongackcaa
set_option linter.unusedSimpArgs false
set_option linter.unusedVariables false
set_option maxRecDepth 100000
namespace Go.Proofs.Ythfeljongackcaa
open Go.RowKit

theorem place_cons (c : Int × Int) (L : List (Int × Int)) (x : Int) : place (c :: L) x = if c.1 = x then some 0 else (place L x).map (· + 1) := by
  unfold place
  rw [List.findIdx?_cons]
  by_cases h : c.1 = x
  · rw [if_pos h]; simp [h]
  · rw [if_neg h]
    have : (c.1 == x) = false := by simp [h]
    rw [this]
    rfl
theorem wd_storeW (row : List Int) (a v : Int) (h0 : 0 ≤ a) (x : Nat) (hx : x < row.length) : wd (storeW row a v) x = if a = (x : Int) then v else wd row x := by
  unfold storeW
  split
  · rename_i h
    rw [wd_set v x (by omega)]
    by_cases e : a = (x : Int)
    · rw [if_pos e, if_pos (by omega)]
    · rw [if_neg e, if_neg (by omega)]
  · rw [if_neg (by omega)]
/-- what stands at x behind all stores -/
def nowAt (row : List Int) (L : List (Int × Int)) (x : Nat) : Int := match place L x with | some k => (L.getD k (0, 0)).2 | none => wd row x
def stores (row : List Int) (L : List (Int × Int)) : List Int := L.foldl (fun r c => storeW r c.1 c.2) row
theorem stores_len (L : List (Int × Int)) : ∀ row : List Int, (stores row L).length = row.length := by
  induction L with
  | nil => intro row; rfl
  | cons c L ih => intro row; show (stores (storeW row c.1 c.2) L).length = _; rw [ih, storeW_len]
theorem stores_snoc (row : List Int) (L : List (Int × Int)) (c : Int × Int) : stores row (L ++ [c]) = storeW (stores row L) c.1 c.2 := by simp [stores, List.foldl_append]
theorem stores_at (L : List (Int × Int)) : ∀ (row : List Int), (∀ c ∈ L, 0 ≤ c.1) → (L.map (·.1)).Nodup → ∀ x : Nat, x < row.length → wd (stores row L) x = nowAt row L x := by
  induction L with
  | nil => intro row _ _ x _; simp [stores, nowAt, place]
  | cons c L ih =>
    intro row hL nd x hx
    show wd (stores (storeW row c.1 c.2) L) x = _
    rw [List.map_cons, List.nodup_cons] at nd
    rw [ih _ (fun d hd => hL d (by simp [hd])) nd.2 x (by rw [storeW_len]; exact hx)]
    unfold nowAt
    rw [place_cons]
    by_cases hc : c.1 = (x : Int)
    · rw [if_pos hc]
      have hp : place L (x : Int) = none := by
        cases h : place L (x : Int) with
        | none => rfl
        | some k =>
          obtain ⟨hk, v, hv⟩ := place_some h
          exact absurd (hc ▸ List.mem_map.2 ⟨_, List.mem_of_getElem? hv, rfl⟩) nd.1
      rw [hp]
      simp only
      rw [wd_storeW row _ _ (hL c (by simp)) x hx, if_pos hc]
      rfl
    · rw [if_neg hc]
      cases h : place L (x : Int) with
      | none =>
        simp only [Option.map_none]
        rw [wd_storeW row _ _ (hL c (by simp)) x hx, if_neg hc]
      | some k => simp
theorem place_snoc (L : List (Int × Int)) (c : Int × Int) (x : Int) : place (L ++ [c]) x = match place L x with | some k => some k | none => if c.1 = x then some L.length else none := by
  induction L with
  | nil => rw [List.nil_append, place_cons]; simp [place]
  | cons d L ih =>
    rw [List.cons_append, place_cons, place_cons, ih]
    by_cases h : d.1 = x
    · rw [if_pos h, if_pos h]
    · rw [if_neg h, if_neg h]
      cases place L x with
      | some k => rfl
      | none =>
        simp only [Option.map_none]
        split <;> simp
theorem place_set {L : List (Int × Int)} {a v : Int} {k : Nat} (h : place L a = some k) (x : Int) : place (L.set k (a, v)) x = place L x := by
  unfold place
  have hm := set_map (v := v) h
  have e : ∀ M : List (Int × Int), M.findIdx? (fun c => c.1 == x) = (M.map (·.1)).findIdx? (· == x) := by
    intro M
    rw [List.findIdx?_map]
    rfl
  rw [e, e, hm]
/-- a put is what is looked up then -/
theorem now_put (row : List Int) (s : AS) (sh : Sh) (a v : Int) (ha : a < sh.row.length) (h0 : 0 ≤ a) (hp : s.phase = 1) (hl : s.writes.length < 1024) (x : Nat) : nowAt row (putS s sh a v).2.2.writes x = if a = (x : Int) then v else nowAt row s.writes x := by
  unfold putS
  rw [if_neg (by omega), if_neg (by omega)]
  cases h : place s.writes a with
  | some k =>
    simp only
    obtain ⟨hk, u, hu⟩ := place_some h
    unfold nowAt
    rw [place_set h]
    by_cases e : a = (x : Int)
    · rw [if_pos e, ← e, h]
      simp [List.getD, hk]
    · rw [if_neg e]
      cases hx : place s.writes (x : Int) with
      | none => rfl
      | some j =>
        obtain ⟨hj, u2, hu2⟩ := place_some hx
        have hne : k ≠ j := by
          rintro rfl
          rw [hu] at hu2
          simp only [Option.some.injEq, Prod.mk.injEq] at hu2
          exact e hu2.1
        simp only [List.getD_eq_getElem?_getD]
        rw [List.getElem?_set_ne hne]
  | none =>
    simp only
    rw [if_pos hl]
    simp only
    unfold nowAt
    rw [place_snoc]
    by_cases e : a = (x : Int)
    · rw [if_pos e, ← e, h]
      simp [List.getD]
    · rw [if_neg e]
      cases hx : place s.writes (x : Int) with
      | none => simp [e]
      | some j =>
        obtain ⟨hj, _, _⟩ := place_some hx
        simp only [if_neg e, List.getD_eq_getElem?_getD, List.getElem?_append_left hj]
end Go.Proofs.Ythfeljongackcaa
