/- An attempt's calls: idle, Get, Put, End, Step, Drop, Phase, Locked. No conditions. -/
import Derived.Test.YthfeljongackcaaAMade
set_option linter.unusedSimpArgs false
set_option linter.unusedVariables false
set_option maxRecDepth 100000
namespace Go.Proofs.Ythfeljongackcaa
open Go.RowKit
open Go.Maps

-- behind a step that was called within: HL3 U3 hF3 ho3, its turn T
section
variable {w : World} {X : SX} {sh : Sh} {acc st : Int} {a : Nat} {s : AS} {F : List Nat} {rv wv mv : Value}
/-- a call has been answered -/
def CallOk (w : World) (X : SX) (acc st : Int) (a : Nat) (F : List Nat) (T : Trn) (r : Int) (s' : AS) (sh' : Sh) (e : Ending) (w' : World) : Prop :=
  e = .returned (.tuple #[T.val, .int .i64 r]) ∧ StepOk w X acc st a F T s' sh' (.returned T.val) w'

theorem there_code (hL : Live w X sh acc st a s F rv wv mv) : Calls Try.prog 48 #[.pointer (some ⟨a, 0, none⟩)] w fun e w' => e = .returned (.bool true) ∧ w = w' := by
  have a1 := hL.att.head.cell 1 rfl
  refine calls_all fun K hK => ?_
  go_enter Try.func48, Try.ntmps48
  go_wp2
  all_goals exact ⟨rfl, rfl⟩
theorem idle_code (hL : Live w X sh acc st a s F rv wv mv) : Calls Try.prog 45 #[.pointer (some ⟨a, 0, none⟩)] w fun e w' => e = .returned (.int .i64 (if s.phase = 1 then 0 else 2)) ∧ w = w' := by
  have a5 := hL.att.head.cell 5 rfl
  by_cases hp : s.phase = 1
  · rw [if_pos hp]
    have h1 : (s.phase != 1) = false := by simp [hp]
    clear hp
    refine calls_all fun K hK => ?_
    go_enter Try.func45, Try.ntmps45
    go_wp2_with fail
    refine (there_code hL).mono ?_
    rintro e w' ⟨rfl, rfl⟩
    go_wp2
    all_goals exact ⟨rfl, rfl⟩
  · rw [if_neg hp]
    have h1 : (s.phase != 1) = true := by simp [hp]
    clear hp
    refine calls_all fun K hK => ?_
    go_enter Try.func45, Try.ntmps45
    go_wp2_with fail
    refine (there_code hL).mono ?_
    rintro e w' ⟨rfl, rfl⟩
    go_wp2
    all_goals exact ⟨rfl, rfl⟩
theorem phase_code (hL : Live w X sh acc st a s F rv wv mv) : Calls Try.prog 17 #[.pointer (some ⟨a, 0, none⟩)] w fun e w' => e = .returned (.int .i64 s.phase) ∧ w = w' := by
  have a5 := hL.att.head.cell 5 rfl
  refine calls_all fun K hK => ?_
  go_enter Try.func17, Try.ntmps17
  go_wp2_with fail
  refine (there_code hL).mono ?_
  rintro e w' ⟨rfl, rfl⟩
  go_wp2
  all_goals exact ⟨rfl, rfl⟩
theorem locked_code (hL : Live w X sh acc st a s F rv wv mv) : Calls Try.prog 56 #[.pointer (some ⟨a, 0, none⟩)] w fun e w' => e = .returned (.bool (s.phase == 8 || s.phase == 9)) ∧ w = w' := by
  have HP := Lib.hid (phase_code hL)
  by_cases h8 : s.phase = 8
  · have h1 : (s.phase == 8) = true := by simp [h8]
    rw [h1]
    clear h8
    refine calls_all fun K hK => ?_
    go_enter Try.func56, Try.ntmps56
    go_wp2_with fail
    refine (HP.out).mono ?_
    rintro e w' ⟨rfl, rfl⟩
    go_wp2
    all_goals exact ⟨rfl, rfl⟩
  · have h1 : (s.phase == 8) = false := by simp [h8]
    rw [h1]
    clear h8
    refine calls_all fun K hK => ?_
    go_enter Try.func56, Try.ntmps56
    go_wp2_with fail
    refine (HP.out).mono ?_
    rintro e w' ⟨rfl, rfl⟩
    go_wp2_with fail
    refine (HP.out).mono ?_
    rintro e w' ⟨rfl, rfl⟩
    go_wp2
    all_goals exact ⟨rfl, rfl⟩

theorem end_code (hL : Live w X sh acc st a s F rv wv mv) (hM : May s) :
    Calls Try.prog 49 #[.pointer (some ⟨a, 0, none⟩)] w (CallOk w X acc st a F (endS s sh).1 (endS s sh).2.1 (endS s sh).2.2.1 (endS s sh).2.2.2) := by
  have la := hL.lt
  have no := hL.out
  simp only [SX.foot, List.mem_cons, List.not_mem_nil, or_false, not_or] at no
  have lx := hL.sh.lt
  have l1 := lx X.ra (by simp [SX.foot])
  have l2 := lx X.rb (by simp [SX.foot])
  have l3 := lx X.ca (by simp [SX.foot])
  have l4 := lx X.cr (by simp [SX.foot])
  have l5 := lx X.cb (by simp [SX.foot])
  by_cases hp : s.phase = 1
  · obtain ⟨p, cp, rfl⟩ := hL.att.wr.form
    by_cases hw0 : s.writes = []
    · have he : endS s sh = (⟨4, 0, ⟨6, 0, s.snap / 2, false⟩⟩, 0, overS, sh) := by unfold endS; rw [if_neg (by simp [hp]), if_pos hw0]
      rw [he]
      have hl0 : ((s.writes.length : Int) == 0) = true := by simp [hw0]
      have hid := fun W (h : Upd [] w W) => idle_code (hL.upd0 h)
      rw [if_pos hp] at hid
      have HI := Lib.hid hid
      clear he hw0 hp hid
      refine calls_all fun K hK => ?_
      go_enter Try.func49, Try.ntmps49
      go_wp2_with fail
      obtain ⟨W, hW⟩ : ∃ W, W = w.alloc (.cells turn0.toArray 36) := ⟨_, rfl⟩
      have RB : Blk W w.heap.size turn0 36 := by rw [hW]; exact Blk.new w _ _
      have HU : Upd [] w W := by rw [hW]; exact (Upd.refl _ _).alloc _
      have hWs : W.heap.size = w.heap.size + 1 := by rw [hW]; exact World.size_alloc _ _
      simp only [turn0, trnNone, evNone, Trn.cells] at hW
      rw [← hW]
      clear hW
      refine (HI.out _ HU).mono ?_
      rintro e w' ⟨rfl, rfl⟩
      have hL1 := hL.upd0 HU
      have b4 := hL1.att.head.cell 4 rfl
      have b2 := hL1.att.head.cell 2 rfl
      go_wp2_with fail
      refine (number_any s.snap W hL.wide.snap.1 hL.wide.snap.2).mono ?_
      rintro e w' ⟨rfl, rfl⟩
      go_wp2_with fail
      refine (over_code hL1 4 ⟨6, 0, s.snap / 2, false⟩).mono ?_
      rintro e w3 ⟨rfl, HL3, u3⟩
      simp only [Trn.val]
      have U3 : Upd (a :: (F ++ X.foot)) w w3 := (HU.mono (by simp)).trans (u3.mono (by simp; exact fun x h => .inl (.inr (.inl h))))
      have RB3 := RB.upd u3 (by simp; exact ⟨by omega, fun h => Nat.lt_irrefl _ (hL.sep _ h).1⟩)
      clear RB hL1 HU b4 b2
      have q0 := (RB3).cell 0 rfl
      have q1 := (RB3).cell 1 rfl
      have q2 := (RB3).cell 2 rfl
      have q3 := (RB3).cell 3 rfl
      have q4 := (RB3).cell 4 rfl
      have q5 := (RB3).cell 5 rfl
      have q6 := (RB3).cell 6 rfl
      have q7 := (RB3).cell 7 rfl
      have g0 := (RB3).free 0
      have g1 := (RB3).free 1
      have g2 := (RB3).free 2
      have g3 := (RB3).free 3
      have g4 := (RB3).free 4
      have g5 := (RB3).free 5
      have g6 := (RB3).free 6
      have g7 := (RB3).free 7
      go_wp2_with fail
      exact bodyPost_ret (turn_results2 2 3 rfl _ _ _ (⟨4, 0, ⟨6, 0, s.snap / 2, false⟩⟩ : Trn) (.int .i64 0) rfl rfl (turn_set RB3 rfl (⟨4, 0, ⟨6, 0, s.snap / 2, false⟩⟩ : Trn))) rfl (hK _ _ ⟨rfl, fin_step hL (Nat.le_refl _) HL3 U3 (fun g hg => .inl hg) (.inl ⟨rfl, rfl⟩) _ _ _ _ _ _ _ _⟩)
    · have he : endS s sh = ((lockS s sh).1, 0, (lockS s sh).2.1, (lockS s sh).2.2) := by unfold endS; rw [if_neg (by simp [hp]), if_neg hw0]
      rw [he]
      have hl0 : ((s.writes.length : Int) == 0) = false := by simpa using hw0
      have hid := fun W (h : Upd [] w W) => idle_code (hL.upd0 h)
      rw [if_pos hp] at hid
      have HI := Lib.hid hid
      have hp10 : s.phase ≠ 10 := by omega
      clear he hw0 hp hid
      refine calls_all fun K hK => ?_
      go_enter Try.func49, Try.ntmps49
      go_wp2_with fail
      obtain ⟨W, hW⟩ : ∃ W, W = w.alloc (.cells turn0.toArray 36) := ⟨_, rfl⟩
      have RB : Blk W w.heap.size turn0 36 := by rw [hW]; exact Blk.new w _ _
      have HU : Upd [] w W := by rw [hW]; exact (Upd.refl _ _).alloc _
      have hWs : W.heap.size = w.heap.size + 1 := by rw [hW]; exact World.size_alloc _ _
      simp only [turn0, trnNone, evNone, Trn.cells] at hW
      rw [← hW]
      clear hW
      refine (HI.out _ HU).mono ?_
      rintro e w' ⟨rfl, rfl⟩
      have hL1 := hL.upd0 HU
      have b4 := hL1.att.head.cell 4 rfl
      go_wp2_with fail
      refine (lock_code hL1 hp10 hM.even.1).mono ?_
      rintro e w3 ⟨rfl, F', acc', st', rv', wv', mv', HL3, U3, hF3, ho3⟩
      obtain ⟨T, hT⟩ : ∃ T, T = (lockS s sh).1 := ⟨_, rfl⟩
      rw [← hT] at hK ⊢
      clear hT b4 hL1
      have hnr : w.heap.size ∉ a :: (F ++ X.foot) := by
        simp only [List.mem_cons, List.mem_append, not_or]
        exact ⟨by omega, fun h => Nat.lt_irrefl _ (hL.sep _ h).1, fun h => Nat.lt_irrefl _ (lx _ h)⟩
      have RB3 := RB.upd U3 hnr
      have hsw : w.heap.size < W.heap.size := RB.lt
      have U4 : Upd (a :: (F ++ X.foot)) w w3 := (HU.mono (by simp)).trans U3
      clear RB U3
      obtain ⟨to, tw, ⟨tk, ta, tv, tb⟩⟩ := T
      simp only [Trn.val]
      have q0 := (RB3).cell 0 rfl
      have q1 := (RB3).cell 1 rfl
      have q2 := (RB3).cell 2 rfl
      have q3 := (RB3).cell 3 rfl
      have q4 := (RB3).cell 4 rfl
      have q5 := (RB3).cell 5 rfl
      have q6 := (RB3).cell 6 rfl
      have q7 := (RB3).cell 7 rfl
      have g0 := (RB3).free 0
      have g1 := (RB3).free 1
      have g2 := (RB3).free 2
      have g3 := (RB3).free 3
      have g4 := (RB3).free 4
      have g5 := (RB3).free 5
      have g6 := (RB3).free 6
      have g7 := (RB3).free 7
      go_wp2_with fail
      exact bodyPost_ret (turn_results2 2 3 rfl _ _ _ (⟨to, tw, ⟨tk, ta, tv, tb⟩⟩ : Trn) (.int .i64 0) rfl rfl (turn_set RB3 rfl (⟨to, tw, ⟨tk, ta, tv, tb⟩⟩ : Trn))) rfl (hK _ _ ⟨rfl, fin_step hL (Nat.le_refl _) HL3 U4 (fun g hg => (hF3 g hg).imp id (fun h => ⟨by omega, by omega⟩)) ho3 _ _ _ _ _ _ _ _⟩)
  · have he : endS s sh = (trnNone, 2, s, sh) := by unfold endS; rw [if_pos hp]
    rw [he]
    have hid := fun W (h : Upd [] w W) => idle_code (hL.upd0 h)
    rw [if_neg hp] at hid
    have HI := Lib.hid hid
    clear he hid hp
    refine calls_all fun K hK => ?_
    go_enter Try.func49, Try.ntmps49
    go_wp2_with fail
    obtain ⟨W, hW⟩ : ∃ W, W = w.alloc (.cells turn0.toArray 36) := ⟨_, rfl⟩
    have RB : Blk W w.heap.size turn0 36 := by rw [hW]; exact Blk.new w _ _
    have HU : Upd [] w W := by rw [hW]; exact (Upd.refl _ _).alloc _
    have hWs : W.heap.size = w.heap.size + 1 := by rw [hW]; exact World.size_alloc _ _
    simp only [turn0, trnNone, evNone, Trn.cells] at hW
    rw [← hW]
    clear hW
    refine (HI.out _ HU).mono ?_
    rintro e w' ⟨rfl, rfl⟩
    have hL1 := hL.upd0 HU
    have q0 := (RB).cell 0 rfl
    have q1 := (RB).cell 1 rfl
    have q2 := (RB).cell 2 rfl
    have q3 := (RB).cell 3 rfl
    have q4 := (RB).cell 4 rfl
    have q5 := (RB).cell 5 rfl
    have q6 := (RB).cell 6 rfl
    have q7 := (RB).cell 7 rfl
    have g0 := (RB).free 0
    have g1 := (RB).free 1
    have g2 := (RB).free 2
    have g3 := (RB).free 3
    have g4 := (RB).free 4
    have g5 := (RB).free 5
    have g6 := (RB).free 6
    have g7 := (RB).free 7
    go_wp2_with fail
    exact bodyPost_ret (turn_results2 2 3 rfl _ _ _ trnNone (.int .i64 2) rfl rfl (turn_set RB rfl trnNone)) rfl (hK _ _ ⟨rfl, fin_step hL (Nat.le_refl _) hL1 (HU.mono (by simp)) (fun g hg => .inl hg) (.inl ⟨rfl, rfl⟩) _ _ _ _ _ _ _ _⟩)

theorem has_live (hL : Live w X sh acc st a s F rv wv mv) (x : Int) : Calls Try.prog 46 #[.pointer (some ⟨X.ra, 0, none⟩), .int .u64 x] w fun e w' => e = .returned (.bool (decide (x < sh.row.length))) ∧ w = w' := has_row hL.sh.row x

-- the place of an address is looked up

set_option maxHeartbeats 2000000 in
theorem get_code (hL : Live w X sh acc st a s F rv wv mv) (hM : May s) (x : Int) (hx : 0 ≤ x ∧ x < 18446744073709551616) :
    Calls Try.prog 14 #[.pointer (some ⟨a, 0, none⟩), .int .u64 x] w (CallOk w X acc st a F (getS s sh x).1 (getS s sh x).2.1 (getS s sh x).2.2 sh) := by
  have la := hL.lt
  have no := hL.out
  simp only [SX.foot, List.mem_cons, List.not_mem_nil, or_false, not_or] at no
  have lx := hL.sh.lt
  have l1 := lx X.ra (by simp [SX.foot])
  have l2 := lx X.rb (by simp [SX.foot])
  have l3 := lx X.ca (by simp [SX.foot])
  have l4 := lx X.cr (by simp [SX.foot])
  have l5 := lx X.cb (by simp [SX.foot])
  by_cases hp : s.phase = 1
  · obtain ⟨m, rfl, hmF, hP⟩ := hL.att.pl (by omega)
    have hid := fun W (h : Upd [] w W) => idle_code (hL.upd0 h)
    rw [(if_pos hp)] at hid
    have HI := Lib.hid hid
    clear hid
    have hp10 : s.phase ≠ 10 := by omega
    cases hpl : place s.writes x with
    | some k =>
      have he : getS s sh x = (⟨2, (s.writes.getD k (0, 0)).2, ⟨2, x, (s.writes.getD k (0, 0)).2, true⟩⟩, 0, s) := by unfold getS; rw [if_neg (by simp [hp]), hpl]
      obtain ⟨hkl, v, hkv⟩ := place_some hpl
      have hgd : (s.writes.getD k (0, 0)).2 = v := by simp [List.getD, hkv]
      rw [he, hgd]
      obtain ⟨g, cap, sp, rfl, hcap, GB, hgF⟩ := hL.att.wr.open (by intro e; rw [e] at hkl; simp at hkl)
      obtain ⟨hx0', hx1'⟩ := pcells_get s.writes k x v hkv
      have hx1 : (pcells s.writes ++ sp)[k * 2 + 1]? = some (.int .u64 v) := by rw [List.getElem?_append_left (by rw [pcells_len]; omega)]; exact hx1'
      have hkl' : (k : Int) < (s.writes.length : Int) := by omega
      have HLK : Hid (lookV s.writes x = k ∧ (place s.writes x).isSome = true) := Lib.hid ⟨by unfold lookV; rw [hpl], by rw [hpl]; rfl⟩
      clear he hgd hx0' hx1' hkv hpl hp
      refine calls_all fun K hK => ?_
      go_enter Try.func14, Try.ntmps14
      go_wp2_with fail
      obtain ⟨W, hW⟩ : ∃ W, W = w.alloc (.cells turn0.toArray 36) := ⟨_, rfl⟩
      have RB : Blk W w.heap.size turn0 36 := by rw [hW]; exact Blk.new w _ _
      have HU : Upd [] w W := by rw [hW]; exact (Upd.refl _ _).alloc _
      have hWs : W.heap.size = w.heap.size + 1 := by rw [hW]; exact World.size_alloc _ _
      simp only [turn0, trnNone, evNone, Trn.cells] at hW
      rw [← hW]
      clear hW
      refine (HI.out _ HU).mono ?_
      rintro e w' ⟨rfl, rfl⟩
      have hL1 := hL.upd0 HU
      have a11 := hL1.att.head.cell 11 rfl
      have a4 := hL1.att.head.cell 4 rfl
      have e1 := (GB.upd HU (by simp)).cell (k * 2 + 1) hx1
      have hrun := places_look (hP.upd HU (by simp)) hx
      rw [HLK.out.1, HLK.out.2] at hrun
      have q0 := (RB).cell 0 rfl
      have q1 := (RB).cell 1 rfl
      have q2 := (RB).cell 2 rfl
      have q3 := (RB).cell 3 rfl
      have q4 := (RB).cell 4 rfl
      have q5 := (RB).cell 5 rfl
      have q6 := (RB).cell 6 rfl
      have q7 := (RB).cell 7 rfl
      have g0 := (RB).free 0
      have g1 := (RB).free 1
      have g2 := (RB).free 2
      have g3 := (RB).free 3
      have g4 := (RB).free 4
      have g5 := (RB).free 5
      have g6 := (RB).free 6
      have g7 := (RB).free 7
      go_wp2_with ((at_lookup; with_reducible refine wpList_lookup_eq rfl _ _ _ _ rfl _ _ _ rfl rfl ?_ ?_); exact hrun)
      exact bodyPost_ret (turn_results2 4 5 rfl _ _ _ (⟨2, v, ⟨2, x, v, true⟩⟩ : Trn) (.int .i64 0) rfl rfl (turn_set RB rfl (⟨2, v, ⟨2, x, v, true⟩⟩ : Trn))) rfl (hK _ _ ⟨rfl, fin_step hL (Nat.le_refl _) hL1 (HU.mono (by simp)) (fun g hg => .inl hg) (.inl ⟨rfl, rfl⟩) _ _ _ _ _ _ _ _⟩)
    | none =>
      have HLK : Hid (lookV s.writes x = 0 ∧ (place s.writes x).isSome = false) := Lib.hid ⟨by unfold lookV; rw [hpl], by rw [hpl]; rfl⟩
      have hhas := fun W (h : Upd [] w W) => has_live (hL.upd0 h) x
      by_cases hin : x < sh.row.length
      · rw [decide_eq_true hin] at hhas
        have HH := Lib.hid hhas
        obtain ⟨p, cp, rfl⟩ := hL.att.rd.form
        by_cases hfull : 1024 ≤ s.reads.length
        · have he : getS s sh x = (trnNone, 5, s) := by unfold getS; rw [if_neg (by simp [hp]), hpl]; simp only; rw [if_neg (by simpa using hin), if_pos hfull]
          have hf1 : ((s.reads.length : Int) == 1024) = true := by have := hM.lenR; simp; omega
          rw [he]
          clear he hpl hp hin hhas hfull
          refine calls_all fun K hK => ?_
          go_enter Try.func14, Try.ntmps14
          go_wp2_with fail
          obtain ⟨W, hW⟩ : ∃ W, W = w.alloc (.cells turn0.toArray 36) := ⟨_, rfl⟩
          have RB : Blk W w.heap.size turn0 36 := by rw [hW]; exact Blk.new w _ _
          have HU : Upd [] w W := by rw [hW]; exact (Upd.refl _ _).alloc _
          have hWs : W.heap.size = w.heap.size + 1 := by rw [hW]; exact World.size_alloc _ _
          simp only [turn0, trnNone, evNone, Trn.cells] at hW
          rw [← hW]
          clear hW
          refine (HI.out _ HU).mono ?_
          rintro e w' ⟨rfl, rfl⟩
          have hL1 := hL.upd0 HU
          have a11 := hL1.att.head.cell 11 rfl
          have a0 := hL1.att.head.cell 0 rfl
          have a3 := hL1.att.head.cell 3 rfl
          have hrun := places_look (hP.upd HU (by simp)) hx
          rw [HLK.out.1, HLK.out.2] at hrun
          have q0 := (RB).cell 0 rfl
          have q1 := (RB).cell 1 rfl
          have q2 := (RB).cell 2 rfl
          have q3 := (RB).cell 3 rfl
          have q4 := (RB).cell 4 rfl
          have q5 := (RB).cell 5 rfl
          have q6 := (RB).cell 6 rfl
          have q7 := (RB).cell 7 rfl
          have g0 := (RB).free 0
          have g1 := (RB).free 1
          have g2 := (RB).free 2
          have g3 := (RB).free 3
          have g4 := (RB).free 4
          have g5 := (RB).free 5
          have g6 := (RB).free 6
          have g7 := (RB).free 7
          go_wp2_with ((at_lookup; with_reducible refine wpList_lookup_eq rfl _ _ _ _ rfl _ _ _ rfl rfl ?_ ?_); exact hrun)
          refine (HH.out _ HU).mono ?_
          rintro e w' ⟨rfl, rfl⟩
          go_wp2_with fail
          exact bodyPost_ret (turn_results2 4 5 rfl _ _ _ trnNone (.int .i64 5) rfl rfl (turn_set RB rfl trnNone)) rfl (hK _ _ ⟨rfl, fin_step hL (Nat.le_refl _) hL1 (HU.mono (by simp)) (fun g hg => .inl hg) (.inl ⟨rfl, rfl⟩) _ _ _ _ _ _ _ _⟩)
        · have he : getS s sh x = ((loadS { s with addr := x } sh).1, 0, (loadS { s with addr := x } sh).2) := by unfold getS; rw [if_neg (by simp [hp]), hpl]; simp only; rw [if_neg (by simpa using hin), if_neg hfull]
          have hf1 : ((s.reads.length : Int) == 1024) = false := by simp; omega
          rw [he]
          clear he hpl hp hin hhas hfull
          refine calls_all fun K hK => ?_
          go_enter Try.func14, Try.ntmps14
          go_wp2_with fail
          obtain ⟨W, hW⟩ : ∃ W, W = w.alloc (.cells turn0.toArray 36) := ⟨_, rfl⟩
          have RB : Blk W w.heap.size turn0 36 := by rw [hW]; exact Blk.new w _ _
          have HU : Upd [] w W := by rw [hW]; exact (Upd.refl _ _).alloc _
          have hWs : W.heap.size = w.heap.size + 1 := by rw [hW]; exact World.size_alloc _ _
          simp only [turn0, trnNone, evNone, Trn.cells] at hW
          rw [← hW]
          clear hW
          refine (HI.out _ HU).mono ?_
          rintro e w' ⟨rfl, rfl⟩
          have hL1 := hL.upd0 HU
          have a11 := hL1.att.head.cell 11 rfl
          have a0 := hL1.att.head.cell 0 rfl
          have a3 := hL1.att.head.cell 3 rfl
          have a7 := hL1.att.head.cell 7 rfl
          have f7 := hL1.att.head.free 7
          have hrun := places_look (hP.upd HU (by simp)) hx
          rw [HLK.out.1, HLK.out.2] at hrun
          go_wp2_with ((at_lookup; with_reducible refine wpList_lookup_eq rfl _ _ _ _ rfl _ _ _ rfl rfl ?_ ?_); exact hrun)
          refine (HH.out _ HU).mono ?_
          rintro e w' ⟨rfl, rfl⟩
          go_wp2_with fail
          have uw : Upd [a] W (W.setCell ⟨a, 7, none⟩ (.int .u64 x)) := (Upd.refl _ _).setCell (.inl (by simp)) _
          have hL2 := hL1.phase (hL1.att.setAddr x) uw ⟨hL.wide.snap, hL.wide.reads, hL.wide.writes, hx, hL.wide.word, hL.wide.found⟩
          refine (aload_code hL2 hp10).mono ?_
          rintro e w3 ⟨rfl, F', acc', st', rv', wv', mv', HL3, U3', hF3', ho3⟩
          have U3 : Upd (a :: (F ++ X.foot)) W w3 := (uw.mono (by simp)).trans U3'
          have hF3 : ∀ g ∈ F', g ∈ F ∨ W.heap.size ≤ g := fun g hg => (hF3' g hg).imp id (fun h => Nat.le_trans uw.size h)
          have hT : (loadS { s with addr := x } sh).1 = going := rfl
          rw [hT] at hK
          generalize going = T at hK ⊢
          clear hT U3' hF3' uw hL2 hL1 a11 a0 a3 a7 f7 hrun
          have hnr : w.heap.size ∉ a :: (F ++ X.foot) := by
            simp only [List.mem_cons, List.mem_append, not_or]
            exact ⟨by omega, fun h => Nat.lt_irrefl _ (hL.sep _ h).1, fun h => Nat.lt_irrefl _ (lx _ h)⟩
          have RB3 := RB.upd U3 hnr
          have hsw : w.heap.size < W.heap.size := RB.lt
          have U4 : Upd (a :: (F ++ X.foot)) w w3 := (HU.mono (by simp)).trans U3
          clear RB U3
          obtain ⟨to, tw, ⟨tk, ta, tv, tb⟩⟩ := T
          simp only [Trn.val]
          have q0 := (RB3).cell 0 rfl
          have q1 := (RB3).cell 1 rfl
          have q2 := (RB3).cell 2 rfl
          have q3 := (RB3).cell 3 rfl
          have q4 := (RB3).cell 4 rfl
          have q5 := (RB3).cell 5 rfl
          have q6 := (RB3).cell 6 rfl
          have q7 := (RB3).cell 7 rfl
          have g0 := (RB3).free 0
          have g1 := (RB3).free 1
          have g2 := (RB3).free 2
          have g3 := (RB3).free 3
          have g4 := (RB3).free 4
          have g5 := (RB3).free 5
          have g6 := (RB3).free 6
          have g7 := (RB3).free 7
          go_wp2_with fail
          exact bodyPost_ret (turn_results2 4 5 rfl _ _ _ (⟨to, tw, ⟨tk, ta, tv, tb⟩⟩ : Trn) (.int .i64 0) rfl rfl (turn_set RB3 rfl (⟨to, tw, ⟨tk, ta, tv, tb⟩⟩ : Trn))) rfl (hK _ _ ⟨rfl, fin_step hL (Nat.le_refl _) HL3 U4 (fun g hg => (hF3 g hg).imp id (fun h => ⟨by omega, by omega⟩)) ho3 _ _ _ _ _ _ _ _⟩)
      · rw [decide_eq_false hin] at hhas
        have HH := Lib.hid hhas
        have he : getS s sh x = (trnNone, 4, s) := by unfold getS; rw [if_neg (by simp [hp]), hpl]; simp only; rw [if_pos hin]
        rw [he]
        clear he hpl hp hin hhas
        refine calls_all fun K hK => ?_
        go_enter Try.func14, Try.ntmps14
        go_wp2_with fail
        obtain ⟨W, hW⟩ : ∃ W, W = w.alloc (.cells turn0.toArray 36) := ⟨_, rfl⟩
        have RB : Blk W w.heap.size turn0 36 := by rw [hW]; exact Blk.new w _ _
        have HU : Upd [] w W := by rw [hW]; exact (Upd.refl _ _).alloc _
        have hWs : W.heap.size = w.heap.size + 1 := by rw [hW]; exact World.size_alloc _ _
        simp only [turn0, trnNone, evNone, Trn.cells] at hW
        rw [← hW]
        clear hW
        refine (HI.out _ HU).mono ?_
        rintro e w' ⟨rfl, rfl⟩
        have hL1 := hL.upd0 HU
        have a11 := hL1.att.head.cell 11 rfl
        have a0 := hL1.att.head.cell 0 rfl
        have hrun := places_look (hP.upd HU (by simp)) hx
        rw [HLK.out.1, HLK.out.2] at hrun
        have q0 := (RB).cell 0 rfl
        have q1 := (RB).cell 1 rfl
        have q2 := (RB).cell 2 rfl
        have q3 := (RB).cell 3 rfl
        have q4 := (RB).cell 4 rfl
        have q5 := (RB).cell 5 rfl
        have q6 := (RB).cell 6 rfl
        have q7 := (RB).cell 7 rfl
        have g0 := (RB).free 0
        have g1 := (RB).free 1
        have g2 := (RB).free 2
        have g3 := (RB).free 3
        have g4 := (RB).free 4
        have g5 := (RB).free 5
        have g6 := (RB).free 6
        have g7 := (RB).free 7
        go_wp2_with ((at_lookup; with_reducible refine wpList_lookup_eq rfl _ _ _ _ rfl _ _ _ rfl rfl ?_ ?_); exact hrun)
        refine (HH.out _ HU).mono ?_
        rintro e w' ⟨rfl, rfl⟩
        go_wp2_with fail
        exact bodyPost_ret (turn_results2 4 5 rfl _ _ _ trnNone (.int .i64 4) rfl rfl (turn_set RB rfl trnNone)) rfl (hK _ _ ⟨rfl, fin_step hL (Nat.le_refl _) hL1 (HU.mono (by simp)) (fun g hg => .inl hg) (.inl ⟨rfl, rfl⟩) _ _ _ _ _ _ _ _⟩)
  · have he : getS s sh x = (trnNone, 2, s) := by unfold getS; rw [if_pos hp]
    rw [he]
    have hid := fun W (h : Upd [] w W) => idle_code (hL.upd0 h)
    rw [(if_neg hp)] at hid
    have HI := Lib.hid hid
    clear hid
    clear he hp
    refine calls_all fun K hK => ?_
    go_enter Try.func14, Try.ntmps14
    go_wp2_with fail
    obtain ⟨W, hW⟩ : ∃ W, W = w.alloc (.cells turn0.toArray 36) := ⟨_, rfl⟩
    have RB : Blk W w.heap.size turn0 36 := by rw [hW]; exact Blk.new w _ _
    have HU : Upd [] w W := by rw [hW]; exact (Upd.refl _ _).alloc _
    have hWs : W.heap.size = w.heap.size + 1 := by rw [hW]; exact World.size_alloc _ _
    simp only [turn0, trnNone, evNone, Trn.cells] at hW
    rw [← hW]
    clear hW
    refine (HI.out _ HU).mono ?_
    rintro e w' ⟨rfl, rfl⟩
    have hL1 := hL.upd0 HU
    have q0 := (RB).cell 0 rfl
    have q1 := (RB).cell 1 rfl
    have q2 := (RB).cell 2 rfl
    have q3 := (RB).cell 3 rfl
    have q4 := (RB).cell 4 rfl
    have q5 := (RB).cell 5 rfl
    have q6 := (RB).cell 6 rfl
    have q7 := (RB).cell 7 rfl
    have g0 := (RB).free 0
    have g1 := (RB).free 1
    have g2 := (RB).free 2
    have g3 := (RB).free 3
    have g4 := (RB).free 4
    have g5 := (RB).free 5
    have g6 := (RB).free 6
    have g7 := (RB).free 7
    go_wp2_with fail
    exact bodyPost_ret (turn_results2 4 5 rfl _ _ _ trnNone (.int .i64 2) rfl rfl (turn_set RB rfl trnNone)) rfl (hK _ _ ⟨rfl, fin_step hL (Nat.le_refl _) hL1 (HU.mono (by simp)) (fun g hg => .inl hg) (.inl ⟨rfl, rfl⟩) _ _ _ _ _ _ _ _⟩)
end
end Go.Proofs.Ythfeljongackcaa
