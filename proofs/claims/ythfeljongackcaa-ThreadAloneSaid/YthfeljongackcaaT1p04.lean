/- An attempt's steps, one by one: what each answers and leaves. No conditions but what the phase says. An attempt's steps, the second part: close, lock, free, look. No conditions but what the phase says. -/
import Derived.Test.YthfeljongackcaaT1p03
set_option linter.unusedSimpArgs false
set_option linter.unusedVariables false
set_option maxRecDepth 100000
namespace Go.Proofs.Ythfeljongackcaa
open Go.RowKit
open Go.Maps
-- behind a call to going: the turn is stored
section
variable {w : World} {X : SX} {sh : Sh} {acc st : Int} {a : Nat} {s : AS} {F : List Nat} {rv wv mv : Value}

theorem aload_code (hL : Live w X sh acc st a s F rv wv mv) (hp : s.phase ≠ 10) :
    Calls Try.prog 47 #[.pointer (some ⟨a, 0, none⟩)] w (StepOk w X acc st a F going { s with word := loadW sh.row s.addr, phase := 3 } sh) := by
  have la := hL.lt
  have no := hL.out
  simp only [SX.foot, List.mem_cons, List.not_mem_nil, or_false, not_or] at no
  have lx := hL.sh.lt
  have l1 := lx X.ra (by simp [SX.foot])
  have l2 := lx X.rb (by simp [SX.foot])
  refine calls_all fun K hK => ?_
  go_enter Try.func47, Try.ntmps47
  go_wp2_with fail
  obtain ⟨W, hW⟩ : ∃ W, W = w.alloc (.cells turn0.toArray 36) := ⟨_, rfl⟩
  have RB : Blk W w.heap.size turn0 36 := by rw [hW]; exact Blk.new w _ _
  have HU : Upd [] w W := by rw [hW]; exact (Upd.refl _ _).alloc _
  simp only [turn0, trnNone, evNone, Trn.cells] at hW
  rw [← hW]
  clear hW
  have hL1 := hL.upd0 HU.drew
  have a0 := hL1.att.head.cell 0 rfl
  have a7 := hL1.att.head.cell 7 rfl
  refine wp_region_eff (fun w' => w'.cell? ⟨a, 0, none⟩ = some (.pointer (some ⟨X.ra, 0, none⟩)) ∧ w'.cell? ⟨a, 7, none⟩ = some (.int .u64 s.addr)) 18 (by kernel_rfl) (by kernel_rfl) ⟨a0, a7⟩ ?_
  repeat
    refine wpE_take (v := ?_) (by decide) rfl (by rfl) ?_ ?_
    rotate_left 1
    · ((intro w hSw; (try dsimp only at hSw); go_simp); try with_reducible rfl)
    try simp only [Act.put, List.setIfInBounds_toArray, List.set_cons_zero, List.set_cons_succ]
  refine wpE_eff (by decide) rfl (by kernel_rfl) (by rfl) (fun K2 hK2 => ?_)
  go_simp
  refine (load_any hL1.sh.row s.addr hL.wide.addr.1).mono ?_
  rintro e w1 ⟨rfl, r1, u1⟩
  rw [loadW_eq]
  have hA2 := hL1.att.upd u1 (by simpa using no.1) (fun g hg => by have := (hL1.sep g hg).2.1; simp [SX.foot] at this; simpa using this.1)
  refine hK2.out _ _ ⟨hA2.head.cell 0 rfl, hA2.head.cell 7 rfl⟩ ?_
  clear hK2 K2
  repeat
    refine wpE_take (v := ?_) (by decide) rfl (by rfl) ?_ ?_
    rotate_left 1
    · ((intro w hSw; (try dsimp only at hSw); go_simp); try with_reducible rfl)
    try simp only [Act.put, List.setIfInBounds_toArray, List.set_cons_zero, List.set_cons_succ]
  have b8 := hA2.head.cell 8 rfl
  have f8 := hA2.head.free 8
  refine wpE_eff (by decide) rfl (by kernel_rfl) (by rfl) (fun K2 hK2 => ?_)
  go_simp
  refine hK2.out _ _ ⟨(hA2.setWord _).head.cell 0 rfl, (hA2.setWord _).head.cell 7 rfl⟩ ?_
  refine wpE_end (NoPanic.normal ?_)
  clear hK2 K2
  have hA3 := (hA2.setWord (loadW sh.row s.addr)).setPhase 3 hp
  have uw : Upd [a] w1 ((w1.setCell ⟨a, 8, none⟩ (.int .u64 (loadW sh.row s.addr))).setCell ⟨a, 5, none⟩ (.int .i64 3)) := ((Upd.refl _ _).setCell (.inl (by simp)) _).setCell (.inl (by simp)) _
  have r3 := r1.upd uw (by simp; omega) (by simp; omega)
  have u3 : Upd [a, X.ra, X.rb] w _ := (HU.drew.mono (by simp)).trans ((u1.mono (by simp)).trans (uw.mono (by simp)))
  have RB3 := (RB.drew.upd u1 (by simp; omega)).upd uw (by simp; omega)
  have HL3 := hL.row u3 hA3 r3 hL.sh.wide.row (wide_load hL.wide hL.sh.wide hL.wide.addr)
  have b5 := (hA2.setWord (loadW sh.row s.addr)).head.cell 5 rfl
  have f5 := (hA2.setWord (loadW sh.row s.addr)).head.free 5
  clear hA3 uw r3 b8 f8 a0 a7 r1 u1
  go_wp2_with fail
  refine (going_code _).mono ?_
  rintro e w2 ⟨rfl, u2⟩
  simp only [Trn.val, going, evNone]
  have HL2 := (HL3).upd0 u2
  have RB2 := (RB3).upd u2 (by simp)
  have U2 := ((u3.mono (fun x hx => .inl (foot_row (F := F) x hx)))).trans (u2.mono (by simp))
  have q0 := (RB2).cell 0 rfl
  have q1 := (RB2).cell 1 rfl
  have q2 := (RB2).cell 2 rfl
  have q3 := (RB2).cell 3 rfl
  have q4 := (RB2).cell 4 rfl
  have q5 := (RB2).cell 5 rfl
  have q6 := (RB2).cell 6 rfl
  have q7 := (RB2).cell 7 rfl
  have g0 := (RB2).free 0
  have g1 := (RB2).free 1
  have g2 := (RB2).free 2
  have g3 := (RB2).free 3
  have g4 := (RB2).free 4
  have g5 := (RB2).free 5
  have g6 := (RB2).free 6
  have g7 := (RB2).free 7
  go_wp2_with fail
  exact bodyPost_ret (turn_results 2 rfl _ _ _ going rfl (turn_set RB2 rfl going)) rfl (hK _ _ (fin_step hL (Nat.le_refl _) HL2 U2 (fun g hg => .inl hg) (.inr (.inl ⟨rfl, rfl⟩)) _ _ _ _ _ _ _ _))

theorem over_code (hL : Live w X sh acc st a s F rv wv mv) (o : Int) (ev : Ev) :
    Calls Try.prog 87 #[.pointer (some ⟨a, 0, none⟩), .int .i64 o, ev.val] w fun e w' => e = .returned (⟨o, 0, ev⟩ : Trn).val ∧ Live w' X sh acc st a overS F (.slice none 0 0) (.slice none 0 0) (.map none) ∧ Upd (a :: F) w w' := by
  have la := hL.lt
  have a2 := (hL.att.head).cell 2 rfl
  have a3 := (hL.att.head).cell 3 rfl
  have a4 := (hL.att.head).cell 4 rfl
  have a5 := (hL.att.head).cell 5 rfl
  have a6 := (hL.att.head).cell 6 rfl
  have a7 := (hL.att.head).cell 7 rfl
  have a8 := (hL.att.head).cell 8 rfl
  have a9 := (hL.att.head).cell 9 rfl
  have a10 := (hL.att.head).cell 10 rfl
  have a11 := (hL.att.head).cell 11 rfl
  have f2 := (hL.att.head).free 2
  have f3 := (hL.att.head).free 3
  have f4 := (hL.att.head).free 4
  have f5 := (hL.att.head).free 5
  have f6 := (hL.att.head).free 6
  have f7 := (hL.att.head).free 7
  have f8 := (hL.att.head).free 8
  have f9 := (hL.att.head).free 9
  have f10 := (hL.att.head).free 10
  have f11 := (hL.att.head).free 11
  obtain ⟨k, ea, ew, eo⟩ := ev
  simp only [Ev.val]
  have uw : Upd [a] w ((((((((((w.setCell ⟨a, 2, none⟩ (.int .u64 0)).setCell ⟨a, 3, none⟩ (.slice none 0 0)).setCell ⟨a, 4, none⟩ (.slice none 0 0)).setCell ⟨a, 5, none⟩ (.int .i64 10)).setCell ⟨a, 6, none⟩ (.int .i64 0)).setCell ⟨a, 7, none⟩ (.int .u64 0)).setCell ⟨a, 8, none⟩ (.int .u64 0)).setCell ⟨a, 9, none⟩ (.int .u64 0)).setCell ⟨a, 10, none⟩ (.int .i64 0)).setCell ⟨a, 11, none⟩ (.map none)) := by
    (repeat (refine Upd.setCell ?_ (Or.inl (by simp)) _))
    exact Upd.refl _ _
  have A2 := AttV.over (ra := X.ra) (ca := X.ca) (l1 := []) (l2 := []) ((((((((((hL.att.head.set 2 (.int .u64 0)).set 3 (.slice none 0 0)).set 4 (.slice none 0 0)).set 5 (.int .i64 10)).set 6 (.int .i64 0)).set 7 (.int .u64 0)).set 8 (.int .u64 0)).set 9 (.int .u64 0)).set 10 (.int .i64 0)).set 11 (.map none)) F
  have HL2 := hL.keep (uw.mono (T := a :: F) (by simp)) A2 (fun g hg => .inl hg) wide_over
  have hsz : w.heap.size + 1 = (World.alloc ((((((((((w.setCell ⟨a, 2, none⟩ (.int .u64 0)).setCell ⟨a, 3, none⟩ (.slice none 0 0)).setCell ⟨a, 4, none⟩ (.slice none 0 0)).setCell ⟨a, 5, none⟩ (.int .i64 10)).setCell ⟨a, 6, none⟩ (.int .i64 0)).setCell ⟨a, 7, none⟩ (.int .u64 0)).setCell ⟨a, 8, none⟩ (.int .u64 0)).setCell ⟨a, 9, none⟩ (.int .u64 0)).setCell ⟨a, 10, none⟩ (.int .i64 0)).setCell ⟨a, 11, none⟩ (.map none)) (.cells #[.int .i64 0, .int .i64 k, .int .u64 ea, .int .u64 ew, .bool eo, .int .i64 0] 34)).heap.size := by simp [World.setCell]
  have HSZ := Lib.hid hsz
  clear hsz
  refine calls_all fun K hK => ?_
  go_enter Try.func87, Try.ntmps87
  go_wp2_with fail
  generalize (((((((((w.setCell ⟨a, 2, none⟩ (.int .u64 0)).setCell ⟨a, 3, none⟩ (.slice none 0 0)).setCell ⟨a, 4, none⟩ (.slice none 0 0)).setCell ⟨a, 5, none⟩ (.int .i64 10)).setCell ⟨a, 6, none⟩ (.int .i64 0)).setCell ⟨a, 7, none⟩ (.int .u64 0)).setCell ⟨a, 8, none⟩ (.int .u64 0)).setCell ⟨a, 9, none⟩ (.int .u64 0)).setCell ⟨a, 10, none⟩ (.int .i64 0)).setCell ⟨a, 11, none⟩ (.map none) = W at HSZ HL2 uw ⊢
  have RB := Blk.new (W.alloc (.cells #[.int .i64 0, .int .i64 k, .int .u64 ea, .int .u64 ew, .bool eo, .int .i64 0] 34)) (⟨o, 0, ⟨k, ea, ew, eo⟩⟩ : Trn).cells 36
  rw [← HSZ.out] at RB
  exact bodyPost_ret (turn_results 6 rfl _ _ _ ⟨o, 0, ⟨k, ea, ew, eo⟩⟩ rfl RB) rfl (hK _ _ ⟨rfl, (HL2.upd0 ((Upd.refl [] _).alloc _)).upd0 ((Upd.refl [] _).alloc _), ((uw.mono (by simp)).alloc _).alloc _⟩)
theorem Live.phase {w' : World} (h : Live w X sh acc st a s F rv wv mv) {s' : AS} (A : AttV w' a X.ra X.ca s' F rv wv mv) (u : Upd [a] w w') (hs : Wide s') : Live w' X sh acc st a s' F rv wv mv :=
  h.keep (u.mono (by simp)) A (fun g hg => .inl hg) hs

-- the clock is loaded

theorem wait_code (hL : Live w X sh acc st a s F rv wv mv) (hp : s.phase ≠ 10) :
    Calls Try.prog 80 #[.pointer (some ⟨a, 0, none⟩)] w (StepOk w X acc st a F going (waitS s sh).2 sh) := by
  have la := hL.lt
  have no := hL.out
  simp only [SX.foot, List.mem_cons, List.not_mem_nil, or_false, not_or] at no
  have lx := hL.sh.lt
  have l1 := lx X.ra (by simp [SX.foot])
  have l2 := lx X.rb (by simp [SX.foot])
  have l3 := lx X.ca (by simp [SX.foot])
  have l4 := lx X.cr (by simp [SX.foot])
  have l5 := lx X.cb (by simp [SX.foot])
  have hoe := opn_eq hL.sh.wide.clock.1 hL.sh.wide.clock.2
  have hop := open_any sh.clock
  by_cases hpar : sh.clock % 2 = 1
  · have he : (waitS s sh).2 = s := by unfold waitS; rw [if_pos hpar]
    rw [he]
    have ho : opn sh.clock = false := by rw [hoe]; simp; omega
    rw [ho] at hop
    clear hoe ho
    refine calls_all fun K hK => ?_
    go_enter Try.func80, Try.ntmps80
    have a1 := hL.att.head.cell 1 rfl
    go_wp2_with fail
    obtain ⟨W, hW⟩ : ∃ W, W = w.alloc (.cells turn0.toArray 36) := ⟨_, rfl⟩
    have RB : Blk W w.heap.size turn0 36 := by rw [hW]; exact Blk.new w _ _
    have HU : Upd [] w W := by rw [hW]; exact (Upd.refl _ _).alloc _
    simp only [turn0, trnNone, evNone, Trn.cells] at hW
    rw [← hW]
    clear hW
    have hL1 := hL.upd0 HU
    refine (clkLoad hL1.sh.clk).mono ?_
    rintro e w1 ⟨rfl, c1, u1⟩
    have hA1 := hL1.att.upd u1 (by simp; omega) (fun g hg => by have := (hL.sep g hg).2.1; simp [SX.foot] at this; simp; omega)
    have U1 : Upd [a, X.ca, X.cr, X.cb] w w1 := (HU.mono (by simp)).trans (u1.mono (by simp))
    have hL2 := hL.clk U1 hA1 c1 hL.sh.wide.clock hL.wide
    have RB1 := RB.upd u1 (by simp; omega)
    clear RB HU hL1 u1 c1 a1 hA1
    go_wp2_with fail
    refine (hop w1).mono ?_
    rintro e w' ⟨rfl, rfl⟩
    go_wp2_with fail
    refine (going_code _).mono ?_
    rintro e w2 ⟨rfl, u2⟩
    simp only [Trn.val, going, evNone]
    have HL2 := (hL2).upd0 u2
    have RB2 := (RB1).upd u2 (by simp)
    have U2 := ((U1.mono (fun x hx => .inl (foot_clk (F := F) x hx)))).trans (u2.mono (by simp))
    have q0 := (RB2).cell 0 rfl
    have q1 := (RB2).cell 1 rfl
    have q2 := (RB2).cell 2 rfl
    have q3 := (RB2).cell 3 rfl
    have q4 := (RB2).cell 4 rfl
    have q5 := (RB2).cell 5 rfl
    have q6 := (RB2).cell 6 rfl
    have q7 := (RB2).cell 7 rfl
    have g0 := (RB2).free 0
    have g1 := (RB2).free 1
    have g2 := (RB2).free 2
    have g3 := (RB2).free 3
    have g4 := (RB2).free 4
    have g5 := (RB2).free 5
    have g6 := (RB2).free 6
    have g7 := (RB2).free 7
    go_wp2_with fail
    exact bodyPost_ret (turn_results 2 rfl _ _ _ going rfl (turn_set RB2 rfl going)) rfl (hK _ _ (fin_step hL (Nat.le_refl _) HL2 U2 (fun g hg => .inl hg) (.inr (.inr ⟨rfl, rfl⟩)) _ _ _ _ _ _ _ _))
  · have he : (waitS s sh).2 = { s with found := sh.clock, phase := if s.reads = [] then 6 else 5 } := by unfold waitS; rw [if_neg hpar]
    rw [he]
    have ho : opn sh.clock = true := by rw [hoe]; have := hL.sh.wide.par; simp; omega
    rw [ho] at hop
    clear hoe ho
    obtain ⟨p, cp, rfl⟩ := hL.att.rd.form
    by_cases hr : s.reads = []
    · have hl0 : ((s.reads.length : Int) == 0) = true := by simp [hr]
      rw [if_pos hr]
      refine calls_all fun K hK => ?_
      go_enter Try.func80, Try.ntmps80
      have a1 := hL.att.head.cell 1 rfl
      go_wp2_with fail
      obtain ⟨W, hW⟩ : ∃ W, W = w.alloc (.cells turn0.toArray 36) := ⟨_, rfl⟩
      have RB : Blk W w.heap.size turn0 36 := by rw [hW]; exact Blk.new w _ _
      have HU : Upd [] w W := by rw [hW]; exact (Upd.refl _ _).alloc _
      simp only [turn0, trnNone, evNone, Trn.cells] at hW
      rw [← hW]
      clear hW
      have hL1 := hL.upd0 HU
      refine (clkLoad hL1.sh.clk).mono ?_
      rintro e w1 ⟨rfl, c1, u1⟩
      have hA1 := hL1.att.upd u1 (by simp; omega) (fun g hg => by have := (hL.sep g hg).2.1; simp [SX.foot] at this; simp; omega)
      have U1 : Upd [a, X.ca, X.cr, X.cb] w w1 := (HU.mono (by simp)).trans (u1.mono (by simp))
      have hL2 := hL.clk U1 hA1 c1 hL.sh.wide.clock hL.wide
      have RB1 := RB.upd u1 (by simp; omega)
      clear RB HU hL1 u1 c1 a1 hA1
      go_wp2_with fail
      refine (hop w1).mono ?_
      rintro e w' ⟨rfl, rfl⟩
      have A3 := ((hL2.att.setFound sh.clock).setPhase 5 hp).setPhase 6 (by simp)
      have uw : Upd [a] w1 (((w1.setCell ⟨a, 9, none⟩ (.int .u64 sh.clock)).setCell ⟨a, 5, none⟩ (.int .i64 5)).setCell ⟨a, 5, none⟩ (.int .i64 6)) := by
        (repeat (refine Upd.setCell ?_ (Or.inl (by simp)) _))
        exact Upd.refl _ _
      have HL3 := hL2.phase A3 uw ⟨hL.wide.snap, hL.wide.reads, hL.wide.writes, hL.wide.addr, hL.wide.word, hL.sh.wide.clock⟩
      have RB3 := RB1.upd uw (by simp; omega)
      have U3 : Upd (a :: (F ++ X.foot)) w _ := (U1.mono (fun x hx => .inl (foot_clk (F := F) x hx))).trans (uw.mono (by simp))
      have b9 := hL2.att.head.cell 9 rfl
      have f9 := hL2.att.head.free 9
      have b5 := hL2.att.head.cell 5 rfl
      have f5 := hL2.att.head.free 5
      have b3 := hL2.att.head.cell 3 rfl
      clear uw A3 RB1 hL2
      go_wp2_with fail
      refine (going_code _).mono ?_
      rintro e w2 ⟨rfl, u2⟩
      simp only [Trn.val, going, evNone]
      have HL2 := (HL3).upd0 u2
      have RB2 := (RB3).upd u2 (by simp)
      have U2 := (U3).trans (u2.mono (by simp))
      have q0 := (RB2).cell 0 rfl
      have q1 := (RB2).cell 1 rfl
      have q2 := (RB2).cell 2 rfl
      have q3 := (RB2).cell 3 rfl
      have q4 := (RB2).cell 4 rfl
      have q5 := (RB2).cell 5 rfl
      have q6 := (RB2).cell 6 rfl
      have q7 := (RB2).cell 7 rfl
      have g0 := (RB2).free 0
      have g1 := (RB2).free 1
      have g2 := (RB2).free 2
      have g3 := (RB2).free 3
      have g4 := (RB2).free 4
      have g5 := (RB2).free 5
      have g6 := (RB2).free 6
      have g7 := (RB2).free 7
      go_wp2_with fail
      exact bodyPost_ret (turn_results 2 rfl _ _ _ going rfl (turn_set RB2 rfl going)) rfl (hK _ _ (fin_step hL (Nat.le_refl _) HL2 U2 (fun g hg => .inl hg) (.inr (.inr ⟨rfl, rfl⟩)) _ _ _ _ _ _ _ _))
    · have hl0 : ((s.reads.length : Int) == 0) = false := by simpa using hr
      rw [if_neg hr]
      refine calls_all fun K hK => ?_
      go_enter Try.func80, Try.ntmps80
      have a1 := hL.att.head.cell 1 rfl
      go_wp2_with fail
      obtain ⟨W, hW⟩ : ∃ W, W = w.alloc (.cells turn0.toArray 36) := ⟨_, rfl⟩
      have RB : Blk W w.heap.size turn0 36 := by rw [hW]; exact Blk.new w _ _
      have HU : Upd [] w W := by rw [hW]; exact (Upd.refl _ _).alloc _
      simp only [turn0, trnNone, evNone, Trn.cells] at hW
      rw [← hW]
      clear hW
      have hL1 := hL.upd0 HU
      refine (clkLoad hL1.sh.clk).mono ?_
      rintro e w1 ⟨rfl, c1, u1⟩
      have hA1 := hL1.att.upd u1 (by simp; omega) (fun g hg => by have := (hL.sep g hg).2.1; simp [SX.foot] at this; simp; omega)
      have U1 : Upd [a, X.ca, X.cr, X.cb] w w1 := (HU.mono (by simp)).trans (u1.mono (by simp))
      have hL2 := hL.clk U1 hA1 c1 hL.sh.wide.clock hL.wide
      have RB1 := RB.upd u1 (by simp; omega)
      clear RB HU hL1 u1 c1 a1 hA1
      go_wp2_with fail
      refine (hop w1).mono ?_
      rintro e w' ⟨rfl, rfl⟩
      have A3 := ((hL2.att.setFound sh.clock).setPhase 5 hp)
      have uw : Upd [a] w1 ((w1.setCell ⟨a, 9, none⟩ (.int .u64 sh.clock)).setCell ⟨a, 5, none⟩ (.int .i64 5)) := by
        (repeat (refine Upd.setCell ?_ (Or.inl (by simp)) _))
        exact Upd.refl _ _
      have HL3 := hL2.phase A3 uw ⟨hL.wide.snap, hL.wide.reads, hL.wide.writes, hL.wide.addr, hL.wide.word, hL.sh.wide.clock⟩
      have RB3 := RB1.upd uw (by simp; omega)
      have U3 : Upd (a :: (F ++ X.foot)) w _ := (U1.mono (fun x hx => .inl (foot_clk (F := F) x hx))).trans (uw.mono (by simp))
      have b9 := hL2.att.head.cell 9 rfl
      have f9 := hL2.att.head.free 9
      have b5 := hL2.att.head.cell 5 rfl
      have f5 := hL2.att.head.free 5
      have b3 := hL2.att.head.cell 3 rfl
      clear uw A3 RB1 hL2
      go_wp2_with fail
      refine (going_code _).mono ?_
      rintro e w2 ⟨rfl, u2⟩
      simp only [Trn.val, going, evNone]
      have HL2 := (HL3).upd0 u2
      have RB2 := (RB3).upd u2 (by simp)
      have U2 := (U3).trans (u2.mono (by simp))
      have q0 := (RB2).cell 0 rfl
      have q1 := (RB2).cell 1 rfl
      have q2 := (RB2).cell 2 rfl
      have q3 := (RB2).cell 3 rfl
      have q4 := (RB2).cell 4 rfl
      have q5 := (RB2).cell 5 rfl
      have q6 := (RB2).cell 6 rfl
      have q7 := (RB2).cell 7 rfl
      have g0 := (RB2).free 0
      have g1 := (RB2).free 1
      have g2 := (RB2).free 2
      have g3 := (RB2).free 3
      have g4 := (RB2).free 4
      have g5 := (RB2).free 5
      have g6 := (RB2).free 6
      have g7 := (RB2).free 7
      go_wp2_with fail
      exact bodyPost_ret (turn_results 2 rfl _ _ _ going rfl (turn_set RB2 rfl going)) rfl (hK _ _ (fin_step hL (Nat.le_refl _) HL2 U2 (fun g hg => .inl hg) (.inr (.inr ⟨rfl, rfl⟩)) _ _ _ _ _ _ _ _))
end
end Go.Proofs.Ythfeljongackcaa
set_option linter.unusedSimpArgs false
set_option linter.unusedVariables false
set_option maxRecDepth 100000
namespace Go.Proofs.Ythfeljongackcaa
open Go.RowKit
open Go.Maps
section
variable {w : World} {X : SX} {sh : Sh} {acc st : Int} {a : Nat} {s : AS} {F : List Nat} {rv wv mv : Value}

-- behind the stores into a: HL3 ..

theorem close_code (hL : Live w X sh acc st a s F rv wv mv) (hp : s.phase ≠ 10) :
    Calls Try.prog 82 #[.pointer (some ⟨a, 0, none⟩)] w (StepOk w X acc st a F (closeS s sh).1 (closeS s sh).2 sh) := by
  have la := hL.lt
  have no := hL.out
  simp only [SX.foot, List.mem_cons, List.not_mem_nil, or_false, not_or] at no
  have lx := hL.sh.lt
  have l1 := lx X.ra (by simp [SX.foot])
  have l2 := lx X.rb (by simp [SX.foot])
  have l3 := lx X.ca (by simp [SX.foot])
  have l4 := lx X.cr (by simp [SX.foot])
  have l5 := lx X.cb (by simp [SX.foot])
  by_cases hc : sh.clock = s.found
  · have he : closeS s sh = (⟨1, 0, ⟨4, 0, s.found, false⟩⟩, { s with snap := s.found, phase := s.thn, thn := 0, found := 0 }) := by unfold closeS; rw [if_pos hc]
    rw [he]
    have hne : (sh.clock != s.found) = false := by simp [hc]
    clear hc he
    refine calls_all fun K hK => ?_
    go_enter Try.func82, Try.ntmps82
    have a1 := hL.att.head.cell 1 rfl
    go_wp2_with fail
    obtain ⟨W, hW⟩ : ∃ W, W = w.alloc (.cells turn0.toArray 36) := ⟨_, rfl⟩
    have RB : Blk W w.heap.size turn0 36 := by rw [hW]; exact Blk.new w _ _
    have HU : Upd [] w W := by rw [hW]; exact (Upd.refl _ _).alloc _
    simp only [turn0, trnNone, evNone, Trn.cells] at hW
    rw [← hW]
    clear hW
    have hL1 := hL.upd0 HU
    refine (clkLoad hL1.sh.clk).mono ?_
    rintro e w1 ⟨rfl, c1, u1⟩
    have hA1 := hL1.att.upd u1 (by simp; omega) (fun g hg => by have := (hL.sep g hg).2.1; simp [SX.foot] at this; simp; omega)
    have U1 : Upd [a, X.ca, X.cr, X.cb] w w1 := (HU.mono (by simp)).trans (u1.mono (by simp))
    have hL2 := hL.clk U1 hA1 c1 hL.sh.wide.clock hL.wide
    have RB1 := RB.upd u1 (by simp; omega)
    clear RB HU hL1 u1 c1 a1 hA1
    have b9 := hL2.att.head.cell 9 rfl
    have f9 := hL2.att.head.free 9
    have b2 := hL2.att.head.cell 2 rfl
    have f2 := hL2.att.head.free 2
    have b5 := hL2.att.head.cell 5 rfl
    have f5 := hL2.att.head.free 5
    have b6 := hL2.att.head.cell 6 rfl
    have f6 := hL2.att.head.free 6
    have A3 := ((((hL2.att.setFound 0).setSnap s.found).setPhase s.thn hp).setThen 0)
    have uw : Upd [a] w1 _ := ((((((Upd.refl _ _).setCell (p := ⟨a, 9, none⟩) (.inl (by simp)) (.int .u64 0)).setCell (p := ⟨a, 2, none⟩) (.inl (by simp)) (.int .u64 s.found)).setCell (p := ⟨a, 5, none⟩) (.inl (by simp)) (.int .i64 s.thn)).setCell (p := ⟨a, 6, none⟩) (.inl (by simp)) (.int .i64 0)))
    have HL3 := hL2.phase A3 uw ⟨hL.wide.found, hL.wide.reads, hL.wide.writes, hL.wide.addr, hL.wide.word, by simp⟩
    have RB3 := RB1.upd uw (by simp; omega)
    have U3 : Upd (a :: (F ++ X.foot)) w _ := (U1.mono (fun x hx => .inl (foot_clk (F := F) x hx))).trans (uw.mono (by simp))
    clear uw A3 RB1
    have q0 := (RB3).cell 0 rfl
    have q1 := (RB3).cell 1 rfl
    have q2 := (RB3).cell 2 rfl
    have q3 := (RB3).cell 3 rfl
    have q4 := (RB3).cell 4 rfl
    have q5 := (RB3).cell 5 rfl
    have q6 := (RB3).cell 6 rfl
    have q7 := (RB3).cell 7 rfl
    have g0 := (RB3).free 0
    have g1 := (RB3).free 1
    have g2 := (RB3).free 2
    have g3 := (RB3).free 3
    have g4 := (RB3).free 4
    have g5 := (RB3).free 5
    have g6 := (RB3).free 6
    have g7 := (RB3).free 7
    go_wp2_with fail
    exact bodyPost_ret (turn_results 2 rfl _ _ _ (⟨1, 0, ⟨4, 0, s.found, false⟩⟩ : Trn) rfl (turn_set RB3 rfl (⟨1, 0, ⟨4, 0, s.found, false⟩⟩ : Trn))) rfl (hK _ _ (fin_step hL (Nat.le_refl _) HL3 U3 (fun g hg => .inl hg) (.inr (.inr ⟨rfl, rfl⟩)) _ _ _ _ _ _ _ _))
  · have he : closeS s sh = (going, { s with phase := 4, found := 0 }) := by unfold closeS; rw [if_neg hc]
    rw [he]
    have hne : (sh.clock != s.found) = true := by simp [hc]
    clear hc he
    refine calls_all fun K hK => ?_
    go_enter Try.func82, Try.ntmps82
    have a1 := hL.att.head.cell 1 rfl
    go_wp2_with fail
    obtain ⟨W, hW⟩ : ∃ W, W = w.alloc (.cells turn0.toArray 36) := ⟨_, rfl⟩
    have RB : Blk W w.heap.size turn0 36 := by rw [hW]; exact Blk.new w _ _
    have HU : Upd [] w W := by rw [hW]; exact (Upd.refl _ _).alloc _
    simp only [turn0, trnNone, evNone, Trn.cells] at hW
    rw [← hW]
    clear hW
    have hL1 := hL.upd0 HU
    refine (clkLoad hL1.sh.clk).mono ?_
    rintro e w1 ⟨rfl, c1, u1⟩
    have hA1 := hL1.att.upd u1 (by simp; omega) (fun g hg => by have := (hL.sep g hg).2.1; simp [SX.foot] at this; simp; omega)
    have U1 : Upd [a, X.ca, X.cr, X.cb] w w1 := (HU.mono (by simp)).trans (u1.mono (by simp))
    have hL2 := hL.clk U1 hA1 c1 hL.sh.wide.clock hL.wide
    have RB1 := RB.upd u1 (by simp; omega)
    clear RB HU hL1 u1 c1 a1 hA1
    have b9 := hL2.att.head.cell 9 rfl
    have f9 := hL2.att.head.free 9
    have b5 := hL2.att.head.cell 5 rfl
    have f5 := hL2.att.head.free 5
    have A3 := ((hL2.att.setFound 0).setPhase 4 hp)
    have uw : Upd [a] w1 _ := ((((Upd.refl _ _).setCell (p := ⟨a, 9, none⟩) (.inl (by simp)) (.int .u64 0)).setCell (p := ⟨a, 5, none⟩) (.inl (by simp)) (.int .i64 4)))
    have HL3 := hL2.phase A3 uw ⟨hL.wide.snap, hL.wide.reads, hL.wide.writes, hL.wide.addr, hL.wide.word, by simp⟩
    have RB3 := RB1.upd uw (by simp; omega)
    have U3 : Upd (a :: (F ++ X.foot)) w _ := (U1.mono (fun x hx => .inl (foot_clk (F := F) x hx))).trans (uw.mono (by simp))
    clear uw A3 RB1
    go_wp2_with fail
    refine (going_code _).mono ?_
    rintro e w2 ⟨rfl, u2⟩
    simp only [Trn.val, going, evNone]
    have HL2 := (HL3).upd0 u2
    have RB2 := (RB3).upd u2 (by simp)
    have U2 := (U3).trans (u2.mono (by simp))
    have q0 := (RB2).cell 0 rfl
    have q1 := (RB2).cell 1 rfl
    have q2 := (RB2).cell 2 rfl
    have q3 := (RB2).cell 3 rfl
    have q4 := (RB2).cell 4 rfl
    have q5 := (RB2).cell 5 rfl
    have q6 := (RB2).cell 6 rfl
    have q7 := (RB2).cell 7 rfl
    have g0 := (RB2).free 0
    have g1 := (RB2).free 1
    have g2 := (RB2).free 2
    have g3 := (RB2).free 3
    have g4 := (RB2).free 4
    have g5 := (RB2).free 5
    have g6 := (RB2).free 6
    have g7 := (RB2).free 7
    go_wp2_with fail
    exact bodyPost_ret (turn_results 2 rfl _ _ _ going rfl (turn_set RB2 rfl going)) rfl (hK _ _ (fin_step hL (Nat.le_refl _) HL2 U2 (fun g hg => .inl hg) (.inr (.inr ⟨rfl, rfl⟩)) _ _ _ _ _ _ _ _))
theorem lock_code (hL : Live w X sh acc st a s F rv wv mv) (hp : s.phase ≠ 10) (hev : s.snap % 2 = 0) :
    Calls Try.prog 83 #[.pointer (some ⟨a, 0, none⟩)] w (StepOk w X acc st a F (lockS s sh).1 (lockS s sh).2.1 (lockS s sh).2.2) := by
  have la := hL.lt
  have no := hL.out
  simp only [SX.foot, List.mem_cons, List.not_mem_nil, or_false, not_or] at no
  have lx := hL.sh.lt
  have l1 := lx X.ra (by simp [SX.foot])
  have l2 := lx X.rb (by simp [SX.foot])
  have l3 := lx X.ca (by simp [SX.foot])
  have l4 := lx X.cr (by simp [SX.foot])
  have l5 := lx X.cb (by simp [SX.foot])
  have hops : opn s.snap = true := by rw [opn_eq hL.wide.snap.1 hL.wide.snap.2]; simpa using hev
  by_cases hc : sh.clock = s.snap
  · have he : lockS s sh = (⟨1, 0, ⟨5, 0, 0, false⟩⟩, { s with phase := 8 }, { sh with clock := sh.clock + 1 }) := by unfold lockS; rw [if_pos hc]
    rw [he]
    have ht : takes sh.clock s.snap = true := by simp [takes, hops, hc]
    have hx : up64 s.snap = sh.clock + 1 := by rw [hc]; unfold up64; exact u64_in _ (by have := hL.wide.snap; omega)
    have hwid : 0 ≤ sh.clock + 1 ∧ sh.clock + 1 < 18446744073709551616 := by rw [hc]; have := hL.wide.snap; omega
    have HT := Lib.hid ht
    have HX := Lib.hid hx
    clear hc he ht hx hops
    refine calls_all fun K hK => ?_
    go_enter Try.func83, Try.ntmps83
    go_wp2_with fail
    obtain ⟨W, hW⟩ : ∃ W, W = w.alloc (.cells turn0.toArray 36) := ⟨_, rfl⟩
    have RB : Blk W w.heap.size turn0 36 := by rw [hW]; exact Blk.new w _ _
    have HU : Upd [] w W := by rw [hW]; exact (Upd.refl _ _).alloc _
    simp only [turn0, trnNone, evNone, Trn.cells] at hW
    rw [← hW]
    clear hW
    have hL1 := hL.upd0 HU.drew
    have a1 := hL1.att.head.cell 1 rfl
    have a2 := hL1.att.head.cell 2 rfl
    refine wp_region_eff (fun w' => w'.cell? ⟨a, 1, none⟩ = some (.pointer (some ⟨X.ca, 0, none⟩)) ∧ w'.cell? ⟨a, 2, none⟩ = some (.int .u64 s.snap)) 15 (by kernel_rfl) (by kernel_rfl) ⟨a1, a2⟩ ?_
    repeat
      refine wpE_take (v := ?_) (by decide) rfl (by rfl) ?_ ?_
      rotate_left 1
      · ((intro w hSw; (try dsimp only at hSw); go_simp); try with_reducible rfl)
      try simp only [Act.put, List.setIfInBounds_toArray, List.set_cons_zero, List.set_cons_succ]
    refine wpE_eff (by decide) rfl (by kernel_rfl) (by rfl) (fun K2 hK2 => ?_)
    go_simp
    refine (clkTake_yes hL1.sh.clk s.snap (sh.clock + 1) HT.out HX.out).mono ?_
    rintro e w1 ⟨rfl, c1, u1⟩
    have hA1 := hL1.att.upd u1 (by simp; omega) (fun g hg => by have := (hL.sep g hg).2.1; simp [SX.foot] at this; simp; omega)
    refine hK2.out _ _ ⟨hA1.head.cell 1 rfl, hA1.head.cell 2 rfl⟩ ?_
    clear hK2 K2
    repeat
      refine wpE_take (v := ?_) (by decide) rfl (by rfl) ?_ ?_
      rotate_left 1
      · ((intro w hSw; (try dsimp only at hSw); go_simp); try with_reducible rfl)
      try simp only [Act.put, List.setIfInBounds_toArray, List.set_cons_zero, List.set_cons_succ]
    refine wpE_end (NoPanic.normal ?_)
    have U1 : Upd [a, X.ca, X.cr, X.cb] w w1 := (HU.drew.mono (by simp)).trans (u1.mono (by simp))
    have hL2 := hL.clk U1 hA1 c1 hwid hL.wide
    have RB1 := RB.drew.upd u1 (by simp; omega)
    clear RB HU hL1 u1 c1 a1 a2 hA1
    have b5 := hL2.att.head.cell 5 rfl
    have f5 := hL2.att.head.free 5
    have A3 := (hL2.att.setPhase 8 hp)
    have uw : Upd [a] w1 _ := ((Upd.refl _ _).setCell (p := ⟨a, 5, none⟩) (.inl (by simp)) (.int .i64 8))
    have HL3 := hL2.phase A3 uw ⟨hL.wide.snap, hL.wide.reads, hL.wide.writes, hL.wide.addr, hL.wide.word, hL.wide.found⟩
    have RB3 := RB1.upd uw (by simp; omega)
    have U3 : Upd (a :: (F ++ X.foot)) w _ := (U1.mono (fun x hx => .inl (foot_clk (F := F) x hx))).trans (uw.mono (by simp))
    clear uw A3 RB1
    have q0 := (RB3).cell 0 rfl
    have q1 := (RB3).cell 1 rfl
    have q2 := (RB3).cell 2 rfl
    have q3 := (RB3).cell 3 rfl
    have q4 := (RB3).cell 4 rfl
    have q5 := (RB3).cell 5 rfl
    have q6 := (RB3).cell 6 rfl
    have q7 := (RB3).cell 7 rfl
    have g0 := (RB3).free 0
    have g1 := (RB3).free 1
    have g2 := (RB3).free 2
    have g3 := (RB3).free 3
    have g4 := (RB3).free 4
    have g5 := (RB3).free 5
    have g6 := (RB3).free 6
    have g7 := (RB3).free 7
    go_wp2_with fail
    exact bodyPost_ret (turn_results 2 rfl _ _ _ (⟨1, 0, ⟨5, 0, 0, false⟩⟩ : Trn) rfl (turn_set RB3 rfl (⟨1, 0, ⟨5, 0, 0, false⟩⟩ : Trn))) rfl (hK _ _ (fin_step hL (Nat.le_refl _) HL3 U3 (fun g hg => .inl hg) (.inr (.inr ⟨rfl, rfl⟩)) _ _ _ _ _ _ _ _))
  · have he : lockS s sh = (going, { s with phase := 4, thn := 7 }, sh) := by unfold lockS; rw [if_neg hc]
    rw [he]
    have ht : takes sh.clock s.snap = false := by simp [takes, hc]
    have HT := Lib.hid ht
    clear hc he ht hops
    refine calls_all fun K hK => ?_
    go_enter Try.func83, Try.ntmps83
    go_wp2_with fail
    obtain ⟨W, hW⟩ : ∃ W, W = w.alloc (.cells turn0.toArray 36) := ⟨_, rfl⟩
    have RB : Blk W w.heap.size turn0 36 := by rw [hW]; exact Blk.new w _ _
    have HU : Upd [] w W := by rw [hW]; exact (Upd.refl _ _).alloc _
    simp only [turn0, trnNone, evNone, Trn.cells] at hW
    rw [← hW]
    clear hW
    have hL1 := hL.upd0 HU.drew
    have a1 := hL1.att.head.cell 1 rfl
    have a2 := hL1.att.head.cell 2 rfl
    refine wp_region_eff (fun w' => w'.cell? ⟨a, 1, none⟩ = some (.pointer (some ⟨X.ca, 0, none⟩)) ∧ w'.cell? ⟨a, 2, none⟩ = some (.int .u64 s.snap)) 15 (by kernel_rfl) (by kernel_rfl) ⟨a1, a2⟩ ?_
    repeat
      refine wpE_take (v := ?_) (by decide) rfl (by rfl) ?_ ?_
      rotate_left 1
      · ((intro w hSw; (try dsimp only at hSw); go_simp); try with_reducible rfl)
      try simp only [Act.put, List.setIfInBounds_toArray, List.set_cons_zero, List.set_cons_succ]
    refine wpE_eff (by decide) rfl (by kernel_rfl) (by rfl) (fun K2 hK2 => ?_)
    go_simp
    refine (clkTake_no hL1.sh.clk s.snap HT.out).mono ?_
    rintro e w1 ⟨rfl, c1, u1⟩
    have hA1 := hL1.att.upd u1 (by simp; omega) (fun g hg => by have := (hL.sep g hg).2.1; simp [SX.foot] at this; simp; omega)
    refine hK2.out _ _ ⟨hA1.head.cell 1 rfl, hA1.head.cell 2 rfl⟩ ?_
    clear hK2 K2
    repeat
      refine wpE_take (v := ?_) (by decide) rfl (by rfl) ?_ ?_
      rotate_left 1
      · ((intro w hSw; (try dsimp only at hSw); go_simp); try with_reducible rfl)
      try simp only [Act.put, List.setIfInBounds_toArray, List.set_cons_zero, List.set_cons_succ]
    refine wpE_end (NoPanic.normal ?_)
    have U1 : Upd [a, X.ca, X.cr, X.cb] w w1 := (HU.drew.mono (by simp)).trans (u1.mono (by simp))
    have hL2 := hL.clk U1 hA1 c1 hL.sh.wide.clock hL.wide
    have RB1 := RB.drew.upd u1 (by simp; omega)
    clear RB HU hL1 u1 c1 a1 a2 hA1
    have b5 := hL2.att.head.cell 5 rfl
    have f5 := hL2.att.head.free 5
    have b6 := hL2.att.head.cell 6 rfl
    have f6 := hL2.att.head.free 6
    have A3 := ((hL2.att.setPhase 4 hp).setThen 7)
    have uw : Upd [a] w1 _ := (((Upd.refl _ _).setCell (p := ⟨a, 5, none⟩) (.inl (by simp)) (.int .i64 4)).setCell (p := ⟨a, 6, none⟩) (.inl (by simp)) (.int .i64 7))
    have HL3 := hL2.phase A3 uw ⟨hL.wide.snap, hL.wide.reads, hL.wide.writes, hL.wide.addr, hL.wide.word, hL.wide.found⟩
    have RB3 := RB1.upd uw (by simp; omega)
    have U3 : Upd (a :: (F ++ X.foot)) w _ := (U1.mono (fun x hx => .inl (foot_clk (F := F) x hx))).trans (uw.mono (by simp))
    clear uw A3 RB1
    go_wp2_with fail
    refine (going_code _).mono ?_
    rintro e w2 ⟨rfl, u2⟩
    simp only [Trn.val, going, evNone]
    have HL2 := (HL3).upd0 u2
    have RB2 := (RB3).upd u2 (by simp)
    have U2 := (U3).trans (u2.mono (by simp))
    have q0 := (RB2).cell 0 rfl
    have q1 := (RB2).cell 1 rfl
    have q2 := (RB2).cell 2 rfl
    have q3 := (RB2).cell 3 rfl
    have q4 := (RB2).cell 4 rfl
    have q5 := (RB2).cell 5 rfl
    have q6 := (RB2).cell 6 rfl
    have q7 := (RB2).cell 7 rfl
    have g0 := (RB2).free 0
    have g1 := (RB2).free 1
    have g2 := (RB2).free 2
    have g3 := (RB2).free 3
    have g4 := (RB2).free 4
    have g5 := (RB2).free 5
    have g6 := (RB2).free 6
    have g7 := (RB2).free 7
    go_wp2_with fail
    exact bodyPost_ret (turn_results 2 rfl _ _ _ going rfl (turn_set RB2 rfl going)) rfl (hK _ _ (fin_step hL (Nat.le_refl _) HL2 U2 (fun g hg => .inl hg) (.inr (.inr ⟨rfl, rfl⟩)) _ _ _ _ _ _ _ _))

theorem free_code (hL : Live w X sh acc st a s F rv wv mv) (hev : s.snap % 2 = 0) :
    Calls Try.prog 85 #[.pointer (some ⟨a, 0, none⟩)] w (StepOk w X acc st a F (freeS s sh).1 (freeS s sh).2.1 (freeS s sh).2.2) := by
  have la := hL.lt
  have no := hL.out
  simp only [SX.foot, List.mem_cons, List.not_mem_nil, or_false, not_or] at no
  have lx := hL.sh.lt
  have l1 := lx X.ra (by simp [SX.foot])
  have l2 := lx X.rb (by simp [SX.foot])
  have l3 := lx X.ca (by simp [SX.foot])
  have l4 := lx X.cr (by simp [SX.foot])
  have l5 := lx X.cb (by simp [SX.foot])
  have hops : opn s.snap = true := by rw [opn_eq hL.wide.snap.1 hL.wide.snap.2]; simpa using hev
  have hu1 : up64 s.snap = s.snap + 1 := by unfold up64; exact u64_in _ (by have := hL.wide.snap; omega)
  have hu2 : up64b s.snap = (s.snap + 2) % 18446744073709551616 := by unfold up64b; rw [IntKind.wrap_u64]
  have hnum : ∀ w, Calls Try.prog 88 #[.int .u64 (IntKind.u64.wrap (s.snap + 2))] w fun e w' => e = .returned (.int .u64 ((s.snap + 2) % 18446744073709551616 / 2)) ∧ w = w' := fun w => by
    have := number_any (IntKind.u64.wrap (s.snap + 2)) w (by rw [IntKind.wrap_u64]; omega) (by rw [IntKind.wrap_u64]; omega)
    rw [IntKind.wrap_u64] at this ⊢
    exact this
  have hlv : ∀ W, ClockAt W X.ca X.cr X.cb sh.clock st → ∃ q : Int, Calls Try.prog 97 #[.pointer (some ⟨X.ca, 0, none⟩), .int .u64 s.snap] W fun e w' => e = .returned (.int .i64 q) ∧ ClockAt w' X.ca X.cr X.cb (freeS s sh).2.2.clock (wrap64 (st + 1)) ∧ Upd [X.ca, X.cr, X.cb] W w' := by
    intro W hW
    unfold freeS
    by_cases hc : sh.clock = s.snap + 1
    · rw [if_pos hc]
      exact ⟨_, clkLeave_yes hW s.snap _ (by simp [holds, hops, hu1, hc]) hu2⟩
    · rw [if_neg hc]
      exact ⟨_, clkLeave_no hW s.snap (by simp [holds, hops, hu1, hc])⟩
  have hrow : (freeS s sh).2.2.row = sh.row := len_free
  have hcw : WideSh (freeS s sh).2.2 := wsh_free hL.sh.wide
  have he : (freeS s sh).1 = ⟨4, 0, ⟨6, 0, (s.snap + 2) % 18446744073709551616 / 2, false⟩⟩ := rfl
  have he2 : (freeS s sh).2.1 = overS := rfl
  rw [he, he2]
  generalize (freeS s sh).2.2 = sh2 at *
  obtain ⟨row2, ck2⟩ := sh2
  simp only at hrow hlv
  subst hrow
  clear he he2 hu1 hu2 hops
  have a1 := hL.att.head.cell 1 rfl
  have a2 := hL.att.head.cell 2 rfl
  refine calls_all fun K hK => ?_
  go_enter Try.func85, Try.ntmps85
  go_wp2_with fail
  obtain ⟨W, hW⟩ : ∃ W, W = w.alloc (.cells turn0.toArray 36) := ⟨_, rfl⟩
  have RB : Blk W w.heap.size turn0 36 := by rw [hW]; exact Blk.new w _ _
  have HU : Upd [] w W := by rw [hW]; exact (Upd.refl _ _).alloc _
  simp only [turn0, trnNone, evNone, Trn.cells] at hW
  rw [← hW]
  clear hW
  have hL1 := hL.upd0 HU
  obtain ⟨q, hq⟩ := hlv W hL1.sh.clk
  refine hq.mono ?_
  rintro e w1 ⟨rfl, c1, u1⟩
  have hA1 := hL1.att.upd u1 (by simp; omega) (fun g hg => by have := (hL.sep g hg).2.1; simp [SX.foot] at this; simp; omega)
  have U1 : Upd [a, X.ca, X.cr, X.cb] w w1 := (HU.mono (by simp)).trans (u1.mono (by simp))
  have hL2 := hL.clk U1 hA1 c1 hcw.clock hL.wide
  have RB1 := RB.upd u1 (by simp; omega)
  clear RB HU hL1 u1 c1 a1 a2 hA1
  go_wp2_with fail
  refine (hnum w1).mono ?_
  rintro e w' ⟨rfl, rfl⟩
  go_wp2_with fail
  refine (over_code hL2 4 ⟨6, 0, (s.snap + 2) % 18446744073709551616 / 2, false⟩).mono ?_
  rintro e w3 ⟨rfl, HL3, u3⟩
  simp only [Trn.val]
  have U3 : Upd (a :: (F ++ X.foot)) w w3 := (U1.mono (fun x hx => .inl (foot_clk (F := F) x hx))).trans (u3.mono (by simp; exact fun x h => .inl (.inr (.inl h))))
  have RB3 := RB1.upd u3 (by simp; exact ⟨by omega, fun h => by have := (hL.sep _ h).1; omega⟩)
  clear RB1 hL2
  have q0 := (RB3).cell 0 rfl
  have q1 := (RB3).cell 1 rfl
  have q2 := (RB3).cell 2 rfl
  have q3 := (RB3).cell 3 rfl
  have q4 := (RB3).cell 4 rfl
  have q5 := (RB3).cell 5 rfl
  have q6 := (RB3).cell 6 rfl
  have q7 := (RB3).cell 7 rfl
  have g0 := (RB3).free 0
  have g1 := (RB3).free 1
  have g2 := (RB3).free 2
  have g3 := (RB3).free 3
  have g4 := (RB3).free 4
  have g5 := (RB3).free 5
  have g6 := (RB3).free 6
  have g7 := (RB3).free 7
  go_wp2_with fail
  exact bodyPost_ret (turn_results 2 rfl _ _ _ (⟨4, 0, ⟨6, 0, (s.snap + 2) % 18446744073709551616 / 2, false⟩⟩ : Trn) rfl (turn_set RB3 rfl (⟨4, 0, ⟨6, 0, (s.snap + 2) % 18446744073709551616 / 2, false⟩⟩ : Trn))) rfl (hK _ _ (fin_step hL (Nat.le_refl _) HL3 U3 (fun g hg => .inl hg) (.inr (.inr ⟨rfl, rfl⟩)) _ _ _ _ _ _ _ _))
end
end Go.Proofs.Ythfeljongackcaa
