/- The check goes of layer 1: All is gone over, left behind some turns, and gone over once more. No condition. -/
import Derived.Test.YthjiiedpplimpaaRangeW
set_option linter.unusedSimpArgs false
set_option linter.unusedVariables false
set_option maxRecDepth 100000
namespace Go.Proofs.Ythjiiedpplimpaa
open Go.RowKit
open Go.Shelf
attribute [local go_sem] Oper.semAt_some

/-- between two rounds: n rounds are done, and nothing else has turned -/
def GoesI (w W1 : World) (Ds : List Nat) (bn : Nat) (cont : Nat → Prop) (pre : List Nat) (W : World) : Prop := Blk W bn [.int .i64 pre.length] 3 ∧ CUpd [bn] W1 W ∧ (Below w.heap.size w W ∧ ∀ D ∈ Ds, W.heap[D]? = some (.deferred (some []))) ∧ cont pre.length
/-- where a round leaves -/
def GoesX (w W1 : World) (Ds : List Nat) (bn len : Nat) (brk : Nat → Prop) (c : Code) (pre : List Nat) (W : World) : Prop := (c = .ret ∧ ¬ (pre <+: List.range len)) ∨ (c = .exit 2 ∧ GoesI w W1 Ds bn brk pre W)

theorem goesI_own {w W1 : World} {Ds : List Nat} {bn : Nat} {cont : Nat → Prop} {B : Nat} (hB : w.heap.size ≤ B) (hD : ∀ D ∈ Ds, D < B) : OwnFrom B (GoesI w W1 Ds bn cont) := by
  intro s W W' row ⟨h1, h2, ⟨h3, h5⟩, h4⟩ hg hr
  exact ⟨ownFrom_blk (fun s : List Nat => [.int .i64 s.length]) s W W' row h1 hg hr, ownFrom_cupd s W W' row h2 hg hr, ⟨ownFrom_below (Nat.le_refl _) hB s W W' row h3 hg hr, fun D hm => (hg.block D (lt_of_block (h5 D hm)) (fun e => by have h6 := (hr D e.symm).1; have h7 := hD D hm; omega)).trans (h5 D hm)⟩, h4⟩

theorem goesX_own {w W1 : World} {Ds : List Nat} {bn len : Nat} {brk : Nat → Prop} {B : Nat} (hB : w.heap.size ≤ B) (hD : ∀ D ∈ Ds, D < B) (c : Code) : OwnFrom B (GoesX w W1 Ds bn len brk c) := by
  intro s W W' row h hg hr
  rcases h with h | ⟨h0, h1⟩
  · exact .inl h
  · exact .inr ⟨h0, goesI_own hB hD s W W' row h1 hg hr⟩

theorem goes_cont {w W1 W W' : World} {Ds : List Nat} {bn x nq : Nat} {cont : Nat → Prop} {pre : List Nat} (h1 : Blk W bn [.int .i64 x] 3) (h2 : CUpd [bn] W1 W) (h3 : Below w.heap.size w W ∧ ∀ D ∈ Ds, W.heap[D]? = some (.deferred (some []))) (hb : w.heap.size ≤ bn) (hl : (pre ++ [x]).length = x + 1) (hc : cont (x + 1))
    (e : (W.drewN nq).setCell ⟨bn, 0, none⟩ (.int .i64 ((x : Int) + 1)) = W') : KeepsOthers W W' ∧ CUpd [bn] W W' ∧ GoesI w W1 Ds bn cont (pre ++ [x]) W' := by
  subst e
  have hu : Upd [bn] W ((W.drewN nq).setCell ⟨bn, 0, none⟩ (.int .i64 ((x : Int) + 1))) := (((Upd.refl _ _).drewN nq).setCell (.inl (by simp)) _)
  have hk := keeps_upd hu (fun k hk => by simp at hk; subst hk; exact ⟨_, _, h1⟩)
  refine ⟨hk, hu.cupd, ?_, h2.trans hu.cupd, ⟨h3.1.trans (hu.below h3.1.size (by simpa using hb)), fun D hm => hk.same D _ (h3.2 D hm) rfl⟩, by rw [hl]; exact hc⟩
  have := (h1.drewN nq).set 0 (.int .i64 ((x : Int) + 1))
  rw [hl]
  exact this

theorem goes_break {w W1 W W' : World} {Ds : List Nat} {bn len x nq : Nat} {brk : Nat → Prop} {pre : List Nat} (h1 : Blk W bn [.int .i64 x] 3) (h2 : CUpd [bn] W1 W) (h3 : Below w.heap.size w W ∧ ∀ D ∈ Ds, W.heap[D]? = some (.deferred (some []))) (hb : w.heap.size ≤ bn) (hl : (pre ++ [x]).length = x + 1) (hc : brk (x + 1))
    (e : (W.drewN nq).setCell ⟨bn, 0, none⟩ (.int .i64 ((x : Int) + 1)) = W') : KeepsOthers W W' ∧ GoesX w W1 Ds bn len brk (.exit 2) (pre ++ [x]) W' := by
  obtain ⟨g1, _, g2⟩ := goes_cont (cont := brk) h1 h2 h3 hb hl hc e
  exact ⟨g1, .inr ⟨rfl, g2⟩⟩

theorem not_range {pre : List Nat} {x n : Nat} (h : x ≠ pre.length) : ¬ (pre ++ [x] <+: List.range n) := by
  rintro ⟨r, hr⟩
  have h1 : (pre ++ [x] ++ r)[pre.length]? = some x := by simp
  rw [hr] at h1
  obtain ⟨hl, he⟩ := List.getElem?_eq_some_iff.1 h1
  simp at he
  exact h he.symm

/-- the number that stands in the cell that a slot points to -/
def cellInt (v : Value) (w : World) : Nat := match v with | .pointer (some a) => (intOf ((w.cell? a).getD undef)).toNat | _ => 0

set_option maxHeartbeats 1000000 in
theorem goes_row {w : World} {a b ra rb : Nat} {ws : List Int} {acc racc : Int} (leave : Int) (h : RowAt w a b ws acc) (k : RRow w ra rb ws racc) :
    Calls Try.prog 33 #[.pointer (some ⟨a, 0, none⟩), .pointer (some ⟨ra, 0, none⟩), .int .i64 leave] w fun e w' => e = .returned (.bool true) ∧ Below w.heap.size w w' := by
  have hn2 := h.len2
  refine (callsIn_wide (n := 9)).1 ?_
  refine callsIn_of_wp_marks Try.func33 rfl trivial ?_ rfl
  simp only [Try.ntmps33, List.size_toArray, List.length_cons, List.length_nil, Nat.reduceAdd, Nat.reduceSub, Array.replicate_succ, Array.replicate_zero, List.push_toArray, List.append_toArray, List.nil_append, List.cons_append]
  have hF : ∀ f, Fence.wide.fn f := fun _ => trivial
  have hef := eql_fn2
  gi_wp2_with (gi_at_call 28; refine (callsIn_wide.2 (all_fn _)).mono ?_; rintro e w' ⟨rfl, rfl⟩)
  obtain ⟨W0, hW0⟩ : ∃ W0, (((((w.alloc (.cells #[.pointer (some ⟨ra, 0, none⟩)] 45)).alloc (.cells #[.int .i64 leave] 3)).alloc (.cells #[.bool false] 4)).alloc (.cells #[.pointer (some ⟨a, 0, none⟩)] 22)).alloc (.cells #[.int .i64 0] 3)) = W0 := ⟨_, rfl⟩
  have B0 : Below w.heap.size w W0 := by rw [← hW0]; exact (((((Upd.refl [] w).alloc _).alloc _).alloc _).alloc _).alloc _ |>.below (Nat.le_refl _) (by simp)
  have d0 : Blk W0 w.heap.size [.pointer (some ⟨ra, 0, none⟩)] 45 := by rw [← hW0]; exact ((((Blk.new w [.pointer (some ⟨ra, 0, none⟩)] 45).alloc _).alloc _).alloc _).alloc _
  have d1 : Blk W0 (w.heap.size + 1) [.int .i64 leave] 3 := by
    have := (((Blk.new (w.alloc (.cells #[.pointer (some ⟨ra, 0, none⟩)] 45)) [.int .i64 leave] 3).alloc (.cells #[.bool false] 4)).alloc (.cells #[.pointer (some ⟨a, 0, none⟩)] 22)).alloc (.cells #[.int .i64 0] 3)
    rw [← hW0]; simpa using this
  have d2 : Blk W0 (w.heap.size + 2) [.bool false] 4 := by
    have := ((Blk.new ((w.alloc (.cells #[.pointer (some ⟨ra, 0, none⟩)] 45)).alloc (.cells #[.int .i64 leave] 3)) [.bool false] 4).alloc (.cells #[.pointer (some ⟨a, 0, none⟩)] 22)).alloc (.cells #[.int .i64 0] 3)
    rw [← hW0]; simpa using this
  have d3 : Blk W0 (w.heap.size + 3) [.pointer (some ⟨a, 0, none⟩)] 22 := by
    have := (Blk.new (((w.alloc (.cells #[.pointer (some ⟨ra, 0, none⟩)] 45)).alloc (.cells #[.int .i64 leave] 3)).alloc (.cells #[.bool false] 4)) [.pointer (some ⟨a, 0, none⟩)] 22).alloc (.cells #[.int .i64 0] 3)
    rw [← hW0]; simpa using this
  have d4 : Blk W0 (w.heap.size + 4) [.int .i64 0] 3 := by
    have := Blk.new ((((w.alloc (.cells #[.pointer (some ⟨ra, 0, none⟩)] 45)).alloc (.cells #[.int .i64 leave] 3)).alloc (.cells #[.bool false] 4)).alloc (.cells #[.pointer (some ⟨a, 0, none⟩)] 22)) [.int .i64 0] 3
    rw [← hW0]; simpa using this
  have hsz : W0.heap.size = w.heap.size + 5 := by rw [← hW0]; simp
  rw [hW0]
  have HZ := Lib.hid hsz
  clear hW0 hsz
  refine wpIn_loop_rounds 3 ?_
  rw [roundsIn_succ]
  have c8 := d4
  have hc8 := d4.cell 0 rfl
  have hcu := CLow.refl (w.heap.size + 4) W0
  have hbl := B0
  have hB8' := d4.lt
  by_cases hlv : 1 ≤ leave ∧ leave ≤ ws.length
  · gi_wp2
    have hbx0 : Blk (W0.alloc (.cells #[.int .i64 0] 3)) (w.heap.size + 3) [.pointer (some ⟨a, 0, none⟩)] 22 := (d3.low hcu (by omega)).alloc _
    have hR0 : RowAt (W0.alloc (.cells #[.int .i64 0] 3)) a b ws acc := (((h.below B0 h.lta h.ltb).low hcu (by have := h.lta; omega) (by have := h.ltb; omega)).upd ((Upd.refl [] _).alloc _) (by simp) (by simp))
    have hbn0 := Blk.new W0 [.int .i64 0] 3
    have hbl0 : Below w.heap.size w (W0.alloc (.cells #[.int .i64 0] 3)) := hbl.trans (((Upd.refl [] _).alloc _).below hbl.size (by simp))
    have hcu0 : CLow (w.heap.size + 4) W0 (W0.alloc (.cells #[.int .i64 0] 3)) := hcu.trans (((Upd.refl [] _).alloc _).low (by simp))
    have c80 : Blk (W0.alloc (.cells #[.int .i64 0] 3)) (w.heap.size + 4) [.int .i64 0] 3 := c8.alloc _
    have hlt80 : (w.heap.size + 4) < W0.heap.size := hB8'
    have hDs0 : ∀ D ∈ ([] : List Nat), (W0.alloc (.cells #[.int .i64 0] 3)).heap[D]? = some (Obj.deferred (some [])) := fun D hm => by simp at hm
    obtain ⟨W1, hW1⟩ : ∃ W1, W0.alloc (.cells #[.int .i64 0] 3) = W1 := ⟨_, rfl⟩
    have hs1 : W0.heap.size < W1.heap.size := by rw [← hW1]; simp
    obtain ⟨bn, hbn⟩ : ∃ bn, W0.heap.size = bn := ⟨_, rfl⟩
    rw [hW1] at hbx0 hR0 hbn0 hbl0 hcu0 c80 hDs0 ⊢
    rw [hbn] at hbn0 hlt80 hs1 ⊢
    clear hW1
    refine range_over (by omega) (gf := 59) (lb := #[.pointer (some ⟨w.heap.size + 3, 0, none⟩)]) rfl (enters_of Try.func59 (by kernel_rfl) rfl)
      (all_stops 8 (by omega) [bn] hbx0 hR0 (by simp; omega)) (fun _ => rfl)
      (GoesI w W1 [] bn (fun m => (m : Int) < leave)) (GoesX w W1 [] bn ws.length (fun m => (m : Int) = leave)) (goesI_own (by have := hbl0.size; omega) (fun D hm => lt_of_block (hDs0 D hm))) (goesX_own (by have := hbl0.size; omega) (fun D hm => lt_of_block (hDs0 D hm))) ⟨hbn0, CUpd.refl _ _, ⟨hbl0, hDs0⟩, ?h00⟩ ?round0 ?done0 ?stop0
    case h00 => exact (by simp; omega)
    case round0 =>
      apply Exists.intro
      constructor
      · intro l x W K hK
        unfold encw
        gi_wp2
        exact hK
      · rintro l pre x W ⟨k1, k2, k3, k4⟩ hlen
        have kr : RRow W ra rb ws racc := ((k.below B0 k.lta k.ltb).low (hcu0.trans (k2.low (by simp; omega))) (by have := k.lta; omega) (by have := k.ltb; omega))
        have cU : CLow (w.heap.size + 4) W0 W := hcu0.trans (k2.low (by simp; omega))
        have b0 := (d0.low cU (by omega)).cell 0 rfl
        have b1 := (d1.low cU (by omega)).cell 0 rfl
        have f2 := (d2.low cU (by omega)).free 0
        have c2 := (d2.low cU (by omega)).cell 0 rfl
        have b2 := (d2.low cU (by omega))
        have b8 := (c80.cupd k2 (by simp; omega)).cell 0 rfl
        have e0 := k1.cell 0 rfl
        have f0 := k1.free 0
        obtain ⟨rcap, r0⟩ := kr.c0
        have kw := kr.cw pre.length hlen
        have hxl := @not_range pre x ws.length
        have HL := Lib.hid (show (pre ++ [x]).length = pre.length + 1 by simp)
        have hn64 : ws.length ≤ 65536 := hn2
        have hd : decide (ws.length ≤ pre.length) = false := by simp; omega
        have hcv : IntKind.u64.wrap (pre.length : Int) = (pre.length : Int) := by rw [IntKind.wrap_u64]; omega
        have hbn1 : bn ≠ w.heap.size := by omega
        have hbn2 : bn ≠ w.heap.size + 1 := by omega
        have hbn3 : bn ≠ w.heap.size + 2 := by omega
        have hsto : ∀ v, Upd [bn] W (W.setCell ⟨bn, 0, none⟩ v) := fun v => (Upd.refl _ _).setCell (.inl (by simp)) v
        have k1b := k1
        obtain ⟨m, hm⟩ : ∃ m, pre.length = m := ⟨_, rfl⟩
        (try rw [hm] at k4); rw [hm] at hlen e0 kw hxl HL hd hcv k1b
        clear hm
        by_cases hx : x = m
        · subst hx
          have hne1 : ((x : Int) != (x : Int)) = false := by simp
          have hne2 : (wd ws x != wd ws x) = false := by simp
          generalize wd ws x = v at *
          clear hxl
          rcases Bool.eq_false_or_eq_true (((x : Int) + 1) == leave) with hlb | hlb
          all_goals
            gi_wp2
            refine wpIn_region_quiet_rd (by kernel_rfl) (by kernel_rfl) (by kernel_rfl) ?_
            repeat (gi_big_quiet_step ((gi_at_call 30; refine CallsIn.quiet_of_same (CallsIn.inRound l (callsIn_wide.2 ((rlen_any (kr.drewN _)).mono fun _ _ h => ⟨h.1, h.2.symm⟩))))))
            refine wpQuietIn_nil ?_
            intro _ hw'
            obtain ⟨nq, hw''⟩ := hw'
            subst hw''
            gi_wp2
            first | exact goes_cont k1b k2 k3 (by omega) HL.out (by first | trivial | (have h9 := beq_eq_false_iff_ne.1 hlb; omega)) rfl | exact goes_break k1b k2 k3 (by omega) HL.out (by first | exact beq_iff_eq.1 hlb) rfl
        · have hne1 : ((x : Int) != (m : Int)) = true := by rw [bne_iff_ne]; omega
          generalize wd ws m = v at *
          gi_wp2
          refine wpIn_region_quiet_rd (by kernel_rfl) (by kernel_rfl) (by kernel_rfl) ?_
          repeat (gi_big_quiet_step ((gi_at_call 30; refine CallsIn.quiet_of_same (CallsIn.inRound l (callsIn_wide.2 ((rlen_any (kr.drewN _)).mono fun _ _ h => ⟨h.1, h.2.symm⟩))))))
          refine wpQuietIn_nil ?_
          intro _ hw'
          obtain ⟨nq, hw''⟩ := hw'
          subst hw''
          gi_wp2
          exact ⟨keeps_upd (((Upd.refl [w.heap.size + 2] W).drewN nq).setCell (.inl (by simp)) _) (fun k hk => by simp at hk; subst hk; exact ⟨_, _, b2⟩), .inl ⟨rfl, hxl hx⟩⟩
    case done0 =>
      exact (by rintro D1 ys W hD rfl ⟨k1, k2, ⟨k3, k5⟩, k4⟩ hK; simp at k4; omega)
    case stop0 =>
      rintro D1 c pre W hD hS hX hK
      rcases hX with ⟨rfl, hX⟩ | ⟨rfl, k1, k2, ⟨k3, k5⟩, k4⟩
      · exact absurd hS hX
      rw [k4] at k1
      have m1 : (leave != leave) = false := by simp
      have m2 : decide (0 < leave) = true := by simp; omega
      have m3 : decide (leave ≤ 0) = false := by simp; omega
      clear k4
      have cU : CLow (w.heap.size + 4) W0 W := hcu0.trans (k2.low (by simp; omega))
      have kr : RRow W ra rb ws racc := ((k.below B0 k.lta k.ltb).low cU (by have := k.lta; omega) (by have := k.ltb; omega))
      have b0 := (d0.low cU (by omega)).cell 0 rfl
      have b1 := (d1.low cU (by omega)).cell 0 rfl
      have b8 := (c80.cupd k2 (by simp; omega)).cell 0 rfl
      have e0 := k1.cell 0 rfl
      skip
      gi_wp2
      gi_big_quiet_th ((gi_at_call 30; refine CallsIn.quiet_of_same (callsIn_wide.2 ((rlen_any (kr.drewN _)).mono fun _ _ h => ⟨h.1, h.2.symm⟩))))
      have c8 := (c80.cupd k2 (by simp; omega)).drewN nq
      have g2 : CLow (w.heap.size + 4) W0 (W.drewN nq) := cU.trans (((Upd.refl [] _).drewN nq).low (by simp))
      have g3 : Below w.heap.size w (W.drewN nq) := k3.trans (((Upd.refl [] _).drewN nq).below k3.size (by simp))
      have gK : (W.drewN nq).heap[D1]? = some (.deferred (some [])) := hK
      have hsV : bn < (W.drewN nq).heap.size := by have := k1.lt; exact this
      have hDlo : w.heap.size ≤ D1 := by have := hbl0.size; omega
      clear cU kr b0 b1 b8 e0 k1 k2 k3 hK
      generalize W.drewN nq = V at *
      have hc8 := c8.cell 0 rfl
      gi_wp2
      have n8 := Blk.new V [.int .i64 (0 + 1)] 3
      have nB : Below w.heap.size w (V.alloc (.cells #[.int .i64 (0 + 1)] 3)) := g3.trans (((Upd.refl [] _).alloc _).below g3.size (by simp))
      have nC : CLow (w.heap.size + 4) W0 (V.alloc (.cells #[.int .i64 (0 + 1)] 3)) := g2.trans (((Upd.refl [] _).alloc _).low (by simp))
      have nK : (V.alloc (.cells #[.int .i64 (0 + 1)] 3)).heap[D1]? = some (.deferred (some [])) := (Below.heap_alloc V (.cells #[.int .i64 (0 + 1)] 3) D1 (lt_of_block gK)).trans gK
      have nl : V.heap.size < (V.alloc (.cells #[.int .i64 (0 + 1)] 3)).heap.size := by simp
      simp only [Int.zero_add, Int.reduceAdd] at n8 nB nC nK nl
      generalize hV2 : V.alloc (.cells #[.int .i64 1] 3) = V2 at *
      generalize hE8 : V.heap.size = E8 at *
      have h8g : w.heap.size + 4 < E8 := by omega
      clear c8 hc8 hcu hbl hB8' hV2 c80 hbn0 hbn hcu0 hbl0 hR0 hbx0 hs1 hlt80 g2 g3 gK
      have hcu := nC
      have hbl := nB
      have c8 := n8
      have hc8 := c8.cell 0 rfl
      have hB8' := nl
      clear hE8 hsV
      try clear hS
      try clear hD
      clear k5 hDs0
      rw [roundsIn_succ]
      gi_wp2
      have hbx1 : Blk (V2.alloc (.cells #[.int .i64 0] 3)) (w.heap.size + 3) [.pointer (some ⟨a, 0, none⟩)] 22 := (d3.low hcu (by omega)).alloc _
      have hR1 : RowAt (V2.alloc (.cells #[.int .i64 0] 3)) a b ws acc := (((h.below B0 h.lta h.ltb).low hcu (by have := h.lta; omega) (by have := h.ltb; omega)).upd ((Upd.refl [] _).alloc _) (by simp) (by simp))
      have hbn1 := Blk.new V2 [.int .i64 0] 3
      have hbl1 : Below w.heap.size w (V2.alloc (.cells #[.int .i64 0] 3)) := hbl.trans (((Upd.refl [] _).alloc _).below hbl.size (by simp))
      have hcu1 : CLow (w.heap.size + 4) W0 (V2.alloc (.cells #[.int .i64 0] 3)) := hcu.trans (((Upd.refl [] _).alloc _).low (by simp))
      have c81 : Blk (V2.alloc (.cells #[.int .i64 0] 3)) E8 [.int .i64 1] 3 := c8.alloc _
      have hlt81 : E8 < V2.heap.size := hB8'
      have hDs1 : ∀ D ∈ ([D1] : List Nat), (V2.alloc (.cells #[.int .i64 0] 3)).heap[D]? = some (Obj.deferred (some [])) := fun D hm => by exact (by simp at hm; subst hm; exact (Below.heap_alloc V2 _ _ (lt_of_block nK)).trans nK)
      obtain ⟨W1, hW1⟩ : ∃ W1, V2.alloc (.cells #[.int .i64 0] 3) = W1 := ⟨_, rfl⟩
      have hs1 : V2.heap.size < W1.heap.size := by rw [← hW1]; simp
      obtain ⟨bn, hbn⟩ : ∃ bn, V2.heap.size = bn := ⟨_, rfl⟩
      rw [hW1] at hbx1 hR1 hbn1 hbl1 hcu1 c81 hDs1 ⊢
      rw [hbn] at hbn1 hlt81 hs1 ⊢
      clear hW1
      refine range_over (by omega) (gf := 59) (lb := #[.pointer (some ⟨w.heap.size + 3, 0, none⟩)]) rfl (enters_of Try.func59 (by kernel_rfl) rfl)
        (all_stops 8 (by omega) [bn] hbx1 hR1 (by simp; omega)) (fun _ => rfl)
        (GoesI w W1 [D1] bn (fun m => True)) (GoesX w W1 [D1] bn ws.length (fun m => False)) (goesI_own (by have := hbl1.size; omega) (fun D hm => lt_of_block (hDs1 D hm))) (goesX_own (by have := hbl1.size; omega) (fun D hm => lt_of_block (hDs1 D hm))) ⟨hbn1, CUpd.refl _ _, ⟨hbl1, hDs1⟩, ?h01⟩ ?round1 ?done1 ?stop1
      case h01 => trivial
      case round1 =>
        apply Exists.intro
        constructor
        · intro l x W K hK
          unfold encw
          gi_wp2
          exact hK
        · rintro l pre x W ⟨k1, k2, k3, k4⟩ hlen
          have kr : RRow W ra rb ws racc := ((k.below B0 k.lta k.ltb).low (hcu1.trans (k2.low (by simp; omega))) (by have := k.lta; omega) (by have := k.ltb; omega))
          have cU : CLow (w.heap.size + 4) W0 W := hcu1.trans (k2.low (by simp; omega))
          have b0 := (d0.low cU (by omega)).cell 0 rfl
          have b1 := (d1.low cU (by omega)).cell 0 rfl
          have f2 := (d2.low cU (by omega)).free 0
          have c2 := (d2.low cU (by omega)).cell 0 rfl
          have b2 := (d2.low cU (by omega))
          have b8 := (c81.cupd k2 (by simp; omega)).cell 0 rfl
          have e0 := k1.cell 0 rfl
          have f0 := k1.free 0
          obtain ⟨rcap, r0⟩ := kr.c0
          have kw := kr.cw pre.length hlen
          have hxl := @not_range pre x ws.length
          have HL := Lib.hid (show (pre ++ [x]).length = pre.length + 1 by simp)
          have hn64 : ws.length ≤ 65536 := hn2
          have hd : decide (ws.length ≤ pre.length) = false := by simp; omega
          have hcv : IntKind.u64.wrap (pre.length : Int) = (pre.length : Int) := by rw [IntKind.wrap_u64]; omega
          have hbn1 : bn ≠ w.heap.size := by omega
          have hbn2 : bn ≠ w.heap.size + 1 := by omega
          have hbn3 : bn ≠ w.heap.size + 2 := by omega
          have hsto : ∀ v, Upd [bn] W (W.setCell ⟨bn, 0, none⟩ v) := fun v => (Upd.refl _ _).setCell (.inl (by simp)) v
          have k1b := k1
          obtain ⟨m, hm⟩ : ∃ m, pre.length = m := ⟨_, rfl⟩
          (try rw [hm] at k4); rw [hm] at hlen e0 kw hxl HL hd hcv k1b
          clear hm
          by_cases hx : x = m
          · subst hx
            have hne1 : ((x : Int) != (x : Int)) = false := by simp
            have hne2 : (wd ws x != wd ws x) = false := by simp
            generalize wd ws x = v at *
            clear hxl
            skip
            all_goals
              gi_wp2
              refine wpIn_region_quiet_rd (by kernel_rfl) (by kernel_rfl) (by kernel_rfl) ?_
              repeat (gi_big_quiet_step ((gi_at_call 30; refine CallsIn.quiet_of_same (CallsIn.inRound l (callsIn_wide.2 ((rlen_any (kr.drewN _)).mono fun _ _ h => ⟨h.1, h.2.symm⟩))))))
              refine wpQuietIn_nil ?_
              intro _ hw'
              obtain ⟨nq, hw''⟩ := hw'
              subst hw''
              gi_wp2
              first | exact goes_cont k1b k2 k3 (by omega) HL.out (by first | trivial | (have h9 := beq_eq_false_iff_ne.1 hlb; omega)) rfl | exact goes_break k1b k2 k3 (by omega) HL.out (by first | exact beq_iff_eq.1 hlb) rfl
          · have hne1 : ((x : Int) != (m : Int)) = true := by rw [bne_iff_ne]; omega
            generalize wd ws m = v at *
            gi_wp2
            refine wpIn_region_quiet_rd (by kernel_rfl) (by kernel_rfl) (by kernel_rfl) ?_
            repeat (gi_big_quiet_step ((gi_at_call 30; refine CallsIn.quiet_of_same (CallsIn.inRound l (callsIn_wide.2 ((rlen_any (kr.drewN _)).mono fun _ _ h => ⟨h.1, h.2.symm⟩))))))
            refine wpQuietIn_nil ?_
            intro _ hw'
            obtain ⟨nq, hw''⟩ := hw'
            subst hw''
            gi_wp2
            exact ⟨keeps_upd (((Upd.refl [w.heap.size + 2] W).drewN nq).setCell (.inl (by simp)) _) (fun k hk => by simp at hk; subst hk; exact ⟨_, _, b2⟩), .inl ⟨rfl, hxl hx⟩⟩
      case done1 =>
        rintro D2 ys W hD rfl ⟨k1, k2, ⟨k3, k5⟩, k4⟩ hK
        rw [List.length_range] at k1
        have m5 : ((ws.length : Int) != (ws.length : Int)) = false := by simp
        clear k4
        have nK5 := k5 D1 (by simp)
        have hne : D1 < D2 := by have := lt_of_block (hDs1 D1 (by simp)); omega
        clear k5 hDs1 nK
        have cU : CLow (w.heap.size + 4) W0 W := hcu1.trans (k2.low (by simp; omega))
        have kr : RRow W ra rb ws racc := ((k.below B0 k.lta k.ltb).low cU (by have := k.lta; omega) (by have := k.ltb; omega))
        have b0 := (d0.low cU (by omega)).cell 0 rfl
        have b1 := (d1.low cU (by omega)).cell 0 rfl
        have b8 := (c81.cupd k2 (by simp; omega)).cell 0 rfl
        have e0 := k1.cell 0 rfl
        skip
        gi_wp2
        gi_big_quiet_th ((gi_at_call 30; refine CallsIn.quiet_of_same (callsIn_wide.2 ((rlen_any (kr.drewN _)).mono fun _ _ h => ⟨h.1, h.2.symm⟩))))
        have c8 := (c81.cupd k2 (by simp; omega)).drewN nq
        have g2 : CLow (w.heap.size + 4) W0 (W.drewN nq) := cU.trans (((Upd.refl [] _).drewN nq).low (by simp))
        have g3 : Below w.heap.size w (W.drewN nq) := k3.trans (((Upd.refl [] _).drewN nq).below k3.size (by simp))
        have gK1 : (W.drewN nq).heap[D1]? = some (.deferred (some [])) := nK5
        have gK : (W.drewN nq).heap[D2]? = some (.deferred (some [])) := hK
        have hsV : bn < (W.drewN nq).heap.size := by have := k1.lt; exact this
        have d2V := (d2.low cU (by omega)).drewN nq
        clear cU kr b0 b1 b8 e0 k1 k2 k3 hK nK5
        generalize W.drewN nq = V at *
        have hc8 := c8.cell 0 rfl
        have hd2 := d2V.cell 0 rfl
        have hd2f := d2V.free 0
        have hs2 : w.heap.size + 2 < V.heap.size := d2V.lt
        have hDlo2 : w.heap.size ≤ D2 := by have := hbl1.size; omega
        gi_wp2
        rw [roundsIn_succ]
        gi_wp2
        obtain ⟨V3, hV3⟩ : ∃ V3, (V.setCell ⟨w.heap.size + 2, 0, none⟩ (.bool true)).alloc (.cells #[.int .i64 2] 3) = V3 := ⟨_, rfl⟩
        have u3 : Upd [w.heap.size + 2] V V3 := by rw [← hV3]; exact ((Upd.refl _ _).setCell (.inl (by simp)) _).alloc _
        have r3 : Blk V3 (w.heap.size + 2) [.bool true] 4 := by rw [← hV3]; exact (d2V.set 0 (.bool true)).alloc _
        have k3 := keeps_upd u3 (fun k hk => by simp at hk; subst hk; exact ⟨_, _, d2V⟩)
        have q1 := k3.same D1 _ gK1 rfl
        have q2 := k3.same D2 _ gK rfl
        have b3 : Below w.heap.size w V3 := g3.trans (u3.below g3.size (by simp))
        have e3 : (V.setCell ⟨w.heap.size + 1 + 1, 0, none⟩ (.bool true)).alloc (.cells #[.int .i64 2] 3) = V3 := hV3
        rw [e3]
        clear hV3 e3
        have hc3 := r3.cell 0 rfl
        have q1' : (V3.putObj D2 (.deferred none)).heap[D1]? = some (.deferred (some [])) := by rw [World.putObj_heap_other (by omega)]; exact q1
        have hc4 := cell_kept hc3 (grownBy_putObj' _ D2 (.deferred none)) (fun r e => by cases e; exact ⟨_, q2, rfl⟩)
        have hc5 := cell_kept hc4 (grownBy_putObj' _ D1 (.deferred none)) (fun r e => by cases e; exact ⟨_, q1', rfl⟩)
        have b4 := b3.trans (belowK_b (w := w) (Nat.le_refl _) _ D2 _ (.deferred none) hDlo2 q2 rfl rfl)
        have b5 := b4.trans (belowK_b (w := w) (Nat.le_refl _) _ D1 _ (.deferred none) hDlo q1' rfl rfl)
        refine ⟨by simp, .inl ⟨_, _, rfl, run_takeDeferred q2, ?_⟩⟩
        refine ⟨by simp, .inl ⟨_, _, rfl, run_takeDeferred q1', ?_⟩⟩
        refine ⟨.bool true, ?_, rfl, b5⟩
        simp [results, Try.f33, go_sem, hc5]
      case stop1 =>
        rintro D2 c pre W hD hS hX hK
        rcases hX with ⟨rfl, hX⟩ | ⟨rfl, k1, k2, ⟨k3, k5⟩, k4⟩
        · exact absurd hS hX
        exact k4.elim
  · gi_wp2
    have hbx0 : Blk (W0.alloc (.cells #[.int .i64 0] 3)) (w.heap.size + 3) [.pointer (some ⟨a, 0, none⟩)] 22 := (d3.low hcu (by omega)).alloc _
    have hR0 : RowAt (W0.alloc (.cells #[.int .i64 0] 3)) a b ws acc := (((h.below B0 h.lta h.ltb).low hcu (by have := h.lta; omega) (by have := h.ltb; omega)).upd ((Upd.refl [] _).alloc _) (by simp) (by simp))
    have hbn0 := Blk.new W0 [.int .i64 0] 3
    have hbl0 : Below w.heap.size w (W0.alloc (.cells #[.int .i64 0] 3)) := hbl.trans (((Upd.refl [] _).alloc _).below hbl.size (by simp))
    have hcu0 : CLow (w.heap.size + 4) W0 (W0.alloc (.cells #[.int .i64 0] 3)) := hcu.trans (((Upd.refl [] _).alloc _).low (by simp))
    have c80 : Blk (W0.alloc (.cells #[.int .i64 0] 3)) (w.heap.size + 4) [.int .i64 0] 3 := c8.alloc _
    have hlt80 : (w.heap.size + 4) < W0.heap.size := hB8'
    have hDs0 : ∀ D ∈ ([] : List Nat), (W0.alloc (.cells #[.int .i64 0] 3)).heap[D]? = some (Obj.deferred (some [])) := fun D hm => by simp at hm
    obtain ⟨W1, hW1⟩ : ∃ W1, W0.alloc (.cells #[.int .i64 0] 3) = W1 := ⟨_, rfl⟩
    have hs1 : W0.heap.size < W1.heap.size := by rw [← hW1]; simp
    obtain ⟨bn, hbn⟩ : ∃ bn, W0.heap.size = bn := ⟨_, rfl⟩
    rw [hW1] at hbx0 hR0 hbn0 hbl0 hcu0 c80 hDs0 ⊢
    rw [hbn] at hbn0 hlt80 hs1 ⊢
    clear hW1
    refine range_over (by omega) (gf := 59) (lb := #[.pointer (some ⟨w.heap.size + 3, 0, none⟩)]) rfl (enters_of Try.func59 (by kernel_rfl) rfl)
      (all_stops 8 (by omega) [bn] hbx0 hR0 (by simp; omega)) (fun _ => rfl)
      (GoesI w W1 [] bn (fun m => True)) (GoesX w W1 [] bn ws.length (fun m => False)) (goesI_own (by have := hbl0.size; omega) (fun D hm => lt_of_block (hDs0 D hm))) (goesX_own (by have := hbl0.size; omega) (fun D hm => lt_of_block (hDs0 D hm))) ⟨hbn0, CUpd.refl _ _, ⟨hbl0, hDs0⟩, ?h00⟩ ?round0 ?done0 ?stop0
    case h00 => trivial
    case round0 =>
      apply Exists.intro
      constructor
      · intro l x W K hK
        unfold encw
        gi_wp2
        exact hK
      · rintro l pre x W ⟨k1, k2, k3, k4⟩ hlen
        have kr : RRow W ra rb ws racc := ((k.below B0 k.lta k.ltb).low (hcu0.trans (k2.low (by simp; omega))) (by have := k.lta; omega) (by have := k.ltb; omega))
        have cU : CLow (w.heap.size + 4) W0 W := hcu0.trans (k2.low (by simp; omega))
        have b0 := (d0.low cU (by omega)).cell 0 rfl
        have b1 := (d1.low cU (by omega)).cell 0 rfl
        have f2 := (d2.low cU (by omega)).free 0
        have c2 := (d2.low cU (by omega)).cell 0 rfl
        have b2 := (d2.low cU (by omega))
        have b8 := (c80.cupd k2 (by simp; omega)).cell 0 rfl
        have e0 := k1.cell 0 rfl
        have f0 := k1.free 0
        obtain ⟨rcap, r0⟩ := kr.c0
        have kw := kr.cw pre.length hlen
        have hxl := @not_range pre x ws.length
        have HL := Lib.hid (show (pre ++ [x]).length = pre.length + 1 by simp)
        have hn64 : ws.length ≤ 65536 := hn2
        have hd : decide (ws.length ≤ pre.length) = false := by simp; omega
        have hcv : IntKind.u64.wrap (pre.length : Int) = (pre.length : Int) := by rw [IntKind.wrap_u64]; omega
        have hbn1 : bn ≠ w.heap.size := by omega
        have hbn2 : bn ≠ w.heap.size + 1 := by omega
        have hbn3 : bn ≠ w.heap.size + 2 := by omega
        have hsto : ∀ v, Upd [bn] W (W.setCell ⟨bn, 0, none⟩ v) := fun v => (Upd.refl _ _).setCell (.inl (by simp)) v
        have k1b := k1
        obtain ⟨m, hm⟩ : ∃ m, pre.length = m := ⟨_, rfl⟩
        (try rw [hm] at k4); rw [hm] at hlen e0 kw hxl HL hd hcv k1b
        clear hm
        by_cases hx : x = m
        · subst hx
          have hne1 : ((x : Int) != (x : Int)) = false := by simp
          have hne2 : (wd ws x != wd ws x) = false := by simp
          generalize wd ws x = v at *
          clear hxl
          have hlb : (((x : Int) + 1) == leave) = false := by rw [beq_eq_false_iff_ne]; omega
          all_goals
            gi_wp2
            refine wpIn_region_quiet_rd (by kernel_rfl) (by kernel_rfl) (by kernel_rfl) ?_
            repeat (gi_big_quiet_step ((gi_at_call 30; refine CallsIn.quiet_of_same (CallsIn.inRound l (callsIn_wide.2 ((rlen_any (kr.drewN _)).mono fun _ _ h => ⟨h.1, h.2.symm⟩))))))
            refine wpQuietIn_nil ?_
            intro _ hw'
            obtain ⟨nq, hw''⟩ := hw'
            subst hw''
            gi_wp2
            first | exact goes_cont k1b k2 k3 (by omega) HL.out (by first | trivial | (have h9 := beq_eq_false_iff_ne.1 hlb; omega)) rfl | exact goes_break k1b k2 k3 (by omega) HL.out (by first | exact beq_iff_eq.1 hlb) rfl
        · have hne1 : ((x : Int) != (m : Int)) = true := by rw [bne_iff_ne]; omega
          generalize wd ws m = v at *
          gi_wp2
          refine wpIn_region_quiet_rd (by kernel_rfl) (by kernel_rfl) (by kernel_rfl) ?_
          repeat (gi_big_quiet_step ((gi_at_call 30; refine CallsIn.quiet_of_same (CallsIn.inRound l (callsIn_wide.2 ((rlen_any (kr.drewN _)).mono fun _ _ h => ⟨h.1, h.2.symm⟩))))))
          refine wpQuietIn_nil ?_
          intro _ hw'
          obtain ⟨nq, hw''⟩ := hw'
          subst hw''
          gi_wp2
          exact ⟨keeps_upd (((Upd.refl [w.heap.size + 2] W).drewN nq).setCell (.inl (by simp)) _) (fun k hk => by simp at hk; subst hk; exact ⟨_, _, b2⟩), .inl ⟨rfl, hxl hx⟩⟩
    case done0 =>
      rintro D1 ys W hD rfl ⟨k1, k2, ⟨k3, k5⟩, k4⟩ hK
      rw [List.length_range] at k1
      have m1 : ((ws.length : Int) != (ws.length : Int)) = false := by simp
      clear k4
      by_cases hl0 : 0 < leave
      · have m2 : decide (0 < leave) = true := by simp; omega
        have m3 : decide (leave ≤ 0) = false := by simp; omega
        have m4 : (ws.length : Int) < leave := by omega
        have cU : CLow (w.heap.size + 4) W0 W := hcu0.trans (k2.low (by simp; omega))
        have kr : RRow W ra rb ws racc := ((k.below B0 k.lta k.ltb).low cU (by have := k.lta; omega) (by have := k.ltb; omega))
        have b0 := (d0.low cU (by omega)).cell 0 rfl
        have b1 := (d1.low cU (by omega)).cell 0 rfl
        have b8 := (c80.cupd k2 (by simp; omega)).cell 0 rfl
        have e0 := k1.cell 0 rfl
        skip
        gi_wp2
        gi_big_quiet_th ((gi_at_call 30; refine CallsIn.quiet_of_same (callsIn_wide.2 ((rlen_any (kr.drewN _)).mono fun _ _ h => ⟨h.1, h.2.symm⟩))))
        have c8 := (c80.cupd k2 (by simp; omega)).drewN nq
        have g2 : CLow (w.heap.size + 4) W0 (W.drewN nq) := cU.trans (((Upd.refl [] _).drewN nq).low (by simp))
        have g3 : Below w.heap.size w (W.drewN nq) := k3.trans (((Upd.refl [] _).drewN nq).below k3.size (by simp))
        have gK : (W.drewN nq).heap[D1]? = some (.deferred (some [])) := hK
        have hsV : bn < (W.drewN nq).heap.size := by have := k1.lt; exact this
        have hDlo : w.heap.size ≤ D1 := by have := hbl0.size; omega
        clear cU kr b0 b1 b8 e0 k1 k2 k3 hK
        generalize W.drewN nq = V at *
        have hc8 := c8.cell 0 rfl
        gi_wp2
        have n8 := Blk.new V [.int .i64 (0 + 1)] 3
        have nB : Below w.heap.size w (V.alloc (.cells #[.int .i64 (0 + 1)] 3)) := g3.trans (((Upd.refl [] _).alloc _).below g3.size (by simp))
        have nC : CLow (w.heap.size + 4) W0 (V.alloc (.cells #[.int .i64 (0 + 1)] 3)) := g2.trans (((Upd.refl [] _).alloc _).low (by simp))
        have nK : (V.alloc (.cells #[.int .i64 (0 + 1)] 3)).heap[D1]? = some (.deferred (some [])) := (Below.heap_alloc V (.cells #[.int .i64 (0 + 1)] 3) D1 (lt_of_block gK)).trans gK
        have nl : V.heap.size < (V.alloc (.cells #[.int .i64 (0 + 1)] 3)).heap.size := by simp
        simp only [Int.zero_add, Int.reduceAdd] at n8 nB nC nK nl
        generalize hV2 : V.alloc (.cells #[.int .i64 1] 3) = V2 at *
        generalize hE8 : V.heap.size = E8 at *
        have h8g : w.heap.size + 4 < E8 := by omega
        clear c8 hc8 hcu hbl hB8' hV2 c80 hbn0 hbn hcu0 hbl0 hR0 hbx0 hs1 hlt80 g2 g3 gK
        have hcu := nC
        have hbl := nB
        have c8 := n8
        have hc8 := c8.cell 0 rfl
        have hB8' := nl
        clear hE8 hsV
        try clear hS
        try clear hD
        clear k5 hDs0
        rw [roundsIn_succ]
        gi_wp2
        have hbx1 : Blk (V2.alloc (.cells #[.int .i64 0] 3)) (w.heap.size + 3) [.pointer (some ⟨a, 0, none⟩)] 22 := (d3.low hcu (by omega)).alloc _
        have hR1 : RowAt (V2.alloc (.cells #[.int .i64 0] 3)) a b ws acc := (((h.below B0 h.lta h.ltb).low hcu (by have := h.lta; omega) (by have := h.ltb; omega)).upd ((Upd.refl [] _).alloc _) (by simp) (by simp))
        have hbn1 := Blk.new V2 [.int .i64 0] 3
        have hbl1 : Below w.heap.size w (V2.alloc (.cells #[.int .i64 0] 3)) := hbl.trans (((Upd.refl [] _).alloc _).below hbl.size (by simp))
        have hcu1 : CLow (w.heap.size + 4) W0 (V2.alloc (.cells #[.int .i64 0] 3)) := hcu.trans (((Upd.refl [] _).alloc _).low (by simp))
        have c81 : Blk (V2.alloc (.cells #[.int .i64 0] 3)) E8 [.int .i64 1] 3 := c8.alloc _
        have hlt81 : E8 < V2.heap.size := hB8'
        have hDs1 : ∀ D ∈ ([D1] : List Nat), (V2.alloc (.cells #[.int .i64 0] 3)).heap[D]? = some (Obj.deferred (some [])) := fun D hm => by exact (by simp at hm; subst hm; exact (Below.heap_alloc V2 _ _ (lt_of_block nK)).trans nK)
        obtain ⟨W1, hW1⟩ : ∃ W1, V2.alloc (.cells #[.int .i64 0] 3) = W1 := ⟨_, rfl⟩
        have hs1 : V2.heap.size < W1.heap.size := by rw [← hW1]; simp
        obtain ⟨bn, hbn⟩ : ∃ bn, V2.heap.size = bn := ⟨_, rfl⟩
        rw [hW1] at hbx1 hR1 hbn1 hbl1 hcu1 c81 hDs1 ⊢
        rw [hbn] at hbn1 hlt81 hs1 ⊢
        clear hW1
        refine range_over (by omega) (gf := 59) (lb := #[.pointer (some ⟨w.heap.size + 3, 0, none⟩)]) rfl (enters_of Try.func59 (by kernel_rfl) rfl)
          (all_stops 8 (by omega) [bn] hbx1 hR1 (by simp; omega)) (fun _ => rfl)
          (GoesI w W1 [D1] bn (fun m => True)) (GoesX w W1 [D1] bn ws.length (fun m => False)) (goesI_own (by have := hbl1.size; omega) (fun D hm => lt_of_block (hDs1 D hm))) (goesX_own (by have := hbl1.size; omega) (fun D hm => lt_of_block (hDs1 D hm))) ⟨hbn1, CUpd.refl _ _, ⟨hbl1, hDs1⟩, ?h01⟩ ?round1 ?done1 ?stop1
        case h01 => trivial
        case round1 =>
          apply Exists.intro
          constructor
          · intro l x W K hK
            unfold encw
            gi_wp2
            exact hK
          · rintro l pre x W ⟨k1, k2, k3, k4⟩ hlen
            have kr : RRow W ra rb ws racc := ((k.below B0 k.lta k.ltb).low (hcu1.trans (k2.low (by simp; omega))) (by have := k.lta; omega) (by have := k.ltb; omega))
            have cU : CLow (w.heap.size + 4) W0 W := hcu1.trans (k2.low (by simp; omega))
            have b0 := (d0.low cU (by omega)).cell 0 rfl
            have b1 := (d1.low cU (by omega)).cell 0 rfl
            have f2 := (d2.low cU (by omega)).free 0
            have c2 := (d2.low cU (by omega)).cell 0 rfl
            have b2 := (d2.low cU (by omega))
            have b8 := (c81.cupd k2 (by simp; omega)).cell 0 rfl
            have e0 := k1.cell 0 rfl
            have f0 := k1.free 0
            obtain ⟨rcap, r0⟩ := kr.c0
            have kw := kr.cw pre.length hlen
            have hxl := @not_range pre x ws.length
            have HL := Lib.hid (show (pre ++ [x]).length = pre.length + 1 by simp)
            have hn64 : ws.length ≤ 65536 := hn2
            have hd : decide (ws.length ≤ pre.length) = false := by simp; omega
            have hcv : IntKind.u64.wrap (pre.length : Int) = (pre.length : Int) := by rw [IntKind.wrap_u64]; omega
            have hbn1 : bn ≠ w.heap.size := by omega
            have hbn2 : bn ≠ w.heap.size + 1 := by omega
            have hbn3 : bn ≠ w.heap.size + 2 := by omega
            have hsto : ∀ v, Upd [bn] W (W.setCell ⟨bn, 0, none⟩ v) := fun v => (Upd.refl _ _).setCell (.inl (by simp)) v
            have k1b := k1
            obtain ⟨m, hm⟩ : ∃ m, pre.length = m := ⟨_, rfl⟩
            (try rw [hm] at k4); rw [hm] at hlen e0 kw hxl HL hd hcv k1b
            clear hm
            by_cases hx : x = m
            · subst hx
              have hne1 : ((x : Int) != (x : Int)) = false := by simp
              have hne2 : (wd ws x != wd ws x) = false := by simp
              generalize wd ws x = v at *
              clear hxl
              skip
              all_goals
                gi_wp2
                refine wpIn_region_quiet_rd (by kernel_rfl) (by kernel_rfl) (by kernel_rfl) ?_
                repeat (gi_big_quiet_step ((gi_at_call 30; refine CallsIn.quiet_of_same (CallsIn.inRound l (callsIn_wide.2 ((rlen_any (kr.drewN _)).mono fun _ _ h => ⟨h.1, h.2.symm⟩))))))
                refine wpQuietIn_nil ?_
                intro _ hw'
                obtain ⟨nq, hw''⟩ := hw'
                subst hw''
                gi_wp2
                first | exact goes_cont k1b k2 k3 (by omega) HL.out (by first | trivial | (have h9 := beq_eq_false_iff_ne.1 hlb; omega)) rfl | exact goes_break k1b k2 k3 (by omega) HL.out (by first | exact beq_iff_eq.1 hlb) rfl
            · have hne1 : ((x : Int) != (m : Int)) = true := by rw [bne_iff_ne]; omega
              generalize wd ws m = v at *
              gi_wp2
              refine wpIn_region_quiet_rd (by kernel_rfl) (by kernel_rfl) (by kernel_rfl) ?_
              repeat (gi_big_quiet_step ((gi_at_call 30; refine CallsIn.quiet_of_same (CallsIn.inRound l (callsIn_wide.2 ((rlen_any (kr.drewN _)).mono fun _ _ h => ⟨h.1, h.2.symm⟩))))))
              refine wpQuietIn_nil ?_
              intro _ hw'
              obtain ⟨nq, hw''⟩ := hw'
              subst hw''
              gi_wp2
              exact ⟨keeps_upd (((Upd.refl [w.heap.size + 2] W).drewN nq).setCell (.inl (by simp)) _) (fun k hk => by simp at hk; subst hk; exact ⟨_, _, b2⟩), .inl ⟨rfl, hxl hx⟩⟩
        case done1 =>
          rintro D2 ys W hD rfl ⟨k1, k2, ⟨k3, k5⟩, k4⟩ hK
          rw [List.length_range] at k1
          have m5 : ((ws.length : Int) != (ws.length : Int)) = false := by simp
          clear k4
          have nK5 := k5 D1 (by simp)
          have hne : D1 < D2 := by have := lt_of_block (hDs1 D1 (by simp)); omega
          clear k5 hDs1 nK
          have cU : CLow (w.heap.size + 4) W0 W := hcu1.trans (k2.low (by simp; omega))
          have kr : RRow W ra rb ws racc := ((k.below B0 k.lta k.ltb).low cU (by have := k.lta; omega) (by have := k.ltb; omega))
          have b0 := (d0.low cU (by omega)).cell 0 rfl
          have b1 := (d1.low cU (by omega)).cell 0 rfl
          have b8 := (c81.cupd k2 (by simp; omega)).cell 0 rfl
          have e0 := k1.cell 0 rfl
          skip
          gi_wp2
          gi_big_quiet_th ((gi_at_call 30; refine CallsIn.quiet_of_same (callsIn_wide.2 ((rlen_any (kr.drewN _)).mono fun _ _ h => ⟨h.1, h.2.symm⟩))))
          have c8 := (c81.cupd k2 (by simp; omega)).drewN nq
          have g2 : CLow (w.heap.size + 4) W0 (W.drewN nq) := cU.trans (((Upd.refl [] _).drewN nq).low (by simp))
          have g3 : Below w.heap.size w (W.drewN nq) := k3.trans (((Upd.refl [] _).drewN nq).below k3.size (by simp))
          have gK1 : (W.drewN nq).heap[D1]? = some (.deferred (some [])) := nK5
          have gK : (W.drewN nq).heap[D2]? = some (.deferred (some [])) := hK
          have hsV : bn < (W.drewN nq).heap.size := by have := k1.lt; exact this
          have d2V := (d2.low cU (by omega)).drewN nq
          clear cU kr b0 b1 b8 e0 k1 k2 k3 hK nK5
          generalize W.drewN nq = V at *
          have hc8 := c8.cell 0 rfl
          have hd2 := d2V.cell 0 rfl
          have hd2f := d2V.free 0
          have hs2 : w.heap.size + 2 < V.heap.size := d2V.lt
          have hDlo2 : w.heap.size ≤ D2 := by have := hbl1.size; omega
          gi_wp2
          rw [roundsIn_succ]
          gi_wp2
          obtain ⟨V3, hV3⟩ : ∃ V3, (V.setCell ⟨w.heap.size + 2, 0, none⟩ (.bool true)).alloc (.cells #[.int .i64 2] 3) = V3 := ⟨_, rfl⟩
          have u3 : Upd [w.heap.size + 2] V V3 := by rw [← hV3]; exact ((Upd.refl _ _).setCell (.inl (by simp)) _).alloc _
          have r3 : Blk V3 (w.heap.size + 2) [.bool true] 4 := by rw [← hV3]; exact (d2V.set 0 (.bool true)).alloc _
          have k3 := keeps_upd u3 (fun k hk => by simp at hk; subst hk; exact ⟨_, _, d2V⟩)
          have q1 := k3.same D1 _ gK1 rfl
          have q2 := k3.same D2 _ gK rfl
          have b3 : Below w.heap.size w V3 := g3.trans (u3.below g3.size (by simp))
          have e3 : (V.setCell ⟨w.heap.size + 1 + 1, 0, none⟩ (.bool true)).alloc (.cells #[.int .i64 2] 3) = V3 := hV3
          rw [e3]
          clear hV3 e3
          have hc3 := r3.cell 0 rfl
          have q1' : (V3.putObj D2 (.deferred none)).heap[D1]? = some (.deferred (some [])) := by rw [World.putObj_heap_other (by omega)]; exact q1
          have hc4 := cell_kept hc3 (grownBy_putObj' _ D2 (.deferred none)) (fun r e => by cases e; exact ⟨_, q2, rfl⟩)
          have hc5 := cell_kept hc4 (grownBy_putObj' _ D1 (.deferred none)) (fun r e => by cases e; exact ⟨_, q1', rfl⟩)
          have b4 := b3.trans (belowK_b (w := w) (Nat.le_refl _) _ D2 _ (.deferred none) hDlo2 q2 rfl rfl)
          have b5 := b4.trans (belowK_b (w := w) (Nat.le_refl _) _ D1 _ (.deferred none) hDlo q1' rfl rfl)
          refine ⟨by simp, .inl ⟨_, _, rfl, run_takeDeferred q2, ?_⟩⟩
          refine ⟨by simp, .inl ⟨_, _, rfl, run_takeDeferred q1', ?_⟩⟩
          refine ⟨.bool true, ?_, rfl, b5⟩
          simp [results, Try.f33, go_sem, hc5]
        case stop1 =>
          rintro D2 c pre W hD hS hX hK
          rcases hX with ⟨rfl, hX⟩ | ⟨rfl, k1, k2, ⟨k3, k5⟩, k4⟩
          · exact absurd hS hX
          exact k4.elim
      · have m2 : decide (0 < leave) = false := by simp; omega
        have m3 : decide (leave ≤ 0) = true := by simp; omega
        have cU : CLow (w.heap.size + 4) W0 W := hcu0.trans (k2.low (by simp; omega))
        have kr : RRow W ra rb ws racc := ((k.below B0 k.lta k.ltb).low cU (by have := k.lta; omega) (by have := k.ltb; omega))
        have b0 := (d0.low cU (by omega)).cell 0 rfl
        have b1 := (d1.low cU (by omega)).cell 0 rfl
        have b8 := (c80.cupd k2 (by simp; omega)).cell 0 rfl
        have e0 := k1.cell 0 rfl
        skip
        gi_wp2
        gi_big_quiet_th ((gi_at_call 30; refine CallsIn.quiet_of_same (callsIn_wide.2 ((rlen_any (kr.drewN _)).mono fun _ _ h => ⟨h.1, h.2.symm⟩))))
        have c8 := (c80.cupd k2 (by simp; omega)).drewN nq
        have g2 : CLow (w.heap.size + 4) W0 (W.drewN nq) := cU.trans (((Upd.refl [] _).drewN nq).low (by simp))
        have g3 : Below w.heap.size w (W.drewN nq) := k3.trans (((Upd.refl [] _).drewN nq).below k3.size (by simp))
        have gK : (W.drewN nq).heap[D1]? = some (.deferred (some [])) := hK
        have hsV : bn < (W.drewN nq).heap.size := by have := k1.lt; exact this
        have hDlo : w.heap.size ≤ D1 := by have := hbl0.size; omega
        clear cU kr b0 b1 b8 e0 k1 k2 k3 hK
        generalize W.drewN nq = V at *
        have hc8 := c8.cell 0 rfl
        gi_wp2
        have n8 := Blk.new V [.int .i64 (0 + 1)] 3
        have nB : Below w.heap.size w (V.alloc (.cells #[.int .i64 (0 + 1)] 3)) := g3.trans (((Upd.refl [] _).alloc _).below g3.size (by simp))
        have nC : CLow (w.heap.size + 4) W0 (V.alloc (.cells #[.int .i64 (0 + 1)] 3)) := g2.trans (((Upd.refl [] _).alloc _).low (by simp))
        have nK : (V.alloc (.cells #[.int .i64 (0 + 1)] 3)).heap[D1]? = some (.deferred (some [])) := (Below.heap_alloc V (.cells #[.int .i64 (0 + 1)] 3) D1 (lt_of_block gK)).trans gK
        have nl : V.heap.size < (V.alloc (.cells #[.int .i64 (0 + 1)] 3)).heap.size := by simp
        simp only [Int.zero_add, Int.reduceAdd] at n8 nB nC nK nl
        generalize hV2 : V.alloc (.cells #[.int .i64 1] 3) = V2 at *
        generalize hE8 : V.heap.size = E8 at *
        have h8g : w.heap.size + 4 < E8 := by omega
        clear c8 hc8 hcu hbl hB8' hV2 c80 hbn0 hbn hcu0 hbl0 hR0 hbx0 hs1 hlt80 g2 g3 gK
        have hcu := nC
        have hbl := nB
        have c8 := n8
        have hc8 := c8.cell 0 rfl
        have hB8' := nl
        clear hE8 hsV
        try clear hS
        try clear hD
        clear k5 hDs0
        rw [roundsIn_succ]
        gi_wp2
        have hbx1 : Blk (V2.alloc (.cells #[.int .i64 0] 3)) (w.heap.size + 3) [.pointer (some ⟨a, 0, none⟩)] 22 := (d3.low hcu (by omega)).alloc _
        have hR1 : RowAt (V2.alloc (.cells #[.int .i64 0] 3)) a b ws acc := (((h.below B0 h.lta h.ltb).low hcu (by have := h.lta; omega) (by have := h.ltb; omega)).upd ((Upd.refl [] _).alloc _) (by simp) (by simp))
        have hbn1 := Blk.new V2 [.int .i64 0] 3
        have hbl1 : Below w.heap.size w (V2.alloc (.cells #[.int .i64 0] 3)) := hbl.trans (((Upd.refl [] _).alloc _).below hbl.size (by simp))
        have hcu1 : CLow (w.heap.size + 4) W0 (V2.alloc (.cells #[.int .i64 0] 3)) := hcu.trans (((Upd.refl [] _).alloc _).low (by simp))
        have c81 : Blk (V2.alloc (.cells #[.int .i64 0] 3)) E8 [.int .i64 1] 3 := c8.alloc _
        have hlt81 : E8 < V2.heap.size := hB8'
        have hDs1 : ∀ D ∈ ([D1] : List Nat), (V2.alloc (.cells #[.int .i64 0] 3)).heap[D]? = some (Obj.deferred (some [])) := fun D hm => by exact (by simp at hm; subst hm; exact (Below.heap_alloc V2 _ _ (lt_of_block nK)).trans nK)
        obtain ⟨W1, hW1⟩ : ∃ W1, V2.alloc (.cells #[.int .i64 0] 3) = W1 := ⟨_, rfl⟩
        have hs1 : V2.heap.size < W1.heap.size := by rw [← hW1]; simp
        obtain ⟨bn, hbn⟩ : ∃ bn, V2.heap.size = bn := ⟨_, rfl⟩
        rw [hW1] at hbx1 hR1 hbn1 hbl1 hcu1 c81 hDs1 ⊢
        rw [hbn] at hbn1 hlt81 hs1 ⊢
        clear hW1
        refine range_over (by omega) (gf := 59) (lb := #[.pointer (some ⟨w.heap.size + 3, 0, none⟩)]) rfl (enters_of Try.func59 (by kernel_rfl) rfl)
          (all_stops 8 (by omega) [bn] hbx1 hR1 (by simp; omega)) (fun _ => rfl)
          (GoesI w W1 [D1] bn (fun m => True)) (GoesX w W1 [D1] bn ws.length (fun m => False)) (goesI_own (by have := hbl1.size; omega) (fun D hm => lt_of_block (hDs1 D hm))) (goesX_own (by have := hbl1.size; omega) (fun D hm => lt_of_block (hDs1 D hm))) ⟨hbn1, CUpd.refl _ _, ⟨hbl1, hDs1⟩, ?h01⟩ ?round1 ?done1 ?stop1
        case h01 => trivial
        case round1 =>
          apply Exists.intro
          constructor
          · intro l x W K hK
            unfold encw
            gi_wp2
            exact hK
          · rintro l pre x W ⟨k1, k2, k3, k4⟩ hlen
            have kr : RRow W ra rb ws racc := ((k.below B0 k.lta k.ltb).low (hcu1.trans (k2.low (by simp; omega))) (by have := k.lta; omega) (by have := k.ltb; omega))
            have cU : CLow (w.heap.size + 4) W0 W := hcu1.trans (k2.low (by simp; omega))
            have b0 := (d0.low cU (by omega)).cell 0 rfl
            have b1 := (d1.low cU (by omega)).cell 0 rfl
            have f2 := (d2.low cU (by omega)).free 0
            have c2 := (d2.low cU (by omega)).cell 0 rfl
            have b2 := (d2.low cU (by omega))
            have b8 := (c81.cupd k2 (by simp; omega)).cell 0 rfl
            have e0 := k1.cell 0 rfl
            have f0 := k1.free 0
            obtain ⟨rcap, r0⟩ := kr.c0
            have kw := kr.cw pre.length hlen
            have hxl := @not_range pre x ws.length
            have HL := Lib.hid (show (pre ++ [x]).length = pre.length + 1 by simp)
            have hn64 : ws.length ≤ 65536 := hn2
            have hd : decide (ws.length ≤ pre.length) = false := by simp; omega
            have hcv : IntKind.u64.wrap (pre.length : Int) = (pre.length : Int) := by rw [IntKind.wrap_u64]; omega
            have hbn1 : bn ≠ w.heap.size := by omega
            have hbn2 : bn ≠ w.heap.size + 1 := by omega
            have hbn3 : bn ≠ w.heap.size + 2 := by omega
            have hsto : ∀ v, Upd [bn] W (W.setCell ⟨bn, 0, none⟩ v) := fun v => (Upd.refl _ _).setCell (.inl (by simp)) v
            have k1b := k1
            obtain ⟨m, hm⟩ : ∃ m, pre.length = m := ⟨_, rfl⟩
            (try rw [hm] at k4); rw [hm] at hlen e0 kw hxl HL hd hcv k1b
            clear hm
            by_cases hx : x = m
            · subst hx
              have hne1 : ((x : Int) != (x : Int)) = false := by simp
              have hne2 : (wd ws x != wd ws x) = false := by simp
              generalize wd ws x = v at *
              clear hxl
              skip
              all_goals
                gi_wp2
                refine wpIn_region_quiet_rd (by kernel_rfl) (by kernel_rfl) (by kernel_rfl) ?_
                repeat (gi_big_quiet_step ((gi_at_call 30; refine CallsIn.quiet_of_same (CallsIn.inRound l (callsIn_wide.2 ((rlen_any (kr.drewN _)).mono fun _ _ h => ⟨h.1, h.2.symm⟩))))))
                refine wpQuietIn_nil ?_
                intro _ hw'
                obtain ⟨nq, hw''⟩ := hw'
                subst hw''
                gi_wp2
                first | exact goes_cont k1b k2 k3 (by omega) HL.out (by first | trivial | (have h9 := beq_eq_false_iff_ne.1 hlb; omega)) rfl | exact goes_break k1b k2 k3 (by omega) HL.out (by first | exact beq_iff_eq.1 hlb) rfl
            · have hne1 : ((x : Int) != (m : Int)) = true := by rw [bne_iff_ne]; omega
              generalize wd ws m = v at *
              gi_wp2
              refine wpIn_region_quiet_rd (by kernel_rfl) (by kernel_rfl) (by kernel_rfl) ?_
              repeat (gi_big_quiet_step ((gi_at_call 30; refine CallsIn.quiet_of_same (CallsIn.inRound l (callsIn_wide.2 ((rlen_any (kr.drewN _)).mono fun _ _ h => ⟨h.1, h.2.symm⟩))))))
              refine wpQuietIn_nil ?_
              intro _ hw'
              obtain ⟨nq, hw''⟩ := hw'
              subst hw''
              gi_wp2
              exact ⟨keeps_upd (((Upd.refl [w.heap.size + 2] W).drewN nq).setCell (.inl (by simp)) _) (fun k hk => by simp at hk; subst hk; exact ⟨_, _, b2⟩), .inl ⟨rfl, hxl hx⟩⟩
        case done1 =>
          rintro D2 ys W hD rfl ⟨k1, k2, ⟨k3, k5⟩, k4⟩ hK
          rw [List.length_range] at k1
          have m5 : ((ws.length : Int) != (ws.length : Int)) = false := by simp
          clear k4
          have nK5 := k5 D1 (by simp)
          have hne : D1 < D2 := by have := lt_of_block (hDs1 D1 (by simp)); omega
          clear k5 hDs1 nK
          have cU : CLow (w.heap.size + 4) W0 W := hcu1.trans (k2.low (by simp; omega))
          have kr : RRow W ra rb ws racc := ((k.below B0 k.lta k.ltb).low cU (by have := k.lta; omega) (by have := k.ltb; omega))
          have b0 := (d0.low cU (by omega)).cell 0 rfl
          have b1 := (d1.low cU (by omega)).cell 0 rfl
          have b8 := (c81.cupd k2 (by simp; omega)).cell 0 rfl
          have e0 := k1.cell 0 rfl
          skip
          gi_wp2
          gi_big_quiet_th ((gi_at_call 30; refine CallsIn.quiet_of_same (callsIn_wide.2 ((rlen_any (kr.drewN _)).mono fun _ _ h => ⟨h.1, h.2.symm⟩))))
          have c8 := (c81.cupd k2 (by simp; omega)).drewN nq
          have g2 : CLow (w.heap.size + 4) W0 (W.drewN nq) := cU.trans (((Upd.refl [] _).drewN nq).low (by simp))
          have g3 : Below w.heap.size w (W.drewN nq) := k3.trans (((Upd.refl [] _).drewN nq).below k3.size (by simp))
          have gK1 : (W.drewN nq).heap[D1]? = some (.deferred (some [])) := nK5
          have gK : (W.drewN nq).heap[D2]? = some (.deferred (some [])) := hK
          have hsV : bn < (W.drewN nq).heap.size := by have := k1.lt; exact this
          have d2V := (d2.low cU (by omega)).drewN nq
          clear cU kr b0 b1 b8 e0 k1 k2 k3 hK nK5
          generalize W.drewN nq = V at *
          have hc8 := c8.cell 0 rfl
          have hd2 := d2V.cell 0 rfl
          have hd2f := d2V.free 0
          have hs2 : w.heap.size + 2 < V.heap.size := d2V.lt
          have hDlo2 : w.heap.size ≤ D2 := by have := hbl1.size; omega
          gi_wp2
          rw [roundsIn_succ]
          gi_wp2
          obtain ⟨V3, hV3⟩ : ∃ V3, (V.setCell ⟨w.heap.size + 2, 0, none⟩ (.bool true)).alloc (.cells #[.int .i64 2] 3) = V3 := ⟨_, rfl⟩
          have u3 : Upd [w.heap.size + 2] V V3 := by rw [← hV3]; exact ((Upd.refl _ _).setCell (.inl (by simp)) _).alloc _
          have r3 : Blk V3 (w.heap.size + 2) [.bool true] 4 := by rw [← hV3]; exact (d2V.set 0 (.bool true)).alloc _
          have k3 := keeps_upd u3 (fun k hk => by simp at hk; subst hk; exact ⟨_, _, d2V⟩)
          have q1 := k3.same D1 _ gK1 rfl
          have q2 := k3.same D2 _ gK rfl
          have b3 : Below w.heap.size w V3 := g3.trans (u3.below g3.size (by simp))
          have e3 : (V.setCell ⟨w.heap.size + 1 + 1, 0, none⟩ (.bool true)).alloc (.cells #[.int .i64 2] 3) = V3 := hV3
          rw [e3]
          clear hV3 e3
          have hc3 := r3.cell 0 rfl
          have q1' : (V3.putObj D2 (.deferred none)).heap[D1]? = some (.deferred (some [])) := by rw [World.putObj_heap_other (by omega)]; exact q1
          have hc4 := cell_kept hc3 (grownBy_putObj' _ D2 (.deferred none)) (fun r e => by cases e; exact ⟨_, q2, rfl⟩)
          have hc5 := cell_kept hc4 (grownBy_putObj' _ D1 (.deferred none)) (fun r e => by cases e; exact ⟨_, q1', rfl⟩)
          have b4 := b3.trans (belowK_b (w := w) (Nat.le_refl _) _ D2 _ (.deferred none) hDlo2 q2 rfl rfl)
          have b5 := b4.trans (belowK_b (w := w) (Nat.le_refl _) _ D1 _ (.deferred none) hDlo q1' rfl rfl)
          refine ⟨by simp, .inl ⟨_, _, rfl, run_takeDeferred q2, ?_⟩⟩
          refine ⟨by simp, .inl ⟨_, _, rfl, run_takeDeferred q1', ?_⟩⟩
          refine ⟨.bool true, ?_, rfl, b5⟩
          simp [results, Try.f33, go_sem, hc5]
        case stop1 =>
          rintro D2 c pre W hD hS hX hK
          rcases hX with ⟨rfl, hX⟩ | ⟨rfl, k1, k2, ⟨k3, k5⟩, k4⟩
          · exact absurd hS hX
          exact k4.elim
    case stop0 =>
      rintro D1 c pre W hD hS hX hK
      rcases hX with ⟨rfl, hX⟩ | ⟨rfl, k1, k2, ⟨k3, k5⟩, k4⟩
      · exact absurd hS hX
      exact k4.elim

end Go.Proofs.Ythjiiedpplimpaa
