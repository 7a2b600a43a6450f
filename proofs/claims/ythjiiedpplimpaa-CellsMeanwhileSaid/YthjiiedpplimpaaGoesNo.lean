/- The check goes of layer 1 where there is no row. No condition. -/
import Derived.Test.YthjiiedpplimpaaGoes
import Derived.Test.YthjiiedpplimpaaNoRow
set_option linter.unusedSimpArgs false
set_option linter.unusedVariables false
set_option maxRecDepth 100000
namespace Go.Proofs.Ythjiiedpplimpaa
open Go.RowKit
open Go.Shelf
attribute [local go_sem] Oper.semAt_some


set_option maxHeartbeats 1000000 in
theorem goes_no (w : World) (leave : Int) :
    Calls Try.prog 33 #[.pointer none, .pointer none, .int .i64 leave] w fun e w' => e = .returned (.bool true) ∧ Below w.heap.size w w' := by
  refine (callsIn_wide (n := 9)).1 ?_
  refine callsIn_of_wp_marks Try.func33 rfl trivial ?_ rfl
  simp only [Try.ntmps33, List.size_toArray, List.length_cons, List.length_nil, Nat.reduceAdd, Nat.reduceSub, Array.replicate_succ, Array.replicate_zero, List.push_toArray, List.append_toArray, List.nil_append, List.cons_append]
  have hF : ∀ f, Fence.wide.fn f := fun _ => trivial
  have hef := eql_fn2
  gi_wp2_with (gi_at_call 28; refine (callsIn_wide.2 (all_fn _)).mono ?_; rintro e w' ⟨rfl, rfl⟩)
  obtain ⟨W0, hW0⟩ : ∃ W0, (((((w.alloc (.cells #[.pointer none] 45)).alloc (.cells #[.int .i64 leave] 3)).alloc (.cells #[.bool false] 4)).alloc (.cells #[.pointer none] 22)).alloc (.cells #[.int .i64 0] 3)) = W0 := ⟨_, rfl⟩
  have B0 : Below w.heap.size w W0 := by rw [← hW0]; exact (((((Upd.refl [] w).alloc _).alloc _).alloc _).alloc _).alloc _ |>.below (Nat.le_refl _) (by simp)
  have d0 : Blk W0 w.heap.size [.pointer none] 45 := by rw [← hW0]; exact ((((Blk.new w [.pointer none] 45).alloc _).alloc _).alloc _).alloc _
  have d1 : Blk W0 (w.heap.size + 1) [.int .i64 leave] 3 := by
    have := (((Blk.new (w.alloc (.cells #[.pointer none] 45)) [.int .i64 leave] 3).alloc (.cells #[.bool false] 4)).alloc (.cells #[.pointer none] 22)).alloc (.cells #[.int .i64 0] 3)
    rw [← hW0]; simpa using this
  have d2 : Blk W0 (w.heap.size + 2) [.bool false] 4 := by
    have := ((Blk.new ((w.alloc (.cells #[.pointer none] 45)).alloc (.cells #[.int .i64 leave] 3)) [.bool false] 4).alloc (.cells #[.pointer none] 22)).alloc (.cells #[.int .i64 0] 3)
    rw [← hW0]; simpa using this
  have d3 : Blk W0 (w.heap.size + 3) [.pointer none] 22 := by
    have := (Blk.new (((w.alloc (.cells #[.pointer none] 45)).alloc (.cells #[.int .i64 leave] 3)).alloc (.cells #[.bool false] 4)) [.pointer none] 22).alloc (.cells #[.int .i64 0] 3)
    rw [← hW0]; simpa using this
  have d4 : Blk W0 (w.heap.size + 4) [.int .i64 0] 3 := by
    have := Blk.new ((((w.alloc (.cells #[.pointer none] 45)).alloc (.cells #[.int .i64 leave] 3)).alloc (.cells #[.bool false] 4)).alloc (.cells #[.pointer none] 22)) [.int .i64 0] 3
    rw [← hW0]; simpa using this
  have hsz : W0.heap.size = w.heap.size + 5 := by rw [← hW0]; simp
  rw [hW0]
  have HZ := Lib.hid hsz
  clear hW0 hsz
  refine wpIn_loop_rounds 3 ?_
  rw [roundsIn_succ]
  have c8 := d4
  have hc8 := d4.cell 0 rfl
  have hcu := CLow.refl (w.heap.size + 4) W0
  have hbl := B0
  have hB8' := d4.lt
  gi_wp2
  have hbx0 : Blk (W0.alloc (.cells #[.int .i64 0] 3)) (w.heap.size + 3) [.pointer none] 22 := (d3.low hcu (by omega)).alloc _
  have hbn0 := Blk.new W0 [.int .i64 0] 3
  have hbl0 : Below w.heap.size w (W0.alloc (.cells #[.int .i64 0] 3)) := hbl.trans (((Upd.refl [] _).alloc _).below hbl.size (by simp))
  have hcu0 : CLow (w.heap.size + 4) W0 (W0.alloc (.cells #[.int .i64 0] 3)) := hcu.trans (((Upd.refl [] _).alloc _).low (by simp))
  have c80 : Blk (W0.alloc (.cells #[.int .i64 0] 3)) (w.heap.size + 4) [.int .i64 0] 3 := c8.alloc _
  have hlt80 : (w.heap.size + 4) < W0.heap.size := hB8'
  have hDs0 : ∀ D ∈ ([] : List Nat), (W0.alloc (.cells #[.int .i64 0] 3)).heap[D]? = some (Obj.deferred (some [])) := fun D hm => by simp at hm
  obtain ⟨W1, hW1⟩ : ∃ W1, W0.alloc (.cells #[.int .i64 0] 3) = W1 := ⟨_, rfl⟩
  have hs1 : W0.heap.size < W1.heap.size := by rw [← hW1]; simp
  obtain ⟨bn, hbn⟩ : ∃ bn, W0.heap.size = bn := ⟨_, rfl⟩
  rw [hW1] at hbx0 hbn0 hbl0 hcu0 c80 hDs0 ⊢
  rw [hbn] at hbn0 hlt80 hs1 ⊢
  clear hW1
  refine range_over (by omega) (gf := 59) (lb := #[.pointer (some ⟨w.heap.size + 3, 0, none⟩)]) rfl (enters_of Try.func59 (by kernel_rfl) rfl)
    (all_stops_no 8 (by omega) [bn] hbx0 (.inl rfl)) (fun _ => rfl)
    (GoesI w W1 [] bn (fun m => True)) (GoesX w W1 [] bn 0 (fun m => False)) (goesI_own (by have := hbl0.size; omega) (fun D hm => lt_of_block (hDs0 D hm))) (goesX_own (by have := hbl0.size; omega) (fun D hm => lt_of_block (hDs0 D hm))) ⟨hbn0, CUpd.refl _ _, ⟨hbl0, hDs0⟩, trivial⟩ ?round0x ?done0x ?stop0x
  case round0x =>
    apply Exists.intro
    constructor
    · intro l x W K hK
      unfold encw
      gi_wp2
      exact hK
    · rintro l pre x W _ hlen
      exact absurd hlen (by omega)
  case stop0x =>
    rintro D1 c pre W hD hS hX hK
    exact hS.elim
  rintro D1 ys W hD rfl ⟨k1, k2, ⟨k3, k5⟩, _⟩ hK
  have cU : CLow (w.heap.size + 4) W0 W := hcu0.trans (k2.low (by simp; omega))
  have b0 := (d0.low cU (by omega)).cell 0 rfl
  have b1 := (d1.low cU (by omega)).cell 0 rfl
  have b8 := (c80.cupd k2 (by simp; omega)).cell 0 rfl
  have e0 := k1.cell 0 rfl
  have hDlo0 : w.heap.size ≤ D1 := by have := hbl0.size; omega
  by_cases hl0 : 0 < leave
  · have m2 : decide (0 < leave) = true := by simp; omega
    have m3 : decide (leave ≤ 0) = false := by simp; omega
    gi_wp2
    gi_big_quiet_th ((gi_at_call 30; refine CallsIn.quiet_of_same (callsIn_wide.2 ((rlen_no _).mono fun _ _ h => ⟨h.1, h.2.symm⟩))))
    have c8 := (c80.cupd k2 (by simp; omega)).drewN nq
    have g2 : CLow (w.heap.size + 4) W0 (W.drewN nq) := cU.trans (((Upd.refl [] _).drewN nq).low (by simp))
    have g3 : Below w.heap.size w (W.drewN nq) := k3.trans (((Upd.refl [] _).drewN nq).below k3.size (by simp))
    have gK : (W.drewN nq).heap[D1]? = some (.deferred (some [])) := hK
    have hsV : bn < (W.drewN nq).heap.size := by have := k1.lt; exact this
    clear cU b0 b1 b8 e0 k1 k2 k3 hK
    generalize W.drewN nq = V at *
    have hc8 := c8.cell 0 rfl
    gi_wp2
    have n8 := Blk.new V [.int .i64 1] 3
    have nB : Below w.heap.size w (V.alloc (.cells #[.int .i64 1] 3)) := g3.trans (((Upd.refl [] _).alloc _).below g3.size (by simp))
    have nC : CLow (w.heap.size + 4) W0 (V.alloc (.cells #[.int .i64 1] 3)) := g2.trans (((Upd.refl [] _).alloc _).low (by simp))
    have nK : (V.alloc (.cells #[.int .i64 1] 3)).heap[D1]? = some (.deferred (some [])) := (Below.heap_alloc V (.cells #[.int .i64 1] 3) D1 (lt_of_block gK)).trans gK
    have nl : V.heap.size < (V.alloc (.cells #[.int .i64 1] 3)).heap.size := by simp
    generalize hV2 : V.alloc (.cells #[.int .i64 1] 3) = V2 at *
    generalize hE8 : V.heap.size = E8 at *
    have h8g : w.heap.size + 4 < E8 := by omega
    clear c8 hc8 hcu hbl hB8' hV2 c80 hbn0 hbn hcu0 hbl0 hbx0 hs1 hlt80 g2 g3 gK
    have hcu := nC
    have hbl := nB
    have c8 := n8
    have hc8 := c8.cell 0 rfl
    have hB8' := nl
    clear hE8 hsV
    try clear hD
    clear k5 hDs0
    rw [roundsIn_succ]
    gi_wp2
    have hbx1 : Blk (V2.alloc (.cells #[.int .i64 0] 3)) (w.heap.size + 3) [.pointer none] 22 := (d3.low hcu (by omega)).alloc _
    have hbn1 := Blk.new V2 [.int .i64 0] 3
    have hbl1 : Below w.heap.size w (V2.alloc (.cells #[.int .i64 0] 3)) := hbl.trans (((Upd.refl [] _).alloc _).below hbl.size (by simp))
    have hcu1 : CLow (w.heap.size + 4) W0 (V2.alloc (.cells #[.int .i64 0] 3)) := hcu.trans (((Upd.refl [] _).alloc _).low (by simp))
    have c81 : Blk (V2.alloc (.cells #[.int .i64 0] 3)) E8 [.int .i64 1] 3 := c8.alloc _
    have hlt81 : E8 < V2.heap.size := hB8'
    have hDs1 : ∀ D ∈ ([D1] : List Nat), (V2.alloc (.cells #[.int .i64 0] 3)).heap[D]? = some (Obj.deferred (some [])) := fun D hm => by exact (by simp at hm; subst hm; exact (Below.heap_alloc V2 _ _ (lt_of_block nK)).trans nK)
    obtain ⟨W1, hW1⟩ : ∃ W1, V2.alloc (.cells #[.int .i64 0] 3) = W1 := ⟨_, rfl⟩
    have hs1 : V2.heap.size < W1.heap.size := by rw [← hW1]; simp
    obtain ⟨bn, hbn⟩ : ∃ bn, V2.heap.size = bn := ⟨_, rfl⟩
    rw [hW1] at hbx1 hbn1 hbl1 hcu1 c81 hDs1 ⊢
    rw [hbn] at hbn1 hlt81 hs1 ⊢
    clear hW1
    refine range_over (by omega) (gf := 59) (lb := #[.pointer (some ⟨w.heap.size + 3, 0, none⟩)]) rfl (enters_of Try.func59 (by kernel_rfl) rfl)
      (all_stops_no 8 (by omega) [bn] hbx1 (.inl rfl)) (fun _ => rfl)
      (GoesI w W1 [D1] bn (fun m => True)) (GoesX w W1 [D1] bn 0 (fun m => False)) (goesI_own (by have := hbl1.size; omega) (fun D hm => lt_of_block (hDs1 D hm))) (goesX_own (by have := hbl1.size; omega) (fun D hm => lt_of_block (hDs1 D hm))) ⟨hbn1, CUpd.refl _ _, ⟨hbl1, hDs1⟩, trivial⟩ ?round1a ?done1a ?stop1a
    case round1a =>
      apply Exists.intro
      constructor
      · intro l x W K hK
        unfold encw
        gi_wp2
        exact hK
      · rintro l pre x W _ hlen
        exact absurd hlen (by omega)
    case stop1a =>
      rintro D2 c pre W hD hS hX hK
      exact hS.elim
    rintro D2 ys W hD rfl ⟨k1, k2, ⟨k3, k5⟩, _⟩ hK
    have cU : CLow (w.heap.size + 4) W0 W := hcu1.trans (k2.low (by simp; omega))
    have b0 := (d0.low cU (by omega)).cell 0 rfl
    have b1 := (d1.low cU (by omega)).cell 0 rfl
    have b8 := (c81.cupd k2 (by simp; omega)).cell 0 rfl
    have e0 := k1.cell 0 rfl
    have hDlo1 : w.heap.size ≤ D2 := by have := hbl1.size; omega
    have nK5 := k5 D1 (by simp)
    have hne : D1 < D2 := by have := lt_of_block (hDs1 D1 (by simp)); omega
    clear k5 hDs1 nK
    gi_wp2
    gi_big_quiet_th ((gi_at_call 30; refine CallsIn.quiet_of_same (callsIn_wide.2 ((rlen_no _).mono fun _ _ h => ⟨h.1, h.2.symm⟩))))
    have c8 := (c81.cupd k2 (by simp; omega)).drewN nq
    have g3 : Below w.heap.size w (W.drewN nq) := k3.trans (((Upd.refl [] _).drewN nq).below k3.size (by simp))
    have gK1 : (W.drewN nq).heap[D1]? = some (.deferred (some [])) := nK5
    have gK : (W.drewN nq).heap[D2]? = some (.deferred (some [])) := hK
    have d2V := (d2.low cU (by omega)).drewN nq
    clear cU b0 b1 b8 e0 k1 k2 k3 hK nK5
    generalize W.drewN nq = V at *
    have hc8 := c8.cell 0 rfl
    have hd2 := d2V.cell 0 rfl
    have hd2f := d2V.free 0
    have hs2 : w.heap.size + 2 < V.heap.size := d2V.lt
    gi_wp2
    rw [roundsIn_succ]
    gi_wp2
    obtain ⟨V3, hV3⟩ : ∃ V3, (V.setCell ⟨w.heap.size + 2, 0, none⟩ (.bool true)).alloc (.cells #[.int .i64 2] 3) = V3 := ⟨_, rfl⟩
    have u3 : Upd [w.heap.size + 2] V V3 := by rw [← hV3]; exact ((Upd.refl _ _).setCell (.inl (by simp)) _).alloc _
    have r3 : Blk V3 (w.heap.size + 2) [.bool true] 4 := by rw [← hV3]; exact (d2V.set 0 (.bool true)).alloc _
    have k3 := keeps_upd u3 (fun k hk => by simp at hk; subst hk; exact ⟨_, _, d2V⟩)
    have q1 := k3.same D1 _ gK1 rfl
    have q2 := k3.same D2 _ gK rfl
    have b3 : Below w.heap.size w V3 := g3.trans (u3.below g3.size (by simp))
    have e3 : (V.setCell ⟨w.heap.size + 1 + 1, 0, none⟩ (.bool true)).alloc (.cells #[.int .i64 2] 3) = V3 := hV3
    rw [e3]
    clear hV3 e3
    have hc3 := r3.cell 0 rfl
    have q1' : (V3.putObj D2 (.deferred none)).heap[D1]? = some (.deferred (some [])) := by rw [World.putObj_heap_other (by omega)]; exact q1
    have hc4 := cell_kept hc3 (grownBy_putObj' _ D2 (.deferred none)) (fun r e => by cases e; exact ⟨_, q2, rfl⟩)
    have hc5 := cell_kept hc4 (grownBy_putObj' _ D1 (.deferred none)) (fun r e => by cases e; exact ⟨_, q1', rfl⟩)
    have b4 := b3.trans (belowK_b (w := w) (Nat.le_refl _) _ D2 _ (.deferred none) hDlo1 q2 rfl rfl)
    have b5 := b4.trans (belowK_b (w := w) (Nat.le_refl _) _ D1 _ (.deferred none) hDlo0 q1' rfl rfl)
    refine ⟨by simp, .inl ⟨_, _, rfl, run_takeDeferred q2, ?_⟩⟩
    refine ⟨by simp, .inl ⟨_, _, rfl, run_takeDeferred q1', ?_⟩⟩
    refine ⟨.bool true, ?_, rfl, b5⟩
    simp [results, Try.f33, go_sem, hc5]
  · have m2 : decide (0 < leave) = false := by simp; omega
    have m3 : decide (leave ≤ 0) = true := by simp; omega
    gi_wp2
    gi_big_quiet_th ((gi_at_call 30; refine CallsIn.quiet_of_same (callsIn_wide.2 ((rlen_no _).mono fun _ _ h => ⟨h.1, h.2.symm⟩))))
    have c8 := (c80.cupd k2 (by simp; omega)).drewN nq
    have g2 : CLow (w.heap.size + 4) W0 (W.drewN nq) := cU.trans (((Upd.refl [] _).drewN nq).low (by simp))
    have g3 : Below w.heap.size w (W.drewN nq) := k3.trans (((Upd.refl [] _).drewN nq).below k3.size (by simp))
    have gK : (W.drewN nq).heap[D1]? = some (.deferred (some [])) := hK
    have hsV : bn < (W.drewN nq).heap.size := by have := k1.lt; exact this
    clear cU b0 b1 b8 e0 k1 k2 k3 hK
    generalize W.drewN nq = V at *
    have hc8 := c8.cell 0 rfl
    gi_wp2
    have n8 := Blk.new V [.int .i64 1] 3
    have nB : Below w.heap.size w (V.alloc (.cells #[.int .i64 1] 3)) := g3.trans (((Upd.refl [] _).alloc _).below g3.size (by simp))
    have nC : CLow (w.heap.size + 4) W0 (V.alloc (.cells #[.int .i64 1] 3)) := g2.trans (((Upd.refl [] _).alloc _).low (by simp))
    have nK : (V.alloc (.cells #[.int .i64 1] 3)).heap[D1]? = some (.deferred (some [])) := (Below.heap_alloc V (.cells #[.int .i64 1] 3) D1 (lt_of_block gK)).trans gK
    have nl : V.heap.size < (V.alloc (.cells #[.int .i64 1] 3)).heap.size := by simp
    generalize hV2 : V.alloc (.cells #[.int .i64 1] 3) = V2 at *
    generalize hE8 : V.heap.size = E8 at *
    have h8g : w.heap.size + 4 < E8 := by omega
    clear c8 hc8 hcu hbl hB8' hV2 c80 hbn0 hbn hcu0 hbl0 hbx0 hs1 hlt80 g2 g3 gK
    have hcu := nC
    have hbl := nB
    have c8 := n8
    have hc8 := c8.cell 0 rfl
    have hB8' := nl
    clear hE8 hsV
    try clear hD
    clear k5 hDs0
    rw [roundsIn_succ]
    gi_wp2
    have hbx1 : Blk (V2.alloc (.cells #[.int .i64 0] 3)) (w.heap.size + 3) [.pointer none] 22 := (d3.low hcu (by omega)).alloc _
    have hbn1 := Blk.new V2 [.int .i64 0] 3
    have hbl1 : Below w.heap.size w (V2.alloc (.cells #[.int .i64 0] 3)) := hbl.trans (((Upd.refl [] _).alloc _).below hbl.size (by simp))
    have hcu1 : CLow (w.heap.size + 4) W0 (V2.alloc (.cells #[.int .i64 0] 3)) := hcu.trans (((Upd.refl [] _).alloc _).low (by simp))
    have c81 : Blk (V2.alloc (.cells #[.int .i64 0] 3)) E8 [.int .i64 1] 3 := c8.alloc _
    have hlt81 : E8 < V2.heap.size := hB8'
    have hDs1 : ∀ D ∈ ([D1] : List Nat), (V2.alloc (.cells #[.int .i64 0] 3)).heap[D]? = some (Obj.deferred (some [])) := fun D hm => by exact (by simp at hm; subst hm; exact (Below.heap_alloc V2 _ _ (lt_of_block nK)).trans nK)
    obtain ⟨W1, hW1⟩ : ∃ W1, V2.alloc (.cells #[.int .i64 0] 3) = W1 := ⟨_, rfl⟩
    have hs1 : V2.heap.size < W1.heap.size := by rw [← hW1]; simp
    obtain ⟨bn, hbn⟩ : ∃ bn, V2.heap.size = bn := ⟨_, rfl⟩
    rw [hW1] at hbx1 hbn1 hbl1 hcu1 c81 hDs1 ⊢
    rw [hbn] at hbn1 hlt81 hs1 ⊢
    clear hW1
    refine range_over (by omega) (gf := 59) (lb := #[.pointer (some ⟨w.heap.size + 3, 0, none⟩)]) rfl (enters_of Try.func59 (by kernel_rfl) rfl)
      (all_stops_no 8 (by omega) [bn] hbx1 (.inl rfl)) (fun _ => rfl)
      (GoesI w W1 [D1] bn (fun m => True)) (GoesX w W1 [D1] bn 0 (fun m => False)) (goesI_own (by have := hbl1.size; omega) (fun D hm => lt_of_block (hDs1 D hm))) (goesX_own (by have := hbl1.size; omega) (fun D hm => lt_of_block (hDs1 D hm))) ⟨hbn1, CUpd.refl _ _, ⟨hbl1, hDs1⟩, trivial⟩ ?round1b ?done1b ?stop1b
    case round1b =>
      apply Exists.intro
      constructor
      · intro l x W K hK
        unfold encw
        gi_wp2
        exact hK
      · rintro l pre x W _ hlen
        exact absurd hlen (by omega)
    case stop1b =>
      rintro D2 c pre W hD hS hX hK
      exact hS.elim
    rintro D2 ys W hD rfl ⟨k1, k2, ⟨k3, k5⟩, _⟩ hK
    have cU : CLow (w.heap.size + 4) W0 W := hcu1.trans (k2.low (by simp; omega))
    have b0 := (d0.low cU (by omega)).cell 0 rfl
    have b1 := (d1.low cU (by omega)).cell 0 rfl
    have b8 := (c81.cupd k2 (by simp; omega)).cell 0 rfl
    have e0 := k1.cell 0 rfl
    have hDlo1 : w.heap.size ≤ D2 := by have := hbl1.size; omega
    have nK5 := k5 D1 (by simp)
    have hne : D1 < D2 := by have := lt_of_block (hDs1 D1 (by simp)); omega
    clear k5 hDs1 nK
    gi_wp2
    gi_big_quiet_th ((gi_at_call 30; refine CallsIn.quiet_of_same (callsIn_wide.2 ((rlen_no _).mono fun _ _ h => ⟨h.1, h.2.symm⟩))))
    have c8 := (c81.cupd k2 (by simp; omega)).drewN nq
    have g3 : Below w.heap.size w (W.drewN nq) := k3.trans (((Upd.refl [] _).drewN nq).below k3.size (by simp))
    have gK1 : (W.drewN nq).heap[D1]? = some (.deferred (some [])) := nK5
    have gK : (W.drewN nq).heap[D2]? = some (.deferred (some [])) := hK
    have d2V := (d2.low cU (by omega)).drewN nq
    clear cU b0 b1 b8 e0 k1 k2 k3 hK nK5
    generalize W.drewN nq = V at *
    have hc8 := c8.cell 0 rfl
    have hd2 := d2V.cell 0 rfl
    have hd2f := d2V.free 0
    have hs2 : w.heap.size + 2 < V.heap.size := d2V.lt
    gi_wp2
    rw [roundsIn_succ]
    gi_wp2
    obtain ⟨V3, hV3⟩ : ∃ V3, (V.setCell ⟨w.heap.size + 2, 0, none⟩ (.bool true)).alloc (.cells #[.int .i64 2] 3) = V3 := ⟨_, rfl⟩
    have u3 : Upd [w.heap.size + 2] V V3 := by rw [← hV3]; exact ((Upd.refl _ _).setCell (.inl (by simp)) _).alloc _
    have r3 : Blk V3 (w.heap.size + 2) [.bool true] 4 := by rw [← hV3]; exact (d2V.set 0 (.bool true)).alloc _
    have k3 := keeps_upd u3 (fun k hk => by simp at hk; subst hk; exact ⟨_, _, d2V⟩)
    have q1 := k3.same D1 _ gK1 rfl
    have q2 := k3.same D2 _ gK rfl
    have b3 : Below w.heap.size w V3 := g3.trans (u3.below g3.size (by simp))
    have e3 : (V.setCell ⟨w.heap.size + 1 + 1, 0, none⟩ (.bool true)).alloc (.cells #[.int .i64 2] 3) = V3 := hV3
    rw [e3]
    clear hV3 e3
    have hc3 := r3.cell 0 rfl
    have q1' : (V3.putObj D2 (.deferred none)).heap[D1]? = some (.deferred (some [])) := by rw [World.putObj_heap_other (by omega)]; exact q1
    have hc4 := cell_kept hc3 (grownBy_putObj' _ D2 (.deferred none)) (fun r e => by cases e; exact ⟨_, q2, rfl⟩)
    have hc5 := cell_kept hc4 (grownBy_putObj' _ D1 (.deferred none)) (fun r e => by cases e; exact ⟨_, q1', rfl⟩)
    have b4 := b3.trans (belowK_b (w := w) (Nat.le_refl _) _ D2 _ (.deferred none) hDlo1 q2 rfl rfl)
    have b5 := b4.trans (belowK_b (w := w) (Nat.le_refl _) _ D1 _ (.deferred none) hDlo0 q1' rfl rfl)
    refine ⟨by simp, .inl ⟨_, _, rfl, run_takeDeferred q2, ?_⟩⟩
    refine ⟨by simp, .inl ⟨_, _, rfl, run_takeDeferred q1', ?_⟩⟩
    refine ⟨.bool true, ?_, rfl, b5⟩
    simp [results, Try.f33, go_sem, hc5]

end Go.Proofs.Ythjiiedpplimpaa
