/- CellsNil's walk: a row that is not there, and a zero one. No condition. -/
import Derived.Test.YthjiiedpplimpaaNoRow
set_option linter.unusedSimpArgs false
set_option linter.unusedVariables false
set_option maxRecDepth 100000
namespace Go.Proofs.Ythjiiedpplimpaa
open Go.RowKit
open Go.Shelf
attribute [local go_sem] Oper.semAt_some

theorem eql_fn (f : Fn) (a c : Array Value) (w : World) : (binOp .eql 49 (.func f a c) .nilFunc).run Try.prog w = .ok (.bool false) w := by kernel_rfl

theorem NoRow.below {w w' : World} {p : Option Addr} (h : NoRow w p) (u : Below w.heap.size w w') : NoRow w' p := h.upd0 (Upd.of_below u)

theorem nothing01 {w : World} {p : Option Addr} (h : NoRow w p) : Calls Try.prog 47 #[.pointer p] w fun e w' => e = .returned (.bool true) ∧ Below w.heap.size w w' := by
  refine (callsIn_wide (n := 9)).1 ?_
  refine callsIn_of_wp_marks Try.func47 rfl trivial ?_ rfl
  simp only [Try.ntmps47, List.size_toArray, List.length_cons, List.length_nil, Nat.reduceAdd, Nat.reduceSub, Array.replicate_succ, Array.replicate_zero, List.push_toArray, List.append_toArray, List.nil_append, List.cons_append]
  have hF : ∀ f, Fence.wide.fn f := fun _ => trivial
  have h1 : NoRow (w.alloc (.cells #[.bool false] 4)) p := h.upd0 ((Upd.refl _ _).alloc _)
  have hef := eql_fn
  gi_wp2_with (first | (gi_at_call 14; refine (callsIn_wide.2 (load_no h1 _)).mono ?_; rintro e w' ⟨rfl, rfl⟩) | (gi_at_call 41; refine (callsIn_wide.2 (swap_no h1 _ _ _)).mono ?_; rintro e w' ⟨rfl, rfl⟩) | (gi_at_call 45; refine (callsIn_wide.2 (add_no h1 _ _)).mono ?_; rintro e w' ⟨rfl, rfl⟩) | (gi_at_call 67; refine (callsIn_wide.2 (slice_no h1 _ _)).mono ?_; rintro e w' ⟨rfl, rfl⟩) | (gi_at_call 42; refine (callsIn_wide.2 (differ_no h1 _)).mono ?_; rintro e w' ⟨rfl, rfl⟩) | (gi_at_call 28; refine (callsIn_wide.2 (all_fn _)).mono ?_; rintro e w' ⟨rfl, rfl⟩))
  obtain ⟨W0, hW0⟩ : ∃ W0, W0 = (w.alloc (.cells #[.bool false] 4)).alloc (.cells #[.pointer p] 22) := ⟨_, rfl⟩
  have u0 : Upd [] w W0 := by rw [hW0]; exact ((Upd.refl [] w).alloc _).alloc _
  have hB0 : Below w.heap.size w W0 := u0.below (Nat.le_refl _) (by simp)
  have hs : Blk W0 w.heap.size [.bool false] 4 := by rw [hW0]; exact (Blk.new w [.bool false] 4).alloc _
  have hbx : Blk W0 (w.heap.size + 1) [.pointer p] 22 := by
    have := Blk.new (w.alloc (.cells #[.bool false] 4)) [.pointer p] 22
    rw [hW0]; simpa using this
  have hsz : W0.heap.size = w.heap.size + 2 := by rw [hW0]; simp
  rw [← hW0]
  clear hW0
  refine range_over (by omega) (gf := 59) (lb := #[.pointer (some ⟨w.heap.size + 1, 0, none⟩)]) rfl (enters_of Try.func59 (by kernel_rfl) rfl)
    (all_stops_no 8 (by omega) [] hbx (h.upd0 u0)) (fun _ => rfl)
    (fun pre W => (W.cell? ⟨w.heap.size, 0, none⟩ = some (.bool false) ∧ W.frozen? ⟨w.heap.size, 0, none⟩ = false) ∧ Below w.heap.size w W)
    (fun _ _ _ => False)
    (OwnFrom.and (Own.from (fun s A B row hs hg hr => ⟨cell_kept hs.1 hg hr, (frozen_kept hs.1 hg hr).trans hs.2⟩) _) (ownFrom_below (Nat.le_refl _) (by omega)))
    (fun _ _ _ _ _ hs _ _ => hs)
    ⟨⟨hs.cell 0 rfl, hs.free 0⟩, hB0⟩ ?round ?done ?stop
  case round =>
    apply Exists.intro
    constructor
    · intro l x W K hK
      gi_wp2
      exact hK
    · rintro l pre x W _ hlen
      exact absurd hlen (by omega)
  case done =>
    rintro D ys W hD rfl ⟨⟨hc, hf⟩, hB⟩ hK
    have h2 := h.below hB
    have h3 : NoRow (W.alloc (.cells #[.int .u64 1] 27)) p := h2.upd0 ((Upd.refl _ _).alloc _)
    have hB3 : Below w.heap.size w (W.alloc (.cells #[.int .u64 1] 27)) := hB.alloc hB.size _
    have hlt : w.heap.size < W.heap.size := World.block_lt_of_cell? W _ hc
    gi_wp2_with (first | (gi_at_call 13; refine (callsIn_wide.2 (num_any _ _)).mono ?_; rintro e w' ⟨rfl, rfl⟩) | (gi_at_call 31; refine (callsIn_wide.2 (store_no (by first | exact h2 | exact h3) _ _)).mono ?_; rintro e w' ⟨rfl, rfl⟩) | (gi_at_call 68; refine (callsIn_wide.2 (fill_no (by first | exact h2 | exact h3) _ _ _ _)).mono ?_; rintro e w' ⟨rfl, rfl⟩) | (gi_at_call 46; refine (callsIn_wide.2 (len_no (by first | exact h2 | exact h3))).mono ?_; rintro e w' ⟨rfl, rfl⟩) | (gi_at_call 69; refine (callsIn_wide.2 (has_no (by first | exact h2 | exact h3) 0 (by omega))).mono ?_; rintro e w' ⟨rfl, rfl⟩) | (gi_at_call 60; refine (callsIn_wide.2 (words_no (by first | exact h2 | exact h3))).mono ?_; rintro e w' ⟨rfl, rfl⟩) | (gi_at_call 44; refine (callsIn_wide.2 (sum_no (by first | exact h2 | exact h3))).mono ?_; rintro e w' ⟨rfl, rfl⟩) | (gi_at_call 34; refine (callsIn_wide.2 (accesses_no (by first | exact h2 | exact h3))).mono ?_; rintro e w' ⟨rfl, rfl⟩) | (gi_at_call 51; refine (callsIn_wide.2 (copy_no (by first | exact h2 | exact h3))).mono ?_; rintro e w' ⟨rfl, rfl⟩))
    have hk1 := (KeepsOthers.setCell W ⟨w.heap.size, 0, none⟩ (.bool true)).same D _ hK rfl
    have hk2 := (KeepsOthers.alloc (W.setCell ⟨w.heap.size, 0, none⟩ (.bool true)) (.cells #[.int .u64 1] 27)).same D _ hk1 rfl
    have hc2 : ((W.setCell ⟨w.heap.size, 0, none⟩ (.bool true)).alloc (.cells #[.int .u64 1] 27)).cell? ⟨w.heap.size, 0, none⟩ = some (.bool true) := by
      rw [World.cell?_alloc_lt _ _ _ (by simpa using hlt)]
      exact World.cell?_setCell_same' W ⟨w.heap.size, 0, none⟩ (.bool true) (by rw [hc]; rfl)
    have hB2 : Below w.heap.size w ((W.setCell ⟨w.heap.size, 0, none⟩ (.bool true)).alloc (.cells #[.int .u64 1] 27)) := (hB.setCell (p := ⟨w.heap.size, 0, none⟩) (Nat.le_refl _) _).alloc (by simpa using hB.size) _
    refine ⟨by simp, .inl ⟨_, _, rfl, run_takeDeferred hk2, ?_⟩⟩
    have hc5 := cell_kept hc2 (grownBy_putObj' _ D (.deferred none)) (fun r e => by cases e; exact ⟨_, hk2, rfl⟩)
    refine ⟨.bool true, ?_, rfl, hB2.trans (belowK_b (w := w) (Nat.le_refl _) _ D _ _ (by omega) hk2 rfl rfl)⟩
    simp [results, Try.f47, go_sem, hc5]
  case stop =>
    rintro D c pre W _ h _
    exact h.elim

theorem nil01_walk (w : World) : Calls Try.prog 10 #[] w fun e w' => e = .returned (.bool true) ∧ Upd [] w w' := by
  have h1 : ∀ w : World, NoRow w none := fun _ => .inl rfl
  refine calls_all fun K hK => ?_
  go_enter Try.func10, Try.ntmps10
  go_wp2_with fail
  refine (nothing01 (h1 _)).mono ?_
  rintro e w1 ⟨rfl, b1⟩
  go_wp2_with fail
  refine (nothing01 (.inr ⟨w1.heap.size, 0, rfl, Blk.new w1 [.slice none 0 0, .int .u64 0] 88⟩)).mono ?_
  rintro e w2 ⟨rfl, b2⟩
  go_wp2_with fail
  refine (same_no (h1 _) none).mono ?_
  rintro e w3 ⟨rfl, rfl⟩
  go_wp2_with fail
  refine (known01 _).mono ?_
  rintro e w4 ⟨rfl, u4⟩
  go_wp2
  exact ⟨rfl, (((Upd.of_below b1).alloc _).trans (Upd.of_below b2)).trans u4⟩

end Go.Proofs.Ythjiiedpplimpaa
