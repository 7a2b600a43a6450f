/- The row's Sum. No condition on the row. -/
import Derived.Test.YthjiiedpplimpaaIter
set_option linter.unusedSimpArgs false
set_option linter.unusedVariables false
set_option maxRecDepth 100000
namespace Go.Proofs.Ythjiiedpplimpaa
open Go.RowKit
open Go.Shelf
attribute [local go_sem] Oper.semAt_some

/-- one byte's step of the sum -/
def fstep (s x : Int) : Int := IntKind.u64.wrap (bits .xor .u64 s (bits .and .u64 x 255) * 1099511628211)
/-- behind k bytes of a word -/
def fword : Nat → Int → Int → Int
  | 0, s, _ => s
  | k + 1, s, x => fstep (fword k s x) (x / 256 ^ k)
/-- behind the words of these places -/
def fsum (ws : List Int) (is : List Nat) : Int := is.foldl (fun s i => fword 8 s (wd ws i)) 14695981039346656037

theorem wd_range {ws : List Int} (hw : ∀ v ∈ ws, 0 ≤ v ∧ v < 18446744073709551616) (i : Nat) : 0 ≤ wd ws i ∧ wd ws i < 18446744073709551616 := by
  by_cases hi : i < ws.length
  · rw [wd_get hi]; exact hw _ (List.getElem_mem _)
  · have : wd ws i = 0 := by simp [wd, Nat.le_of_not_lt hi]
    omega

set_option maxHeartbeats 1000000 in
theorem sum_row {w : World} {a b : Nat} {ws : List Int} {acc : Int} (h : RowAt w a b ws acc) (hw : ∀ v ∈ ws, 0 ≤ v ∧ v < 18446744073709551616) :
    Calls Try.prog 44 #[.pointer (some ⟨a, 0, none⟩)] w fun e w' => e = .returned (.int .u64 (fsum ws (List.range ws.length))) ∧ Below w.heap.size w w' := by
  refine (callsIn_wide (n := 9)).1 ?_
  refine callsIn_of_wp_marks Try.func44 rfl trivial ?_ rfl
  simp only [Try.ntmps44, List.size_toArray, List.length_cons, List.length_nil, Nat.reduceAdd, Nat.reduceSub, Array.replicate_succ, Array.replicate_zero, List.push_toArray, List.append_toArray, List.nil_append, List.cons_append]
  have hF : ∀ f, Fence.wide.fn f := fun _ => trivial
  gi_wp2_with (first | (gi_at_call 62; refine (callsIn_wide.2 (made_true h)).mono ?_; rintro e w' ⟨rfl, rfl⟩) | (gi_at_call 28; refine (callsIn_wide.2 (all_fn _)).mono ?_; rintro e w' ⟨rfl, rfl⟩))
  obtain ⟨W0, hW0⟩ : ∃ W0, W0 = (w.alloc (.cells #[.int .u64 14695981039346656037] 27)).alloc (.cells #[.pointer (some ⟨a, 0, none⟩)] 22) := ⟨_, rfl⟩
  have u0 : Upd [] w W0 := by rw [hW0]; exact ((Upd.refl [] w).alloc _).alloc _
  have hB0 : Below w.heap.size w W0 := u0.below (Nat.le_refl _) (by simp)
  have hs : Blk W0 w.heap.size [.int .u64 14695981039346656037] 27 := by rw [hW0]; exact (Blk.new w [.int .u64 14695981039346656037] 27).alloc _
  have hbx : Blk W0 (w.heap.size + 1) [.pointer (some ⟨a, 0, none⟩)] 22 := by
    have := Blk.new (w.alloc (.cells #[.int .u64 14695981039346656037] 27)) [.pointer (some ⟨a, 0, none⟩)] 22
    rw [hW0]; simpa using this
  have hsz : W0.heap.size = w.heap.size + 2 := by rw [hW0]; simp
  rw [← hW0]
  clear hW0
  have hK0 : ∀ (W : World) (l : Nat) (o o' : Obj), W0.heap.size ≤ l → W.heap[l]? = some o → o.isCells = false → o.isWalk = false → CUpd [w.heap.size] W (W.putObj l o') := fun W l o o' _ hl ho _ => CUpd.putObj W l o o' hl ho
  refine wpIn_rangeFunc_ownF rfl (by omega) (gf := 59) (lb := #[.pointer (some ⟨w.heap.size + 1, 0, none⟩)]) rfl trivial (enters_of Try.func59 (by kernel_rfl) rfl)
    (all_stops 8 (by omega) [w.heap.size] hbx (h.upd u0 (by simp) (by simp)) (by simp; omega)) (fun h k => h.trans k) hK0 (Below.refl _ _) (fun _ => rfl)
    (fun pre W => (W.cell? ⟨w.heap.size, 0, none⟩ = some (.int .u64 (fsum ws pre)) ∧ W.frozen? ⟨w.heap.size, 0, none⟩ = false) ∧ Below w.heap.size w W)
    (fun _ _ _ => False)
    (OwnFrom.and (Own.from (fun s A B row hs hg hr => ⟨cell_kept hs.1 hg hr, (frozen_kept hs.1 hg hr).trans hs.2⟩) _) (ownFrom_below (Nat.le_refl _) (by omega)))
    (fun _ _ _ _ _ hs _ _ => hs)
    ⟨⟨hs.cell 0 rfl, hs.free 0⟩, hB0⟩
    (fun x => { tmps := #[.pointer (some ⟨a, 0, none⟩), undef, .int .u64 0, .pointer (some ⟨w.heap.size, 0, none⟩), undef, .int .u64 (wd ws x), .pointer (some ⟨a, 0, none⟩), .bool true, .bool false, .pointer (some ⟨a, 0, none⟩), .func (.func 59) #[] #[.pointer (some ⟨w.heap.size + 1, 0, none⟩)], .int .u64 x, .int .u64 (wd ws x), undef, undef, undef, undef, undef, undef, undef, undef, undef, undef, undef, undef], defers := [] }) ?assign ?body ?done ?stop
  case assign =>
    intro l x W K hK
    unfold encw
    gi_wp2
    exact hK
  case body =>
    rintro l pre x W ⟨⟨hc, hf⟩, hB⟩ _
    have hv := wd_range hw x
    gi_wp2
    gi_loopw [5, 13] (fun v5 v13 wr => ∃ k : Nat, k ≤ 8 ∧ v13 = .int .i64 k ∧ v5 = .int .u64 (wd ws x / 256 ^ k) ∧ wr.cell? ⟨w.heap.size, 0, none⟩ = some (.int .u64 (fword k (fsum ws pre) (wd ws x))) ∧ wr.frozen? ⟨w.heap.size, 0, none⟩ = false ∧ KeepsOthers W wr ∧ CUpd [w.heap.size] W wr ∧ Below w.heap.size w wr) (fun _ v13 _ => 8 - (intOf v13).toNat)
    case atStart => exact ⟨0, by omega, rfl, by simp, hc, hf, KeepsOthers.refl _, CUpd.refl _ _, hB⟩
    case round =>
      obtain ⟨k, hk, rfl, rfl, hck, hfk, hko, hcu, hBk⟩ := hrel
      by_cases hlt : k < 8
      · obtain ⟨v, hve⟩ : ∃ v, v = wd ws x / 256 ^ k := ⟨_, rfl⟩
        have hv0 : 0 ≤ v ∧ v < 18446744073709551616 := by
          rw [hve]
          have hp : (0 : Int) < 256 ^ k := Int.pow_pos (by omega)
          refine ⟨Int.ediv_nonneg hv.1 (by omega), ?_⟩
          have : wd ws x / 256 ^ k ≤ wd ws x := Int.ediv_le_self _ hv.1
          omega
        have hv1 := hv0.1
        have hv2 := hv0.2
        obtain ⟨s, hse⟩ : ∃ s, s = fword k (fsum ws pre) (wd ws x) := ⟨_, rfl⟩
        rw [← hve]
        rw [← hse] at hck
        have HV := Lib.hid hve
        have HS := Lib.hid hse
        clear hve hse hv0
        have hfin : ∀ z, (wr.setCell ⟨w.heap.size, 0, none⟩ z).cell? ⟨w.heap.size, 0, none⟩ = some z := fun z => World.cell?_setCell_same (u := .int .u64 s) _ _ _ hck
        have hfin2 : ∀ z z', ((wr.setCell ⟨w.heap.size, 0, none⟩ z).setCell ⟨w.heap.size, 0, none⟩ z').cell? ⟨w.heap.size, 0, none⟩ = some z' := fun z z' => World.cell?_setCell_same (u := z) _ _ _ (hfin z)
        have FIN := Lib.hid hfin2
        clear hfin hfin2
        gi_wp2
        go_roundw
        case rel => exact ⟨k + 1, by omega, by go_num, by rw [HV.out, Int.pow_succ, ← Int.ediv_ediv_of_nonneg (Int.le_of_lt (Int.pow_pos (by omega)))], by rw [FIN.out, fword, ← HV.out, ← HS.out]; rfl, by rw [World.frozen?_setCell, World.frozen?_setCell]; exact hfk, (hko.trans (KeepsOthers.setCell _ _ _)).trans (KeepsOthers.setCell _ _ _), hcu.trans ((((Upd.refl _ _).setCell (.inl (by simp)) _).setCell (.inl (by simp)) _).cupd), (hBk.setCell (p := ⟨w.heap.size, 0, none⟩) (Nat.le_refl _) _).setCell (p := ⟨w.heap.size, 0, none⟩) (Nat.le_refl _) _⟩
        case measure => simp [intOf]; omega
      · obtain rfl : k = 8 := by omega
        gi_wp2
        exact ⟨hko, hcu, ⟨by rw [hck, fsum, fsum, List.foldl_append]; rfl, hfk⟩, hBk⟩
  case done =>
    rintro D ys W hD rfl ⟨⟨hc, _⟩, hB⟩ hK
    gi_wp2
    refine ⟨by simp, .inl ⟨_, _, rfl, run_takeDeferred hK, ?_⟩⟩
    exact ⟨_, results_tmp rfl _ _ _, rfl, hB.trans (belowK_b (w := w) (Nat.le_refl _) W D _ _ (by omega) hK rfl rfl)⟩
  case stop =>
    rintro D c pre W _ _ h _
    exact h.elim

end Go.Proofs.Ythjiiedpplimpaa
