/- A look in memory under stores: to its own cells, to an attempt, to a thread's map. No condition. -/
import Derived.Test.YtfldpejifpmapaaDoorELook
import Derived.Laws.OwnMore
set_option linter.unusedSimpArgs false
set_option linter.unusedVariables false
set_option maxRecDepth 100000
namespace Go.Proofs.YtfldpejifpmapaaDoor
open Go.RowKit
open Go.Maps
theorem Upd.drewN {S : List Nat} {a b : World} (h : Upd S a b) (n : Nat) : Upd S a (b.drewN n) := h.trans ⟨rfl, rfl, rfl, Nat.le_refl _, fun _ _ _ => rfl⟩
theorem MapW.mono {w : World} {m n k : Nat} {l : List (Int × Int)} (h : MapW w m n l) (hk : n ≤ k) : MapW w m k l := by
  obtain ⟨D, ⟨es, cl, hb, F, hs, e⟩, h2⟩ := h
  exact ⟨D, ⟨es, cl, hb, F, Nat.le_trans hs hk, e⟩, h2⟩
structure LookK (w : World) (B lb n : Nat) (C : List Value) (S : LS) (tv : Value) (mv : Nat → Value) (lv : Nat → Prop) : Prop where
  blk : Blk w lb C 97
  cs : LookC C S tv mv
  low : B ≤ lb
  row : w.ownsRow B 52 7 tv S.tries.length (S.tries.flatMap Try.cells)
  maps : ∀ j, j < 8 → lv j → ∃ m, mv j = .map (some m) ∧ B ≤ m ∧ MapW w m n (S.ths j).wr
  apart : ∀ i j m, i < 8 → j < 8 → i ≠ j → lv i → lv j → mv i = .map (some m) → mv j ≠ .map (some m)
def liveT (S : LS) (j : Nat) : Prop := (S.ths j).how = 1 ∨ (S.ths j).how = 2
section
variable {w w' : World} {B lb n : Nat} {C C' : List Value} {S S' : LS} {tv tv' : Value} {mv mv' : Nat → Value} {lv : Nat → Prop}
theorem LookM.k (h : LookM w B lb n C S tv mv) : LookK w B lb n C S tv mv (liveT S) := ⟨h.blk, h.cs, h.low, h.row, h.maps, h.apart⟩
theorem LookK.m (h : LookK w B lb n C S tv mv lv) (hl : ∀ j, j < 8 → liveT S j → lv j) : LookM w B lb n C S tv mv :=
  ⟨h.blk, h.cs, h.low, h.row, fun j hj k => h.maps j hj (hl j hj k), fun i j m hi hj hij ki kj => h.apart i j m hi hj hij (hl i hi ki) (hl j hj kj)⟩
theorem LookK.row_ne (h : LookK w B lb n C S tv mv lv) : tv.ownBlock ≠ some lb := fun e => own_ne_blk h.row h.blk (by decide) (by rw [e]; simp)
theorem LookK.upd0 (h : LookK w B lb n C S tv mv lv) (u : Upd [] w w') : LookK w' B lb n C S tv mv lv :=
  ⟨h.blk.upd u (by simp), h.cs, h.low, own_upd h.row u (by simp), fun j hj hl => by obtain ⟨m, h1, h2, h3⟩ := h.maps j hj hl; exact ⟨m, h1, h2, h3.upd u (by simp)⟩, h.apart⟩
/-- a cell of its own is stored, no map turns -/
theorem LookK.store (h : LookK w B lb n C S tv mv lv) (o : Nat) (v : Value) (hc : LookC (C.set o v) S' tv mv) (ht : S'.tries = S.tries) (hw : ∀ j, j < 8 → lv j → (S'.ths j).wr = (S.ths j).wr) :
    LookK (w.setCell ⟨lb, o, none⟩ v) B lb n (C.set o v) S' tv mv lv := by
  have u : Upd [lb] w (w.setCell ⟨lb, o, none⟩ v) := (Upd.refl _ _).setCell (.inl (by simp)) _
  refine ⟨h.blk.set o v, hc, h.low, by rw [ht]; exact own_upd h.row u (fun g hg => by simp at hg; subst hg; exact h.row_ne), fun j hj hl => ?_, h.apart⟩
  obtain ⟨m, h1, h2, h3⟩ := h.maps j hj hl
  exact ⟨m, h1, h2, by rw [hw j hj hl]; exact h3.upd u (by simp; exact fun e => h3.ne_blk h.blk e)⟩
/-- a thread gets a map of its own -/
theorem LookK.newmap (h : LookK w B lb n C S tv mv lv) (hB : B ≤ w.heap.size) {i : Nat} (hi : i < 8) :
    LookK ((w.alloc (.map #[] 0)).setCell ⟨lb, 52 + 4 * i + 2, none⟩ (.map (some w.heap.size))) B lb n (C.set (52 + 4 * i + 2) (.map (some w.heap.size))) { S with ths := updT S.ths i { S.ths i with wr := [] } } tv (updV mv i (.map (some w.heap.size))) (fun j => j = i ∨ lv j) := by
  have hu : Upd [] w (w.alloc (.map #[] 0)) := (Upd.refl _ _).alloc _
  have h0 := h.upd0 hu
  have u : Upd [lb] (w.alloc (.map #[] 0)) ((w.alloc (.map #[] 0)).setCell ⟨lb, 52 + 4 * i + 2, none⟩ (.map (some w.heap.size))) := (Upd.refl _ _).setCell (.inl (by simp)) _
  have hn := mapW_nil w
  refine ⟨h0.blk.set _ _, (h0.cs.set_wr hi _).ghost i [], h.low, own_upd h0.row u (fun g hg => by simp at hg; subst hg; exact h0.row_ne), fun j hj hl => ?_, fun a b m ha hb hab la lb' e1 e2 => ?_⟩
  · by_cases e : j = i
    · subst e
      refine ⟨w.heap.size, by unfold updV; rw [if_pos rfl], hB, ?_⟩
      dsimp only
      rw [updT_same]
      exact (hn.upd u (by simp; exact fun e => hn.ne_blk h0.blk e)).mono (Nat.zero_le _)
    · obtain ⟨m, h1, h2, h3⟩ := h0.maps j hj (hl.resolve_left e)
      refine ⟨m, by unfold updV; rw [if_neg e]; exact h1, h2, ?_⟩
      dsimp only
      rw [updT_other _ _ e]
      exact h3.upd u (by simp; exact fun e => h3.ne_blk h0.blk e)
  · have hlt : ∀ j m, j < 8 → j ≠ i → lv j → mv j = .map (some m) → m < w.heap.size := fun j m hj e hl hm => by
      obtain ⟨m2, h1, _, h3⟩ := h.maps j hj hl
      rw [h1] at hm
      cases hm
      exact h3.lt
    unfold updV at e1 e2
    by_cases ea : a = i
    · have eb : b ≠ i := by omega
      rw [if_pos ea] at e1
      rw [if_neg eb] at e2
      cases e1
      exact absurd (hlt b _ hb eb (lb'.resolve_left eb) e2) (by omega)
    · rw [if_neg ea] at e1
      by_cases eb : b = i
      · rw [if_pos eb] at e2
        cases e2
        exact absurd (hlt a _ ha ea (la.resolve_left ea) e1) (by omega)
      · rw [if_neg eb] at e2
        exact h.apart a b m ha hb hab (la.resolve_left ea) (lb'.resolve_left eb) e1 e2
/-- a thread's map gets a word -/
theorem LookK.write (h : LookK w B lb n C S tv mv lv) {i m : Nat} (hi : i < 8) (hl : lv i) (hm : mv i = .map (some m)) {x c : Int} (hx : 0 ≤ x ∧ x < 18446744073709551616) (hc : 0 ≤ c ∧ c < 18446744073709551616) (hn : n < 9223372036854775807) :
    ∃ w', (Instr.mapUpdate 92 (.map (some m)) (.int .u64 x) (.int .u64 c)).run Tryd.prog w = .ok () w' ∧ LookK w' B lb (n + 1) C { S with ths := updT S.ths i { S.ths i with wr := (x, c) :: (S.ths i).wr } } tv mv lv ∧ Upd [m] w w' ∧ B ≤ m ∧ m ≠ lb ∧ tv.ownBlock ≠ some m := by
  obtain ⟨m2, h1, h2, h3⟩ := h.maps i hi hl
  rw [hm] at h1
  cases h1
  obtain ⟨w', hr, hw, hu⟩ := mapW_store h3 hx hc hn
  have hne := h3.ne_blk h.blk
  have hnr := h3.ne_row h.row
  refine ⟨w', hr, ⟨h.blk.upd hu (by simp; exact Ne.symm hne), h.cs.ghost i _, h.low, own_upd h.row hu (fun g hg => by simp at hg; subst hg; exact hnr), fun j hj hl2 => ?_, h.apart⟩, hu, h2, hne, hnr⟩
  by_cases e : j = i
  · subst e
    refine ⟨m, hm, h2, ?_⟩
    dsimp only
    rw [updT_same]
    exact hw
  · obtain ⟨m2, k1, k2, k3⟩ := h.maps j hj hl2
    refine ⟨m2, k1, k2, ?_⟩
    dsimp only
    rw [updT_other _ _ e]
    exact (k3.upd hu (by simp; rintro rfl; exact h.apart i j m2 hi hj (Ne.symm e) hl hl2 hm k1)).mono (by omega)
theorem flat_len (l : List Try) : (l.flatMap Try.cells).length = l.length * 7 := by
  induction l with
  | nil => rfl
  | cons a l ih => rw [List.flatMap_cons, List.length_append, ih]; simp [Try.cells]; omega
theorem flat_get {l : List Try} {j k : Nat} {x : Try} (h : l[j]? = some x) (hk : k < 7) : (l.flatMap Try.cells)[j * 7 + k]? = x.cells[k]? := by
  induction l generalizing j with
  | nil => simp at h
  | cons a l ih =>
    rw [List.flatMap_cons]
    cases j with
    | zero =>
      simp at h
      subst h
      rw [Nat.zero_mul, Nat.zero_add, List.getElem?_append_left (by simpa [Try.cells] using hk)]
    | succ j =>
      rw [List.getElem?_append_right (by simp [Try.cells]; omega)]
      rw [show (j + 1) * 7 + k - a.cells.length = j * 7 + k by simp [Try.cells]; omega]
      exact ih (by simpa using h)
theorem flat_set {l : List Try} {j k : Nat} {x y : Try} {v : Value} (h : l[j]? = some x) (hk : k < 7) (hy : x.cells.set k v = y.cells) : (l.flatMap Try.cells).set (j * 7 + k) v = (l.set j y).flatMap Try.cells := by
  induction l generalizing j with
  | nil => simp at h
  | cons a l ih =>
    rw [List.flatMap_cons]
    cases j with
    | zero =>
      simp at h
      subst h
      rw [Nat.zero_mul, Nat.zero_add, List.set_append_left _ _ (by simpa [Try.cells] using hk), hy]
      rfl
    | succ j =>
      rw [List.set_append_right _ _ (by simp [Try.cells]; omega)]
      rw [show (j + 1) * 7 + k - a.cells.length = j * 7 + k by simp [Try.cells]; omega]
      rw [ih (by simpa using h)]
      rfl
/-- a field of an attempt is stored -/
theorem LookK.tryset {g c m : Nat} (h0 : LookK w B lb n C S tv mv lv) (htv : tv = .slice (some ⟨g, 0, none⟩) m c) (hm : m = S.tries.length) {j k : Nat} {x y : Try} {v : Value} (hx : S.tries[j]? = some x) (hk : k < 7) (hy : x.cells.set k v = y.cells) :
    LookK (w.setCell ⟨g, j * 7 + k, none⟩ v) B lb n C { S with tries := S.tries.set j y } tv mv lv ∧ g ≠ lb ∧ B ≤ g := by
  subst htv
  subst hm
  have h := h0
  have hne : g ≠ lb := fun e => h.row_ne (by rw [e]; rfl)
  have u : Upd [g] w (w.setCell ⟨g, j * 7 + k, none⟩ v) := (Upd.refl _ _).setCell (.inl (by simp)) _
  refine ⟨⟨h.blk.upd u (by simp; exact Ne.symm hne), h.cs.ghost_tries _, h.low, ?_, fun a ha hl => ?_, h.apart⟩, hne, (own_blocks h.row g (by simp [Value.ownBlock])).1⟩
  · have := (h.row.stored (j * 7 + k) v).1
    rw [flat_set hx hk hy] at this
    dsimp only
    rw [List.length_set]
    exact this
  · obtain ⟨m, h1, h2, h3⟩ := h.maps a ha hl
    exact ⟨m, h1, h2, h3.upd u (by simp; rintro rfl; exact h3.ne_row h.row rfl)⟩
theorem LookK.trycell {g c m : Nat} (h0 : LookK w B lb n C S tv mv lv) (htv : tv = .slice (some ⟨g, 0, none⟩) m c) (hm : m = S.tries.length) {j k : Nat} {x : Try} {v : Value} (hx : S.tries[j]? = some x) (hk : k < 7) (hv : x.cells[k]? = some v) :
    w.cell? ⟨g, j * 7 + k, none⟩ = some v ∧ w.frozen? ⟨g, j * 7 + k, none⟩ = false := by
  subst htv
  subst hm
  have h := h0
  have hj : j < S.tries.length := (List.getElem?_eq_some_iff.1 hx).1
  refine ⟨?_, h.row.frozenAt _⟩
  rw [h.row.cellAt _ (by omega), flat_get hx hk, hv]
theorem info_try : (Tryd.prog.info? 52).map (fun i => (i.zero, i.size, i.bytes)) = some (some (.agg #[.int .i64 0, .int .i64 0, .int .i64 0, .int .u64 0, .int .i64 0, .int .i64 0, .int .i64 0]), 7, 56) := by kernel_rfl
/-- one more attempt -/
theorem app_try {W : World} {base : Nat} {v : Value} {l : List Try} (h : W.ownsRow base 52 7 v l.length (l.flatMap Try.cells)) (x : Try) (hn : l.length ≤ 1000000000000) (hb : base ≤ W.heap.size) :
    ∃ v' w', (Builtin.append_ #[48, 48] 48 #[v, .slice (some ⟨W.heap.size, 0, none⟩) 1 1]).run Tryd.prog (W.alloc (.cells x.cells.toArray 52)) = .ok v' w' ∧ w'.ownsRow base 52 7 v' (l ++ [x]).length ((l ++ [x]).flatMap Try.cells) ∧ Upd v.ownBlock.toList (W.alloc (.cells x.cells.toArray 52)) w' ∧ (v'.ownBlock = v.ownBlock ∨ v'.ownBlock = some (W.heap.size + 1)) := by
  obtain ⟨i0, hi, hz0, hz1, hz2⟩ := info_parts info_try
  have hW := own_upd h ((Upd.refl [] W).alloc (.cells x.cells.toArray 52)) (by simp)
  obtain ⟨v', w', hr, ho, hg, _, hat⟩ := run_append_own_at (P := Tryd.prog) (W.alloc (.cells x.cells.toArray 52)) base 48 48 52 i0 _ 7 56 Tryd.underlying48 hi hz0 hz1 hz2 rfl (by decide) v l.length _ hW
    ⟨W.heap.size, 0, none⟩ 1 1 x.cells rfl (news_new _ 52 rfl) (by intro u hu; simp [Try.cells] at hu; rcases hu with rfl | rfl | rfl | rfl | rfl | rfl | rfl <;> rfl) (by unfold maxLen; omega) (by omega) (by rw [World.size_alloc]; omega)
  rw [World.size_alloc] at hat
  refine ⟨v', w', hr, ?_, Upd.own hg, hat⟩
  rw [List.length_append, List.flatMap_append, List.flatMap_singleton]
  exact ho
/-- the attempts' list is stored again, one more among them -/
theorem LookK.apptry (h : LookK w B lb n C S tv mv lv) (x : Try) (hn : S.tries.length ≤ 1000000000000) (hb : B ≤ w.heap.size) :
    ∃ v' w', (Builtin.append_ #[48, 48] 48 #[tv, .slice (some ⟨w.heap.size, 0, none⟩) 1 1]).run Tryd.prog (w.alloc (.cells x.cells.toArray 52)) = .ok v' w' ∧ Upd tv.ownBlock.toList (w.alloc (.cells x.cells.toArray 52)) w' ∧
      LookK (w'.setCell ⟨lb, 86, none⟩ v') B lb n (C.set 86 v') { S with tries := S.tries ++ [x] } v' mv lv ∧ Blk w' lb C 97 ∧ (∀ g ∈ tv.ownBlock.toList, B ≤ g ∧ g ≠ lb) := by
  obtain ⟨v', w', hr, ho, hu, hor⟩ := app_try h.row x hn hb
  have hu0 : Upd [] w (w.alloc (.cells x.cells.toArray 52)) := (Upd.refl _ _).alloc _
  have h0 := h.upd0 hu0
  have hB1 : ∀ g ∈ tv.ownBlock.toList, B ≤ g ∧ g ≠ lb := fun g hg => ⟨(own_blocks h.row g hg).1, fun e => h.row_ne (by subst e; simpa using hg)⟩
  have hblk : Blk w' lb C 97 := h0.blk.upd hu (fun hg => (hB1 lb hg).2 rfl)
  have hne : v'.ownBlock ≠ some lb := fun e => own_ne_blk ho hblk (by decide) (by rw [e]; simp)
  have u : Upd [lb] w' (w'.setCell ⟨lb, 86, none⟩ v') := (Upd.refl _ _).setCell (.inl (by simp)) _
  refine ⟨v', w', hr, hu, ⟨hblk.set _ _, h.cs.set_tries _ _, h.low, own_upd ho u (fun g hg => by simp at hg; subst hg; exact hne), fun j hj hl => ?_, h.apart⟩, hblk, hB1⟩
  obtain ⟨m, h1, h2, h3⟩ := h0.maps j hj hl
  have h4 := h3.upd hu (fun hg => h3.ne_row h0.row (by simpa using hg))
  exact ⟨m, h1, h2, h4.upd u (by simp; exact fun e => h4.ne_blk hblk e)⟩
end
end Go.Proofs.YtfldpejifpmapaaDoor
