/- Clocks in a list: none shares a block with another; what a step on one, a copy, an append leave of the others. No condition. -/
import Derived.Test.YthjiiedpplimpaaSeqPl
set_option linter.unusedSimpArgs false
set_option linter.unusedVariables false
set_option maxRecDepth 100000
namespace Go.Proofs.Ythjiiedpplimpaa
open Go.RowKit

theorem news_blk {w : World} {b : Nat} {vs : List Value} {t : TypeId} (h : Blk w b vs t) : ∀ j u, vs[j]? = some u → w.cell? ((⟨b, 0, none⟩ : Addr).add j) = some u := by
  intro j u hj
  rw [addr_add, Nat.zero_add]
  exact h.cell j hj

theorem news_new {W : World} (vs : List Value) (t : TypeId) {g : Nat} (hg : g = W.heap.size) : ∀ j u, vs[j]? = some u → (W.alloc (.cells vs.toArray t)).cell? ((⟨g, 0, none⟩ : Addr).add j) = some u := by
  subst hg; exact news_blk (Blk.new W vs t)

/-- a clock and where it lies -/
structure Clk where
  c : Nat
  a : Nat
  b : Nat
  word : Int
  st : Int
def Clk.ptr (x : Clk) : Value := .pointer (some ⟨x.c, 0, none⟩)
def Clk.cells (x : Clk) : List Value := [.int .u64 x.word, .int .i64 x.st]
def Clk.At (w : World) (x : Clk) : Prop := ClockAt w x.c x.a x.b x.word x.st
def Clk.foot (x : Clk) : List Nat := [x.c, x.a, x.b]

/-- the clocks that are there: each as it should be, none shares a block with another -/
structure Clks (B : Nat) (w : World) (xs : List Clk) : Prop where
  all : ∀ x ∈ xs, x.At w
  low : ∀ x ∈ xs, ∀ k ∈ x.foot, B ≤ k
  apart : xs.Pairwise fun x y => ∀ k ∈ x.foot, k ∉ y.foot

section
variable {B : Nat} {w w' : World} {xs ys : List Clk}

theorem Clks.upd {S : List Nat} (h : Clks B w xs) (u : Upd S w w') (hS : ∀ x ∈ xs, ∀ k ∈ x.foot, k ∉ S) : Clks B w' xs :=
  ⟨fun x hx => (h.all x hx).upd u (hS x hx _ (by simp [Clk.foot])) (hS x hx _ (by simp [Clk.foot])) (hS x hx _ (by simp [Clk.foot])), h.low, h.apart⟩

theorem Clks.perm (h : Clks B w xs) (p : xs.Perm ys) : Clks B w ys :=
  ⟨fun x hx => h.all x (p.mem_iff.2 hx), fun x hx => h.low x (p.mem_iff.2 hx), (p.pairwise_iff (fun {x y} hxy k hk hkx => hxy k hkx hk)).1 h.apart⟩

theorem Clks.sub (h : Clks B w xs) (s : ys.Sublist xs) : Clks B w ys :=
  ⟨fun x hx => h.all x (s.subset hx), fun x hx => h.low x (s.subset hx), h.apart.sublist s⟩

theorem Clks.lt (h : Clks B w xs) {x : Clk} (hx : x ∈ xs) {k : Nat} (hk : k ∈ x.foot) : k < w.heap.size := by
  have := h.all x hx
  simp [Clk.foot] at hk
  rcases hk with rfl | rfl | rfl
  · exact this.ltc
  · exact this.lta
  · exact this.ltb

/-- a new clock besides -/
theorem Clks.cons (h : Clks B w xs) {y : Clk} (hy : y.At w) (hB : ∀ k ∈ y.foot, B ≤ k) (hn : ∀ k ∈ y.foot, ∀ x ∈ xs, k ∉ x.foot) : Clks B w (y :: xs) :=
  ⟨fun x hx => by rcases List.mem_cons.1 hx with rfl | hx; exact hy; exact h.all x hx,
   fun x hx => by rcases List.mem_cons.1 hx with rfl | hx; exact hB; exact h.low x hx,
   List.pairwise_cons.2 ⟨fun x hx k hk => hn k hk x hx, h.apart⟩⟩

/-- a step on the first -/
theorem Clks.step {x x' : Clk} {S : List Nat} (h : Clks B w (x :: xs)) (u : Upd S w w') (hS : ∀ k ∈ S, k ∈ x.foot ∨ k < B) (hf : x'.foot = x.foot) (hx : x'.At w') : Clks B w' (x' :: xs) := by
  obtain ⟨h1, h2⟩ := List.pairwise_cons.1 h.apart
  refine ⟨fun y hy => ?_, fun y hy => ?_, List.pairwise_cons.2 ⟨fun y hy k hk => h1 y hy k (by rwa [hf] at hk), h2⟩⟩
  · rcases List.mem_cons.1 hy with rfl | hy
    · exact hx
    · have hnot : ∀ k ∈ y.foot, k ∉ S := fun k hk hkS => by
        rcases hS k hkS with e | e
        · exact h1 y hy k e hk
        · have := h.low y (List.mem_cons_of_mem _ hy) k hk; omega
      exact (h.all y (List.mem_cons_of_mem _ hy)).upd u (hnot _ (by simp [Clk.foot])) (hnot _ (by simp [Clk.foot])) (hnot _ (by simp [Clk.foot]))
  · rcases List.mem_cons.1 hy with rfl | hy
    · rw [hf]; exact h.low x (by simp)
    · exact h.low y (List.mem_cons_of_mem _ hy)

/-- a row of the call's own shares no block with a block of another element type -/
theorem own_ne_blk {base : Nat} {e t : TypeId} {size n g : Nat} {v : Value} {us vs : List Value} (h : w.ownsRow base e size v n us) (k : Blk w g vs t) (hne : e ≠ t) : g ∉ v.ownBlock.toList := by
  rcases h.2 with ⟨rfl, _⟩ | ⟨g', cap, cur, rfl, _, hh, _⟩
  · simp [Value.ownBlock]
  · simp only [Value.ownBlock, Option.toList_some, List.mem_singleton]
    rintro rfl
    unfold Blk at k
    rw [hh] at k
    simp at k
    exact hne k.2

theorem own_ne_own {base base' : Nat} {e t : TypeId} {size size' n n' : Nat} {v v' : Value} {us us' : List Value} (h : w.ownsRow base e size v n us) (k : w.ownsRow base' t size' v' n' us') (hne : e ≠ t) : ∀ g ∈ v.ownBlock.toList, v'.ownBlock ≠ some g := by
  intro g hg hk
  rcases k.2 with ⟨rfl, _⟩ | ⟨g', cap, cur, rfl, _, hh, _⟩
  · simp [Value.ownBlock] at hk
  · simp [Value.ownBlock] at hk
    subst hk
    exact own_ne_blk h (g := g') (t := t) (vs := cur.toList) (by unfold Blk; simpa using hh) hne hg

theorem own_upd {base : Nat} {e : TypeId} {size n : Nat} {v : Value} {us : List Value} {S : List Nat} (h : w.ownsRow base e size v n us) (u : Upd S w w') (hS : ∀ g ∈ S, v.ownBlock ≠ some g) : w'.ownsRow base e size v n us := by
  obtain ⟨h1, h2⟩ := h
  refine ⟨h1, ?_⟩
  rcases h2 with h2 | ⟨g, cap, cur, rfl, hb, hh, r⟩
  · exact .inl h2
  · refine .inr ⟨g, cap, cur, rfl, hb, ?_, r⟩
    rw [u.block g (by by_cases hg : g < w.heap.size; exact hg; rw [Array.getElem?_eq_none (by omega)] at hh; cases hh) (fun hg => hS g hg rfl)]
    exact hh

theorem own_blocks {base : Nat} {e : TypeId} {size n : Nat} {v : Value} {us : List Value} (h : w.ownsRow base e size v n us) : ∀ g ∈ v.ownBlock.toList, base ≤ g ∧ g < w.heap.size := by
  intro g hg
  exact h.lt g (by simpa using hg)

theorem Upd.own {w w' : World} {row : Option Nat} (h : w.grownBy w' row) : Upd row.toList w w' := Upd.of_grown h (fun k e => .inl (by simp [e]))

theorem Clks.own {base : Nat} {e : TypeId} {size n : Nat} {v : Value} {us : List Value} (h : Clks B w xs) (ho : w.ownsRow base e size v n us) (h1 : e ≠ 79) (h2 : e ≠ 88) (h3 : e ≠ 27) :
    ∀ x ∈ xs, ∀ k ∈ x.foot, k ∉ v.ownBlock.toList := by
  intro x hx k hk
  have hA := h.all x hx
  obtain ⟨acc, hr⟩ := hA.row
  obtain ⟨cap, g1, sp, g2, _⟩ := hr.head
  simp [Clk.foot] at hk
  rcases hk with rfl | rfl | rfl
  · exact own_ne_blk ho hA.head h1
  · exact own_ne_blk ho g1 h2
  · exact own_ne_blk ho g2 h3

/-- the form of an own slice -/
theorem own_form {base : Nat} {e : TypeId} {size n : Nat} {v : Value} {us : List Value} (h : w.ownsRow base e size v n us) : ∃ p c, v = .slice p n c := by
  rcases h.2 with ⟨rfl, rfl⟩ | ⟨g, cap, cur, rfl, _⟩
  · exact ⟨none, 0, rfl⟩
  · exact ⟨_, _, rfl⟩
end

theorem own_some {w : World} {base : Nat} {e : TypeId} {size n : Nat} {v : Value} {us : List Value} (h : w.ownsRow base e size v n us) (hn : 0 < n) : ∃ g c, v = .slice (some ⟨g, 0, none⟩) n c := by
  rcases h.2 with ⟨rfl, rfl⟩ | ⟨g, cap, cur, rfl, _⟩
  · omega
  · exact ⟨_, _, rfl⟩

theorem cells_at {L : List Clk} {y : Clk} {m : Nat} (h : L[m]? = some y) (i : Nat) (v : Value) (hv : y.cells[i]? = some v) : (L.flatMap Clk.cells)[m * 2 + i]? = some v := by
  induction L generalizing m with
  | nil => simp at h
  | cons x L ih =>
    cases m with
    | zero =>
      simp at h; subst h
      rw [List.flatMap_cons, Nat.zero_mul, Nat.zero_add, List.getElem?_append_left]
      · exact hv
      · by_cases hl : i < x.cells.length
        · exact hl
        · rw [List.getElem?_eq_none (by omega)] at hv; cases hv
    | succ m =>
      simp at h
      rw [List.flatMap_cons, List.getElem?_append_right (by simp [Clk.cells]; omega)]
      rw [← ih h]
      congr 1
      simp [Clk.cells]
      omega

/-- one of two, and the other -/
theorem two_split {xs : List Clk} {x : Clk} {k : Nat} (h2 : xs.length = 2) (hx : xs[k]? = some x) (olds : List Clk) :
    ∃ z, (xs ++ olds).Perm (x :: (z :: olds)) ∧ (∀ y, (xs.set k y).length = 2 ∧ (xs.set k y ++ olds).Perm (y :: (z :: olds))) := by
  match xs, h2 with
  | [p, q], _ =>
    match k, hx with
    | 0, hx => simp at hx; subst hx; exact ⟨q, by simp, fun y => by simp⟩
    | 1, hx =>
      simp at hx
      subst hx
      exact ⟨p, by simpa using List.Perm.swap q p olds, fun y => ⟨by simp, by simpa using List.Perm.swap y p olds⟩⟩

theorem cells_set {xs : List Clk} {x y : Clk} {k : Nat} (h2 : xs.length = 2) (hx : xs[k]? = some x) :
    (xs.set k y).map Clk.ptr = (xs.map Clk.ptr).set k y.ptr ∧ (xs.set k y).flatMap Clk.cells = qset (xs.flatMap Clk.cells) (k * 2) y.word y.st ∧
    (xs.flatMap Clk.cells)[k * 2]? = some (.int .u64 x.word) ∧ (xs.flatMap Clk.cells)[k * 2 + 1]? = some (.int .i64 x.st) := by
  match xs, h2 with
  | [p, q], _ =>
    match k, hx with
    | 0, hx => simp at hx; subst hx; simp [Clk.cells, qset]
    | 1, hx => simp at hx; subst hx; simp [Clk.cells, qset]

end Go.Proofs.Ythjiiedpplimpaa
