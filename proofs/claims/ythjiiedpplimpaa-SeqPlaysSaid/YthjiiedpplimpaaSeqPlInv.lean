/- What holds between two steps of SeqPlays, and what each step does to it. No condition. -/
import Derived.Test.YthjiiedpplimpaaSeqClks
set_option linter.unusedSimpArgs false
set_option linter.unusedVariables false
set_option maxRecDepth 100000
namespace Go.Proofs.Ythjiiedpplimpaa
open Go.RowKit

/-- what holds between two steps: xs the two clocks that go on, os those that were put aside; ps, qs: what the two lists hold -/
structure PlInv (w : World) (xs os : List Clk) (v7 : Value) (n7 : Nat) (ps : List Value) (v8 : Value) (n8 : Nat) (qs : List Value) (wr : World) : Prop where
  two : xs.length = 2
  ca : Blk wr w.heap.size (xs.map Clk.ptr) 63
  qa : Blk wr (w.heap.size + 1) (xs.flatMap Clk.cells) 66
  clks : Clks (w.heap.size + 2) wr (xs ++ os)
  old : wr.ownsRow (w.heap.size + 2) 33 1 v7 n7 ps
  was : wr.ownsRow (w.heap.size + 2) 65 2 v8 n8 qs
  low : Below w.heap.size w wr

section
variable {w wr w1 w2 w3 w4 w5 : World} {xs os : List Clk} {v7 v8 v7' v8' : Value} {n7 n8 : Nat} {ps qs : List Value} {kk : Nat} {x y : Clk} {S : List Nat}

theorem PlInv.upd (h : PlInv w xs os v7 n7 ps v8 n8 qs wr) (u : Upd [] wr w1) : PlInv w xs os v7 n7 ps v8 n8 qs w1 :=
  ⟨h.two, h.ca.upd u (by simp), h.qa.upd u (by simp), h.clks.upd u (by simp), own_upd h.old u (by simp), own_upd h.was u (by simp), h.low.trans (u.below h.low.size (by simp))⟩

theorem PlInv.sz (h : PlInv w xs os v7 n7 ps v8 n8 qs wr) : w.heap.size + 2 ≤ wr.heap.size := h.qa.lt

theorem PlInv.mem (h : PlInv w xs os v7 n7 ps v8 n8 qs wr) (hx : xs[kk]? = some x) : x ∈ xs ++ os := by
  obtain ⟨z, p1, p2⟩ := two_split h.two hx os
  exact p1.mem_iff.2 (by simp)

theorem PlInv.pc (h : PlInv w xs os v7 n7 ps v8 n8 qs wr) (hx : xs[kk]? = some x) : wr.cell? ⟨w.heap.size, kk, none⟩ = some (.pointer (some ⟨x.c, 0, none⟩)) :=
  h.ca.cell kk (by rw [List.getElem?_map, hx]; rfl)

theorem PlInv.step (h : PlInv w xs os v7 n7 ps v8 n8 qs w1) (hx : xs[kk]? = some x) {word st : Int} (hC : ClockAt w2 x.c x.a x.b word st) (hB : Blk w2 (w.heap.size + 1) (qset (xs.flatMap Clk.cells) (kk * 2) word st) 66) (u : Upd [x.c, x.a, x.b, w.heap.size + 1] w1 w2) :
    PlInv w (xs.set kk ⟨x.c, x.a, x.b, word, st⟩) os v7 n7 ps v8 n8 qs w2 := by
  obtain ⟨z, p1, p2⟩ := two_split h.two hx os
  obtain ⟨c1, c2, _, _⟩ := cells_set (y := ⟨x.c, x.a, x.b, word, st⟩) h.two hx
  have hxl := h.clks.low x (p1.mem_iff.2 (by simp))
  have hx0 := hxl x.c (by simp [Clk.foot])
  have hx1 := hxl x.a (by simp [Clk.foot])
  have hx2 := hxl x.b (by simp [Clk.foot])
  have hset : (xs.map Clk.ptr).set kk x.ptr = xs.map Clk.ptr := by
    rw [← List.map_set]; congr 1
    rw [List.getElem?_eq_some_iff] at hx
    obtain ⟨hl, rfl⟩ := hx
    exact List.set_getElem_self hl
  have hown : ∀ k ∈ [x.c, x.a, x.b, w.heap.size + 1], v7.ownBlock ≠ some k ∧ v8.ownBlock ≠ some k := by
    have a1 := h.clks.own h.old (by decide) (by decide) (by decide) x (p1.mem_iff.2 (by simp))
    have a2 := h.clks.own h.was (by decide) (by decide) (by decide) x (p1.mem_iff.2 (by simp))
    have b1 := own_ne_blk h.old h.qa (by decide)
    have b2 := own_ne_blk h.was h.qa (by decide)
    simp only [Option.mem_toList, Clk.foot] at a1 a2 b1 b2
    intro k hk
    simp only [List.mem_cons, List.not_mem_nil, or_false] at hk
    rcases hk with rfl | rfl | rfl | rfl
    · exact ⟨a1 _ (by simp), a2 _ (by simp)⟩
    · exact ⟨a1 _ (by simp), a2 _ (by simp)⟩
    · exact ⟨a1 _ (by simp), a2 _ (by simp)⟩
    · exact ⟨b1, b2⟩
  refine ⟨by rw [(p2 _).1], ?_, by rw [c2]; exact hB, ?_, own_upd h.old u (fun k hk => (hown k hk).1), own_upd h.was u (fun k hk => (hown k hk).2), h.low.trans (u.below h.low.size (by simp; omega))⟩
  · rw [c1, show (⟨x.c, x.a, x.b, word, st⟩ : Clk).ptr = x.ptr from rfl, hset]
    exact h.ca.upd u (by simp; omega)
  · refine Clks.perm ?_ (p2 _).2.symm
    exact (h.clks.perm p1).step u (by simp [Clk.foot]) rfl hC

/-- a copy takes the place kk; the clock that stood there is among the others, or forgotten -/
theorem PlInv.copied (h : PlInv w xs os v7 n7 ps v8 n8 qs w1) (hx : xs[kk]? = some x) (hy : y.At w2) (hB : ∀ k ∈ y.foot, w1.heap.size ≤ k) (hw : y.word = x.word) (hs : y.st = x.st) (u : Upd [] w1 w2) :
    PlInv w (xs.set kk y) (os ++ [x]) v7 n7 ps v8 n8 qs (w2.setCell ⟨w.heap.size, kk, none⟩ y.ptr) ∧ PlInv w (xs.set kk y) os v7 n7 ps v8 n8 qs (w2.setCell ⟨w.heap.size, kk, none⟩ y.ptr) := by
  obtain ⟨z, p1, p2⟩ := two_split h.two hx os
  obtain ⟨c1, c2, q0, q1⟩ := cells_set (y := y) h.two hx
  have h2 := h.upd u
  have hsz := h.sz
  have us : Upd [w.heap.size] w2 (w2.setCell ⟨w.heap.size, kk, none⟩ y.ptr) := (Upd.refl _ _).setCell (.inl (by simp)) _
  have o1 := own_ne_blk h2.old h2.ca (by decide)
  have o2 := own_ne_blk h2.was h2.ca (by decide)
  simp only [Option.mem_toList] at o1 o2
  have hall : Clks (w.heap.size + 2) w2 (y :: x :: (z :: os)) :=
    (h2.clks.perm p1).cons hy (fun k hk => by have := hB k hk; omega) (fun k hk x' hx' hk' => by
      have := h.clks.lt (p1.mem_iff.2 hx') hk'
      have := hB k hk
      omega)
  have hall' : Clks (w.heap.size + 2) (w2.setCell ⟨w.heap.size, kk, none⟩ y.ptr) (y :: x :: (z :: os)) :=
    hall.upd us (fun x' hx' k hk => by have := hall.low x' hx' k hk; simp; omega)
  have qe : (xs.set kk y).flatMap Clk.cells = xs.flatMap Clk.cells := by
    rw [c2, hw, hs]
    have : QAt w1 (w.heap.size + 1) (kk * 2) (xs.flatMap Clk.cells) 66 x.word x.st := ⟨h.qa, q0, q1⟩
    exact this.set_same
  have main : ∀ os', Clks (w.heap.size + 2) (w2.setCell ⟨w.heap.size, kk, none⟩ y.ptr) (xs.set kk y ++ os') → PlInv w (xs.set kk y) os' v7 n7 ps v8 n8 qs (w2.setCell ⟨w.heap.size, kk, none⟩ y.ptr) := fun os' hc =>
    ⟨by rw [(p2 _).1], by rw [c1]; exact h2.ca.set kk _, by rw [qe]; exact h2.qa.upd us (by simp), hc, own_upd h2.old us (by simpa using o1), own_upd h2.was us (by simpa using o2), h2.low.trans (us.below (by have := h2.sz; omega) (by simp))⟩
  refine ⟨main _ ?_, main _ ?_⟩
  · refine hall'.perm ?_
    have e1 : (xs.set kk y ++ (os ++ [x])).Perm (x :: (xs.set kk y ++ os)) := by
      rw [← List.append_assoc]; exact List.perm_append_singleton _ _
    exact ((List.Perm.swap x y _).trans ((p2 y).2.symm.cons x)).trans e1.symm
  · refine (hall'.sub ?_).perm (p2 y).2.symm
    exact (List.sublist_cons_self x _).cons_cons y

theorem PlInv.push7 (h : PlInv w xs os v7 n7 ps v8 n8 qs w1) {us : List Value} (ho : w2.ownsRow (w.heap.size + 2) 33 1 v7' (n7 + 1) us) (hg : w1.grownBy w2 v7.ownBlock) : PlInv w xs os v7' (n7 + 1) us v8 n8 qs w2 := by
  have u := Upd.own hg
  have a1 := h.clks.own h.old (by decide) (by decide) (by decide)
  have b := own_blocks h.old
  exact ⟨h.two, h.ca.upd u (own_ne_blk h.old h.ca (by decide)), h.qa.upd u (own_ne_blk h.old h.qa (by decide)), h.clks.upd u a1, ho, own_upd h.was u (own_ne_own h.old h.was (by decide)), h.low.trans (u.below h.low.size (fun k hk => by have := b k hk; omega))⟩

theorem PlInv.push8 (h : PlInv w xs os v7 n7 ps v8 n8 qs w1) {us : List Value} (ho : w2.ownsRow (w.heap.size + 2) 65 2 v8' (n8 + 1) us) (hg : w1.grownBy w2 v8.ownBlock) : PlInv w xs os v7 n7 ps v8' (n8 + 1) us w2 := by
  have u := Upd.own hg
  have a1 := h.clks.own h.was (by decide) (by decide) (by decide)
  have b := own_blocks h.was
  exact ⟨h.two, h.ca.upd u (own_ne_blk h.was h.ca (by decide)), h.qa.upd u (own_ne_blk h.was h.qa (by decide)), h.clks.upd u a1, own_upd h.old u (own_ne_own h.was h.old (by decide)), ho, h.low.trans (u.below h.low.size (fun k hk => by have := b k hk; omega))⟩
end

end Go.Proofs.Ythjiiedpplimpaa
