/- Three rows of the program's and three of the document's, in two arrays: what a step, a copy, a write leave of them. No condition. -/
import Derived.Test.YthjiiedpplimpaaPlays3
set_option linter.unusedSimpArgs false
set_option linter.unusedVariables false
set_option maxRecDepth 100000
namespace Go.Proofs.Ythjiiedpplimpaa
open Go.RowKit

/-- the blocks of a row, if there is one -/
def footO (x : Option Rw) : List Nat := match x with | some x => x.foot | none => []
def AtO (w : World) (x : Option Rw) : Prop := ∀ r, x = some r → r.At w

/-- what a step leaves -/
def OutO (w : World) (x : Option Rw) (e : Ending) (w' : World) : Prop := e = .returned (.bool true) ∧ ∃ x' : Option Rw, footO x' = footO x ∧ rowP x' = rowP x ∧ refP x' = refP x ∧ AtO w' x' ∧ Upd (footO x) w w'

theorem plays_opt {w : World} (x : Option Rw) (s : StepV) (ok : s.Ok w (footO x)) (h : AtO w x) : Calls Try.prog 53 #[rowP x, refP x, .agg s.cells.toArray] w (OutO w x) := by
  cases x with
  | none => exact (np_any s ok).mono fun e w' ⟨he, hu⟩ => ⟨he, none, rfl, rfl, rfl, (fun r e => by cases e), hu⟩
  | some x =>
    refine (rp_any s ok (h x rfl)).mono fun e w' ⟨he, x', hf, hx', hu⟩ => ⟨he, some x', hf, ?_, ?_, (fun r e => by cases e; exact hx'), hu⟩
    · simp only [Rw.foot, List.cons.injEq] at hf; simp [rowP, hf.1]
    · simp only [Rw.foot, List.cons.injEq] at hf; simp [refP, hf.2.2.1]

theorem tells_opt {w : World} (x : Option Rw) (h : AtO w x) : Calls Try.prog 54 #[rowP x, refP x, .int .u64 0] w fun e w' => e = .returned (.bool true) ∧ Upd [] w w' := by
  cases x with
  | none => exact tells_no w 0 (by omega)
  | some x => exact tells_row (h x rfl).row (h x rfl).ref (h x rfl).allw 0

structure RI (w : World) (bt br : Nat) (xs : List (Option Rw)) (wr : World) : Prop where
  three : xs.length = 3
  tb : Blk wr bt (xs.map rowP) 92
  rb : Blk wr br (xs.map refP) 93
  at_ : ∀ (i : Nat) (x : Rw), xs[i]? = some (some x) → x.At wr ∧ ∀ k ∈ x.foot, w.heap.size ≤ k
  ap : ∀ (i j : Nat) (x y : Rw), xs[i]? = some (some x) → xs[j]? = some (some y) → i ≠ j → ∀ k ∈ x.foot, k ∉ y.foot
  low : Below w.heap.size w wr
  bb : w.heap.size ≤ bt ∧ w.heap.size ≤ br

section
variable {w w1 w' : World} {bt br : Nat} {xs : List (Option Rw)}

theorem foot_ne_blk {x : Rw} {g : Nat} {vs : List Value} {t : TypeId} (h : x.At w) (k : Blk w g vs t) (h1 : t ≠ 88) (h2 : t ≠ 27) (h3 : t ≠ 54) : g ∉ x.foot := by
  obtain ⟨_, g1, _, g2, _⟩ := h.row.head
  obtain ⟨_, g3, _, g4, _⟩ := h.ref.head
  intro hm
  simp only [Rw.foot, List.mem_cons, List.not_mem_nil, or_false] at hm
  rcases hm with rfl | rfl | rfl | rfl
  · exact h1 (k.inj g1).2
  · exact h2 (k.inj g2).2
  · exact h3 (k.inj g3).2
  · exact h2 (k.inj g4).2

theorem RI.tn (h : RI w bt br xs w1) {i : Nat} {x : Rw} (hx : xs[i]? = some (some x)) : bt ∉ x.foot ∧ br ∉ x.foot :=
  ⟨foot_ne_blk (h.at_ i x hx).1 h.tb (by decide) (by decide) (by decide), foot_ne_blk (h.at_ i x hx).1 h.rb (by decide) (by decide) (by decide)⟩
theorem RI.ne (h : RI w bt br xs w1) : bt ≠ br := fun e => by have hb := h.tb; rw [e] at hb; exact absurd (hb.inj h.rb).2 (by decide)

theorem RI.upd {S : List Nat} (h : RI w bt br xs w1) (u : Upd S w1 w') (h1 : bt ∉ S) (h2 : br ∉ S) (h3 : ∀ (i : Nat) (x : Rw), xs[i]? = some (some x) → ∀ k ∈ x.foot, k ∉ S) (h4 : ∀ k ∈ S, w.heap.size ≤ k) : RI w bt br xs w' :=
  ⟨h.three, h.tb.upd u h1, h.rb.upd u h2, fun i x hx => ⟨(h.at_ i x hx).1.upd u (h3 i x hx), (h.at_ i x hx).2⟩, h.ap, h.low.trans (u.below h.low.size h4), h.bb⟩
theorem RI.upd0 (h : RI w bt br xs w1) (u : Upd [] w1 w') : RI w bt br xs w' := h.upd u (by simp) (by simp) (fun _ _ _ _ _ => by simp) (by simp)

theorem RI.atO (h : RI w bt br xs w1) {i : Nat} {x : Option Rw} (hx : xs[i]? = some x) : AtO w1 x := fun r e => by subst e; exact (h.at_ i r hx).1
theorem RI.lowO (h : RI w bt br xs w1) {i : Nat} {x : Option Rw} (hx : xs[i]? = some x) : ∀ k ∈ footO x, w.heap.size ≤ k := by
  cases x with
  | none => simp [footO]
  | some x => exact (h.at_ i x hx).2

theorem set_get {xs : List (Option Rw)} {i j : Nat} {y : Option Rw} {z : Rw} (h : (xs.set i y)[j]? = some (some z)) : (i = j ∧ y = some z) ∨ (i ≠ j ∧ xs[j]? = some (some z)) := by
  by_cases e : i = j
  · subst e
    by_cases hl : i < xs.length
    · rw [List.getElem?_set_self hl] at h; simp at h; exact .inl ⟨rfl, h⟩
    · rw [List.getElem?_eq_none (by simpa using hl)] at h; cases h
  · rw [List.getElem?_set_ne e] at h; exact .inr ⟨e, h⟩

/-- behind a step on one row -/
theorem RI.step (h : RI w bt br xs w1) {i : Nat} {x x' : Option Rw} (hx : xs[i]? = some x) (hf : footO x' = footO x) (hr : rowP x' = rowP x) (hq : refP x' = refP x) (ha : AtO w' x') (u : Upd (footO x) w1 w') : RI w bt br (xs.set i x') w' := by
  have hi : i < xs.length := (List.getElem?_eq_some_iff.1 hx).1
  have hxe : xs[i] = x := (List.getElem?_eq_some_iff.1 hx).2
  have hlow := h.lowO hx
  have nt : bt ∉ footO x ∧ br ∉ footO x := by
    cases x with
    | none => simp [footO]
    | some x => exact h.tn hx
  have e1 : (xs.set i x').map rowP = xs.map rowP := by rw [List.map_set, hr, ← hxe, ← List.getElem_map rowP (h := by simpa using hi), List.set_getElem_self]
  have e2 : (xs.set i x').map refP = xs.map refP := by rw [List.map_set, hq, ← hxe, ← List.getElem_map refP (h := by simpa using hi), List.set_getElem_self]
  refine ⟨by simpa using h.three, by rw [e1]; exact h.tb.upd u nt.1, by rw [e2]; exact h.rb.upd u nt.2, fun j z hz => ?_, fun j l y z hy hz hne => ?_, h.low.trans (u.below h.low.size hlow), h.bb⟩
  · rcases set_get hz with ⟨rfl, rfl⟩ | ⟨hne, hz⟩
    · exact ⟨ha z rfl, fun k hk => hlow k (by rw [← hf]; exact hk)⟩
    · refine ⟨(h.at_ j z hz).1.upd u (fun k hk hm => ?_), (h.at_ j z hz).2⟩
      cases x with
      | none => simp [footO] at hm
      | some x => exact h.ap j i z x hz hx (Ne.symm hne) k hk hm
  · rcases set_get hy with ⟨rfl, p1⟩ | ⟨n1, hy'⟩ <;> rcases set_get hz with ⟨e, p2⟩ | ⟨n2, hz'⟩
    · exact absurd e hne
    · subst p1
      intro k hk
      cases x with
      | none => rw [show y.foot = [] from hf] at hk; cases hk
      | some x => rw [show y.foot = x.foot from hf] at hk; exact h.ap i l x z hx hz' n2 k hk
    · subst e
      subst p2
      cases x with
      | none => intro k hk; rw [show z.foot = [] from hf]; simp
      | some x => intro k hk; rw [show z.foot = x.foot from hf]; exact h.ap j i y x hy' hx (Ne.symm n1) k hk
    · exact h.ap j l y z hy' hz' hne

/-- a new row (or none) put in a place of both arrays -/
theorem RI.put (h : RI w bt br xs w1) {i : Nat} {y : Option Rw} (hb : Blk w' bt ((xs.map rowP).set i (rowP y)) 92) (hr : Blk w' br ((xs.map refP).set i (refP y)) 93) (u : Upd [bt, br] w1 w') (hy : AtO w' y) (hn : ∀ k ∈ footO y, w1.heap.size ≤ k) :
    RI w bt br (xs.set i y) w' := by
  have hlow := h.low.size
  have hlt : ∀ (j : Nat) (z : Rw), xs[j]? = some (some z) → ∀ k ∈ z.foot, k < w1.heap.size := fun j z hz k hk => (h.at_ j z hz).1.lt hk
  refine ⟨by simpa using h.three, by rw [List.map_set]; exact hb, by rw [List.map_set]; exact hr, fun j z hz => ?_, fun j l p q hp hq hjl => ?_, h.low.trans (u.below h.low.size (by have := h.bb; simp; omega)), h.bb⟩
  · rcases set_get hz with ⟨rfl, p1⟩ | ⟨_, hz'⟩
    · subst p1; exact ⟨hy z rfl, fun k hk => by have := hn k hk; omega⟩
    · refine ⟨(h.at_ j z hz').1.upd u (fun k hk hm => ?_), (h.at_ j z hz').2⟩
      simp only [List.mem_cons, List.not_mem_nil, or_false] at hm
      rcases hm with rfl | rfl
      · exact (h.tn hz').1 hk
      · exact (h.tn hz').2 hk
  · rcases set_get hp with ⟨rfl, p1⟩ | ⟨_, hp'⟩ <;> rcases set_get hq with ⟨e, p2⟩ | ⟨_, hq'⟩
    · exact absurd e hjl
    · subst p1; intro k hk hm; have h3 := hn k hk; have h4 := hlt l q hq' k hm; omega
    · subst p2; intro k hk hm; have h3 := hn k hm; have h4 := hlt j p hp' k hk; omega
    · exact h.ap j l p q hp' hq' hjl

theorem RI.ct (h : RI w bt br xs w1) {i : Nat} {x : Option Rw} (hx : xs[i]? = some x) : w1.cell? ⟨bt, i, none⟩ = some (rowP x) := h.tb.cell i (by rw [List.getElem?_map, hx]; rfl)
theorem RI.cr (h : RI w bt br xs w1) {i : Nat} {x : Option Rw} (hx : xs[i]? = some x) : w1.cell? ⟨br, i, none⟩ = some (refP x) := h.rb.cell i (by rw [List.getElem?_map, hx]; rfl)

end

end Go.Proofs.Ythjiiedpplimpaa
