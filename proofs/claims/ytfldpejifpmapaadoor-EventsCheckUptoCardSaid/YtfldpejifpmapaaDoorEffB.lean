/- A region that draws its order, with effects, where two effects may come up one ahead of the other (an allocation and a call): the walk branches there; what only looks is taken in the order of a list, that is only a hint. No condition. -/
import Derived.Test.YtfldpejifpmapaaDoorEffO
set_option linter.unusedSimpArgs false
set_option linter.unusedVariables false
set_option maxRecDepth 100000
namespace Go.Proofs.YtfldpejifpmapaaDoor
open Go.RowKit
section
variable {lr : Nat} {P : Program} {ops : Array Oper} {Q : Exit → Act → World → Prop} {md : Region.Mode} {S : World → Prop}

def wpB (P : Program) (md : Region.Mode) (ops : Array Oper) (Q : Exit → Act → World → Prop) (S : World → Prop) : Nat → List Nat → Array Bool → Act → World → Prop
  | 0, _, L, a, w => Region.ready md ops L = [] ∧ Q .normal a w
  | n + 1, l, L, a, w =>
      (∃ i rest o v, l = i :: rest ∧ ops[i]? = some o ∧ ((Region.ready md ops L).contains i && Region.free md ops L i) = true ∧ YieldsIf P ops S o v a ∧ wpB P md ops Q S n rest (L.setIfInBounds i true) (a.put o.dst v) w) ∨
      (Region.ready md ops L ≠ [] ∧ ∀ j ∈ Region.ready md ops L, ∃ rest, wpOp P ops Q j (fun a' w' => S w' ∧ wpB P md ops Q S n rest (L.setIfInBounds j true) a' w') a w)

theorem wpAnyE_B (hsel : Region.noSelect ops = true) (hQ : ∀ c d (v : Value) a w, Q (.panic c) (a.put d v) w → Q (.panic c) a w) :
    ∀ (n : Nat) (l : List Nat) (L : Array Bool) (a : Act) (w : World), Shut md ops L → S w → wpB P md ops Q S n l L a w → wpAnyE P md ops Q S ops.size n L a w
  | 0, _, _, _, _, _, _, h => h
  | n + 1, l, L, a, w, inv, hS, h => by
    rcases h with ⟨i, rest, o, v, _, ho, hrf, hy, hK⟩ | ⟨hne, hK⟩
    · simp only [Bool.and_eq_true] at hrf
      have hr' : i ∈ Region.ready md ops L := by simpa using hrf.1
      have hi : i < ops.size := (Array.getElem?_eq_some_iff.1 ho).1
      exact wpAnyE_first ho (Region.noSelect_spec hsel) (fun c a w => hQ c _ _ a w) (fun j i h1 h2 h3 => absurd h3 (by omega)) hi n L a w inv (Region.free_spec ho hrf.2) hr' hy hS
        (wpAnyE_B hsel hQ n rest _ _ _ (inv.set hr') hS hK)
    · refine ⟨hne, fun j hj => ?_⟩
      obtain ⟨rest, hK⟩ := hK j hj
      exact wpOp_mono (fun a' w' h' => ⟨.inr h'.1, wpAnyE_B hsel hQ n rest _ _ _ (inv.set hj) h'.1 h'.2⟩) hK

theorem wpAny_B {l : List Nat} {a : Act} {w : World} (hQ : ∀ c d (v : Value) a w, Q (.panic c) (a.put d v) w → Q (.panic c) a w) (hsel : Region.noSelect ops = true) (hS : S w)
    (h : wpB P md ops Q S ops.size l (Array.replicate ops.size false) a w) : wpAny P md ops Q ops.size (Array.replicate ops.size false) a w := by
  have inv0 : Shut md ops (Array.replicate ops.size false) := ⟨by simp, fun j oj _ hl => (by rw [getD_replicate_false] at hl; cases hl)⟩
  exact wpAny_of_E _ _ _ _ (wpAnyE_B (P := P) hsel hQ _ l _ a w inv0 hS h)

theorem wp_region_br {id : Nat} {a : Act} {w : World} {l : List Oper} (S : World → Prop) (order : List Nat) (hm : P.follows .mixedOrders = true) (hsel : Region.noSelect l.toArray = true) (hS : S w.drew)
    (h : wpB P .any l.toArray (NoPanic Q) S l.toArray.size order (Array.replicate l.toArray.size false) a w.drew) : (Code.region id l.toArray true).wp P Q a w :=
  wp_region_noPanic (wp_region_any hm (wpAny_B (fun c d v a w h => h) hsel hS h))
theorem wpIn_region_br {n id : Nat} {a : Act} {w : World} {l : List Oper} (S : World → Prop) (order : List Nat) (hp : l.toArray.all plainOp = true) (hm : P.follows .mixedOrders = true) (hsel : Region.noSelect l.toArray = true) (hS : S w.drew)
    (h : wpB P .any l.toArray (OnlyN Q) S l.toArray.size order (Array.replicate l.toArray.size false) a w.drew) : (Code.region id l.toArray true).wpIn (Fence.wide.inRound lr) n P Q a w :=
  wpIn_region_any hm (wpAnyIn_of_wpAny hp _ _ _ _ (wpAny_B (fun c d v a w h => h) hsel hS h))

/-- the moves -/
theorem wpB_take {l : List Oper} {n i d : Nat} {o : Oper} {rest : List Nat} {v : Value} {L : Array Bool} {a : Act} {w : World} (ho : l[i]? = some o) (hd : o.dst = some d) (hr : ((Region.ready md l.toArray L).contains i && Region.free md l.toArray L i) = true)
    (hw : Region.wanted o (yielded l.toArray a.tmps) = true) (hv : ∀ w, S w → (execOp a.eval o).run P w = .ok (.value v) w)
    (h : wpB P md l.toArray Q S n rest (L.setIfInBounds i true) (a.put (some d) v) w) : wpB P md l.toArray Q S (n + 1) (i :: rest) L a w :=
  .inl ⟨i, rest, o, v, rfl, by simpa using ho, hr, .inl ⟨hw, hv⟩, by rw [hd]; exact h⟩
theorem wpB_skip {l : List Oper} {n i : Nat} {o : Oper} {rest : List Nat} {L : Array Bool} {a : Act} {w : World} (ho : l[i]? = some o) (hr : ((Region.ready md l.toArray L).contains i && Region.free md l.toArray L i) = true)
    (hw : Region.wanted o (yielded l.toArray a.tmps) = false)
    (h : wpB P md l.toArray Q S n rest (L.setIfInBounds i true) (a.put o.dst undef) w) : wpB P md l.toArray Q S (n + 1) (i :: rest) L a w :=
  .inl ⟨i, rest, o, undef, rfl, by simpa using ho, hr, .inr ⟨hw, rfl⟩, h⟩
theorem wpB_op {l : List Oper} {n i : Nat} {o : Oper} {rest : List Nat} {L : Array Bool} {a : Act} {w : World} (ho : l[i]? = some o) (hw : Region.wanted o (yielded l.toArray a.tmps) = true)
    (h : ∀ K : Act → World → Prop, Go.Shut (∀ a' w', S w' → wpB P md l.toArray Q S n rest (L.setIfInBounds i true) a' w' → K a' w') → Oper.wp P o a w K Q) :
    wpOp P l.toArray Q i (fun a' w' => S w' ∧ wpB P md l.toArray Q S n rest (L.setIfInBounds i true) a' w') a w := by
  have ho' : l.toArray[i]? = some o := by simpa using ho
  unfold wpOp
  simp only [ho', hw, if_true]
  exact .inl (h _ fun a' w' h1 h2 => ⟨h1, h2⟩)
/-- an effect that alone may come up -/
theorem wpB_eff {l : List Oper} {n i : Nat} {o : Oper} {rest : List Nat} {L : Array Bool} {a : Act} {w : World} (ho : l[i]? = some o) (hr : Region.ready md l.toArray L = [i]) (hw : Region.wanted o (yielded l.toArray a.tmps) = true)
    (h : ∀ K : Act → World → Prop, Go.Shut (∀ a' w', S w' → wpB P md l.toArray Q S n rest (L.setIfInBounds i true) a' w' → K a' w') → Oper.wp P o a w K Q) : wpB P md l.toArray Q S (n + 1) (i :: rest) L a w :=
  .inr ⟨by rw [hr]; simp, fun j hj => by
    rw [hr] at hj
    obtain rfl : j = i := by simpa using hj
    exact ⟨rest, wpB_op ho hw h⟩⟩
/-- two effects, either may come up first -/
theorem wpB_two {l : List Oper} {n i j : Nat} {o o2 : Oper} {rest : List Nat} (rest2 : List Nat) {L : Array Bool} {a : Act} {w : World} (hr : Region.ready md l.toArray L = [i, j]) (ho : l[i]? = some o) (ho2 : l[j]? = some o2)
    (hw : Region.wanted o (yielded l.toArray a.tmps) = true) (hw2 : Region.wanted o2 (yielded l.toArray a.tmps) = true)
    (h : ∀ K : Act → World → Prop, Go.Shut (∀ a' w', S w' → wpB P md l.toArray Q S n rest (L.setIfInBounds i true) a' w' → K a' w') → Oper.wp P o a w K Q)
    (h2 : ∀ K : Act → World → Prop, Go.Shut (∀ a' w', S w' → wpB P md l.toArray Q S n rest2 (L.setIfInBounds j true) a' w' → K a' w') → Oper.wp P o2 a w K Q) : wpB P md l.toArray Q S (n + 1) (i :: rest) L a w :=
  .inr ⟨by rw [hr]; simp, fun k hk => by
    rw [hr] at hk
    have hk : k = i ∨ k = j := by simpa using hk
    rcases hk with rfl | rfl
    · exact ⟨rest, wpB_op ho hw h⟩
    · exact ⟨rest2, wpB_op ho2 hw2 h2⟩⟩
theorem wpB_end {l : List Nat} {L : Array Bool} {a : Act} {w : World} (hr : Region.ready md ops L = []) (h : Q .normal a w) : wpB P md ops Q S 0 l L a w := ⟨hr, h⟩
end
end Go.Proofs.YtfldpejifpmapaaDoor
