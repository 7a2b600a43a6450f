/- A region that draws its order, with effects, walked in any order that is given: what only looks may be taken ahead of its turn; outside a round and inside one. No condition. -/
import Derived.Test.YtfldpejifpmapaaDoorEffIn
set_option linter.unusedSimpArgs false
set_option linter.unusedVariables false
set_option maxRecDepth 100000
namespace Go.Proofs.YtfldpejifpmapaaDoor
open Go.RowKit
section
variable {n lr : Nat} {P : Program} {ops : Array Oper} {Q : Exit → Act → World → Prop} {md : Region.Mode} {S : World → Prop}

/-- the walk in the order that is given -/
def wpO (P : Program) (md : Region.Mode) (ops : Array Oper) (Q : Exit → Act → World → Prop) (S : World → Prop) : List Nat → Array Bool → Act → World → Prop
  | [], _, a, w => Q .normal a w
  | i :: rest, L, a, w => ∃ o, ops[i]? = some o ∧
      ((∃ v, YieldsIf P ops S o v a ∧ wpO P md ops Q S rest (L.setIfInBounds i true) (a.put o.dst v) w) ∨
       (Region.ready md ops L = [i] ∧ wpOp P ops Q i (fun a' w' => S w' ∧ wpO P md ops Q S rest (L.setIfInBounds i true) a' w') a w))
def ordFrom (md : Region.Mode) (ops : Array Oper) : List Nat → Array Bool → Bool
  | [], L => (Region.ready md ops L).isEmpty
  | i :: rest, L => (Region.ready md ops L).contains i && Region.free md ops L i && ordFrom md ops rest (L.setIfInBounds i true)
def ordB (md : Region.Mode) (ops : Array Oper) (order : List Nat) : Bool := Region.noSelect ops && decide (order.length = ops.size) && ordFrom md ops order (Array.replicate ops.size false)

theorem wpAnyE_ord (hsel : Region.noSelect ops = true) (hQ : ∀ c d (v : Value) a w, Q (.panic c) (a.put d v) w → Q (.panic c) a w) :
    ∀ (l : List Nat) (L : Array Bool) (a : Act) (w : World), Shut md ops L → S w → ordFrom md ops l L = true → wpO P md ops Q S l L a w → wpAnyE P md ops Q S ops.size l.length L a w
  | [], L, a, w, _, _, hB, h => ⟨by simpa [ordFrom] using hB, h⟩
  | i :: l, L, a, w, inv, hS, hB, h => by
    simp only [ordFrom, Bool.and_eq_true] at hB
    obtain ⟨⟨hr, hf⟩, hB'⟩ := hB
    have hr' : i ∈ Region.ready md ops L := by simpa using hr
    obtain ⟨o, ho, h⟩ := h
    have hi : i < ops.size := (Array.getElem?_eq_some_iff.1 ho).1
    rcases h with ⟨v, hy, hK⟩ | ⟨honly, hK⟩
    · exact wpAnyE_first ho (Region.noSelect_spec hsel) (fun c a w => hQ c _ _ a w) (fun j i h1 h2 h3 => absurd h3 (by omega)) hi l.length L a w inv (Region.free_spec ho hf) hr' hy hS
        (wpAnyE_ord hsel hQ l _ _ _ (inv.set hr') hS hB' hK)
    · refine ⟨fun h => (by rw [h] at hr'; cases hr'), fun j hj => ?_⟩
      rw [honly] at hj
      obtain rfl : j = i := by simpa using hj
      refine wpOp_mono (fun a' w' h' => ⟨.inr h'.1, ?_⟩) hK
      exact wpAnyE_ord hsel hQ l _ _ _ (inv.set hr') h'.1 hB' h'.2

theorem wpAny_ord {order : List Nat} {a : Act} {w : World} (hQ : ∀ c d (v : Value) a w, Q (.panic c) (a.put d v) w → Q (.panic c) a w) (hB : ordB md ops order = true) (hS : S w)
    (h : wpO P md ops Q S order (Array.replicate ops.size false) a w) : wpAny P md ops Q ops.size (Array.replicate ops.size false) a w := by
  simp only [ordB, Bool.and_eq_true, decide_eq_true_eq] at hB
  obtain ⟨⟨hsel, hl⟩, hB⟩ := hB
  have inv0 : Shut md ops (Array.replicate ops.size false) := ⟨by simp, fun j oj _ hl => (by rw [getD_replicate_false] at hl; cases hl)⟩
  have := wpAnyE_ord (P := P) hsel hQ order _ a w inv0 hS hB h
  rw [hl] at this
  exact wpAny_of_E _ _ _ _ this

theorem wp_region_ord {id : Nat} {a : Act} {w : World} {l : List Oper} (S : World → Prop) (order : List Nat) (hm : P.follows .mixedOrders = true) (hB : ordB .any l.toArray order = true) (hS : S w.drew)
    (h : wpO P .any l.toArray (NoPanic Q) S order (Array.replicate l.toArray.size false) a w.drew) : (Code.region id l.toArray true).wp P Q a w :=
  wp_region_noPanic (wp_region_any hm (wpAny_ord (fun c d v a w h => h) hB hS h))
theorem wpIn_region_ord {id : Nat} {a : Act} {w : World} {l : List Oper} (S : World → Prop) (order : List Nat) (hp : l.toArray.all plainOp = true) (hm : P.follows .mixedOrders = true) (hB : ordB .any l.toArray order = true) (hS : S w.drew)
    (h : wpO P .any l.toArray (OnlyN Q) S order (Array.replicate l.toArray.size false) a w.drew) : (Code.region id l.toArray true).wpIn (Fence.wide.inRound lr) n P Q a w :=
  wpIn_region_any hm (wpAnyIn_of_wpAny hp _ _ _ _ (wpAny_ord (fun c d v a w h => h) hB hS h))

/-- the moves: what only looks -/
theorem wpO_take {i d : Nat} {o : Oper} {rest : List Nat} {v : Value} {L : Array Bool} {a : Act} {w : World} (ho : ops[i]? = some o) (hd : o.dst = some d) (hw : Region.wanted o (yielded ops a.tmps) = true) (hv : ∀ w, S w → (execOp a.eval o).run P w = .ok (.value v) w)
    (h : wpO P md ops Q S rest (L.setIfInBounds i true) (a.put (some d) v) w) : wpO P md ops Q S (i :: rest) L a w :=
  ⟨o, ho, .inl ⟨v, .inl ⟨hw, hv⟩, by rw [hd]; exact h⟩⟩
theorem wpO_skip {i : Nat} {o : Oper} {rest : List Nat} {L : Array Bool} {a : Act} {w : World} (ho : ops[i]? = some o) (hw : Region.wanted o (yielded ops a.tmps) = false)
    (h : wpO P md ops Q S rest (L.setIfInBounds i true) (a.put o.dst undef) w) : wpO P md ops Q S (i :: rest) L a w :=
  ⟨o, ho, .inl ⟨undef, .inr ⟨hw, rfl⟩, h⟩⟩
/-- an effect -/
theorem wpO_eff {i : Nat} {o : Oper} {rest : List Nat} {L : Array Bool} {a : Act} {w : World} (ho : ops[i]? = some o) (hr : Region.ready md ops L = [i]) (hw : Region.wanted o (yielded ops a.tmps) = true)
    (h : ∀ K : Act → World → Prop, Go.Shut (∀ a' w', S w' → wpO P md ops Q S rest (L.setIfInBounds i true) a' w' → K a' w') → Oper.wp P o a w K Q) : wpO P md ops Q S (i :: rest) L a w :=
  ⟨o, ho, .inr ⟨hr, by unfold wpOp; simp only [ho, hw, if_true]; exact .inl (h _ fun a' w' h1 h2 => ⟨h1, h2⟩)⟩⟩
theorem wpO_end {L : Array Bool} {a : Act} {w : World} (h : Q .normal a w) : wpO P md ops Q S [] L a w := h

/-- the same moves, the operation read off the list -/
theorem wpL_take {l : List Oper} {i d : Nat} {o : Oper} {rest : List Nat} {v : Value} {L : Array Bool} {a : Act} {w : World} (ho : l[i]? = some o) (hd : o.dst = some d) (hw : Region.wanted o (yielded l.toArray a.tmps) = true) (hv : ∀ w, S w → (execOp a.eval o).run P w = .ok (.value v) w)
    (h : wpO P md l.toArray Q S rest (L.setIfInBounds i true) (a.put (some d) v) w) : wpO P md l.toArray Q S (i :: rest) L a w :=
  wpO_take (by simpa using ho) hd hw hv h
theorem wpL_skip {l : List Oper} {i : Nat} {o : Oper} {rest : List Nat} {L : Array Bool} {a : Act} {w : World} (ho : l[i]? = some o) (hw : Region.wanted o (yielded l.toArray a.tmps) = false)
    (h : wpO P md l.toArray Q S rest (L.setIfInBounds i true) (a.put o.dst undef) w) : wpO P md l.toArray Q S (i :: rest) L a w :=
  wpO_skip (by simpa using ho) hw h
theorem wpL_eff {l : List Oper} {i : Nat} {o : Oper} {rest : List Nat} {L : Array Bool} {a : Act} {w : World} (ho : l[i]? = some o) (hr : Region.ready md l.toArray L = [i]) (hw : Region.wanted o (yielded l.toArray a.tmps) = true)
    (h : ∀ K : Act → World → Prop, Go.Shut (∀ a' w', S w' → wpO P md l.toArray Q S rest (L.setIfInBounds i true) a' w' → K a' w') → Oper.wp P o a w K Q) : wpO P md l.toArray Q S (i :: rest) L a w :=
  wpO_eff (by simpa using ho) hr hw h
end
end Go.Proofs.YtfldpejifpmapaaDoor
