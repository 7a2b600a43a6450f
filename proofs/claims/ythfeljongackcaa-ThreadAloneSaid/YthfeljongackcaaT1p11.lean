/- A region that draws its order, with effects, walked in any order that is given: what only looks may be taken ahead of its turn; outside a round and inside one. No condition. A region that draws its order, with effects, where two effects may come up one ahead of the other (an allocation and a call): the walk branches there; what only looks is taken in the order of a list, that is only a hint. No condition. A region that draws its order, with effects, walked in an order that is given; some effects (the last stores) wait for all that looks, and behind them the held fact need not stand. No condition. -/
import Derived.Test.YthfeljongackcaaT1p10
set_option linter.unusedSimpArgs false
set_option linter.unusedVariables false
set_option maxRecDepth 100000
namespace Go.Proofs.Ythfeljongackcaa
open Go.RowKit
section
variable {n lr : Nat} {P : Program} {ops : Array Oper} {Q : Exit → Act → World → Prop} {md : Region.Mode} {S : World → Prop}

/-- the walk in the order that is given -/
def wpO (P : Program) (md : Region.Mode) (ops : Array Oper) (Q : Exit → Act → World → Prop) (S : World → Prop) : List Nat → Array Bool → Act → World → Prop
  | [], _, a, w => Q .normal a w
  | i :: rest, L, a, w => ∃ o, ops[i]? = some o ∧
      ((∃ v, YieldsIf P ops S o v a ∧ wpO P md ops Q S rest (L.setIfInBounds i true) (a.put o.dst v) w) ∨
       (Region.ready md ops L = [i] ∧ wpOp P ops Q i (fun a' w' => S w' ∧ wpO P md ops Q S rest (L.setIfInBounds i true) a' w') a w))
def ordFrom (md : Region.Mode) (ops : Array Oper) : List Nat → Array Bool → Bool
  | [], L => (Region.ready md ops L).isEmpty
  | i :: rest, L => (Region.ready md ops L).contains i && Region.free md ops L i && ordFrom md ops rest (L.setIfInBounds i true)
def ordB (md : Region.Mode) (ops : Array Oper) (order : List Nat) : Bool := Region.noSelect ops && decide (order.length = ops.size) && ordFrom md ops order (Array.replicate ops.size false)

theorem wpAnyE_ord (hsel : Region.noSelect ops = true) (hQ : ∀ c d (v : Value) a w, Q (.panic c) (a.put d v) w → Q (.panic c) a w) :
    ∀ (l : List Nat) (L : Array Bool) (a : Act) (w : World), Shut md ops L → S w → ordFrom md ops l L = true → wpO P md ops Q S l L a w → wpAnyE P md ops Q S ops.size l.length L a w
  | [], L, a, w, _, _, hB, h => ⟨by simpa [ordFrom] using hB, h⟩
  | i :: l, L, a, w, inv, hS, hB, h => by
    simp only [ordFrom, Bool.and_eq_true] at hB
    obtain ⟨⟨hr, hf⟩, hB'⟩ := hB
    have hr' : i ∈ Region.ready md ops L := by simpa using hr
    obtain ⟨o, ho, h⟩ := h
    have hi : i < ops.size := (Array.getElem?_eq_some_iff.1 ho).1
    rcases h with ⟨v, hy, hK⟩ | ⟨honly, hK⟩
    · exact wpAnyE_first ho (Region.noSelect_spec hsel) (fun c a w => hQ c _ _ a w) (fun j i h1 h2 h3 => absurd h3 (by omega)) hi l.length L a w inv (Region.free_spec ho hf) hr' hy hS
        (wpAnyE_ord hsel hQ l _ _ _ (inv.set hr') hS hB' hK)
    · refine ⟨fun h => (by rw [h] at hr'; cases hr'), fun j hj => ?_⟩
      rw [honly] at hj
      obtain rfl : j = i := by simpa using hj
      refine wpOp_mono (fun a' w' h' => ⟨.inr h'.1, ?_⟩) hK
      exact wpAnyE_ord hsel hQ l _ _ _ (inv.set hr') h'.1 hB' h'.2

theorem wpAny_ord {order : List Nat} {a : Act} {w : World} (hQ : ∀ c d (v : Value) a w, Q (.panic c) (a.put d v) w → Q (.panic c) a w) (hB : ordB md ops order = true) (hS : S w)
    (h : wpO P md ops Q S order (Array.replicate ops.size false) a w) : wpAny P md ops Q ops.size (Array.replicate ops.size false) a w := by
  simp only [ordB, Bool.and_eq_true, decide_eq_true_eq] at hB
  obtain ⟨⟨hsel, hl⟩, hB⟩ := hB
  have inv0 : Shut md ops (Array.replicate ops.size false) := ⟨by simp, fun j oj _ hl => (by rw [getD_replicate_false] at hl; cases hl)⟩
  have := wpAnyE_ord (P := P) hsel hQ order _ a w inv0 hS hB h
  rw [hl] at this
  exact wpAny_of_E _ _ _ _ this

theorem wp_region_ord {id : Nat} {a : Act} {w : World} {l : List Oper} (S : World → Prop) (order : List Nat) (hm : P.follows .mixedOrders = true) (hB : ordB .any l.toArray order = true) (hS : S w.drew)
    (h : wpO P .any l.toArray (NoPanic Q) S order (Array.replicate l.toArray.size false) a w.drew) : (Code.region id l.toArray true).wp P Q a w :=
  wp_region_noPanic (wp_region_any hm (wpAny_ord (fun c d v a w h => h) hB hS h))
theorem wpIn_region_ord {id : Nat} {a : Act} {w : World} {l : List Oper} (S : World → Prop) (order : List Nat) (hp : l.toArray.all plainOp = true) (hm : P.follows .mixedOrders = true) (hB : ordB .any l.toArray order = true) (hS : S w.drew)
    (h : wpO P .any l.toArray (OnlyN Q) S order (Array.replicate l.toArray.size false) a w.drew) : (Code.region id l.toArray true).wpIn (Fence.wide.inRound lr) n P Q a w :=
  wpIn_region_any hm (wpAnyIn_of_wpAny hp _ _ _ _ (wpAny_ord (fun c d v a w h => h) hB hS h))

/-- the moves: what only looks -/
theorem wpO_take {i d : Nat} {o : Oper} {rest : List Nat} {v : Value} {L : Array Bool} {a : Act} {w : World} (ho : ops[i]? = some o) (hd : o.dst = some d) (hw : Region.wanted o (yielded ops a.tmps) = true) (hv : ∀ w, S w → (execOp a.eval o).run P w = .ok (.value v) w)
    (h : wpO P md ops Q S rest (L.setIfInBounds i true) (a.put (some d) v) w) : wpO P md ops Q S (i :: rest) L a w :=
  ⟨o, ho, .inl ⟨v, .inl ⟨hw, hv⟩, by rw [hd]; exact h⟩⟩
theorem wpO_skip {i : Nat} {o : Oper} {rest : List Nat} {L : Array Bool} {a : Act} {w : World} (ho : ops[i]? = some o) (hw : Region.wanted o (yielded ops a.tmps) = false)
    (h : wpO P md ops Q S rest (L.setIfInBounds i true) (a.put o.dst undef) w) : wpO P md ops Q S (i :: rest) L a w :=
  ⟨o, ho, .inl ⟨undef, .inr ⟨hw, rfl⟩, h⟩⟩
/-- an effect -/
theorem wpO_eff {i : Nat} {o : Oper} {rest : List Nat} {L : Array Bool} {a : Act} {w : World} (ho : ops[i]? = some o) (hr : Region.ready md ops L = [i]) (hw : Region.wanted o (yielded ops a.tmps) = true)
    (h : ∀ K : Act → World → Prop, Go.Shut (∀ a' w', S w' → wpO P md ops Q S rest (L.setIfInBounds i true) a' w' → K a' w') → Oper.wp P o a w K Q) : wpO P md ops Q S (i :: rest) L a w :=
  ⟨o, ho, .inr ⟨hr, by unfold wpOp; simp only [ho, hw, if_true]; exact .inl (h _ fun a' w' h1 h2 => ⟨h1, h2⟩)⟩⟩
theorem wpO_end {L : Array Bool} {a : Act} {w : World} (h : Q .normal a w) : wpO P md ops Q S [] L a w := h

/-- the same moves, the operation read off the list -/
theorem wpL_take {l : List Oper} {i d : Nat} {o : Oper} {rest : List Nat} {v : Value} {L : Array Bool} {a : Act} {w : World} (ho : l[i]? = some o) (hd : o.dst = some d) (hw : Region.wanted o (yielded l.toArray a.tmps) = true) (hv : ∀ w, S w → (execOp a.eval o).run P w = .ok (.value v) w)
    (h : wpO P md l.toArray Q S rest (L.setIfInBounds i true) (a.put (some d) v) w) : wpO P md l.toArray Q S (i :: rest) L a w :=
  wpO_take (by simpa using ho) hd hw hv h
theorem wpL_skip {l : List Oper} {i : Nat} {o : Oper} {rest : List Nat} {L : Array Bool} {a : Act} {w : World} (ho : l[i]? = some o) (hw : Region.wanted o (yielded l.toArray a.tmps) = false)
    (h : wpO P md l.toArray Q S rest (L.setIfInBounds i true) (a.put o.dst undef) w) : wpO P md l.toArray Q S (i :: rest) L a w :=
  wpO_skip (by simpa using ho) hw h
theorem wpL_eff {l : List Oper} {i : Nat} {o : Oper} {rest : List Nat} {L : Array Bool} {a : Act} {w : World} (ho : l[i]? = some o) (hr : Region.ready md l.toArray L = [i]) (hw : Region.wanted o (yielded l.toArray a.tmps) = true)
    (h : ∀ K : Act → World → Prop, Go.Shut (∀ a' w', S w' → wpO P md l.toArray Q S rest (L.setIfInBounds i true) a' w' → K a' w') → Oper.wp P o a w K Q) : wpO P md l.toArray Q S (i :: rest) L a w :=
  wpO_eff (by simpa using ho) hr hw h
end
end Go.Proofs.Ythfeljongackcaa
set_option linter.unusedSimpArgs false
set_option linter.unusedVariables false
set_option maxRecDepth 100000
namespace Go.Proofs.Ythfeljongackcaa
open Go.RowKit
section
variable {lr : Nat} {P : Program} {ops : Array Oper} {Q : Exit → Act → World → Prop} {md : Region.Mode} {S : World → Prop}

def wpB (P : Program) (md : Region.Mode) (ops : Array Oper) (Q : Exit → Act → World → Prop) (S : World → Prop) : Nat → List Nat → Array Bool → Act → World → Prop
  | 0, _, L, a, w => Region.ready md ops L = [] ∧ Q .normal a w
  | n + 1, l, L, a, w =>
      (∃ i rest o v, l = i :: rest ∧ ops[i]? = some o ∧ ((Region.ready md ops L).contains i && Region.free md ops L i) = true ∧ YieldsIf P ops S o v a ∧ wpB P md ops Q S n rest (L.setIfInBounds i true) (a.put o.dst v) w) ∨
      (Region.ready md ops L ≠ [] ∧ ∀ j ∈ Region.ready md ops L, ∃ rest, wpOp P ops Q j (fun a' w' => S w' ∧ wpB P md ops Q S n rest (L.setIfInBounds j true) a' w') a w)

theorem wpAnyE_B (hsel : Region.noSelect ops = true) (hQ : ∀ c d (v : Value) a w, Q (.panic c) (a.put d v) w → Q (.panic c) a w) :
    ∀ (n : Nat) (l : List Nat) (L : Array Bool) (a : Act) (w : World), Shut md ops L → S w → wpB P md ops Q S n l L a w → wpAnyE P md ops Q S ops.size n L a w
  | 0, _, _, _, _, _, _, h => h
  | n + 1, l, L, a, w, inv, hS, h => by
    rcases h with ⟨i, rest, o, v, _, ho, hrf, hy, hK⟩ | ⟨hne, hK⟩
    · simp only [Bool.and_eq_true] at hrf
      have hr' : i ∈ Region.ready md ops L := by simpa using hrf.1
      have hi : i < ops.size := (Array.getElem?_eq_some_iff.1 ho).1
      exact wpAnyE_first ho (Region.noSelect_spec hsel) (fun c a w => hQ c _ _ a w) (fun j i h1 h2 h3 => absurd h3 (by omega)) hi n L a w inv (Region.free_spec ho hrf.2) hr' hy hS
        (wpAnyE_B hsel hQ n rest _ _ _ (inv.set hr') hS hK)
    · refine ⟨hne, fun j hj => ?_⟩
      obtain ⟨rest, hK⟩ := hK j hj
      exact wpOp_mono (fun a' w' h' => ⟨.inr h'.1, wpAnyE_B hsel hQ n rest _ _ _ (inv.set hj) h'.1 h'.2⟩) hK

theorem wpAny_B {l : List Nat} {a : Act} {w : World} (hQ : ∀ c d (v : Value) a w, Q (.panic c) (a.put d v) w → Q (.panic c) a w) (hsel : Region.noSelect ops = true) (hS : S w)
    (h : wpB P md ops Q S ops.size l (Array.replicate ops.size false) a w) : wpAny P md ops Q ops.size (Array.replicate ops.size false) a w := by
  have inv0 : Shut md ops (Array.replicate ops.size false) := ⟨by simp, fun j oj _ hl => (by rw [getD_replicate_false] at hl; cases hl)⟩
  exact wpAny_of_E _ _ _ _ (wpAnyE_B (P := P) hsel hQ _ l _ a w inv0 hS h)

theorem wp_region_br {id : Nat} {a : Act} {w : World} {l : List Oper} (S : World → Prop) (order : List Nat) (hm : P.follows .mixedOrders = true) (hsel : Region.noSelect l.toArray = true) (hS : S w.drew)
    (h : wpB P .any l.toArray (NoPanic Q) S l.toArray.size order (Array.replicate l.toArray.size false) a w.drew) : (Code.region id l.toArray true).wp P Q a w :=
  wp_region_noPanic (wp_region_any hm (wpAny_B (fun c d v a w h => h) hsel hS h))
theorem wpIn_region_br {n id : Nat} {a : Act} {w : World} {l : List Oper} (S : World → Prop) (order : List Nat) (hp : l.toArray.all plainOp = true) (hm : P.follows .mixedOrders = true) (hsel : Region.noSelect l.toArray = true) (hS : S w.drew)
    (h : wpB P .any l.toArray (OnlyN Q) S l.toArray.size order (Array.replicate l.toArray.size false) a w.drew) : (Code.region id l.toArray true).wpIn (Fence.wide.inRound lr) n P Q a w :=
  wpIn_region_any hm (wpAnyIn_of_wpAny hp _ _ _ _ (wpAny_B (fun c d v a w h => h) hsel hS h))

/-- the moves -/
theorem wpB_take {l : List Oper} {n i d : Nat} {o : Oper} {rest : List Nat} {v : Value} {L : Array Bool} {a : Act} {w : World} (ho : l[i]? = some o) (hd : o.dst = some d) (hr : ((Region.ready md l.toArray L).contains i && Region.free md l.toArray L i) = true)
    (hw : Region.wanted o (yielded l.toArray a.tmps) = true) (hv : ∀ w, S w → (execOp a.eval o).run P w = .ok (.value v) w)
    (h : wpB P md l.toArray Q S n rest (L.setIfInBounds i true) (a.put (some d) v) w) : wpB P md l.toArray Q S (n + 1) (i :: rest) L a w :=
  .inl ⟨i, rest, o, v, rfl, by simpa using ho, hr, .inl ⟨hw, hv⟩, by rw [hd]; exact h⟩
theorem wpB_skip {l : List Oper} {n i : Nat} {o : Oper} {rest : List Nat} {L : Array Bool} {a : Act} {w : World} (ho : l[i]? = some o) (hr : ((Region.ready md l.toArray L).contains i && Region.free md l.toArray L i) = true)
    (hw : Region.wanted o (yielded l.toArray a.tmps) = false)
    (h : wpB P md l.toArray Q S n rest (L.setIfInBounds i true) (a.put o.dst undef) w) : wpB P md l.toArray Q S (n + 1) (i :: rest) L a w :=
  .inl ⟨i, rest, o, undef, rfl, by simpa using ho, hr, .inr ⟨hw, rfl⟩, h⟩
theorem wpB_op {l : List Oper} {n i : Nat} {o : Oper} {rest : List Nat} {L : Array Bool} {a : Act} {w : World} (ho : l[i]? = some o) (hw : Region.wanted o (yielded l.toArray a.tmps) = true)
    (h : ∀ K : Act → World → Prop, Go.Shut (∀ a' w', S w' → wpB P md l.toArray Q S n rest (L.setIfInBounds i true) a' w' → K a' w') → Oper.wp P o a w K Q) :
    wpOp P l.toArray Q i (fun a' w' => S w' ∧ wpB P md l.toArray Q S n rest (L.setIfInBounds i true) a' w') a w := by
  have ho' : l.toArray[i]? = some o := by simpa using ho
  unfold wpOp
  simp only [ho', hw, if_true]
  exact .inl (h _ fun a' w' h1 h2 => ⟨h1, h2⟩)
/-- an effect that alone may come up -/
theorem wpB_eff {l : List Oper} {n i : Nat} {o : Oper} {rest : List Nat} {L : Array Bool} {a : Act} {w : World} (ho : l[i]? = some o) (hr : Region.ready md l.toArray L = [i]) (hw : Region.wanted o (yielded l.toArray a.tmps) = true)
    (h : ∀ K : Act → World → Prop, Go.Shut (∀ a' w', S w' → wpB P md l.toArray Q S n rest (L.setIfInBounds i true) a' w' → K a' w') → Oper.wp P o a w K Q) : wpB P md l.toArray Q S (n + 1) (i :: rest) L a w :=
  .inr ⟨by rw [hr]; simp, fun j hj => by
    rw [hr] at hj
    obtain rfl : j = i := by simpa using hj
    exact ⟨rest, wpB_op ho hw h⟩⟩
/-- two effects, either may come up first -/
theorem wpB_two {l : List Oper} {n i j : Nat} {o o2 : Oper} {rest : List Nat} (rest2 : List Nat) {L : Array Bool} {a : Act} {w : World} (hr : Region.ready md l.toArray L = [i, j]) (ho : l[i]? = some o) (ho2 : l[j]? = some o2)
    (hw : Region.wanted o (yielded l.toArray a.tmps) = true) (hw2 : Region.wanted o2 (yielded l.toArray a.tmps) = true)
    (h : ∀ K : Act → World → Prop, Go.Shut (∀ a' w', S w' → wpB P md l.toArray Q S n rest (L.setIfInBounds i true) a' w' → K a' w') → Oper.wp P o a w K Q)
    (h2 : ∀ K : Act → World → Prop, Go.Shut (∀ a' w', S w' → wpB P md l.toArray Q S n rest2 (L.setIfInBounds j true) a' w' → K a' w') → Oper.wp P o2 a w K Q) : wpB P md l.toArray Q S (n + 1) (i :: rest) L a w :=
  .inr ⟨by rw [hr]; simp, fun k hk => by
    rw [hr] at hk
    have hk : k = i ∨ k = j := by simpa using hk
    rcases hk with rfl | rfl
    · exact ⟨rest, wpB_op ho hw h⟩
    · exact ⟨rest2, wpB_op ho2 hw2 h2⟩⟩
theorem wpB_end {l : List Nat} {L : Array Bool} {a : Act} {w : World} (hr : Region.ready md ops L = []) (h : Q .normal a w) : wpB P md ops Q S 0 l L a w := ⟨hr, h⟩
end
end Go.Proofs.Ythfeljongackcaa
set_option linter.unusedSimpArgs false
set_option linter.unusedVariables false
set_option maxRecDepth 100000
namespace Go.Proofs.Ythfeljongackcaa
open Go.RowKit
section
variable {n lr : Nat} {P : Program} {ops : Array Oper} {Q : Exit → Act → World → Prop} {md : Region.Mode} {S : World → Prop} {T : List Nat}

def wpAnyT (P : Program) (md : Region.Mode) (ops : Array Oper) (Q : Exit → Act → World → Prop) (S : World → Prop) (T : List Nat) : Nat → Array Bool → Act → World → Prop
  | 0, listed, a, w => Region.ready md ops listed = [] ∧ Q .normal a w
  | fuel + 1, listed, a, w => Region.ready md ops listed ≠ [] ∧ ∀ i ∈ Region.ready md ops listed, wpOp P ops Q i (fun a' w' => (i ∈ T ∨ S w') ∧ wpAnyT P md ops Q S T fuel (listed.setIfInBounds i true) a' w') a w

theorem wpAny_of_T : ∀ (fuel : Nat) (listed : Array Bool) (a : Act) (w : World), wpAnyT P md ops Q S T fuel listed a w → wpAny P md ops Q fuel listed a w
  | 0, _, _, _, h => h
  | fuel + 1, _, _, _, h => ⟨fun h0 => absurd h0 h.1, fun i hi => wpOp_mono (fun a' w' h' => wpAny_of_T fuel _ a' w' h'.2) (h.2 i hi)⟩

/-- whoever is of the tail waits for all others -/
def TWaits (md : Region.Mode) (ops : Array Oper) (T : List Nat) : Prop := ∀ j i, j ∈ T → i ∉ T → i < ops.size → anchored md ops j (j + 1) i = true

theorem wpAnyT_first {i : Nat} {oi : Oper} {v : Value} (hi : ops[i]? = some oi) (hsel : ∀ (j : Nat) (o : Oper) cs b, ops[j]? = some o → o.op ≠ .select cs b)
    (hQ : ∀ c a w, Q (.panic c) (a.put oi.dst v) w → Q (.panic c) a w) (hl : TWaits md ops T) (hit : i ∉ T) :
    ∀ (fuel : Nat) (listed : Array Bool) (a : Act) (w : World), Shut md ops listed →
      (∀ j oj, ops[j]? = some oj → j ≠ i → listed.getD j true = false → (∀ e ∈ oj.after, Region.binds md e = true → e.on ≠ i) → oi.apart ops oj = true) →
      i ∈ Region.ready md ops listed → YieldsIf P ops S oi v a → S w →
      wpAnyT P md ops Q S T fuel (listed.setIfInBounds i true) (a.put oi.dst v) w → wpAnyT P md ops Q S T (fuel + 1) listed a w := by
  intro fuel
  induction fuel with
  | zero =>
    intro listed a w inv _ hr hy hS H
    refine ⟨fun h => (by rw [h] at hr; cases hr), fun j hj => ?_⟩
    by_cases hji : j = i
    · subst hji; exact hy.wpOp hi hS ⟨.inr hS, H⟩
    · have := ready_mono hj hji
      rw [H.1] at this
      cases this
  | succ fuel ih =>
    intro listed a w inv hfree hr hy hS H
    refine ⟨fun h => (by rw [h] at hr; cases hr), fun j hj => ?_⟩
    by_cases hji : j = i
    · subst hji; exact hy.wpOp hi hS ⟨.inr hS, H⟩
    · have h1 := H.2 j (ready_mono hj hji)
      obtain ⟨hjun, oj, hoj, hall⟩ := mem_ready.1 hj
      have hiun := (mem_ready.1 hr).1
      have hnot : ∀ e ∈ oj.after, Region.binds md e = true → e.on ≠ i := fun e he hb heq => by
        have h1 := hall e he hb
        rw [heq, getD_both hiun] at h1
        cases h1
      have h2 := wpOp_putIf hoj (hfree j oj hoj hji hjun hnot) (fun cs b => hsel i oi cs b hi) (fun cs b => hsel j oj cs b hoj) hQ hy h1
      have hfree' : ∀ k ok, ops[k]? = some ok → k ≠ i → (listed.setIfInBounds j true).getD k true = false →
          (∀ e ∈ ok.after, Region.binds md e = true → e.on ≠ i) → oi.apart ops ok = true := fun k ok hk hki hun hno => by
        refine hfree k ok hk hki ?_ hno
        by_cases hjk : j = k
        · subst hjk; exact hjun
        · rw [getD_set_ne true hjk] at hun; exact hun
      have hjl : ¬ j ∈ T := by
        intro e
        have hsz : j < ops.size := (Array.getElem?_eq_some_iff.1 hoj).1
        have hsi : i < ops.size := (Array.getElem?_eq_some_iff.1 hi).1
        have ha := hl j i e hit hsi
        have hset : (listed.setIfInBounds j true).getD j false = true := by simp [inv.size, hsz]
        have := anchored_listed (inv.set hj) hset _ i ha
        rw [getD_set_ne false hji, getD_both hiun] at this
        cases this
      refine wpOp_mono (fun a' w' h3 => ?_) h2
      have hSw : S w' := h3.2.1.resolve_left hjl
      refine ⟨.inr hSw, ih (listed.setIfInBounds j true) a' w' (inv.set hj) hfree' (ready_mono hr (Ne.symm hji)) h3.1 hSw ?_⟩
      rw [Array.setIfInBounds_comm _ _ hji]
      exact h3.2.2

/-- the walk in the order that is given -/
def wpT (P : Program) (md : Region.Mode) (ops : Array Oper) (Q : Exit → Act → World → Prop) (S : World → Prop) (T : List Nat) : List Nat → Array Bool → Act → World → Prop
  | [], _, a, w => Q .normal a w
  | i :: rest, L, a, w => ∃ o, ops[i]? = some o ∧
      ((∃ v, (i ∉ T) ∧ S w ∧ YieldsIf P ops S o v a ∧ wpT P md ops Q S T rest (L.setIfInBounds i true) (a.put o.dst v) w) ∨
       (Region.ready md ops L = [i] ∧ wpOp P ops Q i (fun a' w' => (i ∈ T ∨ S w') ∧ wpT P md ops Q S T rest (L.setIfInBounds i true) a' w') a w))
def tailsB (md : Region.Mode) (ops : Array Oper) (T : List Nat) : Bool := T.all fun j => (List.range ops.size).all fun i => T.contains i || anchored md ops j (j + 1) i
def ordT (md : Region.Mode) (ops : Array Oper) (order T : List Nat) : Bool := ordB md ops order && tailsB md ops T

theorem wpAnyT_ord (hsel : Region.noSelect ops = true) (hQ : ∀ c d (v : Value) a w, Q (.panic c) (a.put d v) w → Q (.panic c) a w) (hT : TWaits md ops T) :
    ∀ (l : List Nat) (L : Array Bool) (a : Act) (w : World), Shut md ops L → ordFrom md ops l L = true → wpT P md ops Q S T l L a w → wpAnyT P md ops Q S T l.length L a w
  | [], L, a, w, _, hB, h => ⟨by simpa [ordFrom] using hB, h⟩
  | i :: l, L, a, w, inv, hB, h => by
    simp only [ordFrom, Bool.and_eq_true] at hB
    obtain ⟨⟨hr, hf⟩, hB'⟩ := hB
    have hr' : i ∈ Region.ready md ops L := by simpa using hr
    obtain ⟨o, ho, h⟩ := h
    rcases h with ⟨v, hi, hS, hy, hK⟩ | ⟨honly, hK⟩
    · exact wpAnyT_first ho (Region.noSelect_spec hsel) (fun c a w => hQ c _ _ a w) hT hi l.length L a w inv (Region.free_spec ho hf) hr' hy hS
        (wpAnyT_ord hsel hQ hT l _ _ _ (inv.set hr') hB' hK)
    · refine ⟨fun h => (by rw [h] at hr'; cases hr'), fun j hj => ?_⟩
      rw [honly] at hj
      obtain rfl : j = i := by simpa using hj
      refine wpOp_mono (fun a' w' h' => ⟨h'.1, ?_⟩) hK
      exact wpAnyT_ord hsel hQ hT l _ _ _ (inv.set hr') hB' h'.2

theorem wp_region_ordT {id : Nat} {a : Act} {w : World} {l : List Oper} (S : World → Prop) (order T : List Nat) (hm : P.follows .mixedOrders = true) (hB : ordT .any l.toArray order T = true)
    (h : wpT P .any l.toArray (NoPanic Q) S T order (Array.replicate l.toArray.size false) a w.drew) : (Code.region id l.toArray true).wp P Q a w := by
  refine wp_region_noPanic (wp_region_any hm ?_)
  simp only [ordT, ordB, Bool.and_eq_true, decide_eq_true_eq] at hB
  obtain ⟨⟨⟨hsel, hl⟩, hB⟩, hT⟩ := hB
  have hTW : TWaits .any l.toArray T := fun j i hj hi hs => by
    unfold tailsB at hT
    simp only [List.all_eq_true, List.mem_range, Bool.or_eq_true] at hT
    rcases hT j hj i hs with k | k
    · exact absurd (by simpa using k) hi
    · exact k
  have inv0 : Shut .any l.toArray (Array.replicate l.toArray.size false) := ⟨by simp, fun j oj _ hl => (by rw [getD_replicate_false] at hl; cases hl)⟩
  have := wpAnyT_ord (P := P) (S := S) (Q := NoPanic Q) hsel (fun c d v a w h => h) hTW order _ a w.drew inv0 hB h
  rw [hl] at this
  exact wpAny_of_T _ _ _ _ this

/-- the moves -/
theorem wpT_take {l : List Oper} {i d : Nat} {o : Oper} {rest : List Nat} {v : Value} {L : Array Bool} {a : Act} {w : World} (ho : l[i]? = some o) (hi : i ∉ T) (hS : S w) (hd : o.dst = some d) (hw : Region.wanted o (yielded l.toArray a.tmps) = true) (hv : ∀ w, S w → (execOp a.eval o).run P w = .ok (.value v) w)
    (h : wpT P md l.toArray Q S T rest (L.setIfInBounds i true) (a.put (some d) v) w) : wpT P md l.toArray Q S T (i :: rest) L a w :=
  ⟨o, by simpa using ho, .inl ⟨v, hi, hS, .inl ⟨hw, hv⟩, by rw [hd]; exact h⟩⟩
theorem wpT_skip {l : List Oper} {i : Nat} {o : Oper} {rest : List Nat} {L : Array Bool} {a : Act} {w : World} (ho : l[i]? = some o) (hi : i ∉ T) (hS : S w) (hw : Region.wanted o (yielded l.toArray a.tmps) = false)
    (h : wpT P md l.toArray Q S T rest (L.setIfInBounds i true) (a.put o.dst undef) w) : wpT P md l.toArray Q S T (i :: rest) L a w :=
  ⟨o, by simpa using ho, .inl ⟨undef, hi, hS, .inr ⟨hw, rfl⟩, h⟩⟩
theorem wpT_eff {l : List Oper} {i : Nat} {o : Oper} {rest : List Nat} {L : Array Bool} {a : Act} {w : World} (ho : l[i]? = some o) (hr : Region.ready md l.toArray L = [i]) (hw : Region.wanted o (yielded l.toArray a.tmps) = true)
    (h : ∀ K : Act → World → Prop, Go.Shut (∀ a' w', S w' → wpT P md l.toArray Q S T rest (L.setIfInBounds i true) a' w' → K a' w') → Oper.wp P o a w K Q) : wpT P md l.toArray Q S T (i :: rest) L a w :=
  ⟨o, by simpa using ho, .inr ⟨hr, by
    have ho' : l.toArray[i]? = some o := by simpa using ho
    unfold wpOp
    simp only [ho', hw, if_true]
    exact .inl (h _ fun a' w' h1 h2 => ⟨.inr h1, h2⟩)⟩⟩
/-- one of the tail -/
theorem wpT_last {l : List Oper} {i : Nat} {o : Oper} {rest : List Nat} {L : Array Bool} {a : Act} {w : World} (ho : l[i]? = some o) (hi : i ∈ T) (hr : Region.ready md l.toArray L = [i]) (hw : Region.wanted o (yielded l.toArray a.tmps) = true)
    (h : ∀ K : Act → World → Prop, Go.Shut (∀ a' w', wpT P md l.toArray Q S T rest (L.setIfInBounds i true) a' w' → K a' w') → Oper.wp P o a w K Q) : wpT P md l.toArray Q S T (i :: rest) L a w :=
  ⟨o, by simpa using ho, .inr ⟨hr, by
    have ho' : l.toArray[i]? = some o := by simpa using ho
    unfold wpOp
    simp only [ho', hw, if_true]
    exact .inl (h _ fun a' w' h2 => ⟨.inl hi, h2⟩)⟩⟩
theorem wpT_end {L : Array Bool} {a : Act} {w : World} (h : Q .normal a w) : wpT P md ops Q S T [] L a w := h
end
end Go.Proofs.Ythfeljongackcaa
