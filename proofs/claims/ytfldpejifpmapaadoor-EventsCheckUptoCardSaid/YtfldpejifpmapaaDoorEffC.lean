/- As EffB, with a last operation (a store) behind which what was looked at is not needed. No condition. -/
import Derived.Test.YtfldpejifpmapaaDoorEffB
set_option linter.unusedSimpArgs false
set_option linter.unusedVariables false
set_option maxRecDepth 100000
namespace Go.Proofs.YtfldpejifpmapaaDoor
open Go.RowKit
section
variable {lr : Nat} {P : Program} {ops : Array Oper} {Q : Exit → Act → World → Prop} {md : Region.Mode} {S : World → Prop} {t : Nat}

def wpC (P : Program) (md : Region.Mode) (ops : Array Oper) (Q : Exit → Act → World → Prop) (S : World → Prop) (t : Nat) : Nat → List Nat → Array Bool → Act → World → Prop
  | 0, _, L, a, w => Region.ready md ops L = [] ∧ Q .normal a w
  | n + 1, l, L, a, w =>
      (∃ i rest o v, l = i :: rest ∧ i < t ∧ ops[i]? = some o ∧ ((Region.ready md ops L).contains i && Region.free md ops L i) = true ∧ YieldsIf P ops S o v a ∧ S w ∧ wpC P md ops Q S t n rest (L.setIfInBounds i true) (a.put o.dst v) w) ∨
      (Region.ready md ops L ≠ [] ∧ ∀ j ∈ Region.ready md ops L, ∃ rest, wpOp P ops Q j (fun a' w' => (t ≤ j ∨ S w') ∧ wpC P md ops Q S t n rest (L.setIfInBounds j true) a' w') a w)

theorem wpAnyE_C (hsel : Region.noSelect ops = true) (hQ : ∀ c d (v : Value) a w, Q (.panic c) (a.put d v) w → Q (.panic c) a w) (hT : TailWaits md ops t) :
    ∀ (n : Nat) (l : List Nat) (L : Array Bool) (a : Act) (w : World), Shut md ops L → wpC P md ops Q S t n l L a w → wpAnyE P md ops Q S t n L a w
  | 0, _, _, _, _, _, h => h
  | n + 1, l, L, a, w, inv, h => by
    rcases h with ⟨i, rest, o, v, _, hit, ho, hrf, hy, hS, hK⟩ | ⟨hne, hK⟩
    · simp only [Bool.and_eq_true] at hrf
      have hr' : i ∈ Region.ready md ops L := by simpa using hrf.1
      exact wpAnyE_first ho (Region.noSelect_spec hsel) (fun c a w => hQ c _ _ a w) hT hit n L a w inv (Region.free_spec ho hrf.2) hr' hy hS
        (wpAnyE_C hsel hQ hT n rest _ _ _ (inv.set hr') hK)
    · refine ⟨hne, fun j hj => ?_⟩
      obtain ⟨rest, hK⟩ := hK j hj
      exact wpOp_mono (fun a' w' h' => ⟨h'.1, wpAnyE_C hsel hQ hT n rest _ _ _ (inv.set hj) h'.2⟩) hK

def tailW (md : Region.Mode) (ops : Array Oper) (t : Nat) : Bool := (List.range' t (ops.size - t)).all fun j => (List.range t).all fun i => anchored md ops j (j + 1) i
theorem tailW_spec (h : tailW md ops t = true) : TailWaits md ops t := by
  unfold tailW at h
  simp only [List.all_eq_true, List.mem_range'_1, List.mem_range] at h
  exact fun j i h1 h2 h3 => h j ⟨h1, by omega⟩ i h2

theorem wpAny_C {l : List Nat} {a : Act} {w : World} (hQ : ∀ c d (v : Value) a w, Q (.panic c) (a.put d v) w → Q (.panic c) a w) (hsel : Region.noSelect ops = true) (hT : tailW md ops t = true)
    (h : wpC P md ops Q S t ops.size l (Array.replicate ops.size false) a w) : wpAny P md ops Q ops.size (Array.replicate ops.size false) a w := by
  have inv0 : Shut md ops (Array.replicate ops.size false) := ⟨by simp, fun j oj _ hl => (by rw [getD_replicate_false] at hl; cases hl)⟩
  exact wpAny_of_E _ _ _ _ (wpAnyE_C (P := P) hsel hQ (tailW_spec hT) _ l _ a w inv0 h)

theorem wp_region_brT {id : Nat} {a : Act} {w : World} {l : List Oper} (S : World → Prop) (order : List Nat) (t : Nat) (hm : P.follows .mixedOrders = true) (hsel : Region.noSelect l.toArray = true) (hT : tailW .any l.toArray t = true)
    (h : wpC P .any l.toArray (NoPanic Q) S t l.toArray.size order (Array.replicate l.toArray.size false) a w.drew) : (Code.region id l.toArray true).wp P Q a w :=
  wp_region_noPanic (wp_region_any hm (wpAny_C (fun c d v a w h => h) hsel hT h))

/-- the moves -/
theorem wpC_take {l : List Oper} {n i d : Nat} {o : Oper} {rest : List Nat} {v : Value} {L : Array Bool} {a : Act} {w : World} (ho : l[i]? = some o) (hi : i < t) (hd : o.dst = some d) (hr : ((Region.ready md l.toArray L).contains i && Region.free md l.toArray L i) = true)
    (hw : Region.wanted o (yielded l.toArray a.tmps) = true) (hS : S w) (hv : ∀ w, S w → (execOp a.eval o).run P w = .ok (.value v) w)
    (h : wpC P md l.toArray Q S t n rest (L.setIfInBounds i true) (a.put (some d) v) w) : wpC P md l.toArray Q S t (n + 1) (i :: rest) L a w :=
  .inl ⟨i, rest, o, v, rfl, hi, by simpa using ho, hr, .inl ⟨hw, hv⟩, hS, by rw [hd]; exact h⟩
theorem wpC_op {l : List Oper} {n i : Nat} {o : Oper} {rest : List Nat} {L : Array Bool} {a : Act} {w : World} (ho : l[i]? = some o) (hw : Region.wanted o (yielded l.toArray a.tmps) = true)
    (h : ∀ K : Act → World → Prop, Go.Shut (∀ a' w', (t ≤ i ∨ S w') → wpC P md l.toArray Q S t n rest (L.setIfInBounds i true) a' w' → K a' w') → Oper.wp P o a w K Q) :
    wpOp P l.toArray Q i (fun a' w' => (t ≤ i ∨ S w') ∧ wpC P md l.toArray Q S t n rest (L.setIfInBounds i true) a' w') a w := by
  have ho' : l.toArray[i]? = some o := by simpa using ho
  unfold wpOp
  simp only [ho', hw, if_true]
  exact .inl (h _ fun a' w' h1 h2 => ⟨h1, h2⟩)
/-- an effect that alone may come up -/
theorem wpC_eff {l : List Oper} {n i : Nat} {o : Oper} {rest : List Nat} {L : Array Bool} {a : Act} {w : World} (ho : l[i]? = some o) (hr : Region.ready md l.toArray L = [i]) (hw : Region.wanted o (yielded l.toArray a.tmps) = true)
    (h : ∀ K : Act → World → Prop, Go.Shut (∀ a' w', (t ≤ i ∨ S w') → wpC P md l.toArray Q S t n rest (L.setIfInBounds i true) a' w' → K a' w') → Oper.wp P o a w K Q) : wpC P md l.toArray Q S t (n + 1) (i :: rest) L a w :=
  .inr ⟨by rw [hr]; simp, fun j hj => by
    rw [hr] at hj
    obtain rfl : j = i := by simpa using hj
    exact ⟨rest, wpC_op ho hw h⟩⟩
/-- two effects, either may come up first -/
theorem wpC_two {l : List Oper} {n i j : Nat} {o o2 : Oper} {rest : List Nat} (rest2 : List Nat) {L : Array Bool} {a : Act} {w : World} (hr : Region.ready md l.toArray L = [i, j]) (ho : l[i]? = some o) (ho2 : l[j]? = some o2)
    (hw : Region.wanted o (yielded l.toArray a.tmps) = true) (hw2 : Region.wanted o2 (yielded l.toArray a.tmps) = true)
    (h : ∀ K : Act → World → Prop, Go.Shut (∀ a' w', (t ≤ i ∨ S w') → wpC P md l.toArray Q S t n rest (L.setIfInBounds i true) a' w' → K a' w') → Oper.wp P o a w K Q)
    (h2 : ∀ K : Act → World → Prop, Go.Shut (∀ a' w', (t ≤ j ∨ S w') → wpC P md l.toArray Q S t n rest2 (L.setIfInBounds j true) a' w' → K a' w') → Oper.wp P o2 a w K Q) : wpC P md l.toArray Q S t (n + 1) (i :: rest) L a w :=
  .inr ⟨by rw [hr]; simp, fun k hk => by
    rw [hr] at hk
    have hk : k = i ∨ k = j := by simpa using hk
    rcases hk with rfl | rfl
    · exact ⟨rest, wpC_op ho hw h⟩
    · exact ⟨rest2, wpC_op ho2 hw2 h2⟩⟩
theorem wpC_end {l : List Nat} {L : Array Bool} {a : Act} {w : World} (hr : Region.ready md ops L = []) (h : Q .normal a w) : wpC P md ops Q S t 0 l L a w := ⟨hr, h⟩
/-- an append, by its run -/
theorem wpC_append {l : List Oper} {n i : Nat} {o : Oper} {rest : List Nat} {L : Array Bool} {a : Act} {w w' : World} (h0 : l[i]? = some o) (hr : Region.ready md l.toArray L = [i]) (hw : Region.wanted o (yielded l.toArray a.tmps) = true) (s x : Operand) (ty u : TypeId)
    (hop : o.op = .call { callee := .builtin .append, args := #[s, x], argTypes := #[ty, u] }) (sv xv v : Value) (hs : a.eval s = sv) (hx : a.eval x = xv)
    (hrun : (Builtin.append_ #[ty, u] o.type #[sv, xv]).run P w = .ok v w') (hS : S w') (h : wpC P md l.toArray Q S t n rest (L.setIfInBounds i true) (a.put o.dst v) w') : wpC P md l.toArray Q S t (n + 1) (i :: rest) L a w := by
  refine wpC_eff h0 hr hw fun K hK => ?_
  unfold Oper.wp execOp
  simp only [hop, resolve, invoke, builtin, Sem.run_bind, Sem.run_pure, Result.andThen_ok, List.map_toArray, List.map_cons, List.map_nil, hs, hx, hrun]
  exact hK.out _ _ (.inr hS) h
/-- the same where one more may come up -/
theorem wpC_append_K {o : Oper} {a : Act} {w w' : World} {K : Act → World → Prop} {Q2 : Exit → Act → World → Prop} (s x : Operand) (ty u : TypeId)
    (hop : o.op = .call { callee := .builtin .append, args := #[s, x], argTypes := #[ty, u] }) (sv xv v : Value) (hs : a.eval s = sv) (hx : a.eval x = xv)
    (hrun : (Builtin.append_ #[ty, u] o.type #[sv, xv]).run P w = .ok v w') (h : K (a.put o.dst v) w') : Oper.wp P o a w K Q2 := by
  unfold Oper.wp execOp
  simp only [hop, resolve, invoke, builtin, Sem.run_bind, Sem.run_pure, Result.andThen_ok, List.map_toArray, List.map_cons, List.map_nil, hs, hx, hrun]
  exact h
end
end Go.Proofs.YtfldpejifpmapaaDoor
