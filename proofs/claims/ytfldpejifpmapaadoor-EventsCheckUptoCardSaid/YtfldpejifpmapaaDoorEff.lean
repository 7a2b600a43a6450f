/- Regions that draw their order, walked in the order of the text: what only looks (at cells that no effect ahead of it may turn) yields; an effect (a call, a store, an allocation) comes up when it alone may come up; a tail that waits for all else is walked as a plain list, and need not keep the condition on the world. The condition: the region's own shape. -/
import Derived.Test.YtfldpejifpmapaaDoorStoreMid
import Derived.Deep.RegionHeld3
set_option linter.unusedSimpArgs false
set_option linter.unusedVariables false
set_option maxRecDepth 100000
namespace Go.Proofs.YtfldpejifpmapaaDoor
open Go.RowKit

section
variable {P : Program} {ops : Array Oper} {Q : Exit → Act → World → Prop} {md : Region.Mode} {S : World → Prop} {t : Nat}

def wpAnyE (P : Program) (md : Region.Mode) (ops : Array Oper) (Q : Exit → Act → World → Prop) (S : World → Prop) (t : Nat) : Nat → Array Bool → Act → World → Prop
  | 0, listed, a, w => Region.ready md ops listed = [] ∧ Q .normal a w
  | fuel + 1, listed, a, w => Region.ready md ops listed ≠ [] ∧ ∀ i ∈ Region.ready md ops listed, wpOp P ops Q i (fun a' w' => (t ≤ i ∨ S w') ∧ wpAnyE P md ops Q S t fuel (listed.setIfInBounds i true) a' w') a w

theorem wpAny_of_E : ∀ (fuel : Nat) (listed : Array Bool) (a : Act) (w : World), wpAnyE P md ops Q S t fuel listed a w → wpAny P md ops Q fuel listed a w
  | 0, _, _, _, h => h
  | fuel + 1, _, _, _, h => ⟨fun h0 => absurd h0 h.1, fun i hi => wpOp_mono (fun a' w' h' => wpAny_of_E fuel _ a' w' h'.2) (h.2 i hi)⟩

/-- whoever is of the tail waits for all ahead of it -/
def TailWaits (md : Region.Mode) (ops : Array Oper) (t : Nat) : Prop := ∀ j i, t ≤ j → i < t → j < ops.size → anchored md ops j (j + 1) i = true

theorem wpAnyE_first {i : Nat} {oi : Oper} {v : Value} (hi : ops[i]? = some oi) (hsel : ∀ (j : Nat) (o : Oper) cs b, ops[j]? = some o → o.op ≠ .select cs b)
    (hQ : ∀ c a w, Q (.panic c) (a.put oi.dst v) w → Q (.panic c) a w) (hl : TailWaits md ops t) (hit : i < t) :
    ∀ (fuel : Nat) (listed : Array Bool) (a : Act) (w : World), Shut md ops listed →
      (∀ j oj, ops[j]? = some oj → j ≠ i → listed.getD j true = false → (∀ e ∈ oj.after, Region.binds md e = true → e.on ≠ i) → oi.apart ops oj = true) →
      i ∈ Region.ready md ops listed → YieldsIf P ops S oi v a → S w →
      wpAnyE P md ops Q S t fuel (listed.setIfInBounds i true) (a.put oi.dst v) w → wpAnyE P md ops Q S t (fuel + 1) listed a w := by
  intro fuel
  induction fuel with
  | zero =>
    intro listed a w inv _ hr hy hS H
    refine ⟨fun h => (by rw [h] at hr; cases hr), fun j hj => ?_⟩
    by_cases hji : j = i
    · subst hji; exact hy.wpOp hi hS ⟨.inr hS, H⟩
    · have := ready_mono hj hji
      rw [H.1] at this
      cases this
  | succ fuel ih =>
    intro listed a w inv hfree hr hy hS H
    refine ⟨fun h => (by rw [h] at hr; cases hr), fun j hj => ?_⟩
    by_cases hji : j = i
    · subst hji; exact hy.wpOp hi hS ⟨.inr hS, H⟩
    · have h1 := H.2 j (ready_mono hj hji)
      obtain ⟨hjun, oj, hoj, hall⟩ := mem_ready.1 hj
      have hiun := (mem_ready.1 hr).1
      have hnot : ∀ e ∈ oj.after, Region.binds md e = true → e.on ≠ i := fun e he hb heq => by
        have h1 := hall e he hb
        rw [heq, getD_both hiun] at h1
        cases h1
      have h2 := wpOp_putIf hoj (hfree j oj hoj hji hjun hnot) (fun cs b => hsel i oi cs b hi) (fun cs b => hsel j oj cs b hoj) hQ hy h1
      have hfree' : ∀ k ok, ops[k]? = some ok → k ≠ i → (listed.setIfInBounds j true).getD k true = false →
          (∀ e ∈ ok.after, Region.binds md e = true → e.on ≠ i) → oi.apart ops ok = true := fun k ok hk hki hun hno => by
        refine hfree k ok hk hki ?_ hno
        by_cases hjk : j = k
        · subst hjk; exact hjun
        · rw [getD_set_ne true hjk] at hun; exact hun
      have hjl : ¬ t ≤ j := by
        intro e
        have hsz : j < ops.size := (Array.getElem?_eq_some_iff.1 hoj).1
        have ha := hl j i e hit hsz
        have hset : (listed.setIfInBounds j true).getD j false = true := by simp [inv.size, hsz]
        have := anchored_listed (inv.set hj) hset _ i ha
        rw [getD_set_ne false hji, getD_both hiun] at this
        cases this
      refine wpOp_mono (fun a' w' h3 => ?_) h2
      have hSw : S w' := h3.2.1.resolve_left hjl
      refine ⟨.inr hSw, ih (listed.setIfInBounds j true) a' w' (inv.set hj) hfree' (ready_mono hr (Ne.symm hji)) h3.1 hSw ?_⟩
      rw [Array.setIfInBounds_comm _ _ hji]
      exact h3.2.2

/-- the first k have come up -/
def fillB : Nat → Array Bool → Array Bool
  | 0, l => l
  | k + 1, l => (fillB k l).setIfInBounds k true
def upB (ops : Array Oper) (k : Nat) : Array Bool := fillB k (Array.replicate ops.size false)

/-- the walk in the order of the text -/
def wpE (P : Program) (md : Region.Mode) (ops : Array Oper) (Q : Exit → Act → World → Prop) (S : World → Prop) (t : Nat) : Nat → List Oper → Act → World → Prop
  | _, [], a, w => Q .normal a w
  | k, o :: rest, a, w => if k = t then wpList P ops Q (o :: rest) a w else
      (∃ v, YieldsIf P ops S o v a ∧ wpE P md ops Q S t (k + 1) rest (a.put o.dst v) w) ∨
      (Region.ready md ops (upB ops k) = [k] ∧ wpOp P ops Q k (fun a' w' => S w' ∧ wpE P md ops Q S t (k + 1) rest a' w') a w)

def tailB (md : Region.Mode) (ops : Array Oper) (t : Nat) : Bool :=
  ((List.range' t (ops.size - t)).all fun j => (List.range t).all fun i => anchored md ops j (j + 1) i) && ((List.range' t (ops.size - t)).all fun j => Region.ready md ops (upB ops j) == [j])
def effB (md : Region.Mode) (ops : Array Oper) (t : Nat) : Bool :=
  Region.noSelect ops && decide (t ≤ ops.size) && tailB md ops t && Region.lexFrom md ops ops.size 0 (Array.replicate ops.size false)

theorem wpAnyE_list (hend : Region.ready md ops (upB ops ops.size) = []) : ∀ (l : List Oper) (k : Nat) (a : Act) (w : World), (∀ j, l[j]? = ops[k + j]?) → k + l.length = ops.size → t ≤ k →
    (∀ j, k ≤ j → j < ops.size → Region.ready md ops (upB ops j) = [j]) → wpList P ops Q l a w → wpAnyE P md ops Q S t l.length (upB ops k) a w
  | [], k, a, w, _, hk, _, _, h => by
    have : k = ops.size := by simpa using hk
    subst this
    exact ⟨hend, h⟩
  | o :: l, k, a, w, hl, hk, ht, hr, h => by
    have h0 : ops[k]? = some o := by simpa using (hl 0).symm
    have hl' : ∀ j, l[j]? = ops[k + 1 + j]? := fun j => by have := hl (j + 1); simpa [Nat.add_assoc, Nat.add_comm 1 j] using this
    have hk' : k + 1 + l.length = ops.size := by simp only [List.length_cons] at hk; omega
    have hrk := hr k (Nat.le_refl _) (by omega)
    refine ⟨by rw [hrk]; simp, fun j hj => ?_⟩
    rw [hrk] at hj
    obtain rfl : j = k := by simpa using hj
    have h2 : wpOp P ops Q j (wpList P ops Q l) a w := by unfold wpOp; simp only [h0]; exact h
    exact wpOp_mono (fun a' w' h' => ⟨.inl ht, wpAnyE_list hend l (j + 1) a' w' hl' hk' (by omega) (fun i hi => hr i (by omega)) h'⟩) h2

theorem wpAnyE_lex (hsel : Region.noSelect ops = true) (hQ : ∀ c d (v : Value) a w, Q (.panic c) (a.put d v) w → Q (.panic c) a w) (ht : t ≤ ops.size) (htail : tailB md ops t = true) (hend : Region.ready md ops (upB ops ops.size) = []) :
    ∀ (l : List Oper) (k : Nat) (a : Act) (w : World), (∀ j, l[j]? = ops[k + j]?) → k + l.length = ops.size → Shut md ops (upB ops k) → (k ≤ t ∨ l = []) → (S w ∨ l = []) →
    Region.lexFrom md ops l.length k (upB ops k) = true → wpE P md ops Q S t k l a w → wpAnyE P md ops Q S t l.length (upB ops k) a w
  | [], k, a, w, _, hk, _, _, _, hB, h => ⟨by simpa [Region.lexFrom] using hB, h⟩
  | o :: l, k, a, w, hl, hk, inv, hkt, hS, hB, h => by
    have h0 : ops[k]? = some o := by simpa using (hl 0).symm
    have hS' : S w := hS.resolve_right (by simp)
    have hkt' : k ≤ t := hkt.resolve_right (by simp)
    unfold tailB at htail
    simp only [Bool.and_eq_true, List.all_eq_true, List.mem_range'_1, List.mem_range, beq_iff_eq] at htail
    obtain ⟨htw, hts⟩ := htail
    have hl' : ∀ j, l[j]? = ops[k + 1 + j]? := fun j => by have := hl (j + 1); simpa [Nat.add_assoc, Nat.add_comm 1 j] using this
    have hk' : k + 1 + l.length = ops.size := by simp only [List.length_cons] at hk; omega
    rw [wpE] at h
    by_cases hkeq : k = t
    · rw [if_pos hkeq] at h
      exact wpAnyE_list hend (o :: l) k a w hl hk (by omega) (fun j h1 h2 => hts j ⟨by omega, by omega⟩) h
    · rw [if_neg hkeq] at h
      simp only [List.length_cons, Region.lexFrom, Bool.and_eq_true] at hB
      obtain ⟨⟨hr, hf⟩, hB'⟩ := hB
      have hr' : k ∈ Region.ready md ops (upB ops k) := by simpa using hr
      rcases h with ⟨v, hy, hK⟩ | ⟨honly, hK⟩
      · exact wpAnyE_first h0 (Region.noSelect_spec hsel) (fun c a w => hQ c _ _ a w) (fun j i h1 h2 h3 => htw j ⟨h1, by omega⟩ i h2) (by omega) l.length (upB ops k) a w inv (Region.free_spec h0 hf) hr' hy hS'
          (wpAnyE_lex hsel hQ ht (by unfold tailB; simp only [Bool.and_eq_true, List.all_eq_true, List.mem_range'_1, List.mem_range, beq_iff_eq]; exact ⟨htw, hts⟩) hend l (k + 1) _ _ hl' hk' (inv.set hr') (.inl (by omega)) (.inl hS') hB' hK)
      · refine ⟨fun h => (by rw [h] at hr'; cases hr'), fun j hj => ?_⟩
        rw [honly] at hj
        obtain rfl : j = k := by simpa using hj
        refine wpOp_mono (fun a' w' h' => ⟨.inr h'.1, ?_⟩) hK
        exact wpAnyE_lex hsel hQ ht (by unfold tailB; simp only [Bool.and_eq_true, List.all_eq_true, List.mem_range'_1, List.mem_range, beq_iff_eq]; exact ⟨htw, hts⟩) hend l (j + 1) _ _ hl' hk' (inv.set hr') (.inl (by omega)) (.inl h'.1) hB' h'.2

theorem lexFrom_end : ∀ (n k : Nat), k + n = ops.size → Region.lexFrom md ops n k (upB ops k) = true → Region.ready md ops (upB ops ops.size) = []
  | 0, k, hk, h => by
    have : k = ops.size := by simpa using hk
    subst this
    simpa [Region.lexFrom] using h
  | n + 1, k, hk, h => by
    simp only [Region.lexFrom, Bool.and_eq_true] at h
    exact lexFrom_end n (k + 1) (by omega) h.2

theorem wp_region_eff {id : Nat} {a : Act} {w : World} {l : List Oper} {Q : Exit → Act → World → Prop} (S : World → Prop) (t : Nat) (hm : P.follows .mixedOrders = true) (hB : effB .any l.toArray t = true) (hS : S w.drew)
    (h : wpE P .any l.toArray (NoPanic Q) S t 0 l a w.drew) : (Code.region id l.toArray true).wp P Q a w := by
  simp only [effB, Bool.and_eq_true, decide_eq_true_eq] at hB
  obtain ⟨⟨⟨hsel, ht⟩, hla⟩, hlex⟩ := hB
  refine wp_region_noPanic (wp_region_any hm ?_)
  have inv0 : Shut .any l.toArray (upB l.toArray 0) := ⟨by simp [upB, fillB], fun j oj _ hl => (by rw [upB, fillB, getD_replicate_false] at hl; cases hl)⟩
  have := wpAnyE_lex (P := P) (S := S) hsel (Q := NoPanic Q) (fun c d v a w h => h) ht hla (lexFrom_end _ 0 (by simp) hlex) l 0 a { w with drawn := w.drawn + 1 } (by simp) (by simp) inv0 (.inl (by omega)) (.inl hS) (by simpa [upB, fillB] using hlex) h
  simpa [upB, fillB] using wpAny_of_E _ _ _ _ this

/-- the moves: what only looks -/
theorem wpE_take {k d : Nat} {o : Oper} {rest : List Oper} {v : Value} {a : Act} {w : World} (hk : k ≠ t) (hd : o.dst = some d) (hw : Region.wanted o (yielded ops a.tmps) = true) (hv : ∀ w, S w → (execOp a.eval o).run P w = .ok (.value v) w)
    (h : wpE P md ops Q S t (k + 1) rest (a.put (some d) v) w) : wpE P md ops Q S t k (o :: rest) a w := by
  rw [wpE, if_neg hk]
  exact .inl ⟨v, .inl ⟨hw, hv⟩, by rw [hd]; exact h⟩
theorem wpE_skip {k : Nat} {o : Oper} {rest : List Oper} {a : Act} {w : World} (hk : k ≠ t) (hw : Region.wanted o (yielded ops a.tmps) = false)
    (h : wpE P md ops Q S t (k + 1) rest (a.put o.dst undef) w) : wpE P md ops Q S t k (o :: rest) a w := by
  rw [wpE, if_neg hk]
  exact .inl ⟨undef, .inr ⟨hw, rfl⟩, h⟩
/-- an effect -/
theorem wpE_eff {k : Nat} {o : Oper} {rest : List Oper} {a : Act} {w : World} (hk : k ≠ t) (ho : ops[k]? = some o) (hr : Region.ready md ops (upB ops k) = [k]) (hw : Region.wanted o (yielded ops a.tmps) = true)
    (h : ∀ K : Act → World → Prop, Go.Shut (∀ a' w', S w' → wpE P md ops Q S t (k + 1) rest a' w' → K a' w') → Oper.wp P o a w K Q) : wpE P md ops Q S t k (o :: rest) a w := by
  rw [wpE, if_neg hk]
  exact .inr ⟨hr, by unfold wpOp; simp only [ho, hw, if_true]; exact .inl (h _ fun a' w' h1 h2 => ⟨h1, h2⟩)⟩
/-- the tail -/
theorem wpE_tail {o : Oper} {rest : List Oper} {a : Act} {w : World} (h : wpList P ops Q (o :: rest) a w) : wpE P md ops Q S t t (o :: rest) a w := by
  rw [wpE, if_pos rfl]
  exact h
/-- an append, by its run -/
theorem wpE_append {k : Nat} {o : Oper} {rest : List Oper} {a : Act} {w w' : World} (hk : k ≠ t) (ho : ops[k]? = some o) (hr : Region.ready md ops (upB ops k) = [k]) (hw : Region.wanted o (yielded ops a.tmps) = true) (s x : Operand) (ty u : TypeId)
    (hop : o.op = .call { callee := .builtin .append, args := #[s, x], argTypes := #[ty, u] }) (sv xv v : Value) (hs : a.eval s = sv) (hx : a.eval x = xv)
    (hrun : (Builtin.append_ #[ty, u] o.type #[sv, xv]).run P w = .ok v w') (hS : S w') (h : wpE P md ops Q S t (k + 1) rest (a.put o.dst v) w') : wpE P md ops Q S t k (o :: rest) a w := by
  refine wpE_eff hk ho hr hw fun K hK => ?_
  unfold Oper.wp execOp
  simp only [hop, resolve, invoke, builtin, Sem.run_bind, Sem.run_pure, Result.andThen_ok, List.map_toArray, List.map_cons, List.map_nil, hs, hx, hrun]
  exact hK.out _ _ hS h
theorem wpE_end {k : Nat} {a : Act} {w : World} (h : Q .normal a w) : wpE P md ops Q S t k [] a w := h
end
end Go.Proofs.YtfldpejifpmapaaDoor
