/- Regions that draw their order, walked in the order of the text: what only looks (at cells that no effect ahead of it may turn) yields; an effect (a call, a store, an allocation) comes up when it alone may come up; a tail that waits for all else is walked as a plain list, and need not keep the condition on the world. The condition: the region's own shape. An attempt of the program in memory, and its small functions and steps. No conditions. -/
import Derived.Test.YthfeljongackcaaT1p02
import Derived.Deep.RegionHeld3
import Derived.Test.YthfeljongackcaaT1p00
import Derived.Test.YthfeljongackcaaT1p01
import Derived.Maps.OwnSet
import Derived.Maps.AppendAt
set_option linter.unusedSimpArgs false
set_option linter.unusedVariables false
set_option maxRecDepth 100000
namespace Go.Proofs.Ythfeljongackcaa
open Go.RowKit

section
variable {P : Program} {ops : Array Oper} {Q : Exit → Act → World → Prop} {md : Region.Mode} {S : World → Prop} {t : Nat}

def wpAnyE (P : Program) (md : Region.Mode) (ops : Array Oper) (Q : Exit → Act → World → Prop) (S : World → Prop) (t : Nat) : Nat → Array Bool → Act → World → Prop
  | 0, listed, a, w => Region.ready md ops listed = [] ∧ Q .normal a w
  | fuel + 1, listed, a, w => Region.ready md ops listed ≠ [] ∧ ∀ i ∈ Region.ready md ops listed, wpOp P ops Q i (fun a' w' => (t ≤ i ∨ S w') ∧ wpAnyE P md ops Q S t fuel (listed.setIfInBounds i true) a' w') a w

theorem wpAny_of_E : ∀ (fuel : Nat) (listed : Array Bool) (a : Act) (w : World), wpAnyE P md ops Q S t fuel listed a w → wpAny P md ops Q fuel listed a w
  | 0, _, _, _, h => h
  | fuel + 1, _, _, _, h => ⟨fun h0 => absurd h0 h.1, fun i hi => wpOp_mono (fun a' w' h' => wpAny_of_E fuel _ a' w' h'.2) (h.2 i hi)⟩

/-- whoever is of the tail waits for all ahead of it -/
def TailWaits (md : Region.Mode) (ops : Array Oper) (t : Nat) : Prop := ∀ j i, t ≤ j → i < t → j < ops.size → anchored md ops j (j + 1) i = true

theorem wpAnyE_first {i : Nat} {oi : Oper} {v : Value} (hi : ops[i]? = some oi) (hsel : ∀ (j : Nat) (o : Oper) cs b, ops[j]? = some o → o.op ≠ .select cs b)
    (hQ : ∀ c a w, Q (.panic c) (a.put oi.dst v) w → Q (.panic c) a w) (hl : TailWaits md ops t) (hit : i < t) :
    ∀ (fuel : Nat) (listed : Array Bool) (a : Act) (w : World), Shut md ops listed →
      (∀ j oj, ops[j]? = some oj → j ≠ i → listed.getD j true = false → (∀ e ∈ oj.after, Region.binds md e = true → e.on ≠ i) → oi.apart ops oj = true) →
      i ∈ Region.ready md ops listed → YieldsIf P ops S oi v a → S w →
      wpAnyE P md ops Q S t fuel (listed.setIfInBounds i true) (a.put oi.dst v) w → wpAnyE P md ops Q S t (fuel + 1) listed a w := by
  intro fuel
  induction fuel with
  | zero =>
    intro listed a w inv _ hr hy hS H
    refine ⟨fun h => (by rw [h] at hr; cases hr), fun j hj => ?_⟩
    by_cases hji : j = i
    · subst hji; exact hy.wpOp hi hS ⟨.inr hS, H⟩
    · have := ready_mono hj hji
      rw [H.1] at this
      cases this
  | succ fuel ih =>
    intro listed a w inv hfree hr hy hS H
    refine ⟨fun h => (by rw [h] at hr; cases hr), fun j hj => ?_⟩
    by_cases hji : j = i
    · subst hji; exact hy.wpOp hi hS ⟨.inr hS, H⟩
    · have h1 := H.2 j (ready_mono hj hji)
      obtain ⟨hjun, oj, hoj, hall⟩ := mem_ready.1 hj
      have hiun := (mem_ready.1 hr).1
      have hnot : ∀ e ∈ oj.after, Region.binds md e = true → e.on ≠ i := fun e he hb heq => by
        have h1 := hall e he hb
        rw [heq, getD_both hiun] at h1
        cases h1
      have h2 := wpOp_putIf hoj (hfree j oj hoj hji hjun hnot) (fun cs b => hsel i oi cs b hi) (fun cs b => hsel j oj cs b hoj) hQ hy h1
      have hfree' : ∀ k ok, ops[k]? = some ok → k ≠ i → (listed.setIfInBounds j true).getD k true = false →
          (∀ e ∈ ok.after, Region.binds md e = true → e.on ≠ i) → oi.apart ops ok = true := fun k ok hk hki hun hno => by
        refine hfree k ok hk hki ?_ hno
        by_cases hjk : j = k
        · subst hjk; exact hjun
        · rw [getD_set_ne true hjk] at hun; exact hun
      have hjl : ¬ t ≤ j := by
        intro e
        have hsz : j < ops.size := (Array.getElem?_eq_some_iff.1 hoj).1
        have ha := hl j i e hit hsz
        have hset : (listed.setIfInBounds j true).getD j false = true := by simp [inv.size, hsz]
        have := anchored_listed (inv.set hj) hset _ i ha
        rw [getD_set_ne false hji, getD_both hiun] at this
        cases this
      refine wpOp_mono (fun a' w' h3 => ?_) h2
      have hSw : S w' := h3.2.1.resolve_left hjl
      refine ⟨.inr hSw, ih (listed.setIfInBounds j true) a' w' (inv.set hj) hfree' (ready_mono hr (Ne.symm hji)) h3.1 hSw ?_⟩
      rw [Array.setIfInBounds_comm _ _ hji]
      exact h3.2.2

/-- the first k have come up -/
def fillB : Nat → Array Bool → Array Bool
  | 0, l => l
  | k + 1, l => (fillB k l).setIfInBounds k true
def upB (ops : Array Oper) (k : Nat) : Array Bool := fillB k (Array.replicate ops.size false)

/-- the walk in the order of the text -/
def wpE (P : Program) (md : Region.Mode) (ops : Array Oper) (Q : Exit → Act → World → Prop) (S : World → Prop) (t : Nat) : Nat → List Oper → Act → World → Prop
  | _, [], a, w => Q .normal a w
  | k, o :: rest, a, w => if k = t then wpList P ops Q (o :: rest) a w else
      (∃ v, YieldsIf P ops S o v a ∧ wpE P md ops Q S t (k + 1) rest (a.put o.dst v) w) ∨
      (Region.ready md ops (upB ops k) = [k] ∧ wpOp P ops Q k (fun a' w' => S w' ∧ wpE P md ops Q S t (k + 1) rest a' w') a w)

def tailB (md : Region.Mode) (ops : Array Oper) (t : Nat) : Bool :=
  ((List.range' t (ops.size - t)).all fun j => (List.range t).all fun i => anchored md ops j (j + 1) i) && ((List.range' t (ops.size - t)).all fun j => Region.ready md ops (upB ops j) == [j])
def effB (md : Region.Mode) (ops : Array Oper) (t : Nat) : Bool :=
  Region.noSelect ops && decide (t ≤ ops.size) && tailB md ops t && Region.lexFrom md ops ops.size 0 (Array.replicate ops.size false)

theorem wpAnyE_list (hend : Region.ready md ops (upB ops ops.size) = []) : ∀ (l : List Oper) (k : Nat) (a : Act) (w : World), (∀ j, l[j]? = ops[k + j]?) → k + l.length = ops.size → t ≤ k →
    (∀ j, k ≤ j → j < ops.size → Region.ready md ops (upB ops j) = [j]) → wpList P ops Q l a w → wpAnyE P md ops Q S t l.length (upB ops k) a w
  | [], k, a, w, _, hk, _, _, h => by
    have : k = ops.size := by simpa using hk
    subst this
    exact ⟨hend, h⟩
  | o :: l, k, a, w, hl, hk, ht, hr, h => by
    have h0 : ops[k]? = some o := by simpa using (hl 0).symm
    have hl' : ∀ j, l[j]? = ops[k + 1 + j]? := fun j => by have := hl (j + 1); simpa [Nat.add_assoc, Nat.add_comm 1 j] using this
    have hk' : k + 1 + l.length = ops.size := by simp only [List.length_cons] at hk; omega
    have hrk := hr k (Nat.le_refl _) (by omega)
    refine ⟨by rw [hrk]; simp, fun j hj => ?_⟩
    rw [hrk] at hj
    obtain rfl : j = k := by simpa using hj
    have h2 : wpOp P ops Q j (wpList P ops Q l) a w := by unfold wpOp; simp only [h0]; exact h
    exact wpOp_mono (fun a' w' h' => ⟨.inl ht, wpAnyE_list hend l (j + 1) a' w' hl' hk' (by omega) (fun i hi => hr i (by omega)) h'⟩) h2

theorem wpAnyE_lex (hsel : Region.noSelect ops = true) (hQ : ∀ c d (v : Value) a w, Q (.panic c) (a.put d v) w → Q (.panic c) a w) (ht : t ≤ ops.size) (htail : tailB md ops t = true) (hend : Region.ready md ops (upB ops ops.size) = []) :
    ∀ (l : List Oper) (k : Nat) (a : Act) (w : World), (∀ j, l[j]? = ops[k + j]?) → k + l.length = ops.size → Shut md ops (upB ops k) → (k ≤ t ∨ l = []) → (S w ∨ l = []) →
    Region.lexFrom md ops l.length k (upB ops k) = true → wpE P md ops Q S t k l a w → wpAnyE P md ops Q S t l.length (upB ops k) a w
  | [], k, a, w, _, hk, _, _, _, hB, h => ⟨by simpa [Region.lexFrom] using hB, h⟩
  | o :: l, k, a, w, hl, hk, inv, hkt, hS, hB, h => by
    have h0 : ops[k]? = some o := by simpa using (hl 0).symm
    have hS' : S w := hS.resolve_right (by simp)
    have hkt' : k ≤ t := hkt.resolve_right (by simp)
    unfold tailB at htail
    simp only [Bool.and_eq_true, List.all_eq_true, List.mem_range'_1, List.mem_range, beq_iff_eq] at htail
    obtain ⟨htw, hts⟩ := htail
    have hl' : ∀ j, l[j]? = ops[k + 1 + j]? := fun j => by have := hl (j + 1); simpa [Nat.add_assoc, Nat.add_comm 1 j] using this
    have hk' : k + 1 + l.length = ops.size := by simp only [List.length_cons] at hk; omega
    rw [wpE] at h
    by_cases hkeq : k = t
    · rw [if_pos hkeq] at h
      exact wpAnyE_list hend (o :: l) k a w hl hk (by omega) (fun j h1 h2 => hts j ⟨by omega, by omega⟩) h
    · rw [if_neg hkeq] at h
      simp only [List.length_cons, Region.lexFrom, Bool.and_eq_true] at hB
      obtain ⟨⟨hr, hf⟩, hB'⟩ := hB
      have hr' : k ∈ Region.ready md ops (upB ops k) := by simpa using hr
      rcases h with ⟨v, hy, hK⟩ | ⟨honly, hK⟩
      · exact wpAnyE_first h0 (Region.noSelect_spec hsel) (fun c a w => hQ c _ _ a w) (fun j i h1 h2 h3 => htw j ⟨h1, by omega⟩ i h2) (by omega) l.length (upB ops k) a w inv (Region.free_spec h0 hf) hr' hy hS'
          (wpAnyE_lex hsel hQ ht (by unfold tailB; simp only [Bool.and_eq_true, List.all_eq_true, List.mem_range'_1, List.mem_range, beq_iff_eq]; exact ⟨htw, hts⟩) hend l (k + 1) _ _ hl' hk' (inv.set hr') (.inl (by omega)) (.inl hS') hB' hK)
      · refine ⟨fun h => (by rw [h] at hr'; cases hr'), fun j hj => ?_⟩
        rw [honly] at hj
        obtain rfl : j = k := by simpa using hj
        refine wpOp_mono (fun a' w' h' => ⟨.inr h'.1, ?_⟩) hK
        exact wpAnyE_lex hsel hQ ht (by unfold tailB; simp only [Bool.and_eq_true, List.all_eq_true, List.mem_range'_1, List.mem_range, beq_iff_eq]; exact ⟨htw, hts⟩) hend l (j + 1) _ _ hl' hk' (inv.set hr') (.inl (by omega)) (.inl h'.1) hB' h'.2

theorem lexFrom_end : ∀ (n k : Nat), k + n = ops.size → Region.lexFrom md ops n k (upB ops k) = true → Region.ready md ops (upB ops ops.size) = []
  | 0, k, hk, h => by
    have : k = ops.size := by simpa using hk
    subst this
    simpa [Region.lexFrom] using h
  | n + 1, k, hk, h => by
    simp only [Region.lexFrom, Bool.and_eq_true] at h
    exact lexFrom_end n (k + 1) (by omega) h.2

theorem wp_region_eff {id : Nat} {a : Act} {w : World} {l : List Oper} {Q : Exit → Act → World → Prop} (S : World → Prop) (t : Nat) (hm : P.follows .mixedOrders = true) (hB : effB .any l.toArray t = true) (hS : S w.drew)
    (h : wpE P .any l.toArray (NoPanic Q) S t 0 l a w.drew) : (Code.region id l.toArray true).wp P Q a w := by
  simp only [effB, Bool.and_eq_true, decide_eq_true_eq] at hB
  obtain ⟨⟨⟨hsel, ht⟩, hla⟩, hlex⟩ := hB
  refine wp_region_noPanic (wp_region_any hm ?_)
  have inv0 : Shut .any l.toArray (upB l.toArray 0) := ⟨by simp [upB, fillB], fun j oj _ hl => (by rw [upB, fillB, getD_replicate_false] at hl; cases hl)⟩
  have := wpAnyE_lex (P := P) (S := S) hsel (Q := NoPanic Q) (fun c d v a w h => h) ht hla (lexFrom_end _ 0 (by simp) hlex) l 0 a { w with drawn := w.drawn + 1 } (by simp) (by simp) inv0 (.inl (by omega)) (.inl hS) (by simpa [upB, fillB] using hlex) h
  simpa [upB, fillB] using wpAny_of_E _ _ _ _ this

/-- the moves: what only looks -/
theorem wpE_take {k d : Nat} {o : Oper} {rest : List Oper} {v : Value} {a : Act} {w : World} (hk : k ≠ t) (hd : o.dst = some d) (hw : Region.wanted o (yielded ops a.tmps) = true) (hv : ∀ w, S w → (execOp a.eval o).run P w = .ok (.value v) w)
    (h : wpE P md ops Q S t (k + 1) rest (a.put (some d) v) w) : wpE P md ops Q S t k (o :: rest) a w := by
  rw [wpE, if_neg hk]
  exact .inl ⟨v, .inl ⟨hw, hv⟩, by rw [hd]; exact h⟩
theorem wpE_skip {k : Nat} {o : Oper} {rest : List Oper} {a : Act} {w : World} (hk : k ≠ t) (hw : Region.wanted o (yielded ops a.tmps) = false)
    (h : wpE P md ops Q S t (k + 1) rest (a.put o.dst undef) w) : wpE P md ops Q S t k (o :: rest) a w := by
  rw [wpE, if_neg hk]
  exact .inl ⟨undef, .inr ⟨hw, rfl⟩, h⟩
/-- an effect -/
theorem wpE_eff {k : Nat} {o : Oper} {rest : List Oper} {a : Act} {w : World} (hk : k ≠ t) (ho : ops[k]? = some o) (hr : Region.ready md ops (upB ops k) = [k]) (hw : Region.wanted o (yielded ops a.tmps) = true)
    (h : ∀ K : Act → World → Prop, Go.Shut (∀ a' w', S w' → wpE P md ops Q S t (k + 1) rest a' w' → K a' w') → Oper.wp P o a w K Q) : wpE P md ops Q S t k (o :: rest) a w := by
  rw [wpE, if_neg hk]
  exact .inr ⟨hr, by unfold wpOp; simp only [ho, hw, if_true]; exact .inl (h _ fun a' w' h1 h2 => ⟨h1, h2⟩)⟩
/-- the tail -/
theorem wpE_tail {o : Oper} {rest : List Oper} {a : Act} {w : World} (h : wpList P ops Q (o :: rest) a w) : wpE P md ops Q S t t (o :: rest) a w := by
  rw [wpE, if_pos rfl]
  exact h
/-- an append, by its run -/
theorem wpE_append {k : Nat} {o : Oper} {rest : List Oper} {a : Act} {w w' : World} (hk : k ≠ t) (ho : ops[k]? = some o) (hr : Region.ready md ops (upB ops k) = [k]) (hw : Region.wanted o (yielded ops a.tmps) = true) (s x : Operand) (ty u : TypeId)
    (hop : o.op = .call { callee := .builtin .append, args := #[s, x], argTypes := #[ty, u] }) (sv xv v : Value) (hs : a.eval s = sv) (hx : a.eval x = xv)
    (hrun : (Builtin.append_ #[ty, u] o.type #[sv, xv]).run P w = .ok v w') (hS : S w') (h : wpE P md ops Q S t (k + 1) rest (a.put o.dst v) w') : wpE P md ops Q S t k (o :: rest) a w := by
  refine wpE_eff hk ho hr hw fun K hK => ?_
  unfold Oper.wp execOp
  simp only [hop, resolve, invoke, builtin, Sem.run_bind, Sem.run_pure, Result.andThen_ok, List.map_toArray, List.map_cons, List.map_nil, hs, hx, hrun]
  exact hK.out _ _ hS h
theorem wpE_end {k : Nat} {a : Act} {w : World} (h : Q .normal a w) : wpE P md ops Q S t k [] a w := h
end
end Go.Proofs.Ythfeljongackcaa
set_option linter.unusedSimpArgs false
set_option linter.unusedVariables false
set_option maxRecDepth 100000
namespace Go.Proofs.Ythfeljongackcaa
open Go.RowKit
open Go.Maps

/-- cells of a log -/
def pcells (l : List (Int × Int)) : List Value := l.flatMap fun c => [.int .u64 c.1, .int .u64 c.2]
theorem pcells_len (l : List (Int × Int)) : (pcells l).length = 2 * l.length := by
  induction l with
  | nil => rfl
  | cons c l ih => simp only [pcells, List.flatMap_cons, List.length_append, List.length_cons, List.length_nil] at *; omega
theorem pcells_snoc (l : List (Int × Int)) (c : Int × Int) : pcells (l ++ [c]) = pcells l ++ [.int .u64 c.1, .int .u64 c.2] := by simp [pcells]
theorem pcells_get (l : List (Int × Int)) (i : Nat) (x y : Int) (h : l[i]? = some (x, y)) : (pcells l)[i * 2]? = some (.int .u64 x) ∧ (pcells l)[i * 2 + 1]? = some (.int .u64 y) := by
  induction l generalizing i with
  | nil => simp at h
  | cons c l ih =>
    cases i with
    | zero => simp at h; subst h; simp [pcells]
    | succ i =>
      have := ih i (by simpa using h)
      have e : (i + 1) * 2 = i * 2 + 2 := by omega
      rw [e]
      simpa [pcells] using this
theorem pcells_set (l : List (Int × Int)) (i : Nat) (x y v : Int) (h : l[i]? = some (x, y)) : (pcells l).set (i * 2 + 1) (.int .u64 v) = pcells (l.set i (x, v)) := by
  induction l generalizing i with
  | nil => simp at h
  | cons c l ih =>
    cases i with
    | zero => simp at h; subst h; simp [pcells]
    | succ i =>
      have := ih i (by simpa using h)
      have e : (i + 1) * 2 + 1 = (i * 2 + 1) + 2 := by omega
      rw [e]
      simpa [pcells] using this

/-- a log of the attempt's own -/
structure OwnP (w : World) (v : Value) (l : List (Int × Int)) (F : List Nat) : Prop where
  own : w.ownsRow 0 53 2 v l.length (pcells l)
  nil : l = [] → v = .slice none 0 0
  inF : ∀ g, v.ownBlock = some g → g ∈ F

theorem OwnP.upd {w w' : World} {v : Value} {l : List (Int × Int)} {F S : List Nat} (h : OwnP w v l F) (u : Upd S w w') (hS : ∀ g ∈ S, v.ownBlock ≠ some g) : OwnP w' v l F :=
  ⟨own_upd h.own u hS, h.nil, h.inF⟩
theorem OwnP.mono {w : World} {v : Value} {l : List (Int × Int)} {F G : List Nat} (h : OwnP w v l F) (hF : ∀ x ∈ F, x ∈ G) : OwnP w v l G := ⟨h.own, h.nil, fun g hg => hF g (h.inF g hg)⟩
theorem OwnP.form {w : World} {v : Value} {l : List (Int × Int)} {F : List Nat} (h : OwnP w v l F) : ∃ p c, v = .slice p l.length c := own_form h.own
theorem OwnP.lt {w : World} {v : Value} {l : List (Int × Int)} {F : List Nat} (h : OwnP w v l F) {g : Nat} (hg : v.ownBlock = some g) : g < w.heap.size := (own_blocks h.own g (by simp [hg])).2
theorem OwnP.open {w : World} {v : Value} {l : List (Int × Int)} {F : List Nat} (h : OwnP w v l F) (hl : l ≠ []) :
    ∃ g cap sp, v = .slice (some ⟨g, 0, none⟩) l.length cap ∧ l.length ≤ cap ∧ Blk w g (pcells l ++ sp) 53 ∧ g ∈ F := by
  obtain ⟨h1, h2⟩ := h.own
  rcases h2 with ⟨_, h2⟩ | ⟨g, cap, cur, hv, hb, hh, hn, hm, hs, ht⟩
  · have : l.length = 0 := by simpa using h2
    exact absurd (List.length_eq_zero_iff.1 this) hl
  · subst hv
    refine ⟨g, cap, cur.toList.drop (l.length * 2), rfl, hn, ?_, h.inF g rfl⟩
    unfold Blk
    rw [← ht, List.take_append_drop]
    simpa using hh

theorem OwnP.ne_blk {w : World} {v : Value} {l : List (Int × Int)} {F : List Nat} {g : Nat} {vs : List Value} {t : TypeId} (h : OwnP w v l F) (k : Blk w g vs t) (hne : 53 ≠ t) : v.ownBlock ≠ some g := by
  have := own_ne_blk h.own k hne
  simpa using this

/-- the map of places -/
def PlacesAt (w : World) (m : Nat) (l : List (Int × Int)) : Prop :=
  ∃ D : DataW Unit, w.ownsMap Try.prog 31 (plainElem Try.prog 3) m l.length D ∧
    ∀ x : Int, 0 ≤ x → x < 18446744073709551616 → Maps.has D (.int .u64 x) = (place l x).isSome ∧ ∀ k, place l x = some k → D.atKey (.int .u64 x) (.lit (.int .i64 0)) = .lit (.int .i64 (k : Int))
theorem PlacesAt.upd {w w' : World} {m : Nat} {l : List (Int × Int)} {S : List Nat} (h : PlacesAt w m l) (u : Upd S w w') (hS : m ∉ S) : PlacesAt w' m l := by
  obtain ⟨D, ⟨es, cl, hb, r⟩, h2⟩ := h
  have hlt : m < w.heap.size := by
    by_cases hb' : m < w.heap.size
    · exact hb'
    · rw [Array.getElem?_eq_none (by omega)] at hb; cases hb
  exact ⟨D, ⟨es, cl, by rw [u.block m hlt hS]; exact hb, r⟩, h2⟩
theorem PlacesAt.lt {w : World} {m : Nat} {l : List (Int × Int)} (h : PlacesAt w m l) : m < w.heap.size := by
  obtain ⟨D, h, _⟩ := h
  exact h.lt
theorem PlacesAt.ne_blk {w : World} {m g : Nat} {l : List (Int × Int)} {vs : List Value} {t : TypeId} (h : PlacesAt w m l) (k : Blk w g vs t) : g ≠ m := by
  rintro rfl
  obtain ⟨D, ⟨es, cl, hb, r⟩, _⟩ := h
  unfold Blk at k
  rw [k] at hb
  cases hb

/-- what a phase does -/
def phasesV (a : Nat) : List Value :=
  [.nilFunc, .nilFunc, .func (.func 47) #[.pointer (some ⟨a, 0, none⟩)] #[], .func (.func 79) #[.pointer (some ⟨a, 0, none⟩)] #[], .func (.func 80) #[.pointer (some ⟨a, 0, none⟩)] #[],
   .func (.func 81) #[.pointer (some ⟨a, 0, none⟩)] #[], .func (.func 82) #[.pointer (some ⟨a, 0, none⟩)] #[], .func (.func 83) #[.pointer (some ⟨a, 0, none⟩)] #[],
   .func (.func 84) #[.pointer (some ⟨a, 0, none⟩)] #[], .func (.func 85) #[.pointer (some ⟨a, 0, none⟩)] #[], .nilFunc]
def headV (a ra ca : Nat) (s : AS) (rv wv mv : Value) : List Value :=
  [.pointer (some ⟨ra, 0, none⟩), .pointer (some ⟨ca, 0, none⟩), .int .u64 s.snap, rv, wv, .int .i64 s.phase, .int .i64 s.thn, .int .u64 s.addr, .int .u64 s.word, .int .u64 s.found, .int .i64 s.at_, mv] ++ phasesV a

/-- an attempt: its block a, the row's ra, the clock's ca; F: what else it owns -/
structure AttV (w : World) (a ra ca : Nat) (s : AS) (F : List Nat) (rv wv mv : Value) : Prop where
  head : Blk w a (headV a ra ca s rv wv mv) 66
  rd : OwnP w rv s.reads F
  wr : OwnP w wv s.writes F
  apart : ∀ g, rv.ownBlock = some g → wv.ownBlock ≠ some g
  pl : s.phase ≠ 10 → ∃ m, mv = .map (some m) ∧ m ∈ F ∧ PlacesAt w m s.writes
def AttAt (w : World) (a ra ca : Nat) (s : AS) (F : List Nat) : Prop := ∃ rv wv mv, AttV w a ra ca s F rv wv mv

theorem AttV.upd {w w' : World} {a ra ca : Nat} {s : AS} {F S : List Nat} {rv wv mv : Value} (h : AttV w a ra ca s F rv wv mv) (u : Upd S w w') (ha : a ∉ S) (hF : ∀ g ∈ F, g ∉ S) : AttV w' a ra ca s F rv wv mv :=
  ⟨h.head.upd u ha, h.rd.upd u (fun g hg e => hF g (h.rd.inF g e) hg), h.wr.upd u (fun g hg e => hF g (h.wr.inF g e) hg), h.apart, fun hp => let ⟨m, e, hm, p⟩ := h.pl hp; ⟨m, e, hm, p.upd u (hF m hm)⟩⟩
theorem AttAt.upd {w w' : World} {a ra ca : Nat} {s : AS} {F S : List Nat} (h : AttAt w a ra ca s F) (u : Upd S w w') (ha : a ∉ S) (hF : ∀ g ∈ F, g ∉ S) : AttAt w' a ra ca s F :=
  let ⟨_, _, _, h⟩ := h; ⟨_, _, _, h.upd u ha hF⟩
/-- the attempt's own block is none of what it owns -/
theorem AttV.not_rd {w : World} {a ra ca : Nat} {s : AS} {F : List Nat} {rv wv mv : Value} (h : AttV w a ra ca s F rv wv mv) : rv.ownBlock ≠ some a := h.rd.ne_blk h.head (by decide)
theorem AttV.not_wr {w : World} {a ra ca : Nat} {s : AS} {F : List Nat} {rv wv mv : Value} (h : AttV w a ra ca s F rv wv mv) : wv.ownBlock ≠ some a := h.wr.ne_blk h.head (by decide)

/-- a turn among the results -/
theorem turn_results {fn : Func} (k : Nat) (hr : fn.results = #[.cell k 36]) (t : Array Value) (w : World) (rb : Nat) (T : Trn) (h2 : t.getD k undef = .pointer (some ⟨rb, 0, none⟩)) (hb : Blk w rb T.cells 36) :
    (results fn t).run Try.prog w = .ok T.val w := by
  have c0 := hb.cell 0 rfl
  have c1 := hb.cell 1 rfl
  have c2 := hb.cell 2 rfl
  have c3 := hb.cell 3 rfl
  have c4 := hb.cell 4 rfl
  have c5 := hb.cell 5 rfl
  have c6 := hb.cell 6 rfl
  have c7 := hb.cell 7 rfl
  have h2' : t[k]?.getD undef = .pointer (some ⟨rb, 0, none⟩) := by simpa using h2
  simp [results, hr, h2', go_sem, c0, c1, c2, c3, c4, c5, c6, c7, Trn.val]
theorem turn_results2 {fn : Func} (k m : Nat) (hr : fn.results = #[.cell k 36, .tmp m]) (t : Array Value) (w : World) (rb : Nat) (T : Trn) (v : Value) (h2 : t.getD k undef = .pointer (some ⟨rb, 0, none⟩)) (h3 : t.getD m undef = v) (hb : Blk w rb T.cells 36) :
    (results fn t).run Try.prog w = .ok (.tuple #[T.val, v]) w := by
  have c0 := hb.cell 0 rfl
  have c1 := hb.cell 1 rfl
  have c2 := hb.cell 2 rfl
  have c3 := hb.cell 3 rfl
  have c4 := hb.cell 4 rfl
  have c5 := hb.cell 5 rfl
  have c6 := hb.cell 6 rfl
  have c7 := hb.cell 7 rfl
  have h2' : t[k]?.getD undef = .pointer (some ⟨rb, 0, none⟩) := by simpa using h2
  have h3' : t[m]?.getD undef = v := by simpa using h3
  simp [results, hr, h2', h3', go_sem, c0, c1, c2, c3, c4, c5, c6, c7, Trn.val]
/-- the eight cells of a turn, stored -/
theorem turn_set {w : World} {rb : Nat} {z : List Value} (h : Blk w rb z 36) (hz : z.length = 8) (T : Trn) :
    Blk ((((((((w.setCell ⟨rb, 0, none⟩ (.int .i64 T.out)).setCell ⟨rb, 1, none⟩ (.int .u64 T.word)).setCell ⟨rb, 2, none⟩ (.int .i64 0)).setCell ⟨rb, 3, none⟩ (.int .i64 T.ev.kind)).setCell ⟨rb, 4, none⟩ (.int .u64 T.ev.addr)).setCell ⟨rb, 5, none⟩ (.int .u64 T.ev.word)).setCell ⟨rb, 6, none⟩ (.bool T.ev.own)).setCell ⟨rb, 7, none⟩ (.int .i64 0)) rb T.cells 36 := by
  obtain ⟨z0, z1, z2, z3, z4, z5, z6, z7, rfl⟩ : ∃ a b c d e f g i, z = [a, b, c, d, e, f, g, i] := by
    match z, hz with
    | [a, b, c, d, e, f, g, i], _ => exact ⟨a, b, c, d, e, f, g, i, rfl⟩
  exact (((((((h.set 0 _).set 1 _).set 2 _).set 3 _).set 4 _).set 5 _).set 6 _).set 7 _
def turn0 : List Value := trnNone.cells

theorem going_code (w : World) : Calls Try.prog 86 #[] w fun e w' => e = .returned going.val ∧ Upd [] w w' := by
  refine calls_all fun K hK => ?_
  go_enter Try.func86, Try.ntmps86
  go_wp2
  exact bodyPost_ret (turn_results 0 rfl _ _ w.heap.size going rfl (Blk.new w _ _)) rfl (hK _ _ ⟨rfl, (Upd.refl _ _).alloc _⟩)

theorem loadW_eq (ws : List Int) (x : Int) : (rLoad ws x).1 = loadW ws x := by unfold rLoad loadW; split <;> rfl

section
variable {w : World} {a ra ca rb : Nat} {s : AS} {F : List Nat} {rv wv mv : Value} {ws : List Int} {acc : Int}
theorem AttV.ne_row (h : AttV w a ra ca s F rv wv mv) (hR : RowAt w ra rb ws acc) : a ≠ ra ∧ a ≠ rb := by
  obtain ⟨cap, h1, sp, h2, _⟩ := hR.head
  exact ⟨fun e => by subst e; exact absurd (h.head.inj h1).2 (by decide), fun e => by subst e; exact absurd (h.head.inj h2).2 (by decide)⟩

theorem AttV.put (h : AttV w a ra ca s F rv wv mv) (o : Nat) (v : Value) (s' : AS) (hs : (headV a ra ca s rv wv mv).set o v = headV a ra ca s' rv wv mv) (hr : s'.reads = s.reads) (hw : s'.writes = s.writes) (hp : s'.phase ≠ 10 → s.phase ≠ 10) :
    AttV (w.setCell ⟨a, o, none⟩ v) a ra ca s' F rv wv mv := by
  have u : Upd [a] w (w.setCell ⟨a, o, none⟩ v) := (Upd.refl _ _).setCell (.inl (by simp)) _
  refine ⟨hs ▸ h.head.set o v, ?_, ?_, h.apart, fun hk => ?_⟩
  · rw [hr]; exact h.rd.upd u (fun g hg e => by simp at hg; subst hg; exact h.not_rd e)
  · rw [hw]; exact h.wr.upd u (fun g hg e => by simp at hg; subst hg; exact h.not_wr e)
  · obtain ⟨m, e, hm, p⟩ := h.pl (hp hk)
    refine ⟨m, e, hm, ?_⟩
    rw [hw]
    exact p.upd u (by simpa using (p.ne_blk h.head).symm)
theorem AttV.setSnap (h : AttV w a ra ca s F rv wv mv) (x : Int) : AttV (w.setCell ⟨a, 2, none⟩ (.int .u64 x)) a ra ca { s with snap := x } F rv wv mv := h.put 2 _ _ rfl rfl rfl id
theorem AttV.setPhase (h : AttV w a ra ca s F rv wv mv) (x : Int) (hp : s.phase ≠ 10) : AttV (w.setCell ⟨a, 5, none⟩ (.int .i64 x)) a ra ca { s with phase := x } F rv wv mv := h.put 5 _ _ rfl rfl rfl fun _ => hp
theorem AttV.setThen (h : AttV w a ra ca s F rv wv mv) (x : Int) : AttV (w.setCell ⟨a, 6, none⟩ (.int .i64 x)) a ra ca { s with thn := x } F rv wv mv := h.put 6 _ _ rfl rfl rfl id
theorem AttV.setAddr (h : AttV w a ra ca s F rv wv mv) (x : Int) : AttV (w.setCell ⟨a, 7, none⟩ (.int .u64 x)) a ra ca { s with addr := x } F rv wv mv := h.put 7 _ _ rfl rfl rfl id
theorem AttV.setWord (h : AttV w a ra ca s F rv wv mv) (x : Int) : AttV (w.setCell ⟨a, 8, none⟩ (.int .u64 x)) a ra ca { s with word := x } F rv wv mv := h.put 8 _ _ rfl rfl rfl id
theorem AttV.setFound (h : AttV w a ra ca s F rv wv mv) (x : Int) : AttV (w.setCell ⟨a, 9, none⟩ (.int .u64 x)) a ra ca { s with found := x } F rv wv mv := h.put 9 _ _ rfl rfl rfl id
theorem AttV.setAt (h : AttV w a ra ca s F rv wv mv) (x : Int) : AttV (w.setCell ⟨a, 10, none⟩ (.int .i64 x)) a ra ca { s with at_ := x } F rv wv mv := h.put 10 _ _ rfl rfl rfl id

/-- the result block's stores leave the rest -/
theorem upd8 {S : List Nat} {w w' : World} {rb : Nat} (h : Upd S w w') (hr : w.heap.size ≤ rb) (v0 v1 v2 v3 v4 v5 v6 v7 : Value) :
    Upd S w ((((((((w'.setCell ⟨rb, 0, none⟩ v0).setCell ⟨rb, 1, none⟩ v1).setCell ⟨rb, 2, none⟩ v2).setCell ⟨rb, 3, none⟩ v3).setCell ⟨rb, 4, none⟩ v4).setCell ⟨rb, 5, none⟩ v5).setCell ⟨rb, 6, none⟩ v6).setCell ⟨rb, 7, none⟩ v7) :=
  (((((((h.setCell (.inr hr) _).setCell (.inr hr) _).setCell (.inr hr) _).setCell (.inr hr) _).setCell (.inr hr) _).setCell (.inr hr) _).setCell (.inr hr) _).setCell (.inr hr) _
theorem at8 {w' : World} {rb : Nat} (v0 v1 v2 v3 v4 v5 v6 v7 : Value) :
    Upd [rb] w' ((((((((w'.setCell ⟨rb, 0, none⟩ v0).setCell ⟨rb, 1, none⟩ v1).setCell ⟨rb, 2, none⟩ v2).setCell ⟨rb, 3, none⟩ v3).setCell ⟨rb, 4, none⟩ v4).setCell ⟨rb, 5, none⟩ v5).setCell ⟨rb, 6, none⟩ v6).setCell ⟨rb, 7, none⟩ v7) := by
  (repeat (refine Upd.setCell ?_ (Or.inl (by simp)) _))
  exact Upd.refl _ _


/-- the log's own block is no map -/
theorem OwnP.ne_map {v : Value} {l : List (Int × Int)} {m : Nat} {k : List (Int × Int)} (h : OwnP w v l F) (p : PlacesAt w m k) : v.ownBlock ≠ some m := by
  intro e
  obtain ⟨D, ⟨es, cl, hb, r⟩, _⟩ := p
  rcases h.own.2 with ⟨rfl, _⟩ | ⟨g, cap, cur, rfl, _, hh, _⟩
  · simp [Value.ownBlock] at e
  · simp [Value.ownBlock] at e
    subst e
    rw [hb] at hh; cases hh

theorem AttV.setReads {w' : World} {v' : Value} {l' : List (Int × Int)} {G : List Nat} (h : AttV w a ra ca s F rv wv mv) (u : Upd rv.ownBlock.toList w w') (h' : OwnP w' v' l' G) (hF : ∀ g ∈ F, g ∈ G) (hv : v'.ownBlock = rv.ownBlock ∨ ∀ g, v'.ownBlock = some g → w.heap.size ≤ g) :
    AttV (w'.setCell ⟨a, 3, none⟩ v') a ra ca { s with reads := l' } G v' wv mv := by
  have ua : Upd [a] w' (w'.setCell ⟨a, 3, none⟩ v') := (Upd.refl _ _).setCell (.inl (by simp)) _
  have hr : ∀ g ∈ rv.ownBlock.toList, rv.ownBlock = some g := fun g hg => by simpa using hg
  have hh : Blk w' a (headV a ra ca s rv wv mv) 66 := h.head.upd u (fun hg => h.not_rd (hr a hg))
  have hwr : OwnP w' wv s.writes F := h.wr.upd u (fun g hg e => h.apart g (hr g hg) e)
  refine ⟨hh.set 3 v', h'.upd ua (fun g hg e => ?_), (hwr.upd ua (fun g hg e => ?_)).mono hF, fun g hg e => ?_, fun hk => ?_⟩
  · simp at hg; subst hg; exact h'.ne_blk hh (by decide) e
  · simp at hg; subst hg; exact hwr.ne_blk hh (by decide) e
  · rcases hv with hv | hv
    · exact h.apart g (hv ▸ hg) e
    · have := hv g hg; have := h.wr.lt e; omega
  · obtain ⟨m, e, hm, p⟩ := h.pl hk
    exact ⟨m, e, hF m hm, (p.upd u (fun hg => h.rd.ne_map p (hr m hg))).upd ua (by simpa using (p.ne_blk h.head).symm)⟩

theorem info_cell : (Try.prog.info? 53).map (fun i => (i.zero, i.size, i.bytes)) = some (some (.agg #[.int .u64 0, .int .u64 0]), 2, 16) := by kernel_rfl
/-- append of one cell -/
theorem app_pair {W : World} {v : Value} {l : List (Int × Int)} (h : OwnP W v l F) (x y : Int) (hl : l.length < 100000) :
    ∃ v' w' G, (Builtin.append_ #[49, 49] 49 #[v, .slice (some ⟨W.heap.size, 0, none⟩) 1 1]).run Try.prog (W.alloc (.cells #[.int .u64 x, .int .u64 y] 53)) = .ok v' w' ∧
      OwnP w' v' (l ++ [(x, y)]) G ∧ Upd v.ownBlock.toList (W.alloc (.cells #[.int .u64 x, .int .u64 y] 53)) w' ∧ (v'.ownBlock = v.ownBlock ∨ v'.ownBlock = some (W.heap.size + 1)) ∧
      (∀ g ∈ F, g ∈ G) ∧ (∀ g ∈ G, g ∈ F ∨ W.heap.size < g ∧ g < w'.heap.size) := by
  obtain ⟨i0, hi, hz0, hz1, hz2⟩ := info_parts info_cell
  have hW : OwnP (W.alloc (.cells #[.int .u64 x, .int .u64 y] 53)) v l F := h.upd ((Upd.refl [] W).alloc _) (by simp)
  obtain ⟨v', w', hr, ho, hg, hn, hat⟩ := run_append_own_at (P := Try.prog) (W.alloc (.cells #[.int .u64 x, .int .u64 y] 53)) 0 49 49 53 i0 (.agg #[.int .u64 0, .int .u64 0]) 2 16 Try.underlying49 hi hz0 hz1 hz2 rfl (by decide) v l.length (pcells l) hW.own
    ⟨W.heap.size, 0, none⟩ 1 1 [.int .u64 x, .int .u64 y] rfl (news_new _ 53 rfl) (by simp [Value.oneCell']) (by unfold maxLen; omega) (by omega) (Nat.zero_le _)
  rw [World.size_alloc] at hat
  have ho' : w'.ownsRow 0 53 2 v' (l ++ [(x, y)]).length (pcells (l ++ [(x, y)])) := by rw [pcells_snoc]; simpa using ho
  rcases hat with e | e
  · exact ⟨v', w', F, hr, ⟨ho', fun e => absurd e (by simp), fun g hg' => h.inF g (e ▸ hg')⟩, Upd.own hg, .inl e, fun _ h => h, fun _ h => .inl h⟩
  · refine ⟨v', w', (W.heap.size + 1) :: F, hr, ⟨ho', fun e => absurd e (by simp), fun g hg' => ?_⟩, Upd.own hg, .inr e, fun g h => List.mem_cons_of_mem _ h, fun g hg' => ?_⟩
    · rw [e] at hg'; cases hg'; simp
    · rcases List.mem_cons.1 hg' with k | k
      · have := own_blocks ho' (W.heap.size + 1) (by simp [e])
        exact .inr ⟨by omega, by omega⟩
      · exact .inl k
end

/-! what is shared -/
structure SX where
  ra : Nat
  rb : Nat
  ca : Nat
  cr : Nat
  cb : Nat
def SX.foot (X : SX) : List Nat := [X.ra, X.rb, X.ca, X.cr, X.cb]
structure SX.At (X : SX) (w : World) (sh : Sh) (acc st : Int) : Prop where
  row : RowAt w X.ra X.rb sh.row acc
  clk : ClockAt w X.ca X.cr X.cb sh.clock st
  a1 : X.ra ≠ X.ca ∧ X.ra ≠ X.cr ∧ X.ra ≠ X.cb
  a2 : X.rb ≠ X.ca ∧ X.rb ≠ X.cr ∧ X.rb ≠ X.cb
  wide : WideSh sh
theorem SX.At.lt {X : SX} {w : World} {sh : Sh} {acc st : Int} (h : X.At w sh acc st) : ∀ g ∈ X.foot, g < w.heap.size := by
  have := h.row.lta; have := h.row.ltb; have := h.clk.ltc; have := h.clk.lta; have := h.clk.ltb
  simp only [SX.foot, List.mem_cons, List.not_mem_nil, or_false]
  rintro g (rfl | rfl | rfl | rfl | rfl) <;> assumption
theorem SX.At.upd {X : SX} {w w' : World} {sh : Sh} {acc st : Int} {S : List Nat} (h : X.At w sh acc st) (u : Upd S w w') (hS : ∀ g ∈ X.foot, g ∉ S) : X.At w' sh acc st :=
  ⟨h.row.upd u (hS _ (by simp [SX.foot])) (hS _ (by simp [SX.foot])), h.clk.upd u (hS _ (by simp [SX.foot])) (hS _ (by simp [SX.foot])) (hS _ (by simp [SX.foot])), h.a1, h.a2, h.wide⟩

/-- an attempt that is going on over what is shared -/
structure Live (w : World) (X : SX) (sh : Sh) (acc st : Int) (a : Nat) (s : AS) (F : List Nat) (rv wv mv : Value) : Prop where
  att : AttV w a X.ra X.ca s F rv wv mv
  sh : X.At w sh acc st
  sep : ∀ g ∈ F, g < w.heap.size ∧ g ∉ X.foot ∧ g ≠ a
  wide : Wide s

section
variable {w w' : World} {X : SX} {sh : Sh} {acc st : Int} {a : Nat} {s : AS} {F : List Nat} {rv wv mv : Value}
theorem Live.out (h : Live w X sh acc st a s F rv wv mv) : a ∉ X.foot := by
  have hh := h.att.head
  obtain ⟨cap, h1, sp, h2, _⟩ := h.sh.row.head
  obtain ⟨_, r⟩ := h.sh.clk.row
  obtain ⟨cap', h3, sp', h4, _⟩ := r.head
  have h5 := h.sh.clk.head
  simp only [SX.foot, List.mem_cons, List.not_mem_nil, or_false, not_or]
  exact ⟨fun e => by subst e; exact absurd (hh.inj h1).2 (by decide), fun e => by subst e; exact absurd (hh.inj h2).2 (by decide), fun e => by subst e; exact absurd (hh.inj h5).2 (by decide), fun e => by subst e; exact absurd (hh.inj h3).2 (by decide), fun e => by subst e; exact absurd (hh.inj h4).2 (by decide)⟩
theorem Live.lt (h : Live w X sh acc st a s F rv wv mv) : a < w.heap.size := h.att.head.lt
theorem Live.upd {S : List Nat} (h : Live w X sh acc st a s F rv wv mv) (u : Upd S w w') (ha : a ∉ S) (hF : ∀ g ∈ F, g ∉ S) (hX : ∀ g ∈ X.foot, g ∉ S) : Live w' X sh acc st a s F rv wv mv :=
  ⟨h.att.upd u ha hF, h.sh.upd u hX, fun g hg => ⟨Nat.lt_of_lt_of_le (h.sep g hg).1 u.size, (h.sep g hg).2⟩, h.wide⟩
theorem Live.upd0 (h : Live w X sh acc st a s F rv wv mv) (u : Upd [] w w') : Live w' X sh acc st a s F rv wv mv := h.upd u (by simp) (by simp) (by simp)
theorem Live.upd1 {b : Nat} (h : Live w X sh acc st a s F rv wv mv) (u : Upd [b] w w') (hb : w.heap.size ≤ b) : Live w' X sh acc st a s F rv wv mv :=
  h.upd u (by have := h.lt; simp; omega) (fun g hg => by have := (h.sep g hg).1; simp; omega) (fun g hg => by have := h.sh.lt g hg; simp; omega)

/-- at most one access -/
def Once (acc st acc' st' : Int) : Prop := (acc' = acc ∧ st' = st) ∨ (acc' = up64 acc ∧ st' = st) ∨ (acc' = acc ∧ st' = wrap64 (st + 1))

/-- a step has been done -/
def StepOk (w : World) (X : SX) (acc st : Int) (a : Nat) (F : List Nat) (T : Trn) (s' : AS) (sh' : Sh) (e : Ending) (w' : World) : Prop :=
  e = .returned T.val ∧ ∃ F' acc' st' rv' wv' mv', Live w' X sh' acc' st' a s' F' rv' wv' mv' ∧ Upd (a :: (F ++ X.foot)) w w' ∧ (∀ g ∈ F', g ∈ F ∨ w.heap.size ≤ g) ∧ Once acc st acc' st'

theorem Live.row (h : Live w X sh acc st a s F rv wv mv) {s' : AS} {rv' wv' mv' : Value} {ws : List Int} {acc' : Int} (u : Upd [a, X.ra, X.rb] w w') (A : AttV w' a X.ra X.ca s' F rv' wv' mv') (R : RowAt w' X.ra X.rb ws acc') (hw : ∀ v ∈ ws, 0 ≤ v ∧ v < 18446744073709551616) (hs : Wide s') :
    Live w' X ⟨ws, sh.clock⟩ acc' st a s' F rv' wv' mv' := by
  have ho := h.out
  simp only [SX.foot, List.mem_cons, List.not_mem_nil, or_false, not_or] at ho
  have a1 := h.sh.a1
  have a2 := h.sh.a2
  refine ⟨A, ⟨R, h.sh.clk.upd u ?_ ?_ ?_, a1, a2, ⟨hw, h.sh.wide.clock⟩⟩, fun g hg => ⟨Nat.lt_of_lt_of_le (h.sep g hg).1 u.size, (h.sep g hg).2⟩, hs⟩
  · simp; omega
  · simp; omega
  · simp; omega
theorem Live.clk (h : Live w X sh acc st a s F rv wv mv) {s' : AS} {rv' wv' mv' : Value} {c st' : Int} (u : Upd [a, X.ca, X.cr, X.cb] w w') (A : AttV w' a X.ra X.ca s' F rv' wv' mv') (C : ClockAt w' X.ca X.cr X.cb c st') (hc : 0 ≤ c ∧ c < 18446744073709551616) (hs : Wide s') :
    Live w' X ⟨sh.row, c⟩ acc st' a s' F rv' wv' mv' := by
  have ho := h.out
  simp only [SX.foot, List.mem_cons, List.not_mem_nil, or_false, not_or] at ho
  have a1 := h.sh.a1
  have a2 := h.sh.a2
  refine ⟨A, ⟨h.sh.row.upd u ?_ ?_, C, a1, a2, ⟨h.sh.wide.row, hc⟩⟩, fun g hg => ⟨Nat.lt_of_lt_of_le (h.sep g hg).1 u.size, (h.sep g hg).2⟩, hs⟩
  · simp; omega
  · simp; omega
theorem foot_row : ∀ x ∈ [a, X.ra, X.rb], x ∈ a :: (F ++ X.foot) := by simp [SX.foot]
theorem foot_clk : ∀ x ∈ [a, X.ca, X.cr, X.cb], x ∈ a :: (F ++ X.foot) := by simp [SX.foot]

/-- the turn is written into the result's block, and the step is done -/
theorem fin_step {w2 : World} {sh0 sh' : Sh} {acc' st' : Int} {s0 s' : AS} {F' : List Nat} {rv0 wv0 mv0 rv' wv' mv' : Value} {T : Trn} {rb : Nat} (h : Live w X sh0 acc st a s0 F rv0 wv0 mv0) (hrb : w.heap.size ≤ rb) (hN : Live w2 X sh' acc' st' a s' F' rv' wv' mv') (u : Upd (a :: (F ++ X.foot)) w w2) (hF : ∀ g ∈ F', g ∈ F ∨ w.heap.size ≤ g ∧ g ≠ rb) (ho : Once acc st acc' st') (v0 v1 v2 v3 v4 v5 v6 v7 : Value) :
    StepOk w X acc st a F T s' sh' (.returned T.val) ((((((((w2.setCell ⟨rb, 0, none⟩ v0).setCell ⟨rb, 1, none⟩ v1).setCell ⟨rb, 2, none⟩ v2).setCell ⟨rb, 3, none⟩ v3).setCell ⟨rb, 4, none⟩ v4).setCell ⟨rb, 5, none⟩ v5).setCell ⟨rb, 6, none⟩ v6).setCell ⟨rb, 7, none⟩ v7) := by
  refine ⟨rfl, F', acc', st', rv', wv', mv', hN.upd (at8 _ _ _ _ _ _ _ _) ?_ ?_ ?_, upd8 u hrb _ _ _ _ _ _ _ _, fun g hg => (hF g hg).imp id (fun h => by omega), ho⟩
  · have := h.lt; simp; omega
  · intro g hg
    have := hF g hg
    have hs := h.sep g
    simp
    rcases this with k | k
    · have := (hs k).1; omega
    · omega
  · intro g hg
    have := h.sh.lt g hg
    simp; omega

theorem AttV.over {ra ca : Nat} {l1 l2 : List Value} (hb : Blk w a (headV a ra ca overS (.slice none 0 0) (.slice none 0 0) (.map none)) 66) (F : List Nat) : AttV w a ra ca overS F (.slice none 0 0) (.slice none 0 0) (.map none) :=
  ⟨hb, ⟨World.ownsRow_nil _ _ _ _, fun _ => rfl, by simp [Value.ownBlock]⟩, ⟨World.ownsRow_nil _ _ _ _, fun _ => rfl, by simp [Value.ownBlock]⟩, by simp [Value.ownBlock], fun h => absurd rfl h⟩
theorem Live.keep (h : Live w X sh acc st a s F rv wv mv) {s' : AS} {rv' wv' mv' : Value} {F' : List Nat} (u : Upd (a :: F) w w') (A : AttV w' a X.ra X.ca s' F' rv' wv' mv') (hF : ∀ g ∈ F', g ∈ F ∨ w.heap.size ≤ g ∧ g < w'.heap.size) (hs : Wide s') : Live w' X sh acc st a s' F' rv' wv' mv' := by
  have ho := h.out
  refine ⟨A, h.sh.upd u (fun g hg hm => ?_), fun g hg => ?_, hs⟩
  · rcases List.mem_cons.1 hm with e | e
    · subst e; exact ho hg
    · exact (h.sep g e).2.1 hg
  · rcases hF g hg with k | k
    · exact ⟨Nat.lt_of_lt_of_le (h.sep g k).1 u.size, (h.sep g k).2⟩
    · refine ⟨k.2, fun hm => ?_, fun e => ?_⟩
      · have := h.sh.lt g hm; omega
      · have := h.lt; omega
end
end Go.Proofs.Ythfeljongackcaa
