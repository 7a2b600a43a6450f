/- Regions that draw their order: all operations come to the same in every world of a family, but for one store, behind which only copies may come up late. One walk in the order of the text serves every order. The condition: the region's own shape. -/
import Derived.Test.YtfldpejifpmapaaDoorHeadTail
set_option linter.unusedSimpArgs false
set_option linter.unusedVariables false
set_option maxRecDepth 100000
namespace Go.Proofs.YtfldpejifpmapaaDoor
open Go.RowKit

/-- a copy: it looks at no memory -/
def pureOp (o : Oper) : Bool := match o.op with | .move _ => true | .assign _ => true | .pick _ _ _ => true | _ => false

theorem pure_run {P : Program} {o : Oper} {ρ : Operand → Value} (hp : pureOp o = true) {w w1 : World} {n : Next} (h : (execOp ρ o).run P w = .ok n w1) : ∃ u, n = .value u ∧ ∀ w', (execOp ρ o).run P w' = .ok (.value u) w' := by
  unfold execOp at h ⊢
  unfold pureOp at hp
  cases ho : o.op <;> rw [ho] at hp <;> simp only [Bool.false_eq_true] at hp <;> simp only [ho] at h ⊢
  case move x => simp only [Sem.run_pure, Result.ok.injEq] at h ⊢; exact ⟨_, h.1.symm, by simp⟩
  case assign x => simp only [Sem.run_pure, Result.ok.injEq] at h ⊢; exact ⟨_, h.1.symm, by simp⟩
  case pick c x y =>
    cases hc : ρ c <;> simp only [hc, asBool] at h ⊢
    case bool b => simp only [Sem.run_bind, Sem.run_pure, Result.andThen_ok, Result.ok.injEq] at h ⊢; exact ⟨_, h.1.symm, by simp⟩
    all_goals first | (simp [go_sem] at h) | (cases h) | skip

section
variable {P : Program} {ops : Array Oper} {md : Region.Mode} {C0 C1 : World → Prop} {s : Nat}

/-- the store waits for it, by way of others -/
def anchored (md : Region.Mode) (ops : Array Oper) (s : Nat) : Nat → Nat → Bool
  | 0, _ => false
  | f + 1, i => (List.range (s + 1)).any fun j => decide (i < j) && Region.waitsFor md ops j i && (j == s || anchored md ops s f j)
/-- what is no copy, the store waits for -/
def soakB (md : Region.Mode) (ops : Array Oper) (s : Nat) : Bool :=
  (List.range ops.size).all fun i => i == s || (match ops[i]? with | some o => pureOp o | none => true) || anchored md ops s (s + 1) i
def storeB (md : Region.Mode) (ops : Array Oper) (s : Nat) : Bool :=
  Region.noSelect ops && decide (s < ops.size) && soakB md ops s && Region.lexFrom md ops ops.size 0 (Array.replicate ops.size false)

structure Shut (md : Region.Mode) (ops : Array Oper) (listed : Array Bool) : Prop where
  size : listed.size = ops.size
  closed : ∀ j oj, ops[j]? = some oj → listed.getD j false = true → ∀ e ∈ oj.after, Region.binds md e = true → listed.getD e.on false = true
theorem Shut.set {i : Nat} {listed : Array Bool} (inv : Shut md ops listed) (hi : i ∈ Region.ready md ops listed) : Shut md ops (listed.setIfInBounds i true) := by
  obtain ⟨_, oi, hoi, hall⟩ := mem_ready.1 hi
  refine ⟨by simp [inv.size], fun j oj hj hl e he hb => ?_⟩
  by_cases hij : i = j
  · subst hij
    have : oj = oi := Option.some.inj (hj.symm.trans hoi)
    subst this
    exact getD_set_true (hall e he hb)
  · rw [getD_set_ne false hij] at hl
    exact getD_set_true (inv.closed j oj hj hl e he hb)
theorem anchored_listed {listed : Array Bool} (inv : Shut md ops listed) (hs : listed.getD s false = true) : ∀ (f i : Nat), anchored md ops s f i = true → listed.getD i false = true
  | 0, _, h => by simp [anchored] at h
  | f + 1, i, h => by
    rw [anchored] at h
    obtain ⟨j, _, hj⟩ := List.any_eq_true.1 h
    simp only [Bool.and_eq_true, Bool.or_eq_true, beq_iff_eq] at hj
    obtain ⟨oj, hoj, e, he, hb, hon⟩ := Region.waitsFor_spec hj.1.2
    have hlj : listed.getD j false = true := by
      rcases hj.2 with h1 | h1
      · rw [h1]; exact hs
      · exact anchored_listed inv hs f j h1
    rw [← hon]
    exact inv.closed j oj hoj hlj e he hb

/-- one operation: the store moves the class on, all else is quiet in the first class -/
def stepG (P : Program) (C0 C1 : World → Prop) (s i : Nat) (o : Oper) (a : Act) (v : Value) : Prop :=
  if i = s then v = undef ∧ ∀ w, C0 w → ∃ w', (execOp a.eval o).run P w = .ok .skip w' ∧ C1 w' else ∀ w, C0 w → o.quietAt P a C0 w v
def gOp (P : Program) (ops : Array Oper) (C0 C1 : World → Prop) (s i : Nat) (K : Act → Prop) (a : Act) : Prop :=
  match ops[i]? with
  | none => K a
  | some o => if Region.wanted o (yielded ops a.tmps) then ∃ v, stepG P C0 C1 s i o a v ∧ K (a.put o.dst v) else i ≠ s ∧ K (a.put o.dst undef)
theorem gOp_mono {i : Nat} {a : Act} {K K' : Act → Prop} (h : ∀ a, K a → K' a) (hh : gOp P ops C0 C1 s i K a) : gOp P ops C0 C1 s i K' a := by
  unfold gOp at *
  split
  · exact h _ (by simpa [*] using hh)
  · rename_i o ho
    simp only [ho] at hh
    split
    · rename_i hw; simp only [hw, if_true] at hh; obtain ⟨v, h1, h2⟩ := hh; exact ⟨v, h1, h _ h2⟩
    · rename_i hw; simp only [hw] at hh; exact ⟨hh.1, h _ hh.2⟩

def wpAnyG (P : Program) (md : Region.Mode) (ops : Array Oper) (C0 C1 : World → Prop) (s : Nat) (Q : Act → Prop) : Nat → Array Bool → Act → Prop
  | 0, listed, a => Region.ready md ops listed = [] ∧ listed.getD s false = true ∧ Q a
  | fuel + 1, listed, a => Region.ready md ops listed ≠ [] ∧ ∀ i ∈ Region.ready md ops listed, gOp P ops C0 C1 s i (wpAnyG P md ops C0 C1 s Q fuel (listed.setIfInBounds i true)) a

theorem wpAny_of_G {Q : Act → Prop} {Q' : Exit → Act → World → Prop} {w0 : World} (h0 : C0 w0) (hsk : soakB md ops s = true) (hs : s < ops.size) (hQ : ∀ a w, C1 w → Q a → Q' .normal a w) :
    ∀ (fuel : Nat) (listed : Array Bool) (a : Act) (w : World), Shut md ops listed → (if listed.getD s false = true then C1 w else C0 w) → wpAnyG P md ops C0 C1 s Q fuel listed a → wpAny P md ops Q' fuel listed a w
  | 0, listed, a, w, _, hw, h => by
    rw [if_pos h.2.1] at hw
    exact ⟨h.1, hQ _ _ hw h.2.2⟩
  | fuel + 1, listed, a, w, inv, hw, h => by
    refine ⟨fun h1 => absurd h1 h.1, fun i hi => ?_⟩
    have hg := h.2 i hi
    have inv' := inv.set hi
    obtain ⟨hun, oi, hoi, _⟩ := mem_ready.1 hi
    have hun' := getD_both hun
    have hilt : i < ops.size := (Array.getElem?_eq_some_iff.1 hoi).1
    have ih := fun a' w' hw' h' => wpAny_of_G (Q := Q) (Q' := Q') h0 hsk hs hQ fuel (listed.setIfInBounds i true) a' w' inv' hw' h'
    unfold gOp at hg
    unfold wpOp
    simp only [hoi] at hg ⊢
    by_cases his : i = s
    · subst his
      rw [hun', if_neg (by simp)] at hw
      have hset : (listed.setIfInBounds i true).getD i false = true := by
        simp [inv.size, hilt]
      split
      · rename_i hwant
        simp only [hwant, if_true] at hg
        obtain ⟨v, h1, h2⟩ := hg
        unfold stepG at h1
        rw [if_pos rfl] at h1
        obtain ⟨rfl, h3⟩ := h1
        obtain ⟨w', hr, hc⟩ := h3 w hw
        refine .inl ?_
        unfold Oper.wp
        rw [hr]
        exact ih _ _ (by rw [if_pos hset]; exact hc) h2
      · rename_i hwant
        simp only [hwant] at hg
        exact absurd rfl hg.1
    · have hset : (listed.setIfInBounds i true).getD s false = listed.getD s false := getD_set_ne false his
      split
      · rename_i hwant
        simp only [hwant, if_true] at hg
        obtain ⟨v, h1, h2⟩ := hg
        unfold stepG at h1
        rw [if_neg his] at h1
        refine .inl ?_
        cases hls : listed.getD s false with
        | false =>
          rw [hls, if_neg (by simp)] at hw
          have h3 := h1 w hw
          unfold Oper.quietAt at h3
          unfold Oper.wp
          generalize (execOp a.eval oi).run P w = r at *
          cases r with
          | ok n w' =>
            cases n <;> simp only [Oper.quietUpon] at h3 <;> simp only [Oper.upon]
            case value u =>
              obtain ⟨e1, e2⟩ := h3
              rw [e1, e2]
              exact ih _ _ (by rw [hset, hls, if_neg (by simp)]; exact hw) h2
            case skip =>
              obtain ⟨e1, e2⟩ := h3
              rw [e1, ← e2]
              exact ih _ _ (by rw [hset, hls, if_neg (by simp)]; exact hw) h2
            case enter f args =>
              obtain ⟨e1, hc⟩ := h3
              rw [e1]
              exact hc.mono fun e w'' ⟨he, hw''⟩ => by subst he; exact ih _ _ (by rw [hset, hls, if_neg (by simp)]; exact hw'') h2
          | halt x w' => simp only [Oper.quietUpon] at h3
        | true =>
          rw [hls, if_pos rfl] at hw
          have hp : pureOp oi = true := by
            have h4 := List.all_eq_true.1 hsk i (List.mem_range.2 hilt)
            simp only [hoi, Bool.or_eq_true, beq_iff_eq] at h4
            rcases h4 with (h4 | h4) | h4
            · exact absurd h4 his
            · exact h4
            · have := anchored_listed inv hls _ i h4
              rw [hun'] at this; cases this
          have h3 := h1 w0 h0
          unfold Oper.quietAt at h3
          unfold Oper.wp
          cases hr : (execOp a.eval oi).run P w0 with
          | ok n w' =>
            obtain ⟨u, rfl, hall⟩ := pure_run hp hr
            rw [hr] at h3
            simp only [Oper.quietUpon] at h3
            rw [hall w]
            simp only [Oper.upon]
            rw [h3.2]
            exact ih _ _ (by rw [hset, hls, if_pos rfl]; exact hw) h2
          | halt x w' => rw [hr] at h3; simp only [Oper.quietUpon] at h3
      · rename_i hwant
        simp only [hwant] at hg
        exact ih _ _ (by rw [hset]; exact hw) hg.2

def YieldsG (P : Program) (ops : Array Oper) (C0 C1 : World → Prop) (s i : Nat) (o : Oper) (v : Value) (a : Act) : Prop :=
  (Region.wanted o (yielded ops a.tmps) = true ∧ stepG P C0 C1 s i o a v) ∨ (Region.wanted o (yielded ops a.tmps) = false ∧ v = undef ∧ i ≠ s)
theorem YieldsG.gOp {i : Nat} {o : Oper} {v : Value} {a : Act} (hi : ops[i]? = some o) (hy : YieldsG P ops C0 C1 s i o v a) {K : Act → Prop} (h : K (a.put o.dst v)) : gOp P ops C0 C1 s i K a := by
  unfold Proofs.YtfldpejifpmapaaDoor.gOp
  simp only [hi]
  rcases hy with ⟨hw, hv⟩ | ⟨hw, rfl, hs⟩
  · simp only [hw, if_true]; exact ⟨v, hv, h⟩
  · simp only [hw, Bool.false_eq_true, if_false]; exact ⟨hs, h⟩
theorem stepG_same {i : Nat} {o : Oper} {v : Value} {a a' : Act} (h : stepG P C0 C1 s i o a v) (he : execOp a'.eval o = execOp a.eval o) : stepG P C0 C1 s i o a' v := by
  unfold stepG Oper.quietAt at *
  rw [he]
  exact h
theorem YieldsG.of_same {i : Nat} {o : Oper} {v : Value} {a a' : Act} (hy : YieldsG P ops C0 C1 s i o v a) (he : execOp a'.eval o = execOp a.eval o)
    (hw : Region.wanted o (yielded ops a'.tmps) = Region.wanted o (yielded ops a.tmps)) : YieldsG P ops C0 C1 s i o v a' := by
  unfold YieldsG at *
  rw [hw]
  exact hy.imp (fun ⟨h1, h2⟩ => ⟨h1, stepG_same h2 he⟩) id
theorem yieldsG_of_gOp {i : Nat} {o : Oper} {a : Act} {K : Act → Prop} (hi : ops[i]? = some o) (h : gOp P ops C0 C1 s i K a) : ∃ v, YieldsG P ops C0 C1 s i o v a ∧ K (a.put o.dst v) := by
  unfold gOp at h
  simp only [hi] at h
  by_cases hw : Region.wanted o (yielded ops a.tmps) = true
  · simp only [hw, if_true] at h
    obtain ⟨v, h1, h2⟩ := h
    exact ⟨v, .inl ⟨hw, h1⟩, h2⟩
  · simp only [hw] at h
    exact ⟨undef, .inr ⟨by simpa using hw, rfl, h.1⟩, h.2⟩
theorem gOp_put {i j : Nat} {oi oj : Oper} {v : Value} (hj : ops[j]? = some oj) (hap : oi.apart ops oj = true)
    (hsi : ∀ cs b, oi.op ≠ .select cs b) (hsj : ∀ cs b, oj.op ≠ .select cs b) {K : Act → Prop} {a : Act}
    (hy : YieldsG P ops C0 C1 s i oi v a) (h : gOp P ops C0 C1 s j K (a.put oi.dst v)) :
    gOp P ops C0 C1 s j (fun a' => YieldsG P ops C0 C1 s i oi v a' ∧ K (a'.put oi.dst v)) a := by
  obtain ⟨h1, h2, h3⟩ := Oper.apart_spec hap
  have keep : ∀ (a : Act), YieldsG P ops C0 C1 s i oi v a → ∀ u, YieldsG P ops C0 C1 s i oi v (a.put oj.dst u) := fun a hy u =>
    hy.of_same (execOp_put oi hsi a oj.dst u h3) (wanted_put oi a oj.dst u h3)
  unfold gOp at *
  simp only [hj] at *
  rw [wanted_put oj a oi.dst v h1] at h
  split
  · rename_i hw
    simp only [hw, if_true] at h
    obtain ⟨u, hu, hn⟩ := h
    exact ⟨u, stepG_same hu (execOp_put oj hsj a oi.dst v h1).symm, keep a hy u, by rw [← Act.put_comm a v u h2]; exact hn⟩
  · rename_i hw
    simp only [hw] at h
    exact ⟨h.1, keep a hy _, by rw [← Act.put_comm a v undef h2]; exact h.2⟩

theorem wpAnyG_first {Q : Act → Prop} {i : Nat} {oi : Oper} {v : Value} (hi : ops[i]? = some oi) (hsel : ∀ (j : Nat) (o : Oper) cs b, ops[j]? = some o → o.op ≠ .select cs b) :
    ∀ (fuel : Nat) (listed : Array Bool) (a : Act),
      (∀ j oj, ops[j]? = some oj → j ≠ i → listed.getD j true = false → (∀ e ∈ oj.after, Region.binds md e = true → e.on ≠ i) → oi.apart ops oj = true) →
      i ∈ Region.ready md ops listed → YieldsG P ops C0 C1 s i oi v a →
      wpAnyG P md ops C0 C1 s Q fuel (listed.setIfInBounds i true) (a.put oi.dst v) → wpAnyG P md ops C0 C1 s Q (fuel + 1) listed a := by
  intro fuel
  induction fuel with
  | zero =>
    intro listed a _ hr hy H
    refine ⟨fun h => (by rw [h] at hr; cases hr), fun j hj => ?_⟩
    by_cases hji : j = i
    · subst hji; exact hy.gOp hi H
    · have := ready_mono hj hji
      rw [H.1] at this
      cases this
  | succ fuel ih =>
    intro listed a hfree hr hy H
    refine ⟨fun h => (by rw [h] at hr; cases hr), fun j hj => ?_⟩
    by_cases hji : j = i
    · subst hji; exact hy.gOp hi H
    · have h1 := H.2 j (ready_mono hj hji)
      obtain ⟨hjun, oj, hoj, hall⟩ := mem_ready.1 hj
      have hnot : ∀ e ∈ oj.after, Region.binds md e = true → e.on ≠ i := fun e he hb heq => by
        have h1 := hall e he hb
        have h0 := (mem_ready.1 hr).1
        rw [heq, getD_both h0] at h1
        cases h1
      have h2 := gOp_put hoj (hfree j oj hoj hji hjun hnot) (fun cs b => hsel i oi cs b hi) (fun cs b => hsel j oj cs b hoj) hy h1
      have hfree' : ∀ k ok, ops[k]? = some ok → k ≠ i → (listed.setIfInBounds j true).getD k true = false →
          (∀ e ∈ ok.after, Region.binds md e = true → e.on ≠ i) → oi.apart ops ok = true := fun k ok hk hki hun hno => by
        refine hfree k ok hk hki ?_ hno
        by_cases hjk : j = k
        · subst hjk; exact hjun
        · rw [getD_set_ne true hjk] at hun; exact hun
      refine gOp_mono (fun a' h3 => ih (listed.setIfInBounds j true) a' hfree' (ready_mono hr (Ne.symm hji)) h3.1 ?_) h2
      rw [Array.setIfInBounds_comm _ _ hji]
      exact h3.2

/-- the walk in the order of the text -/
def wpG (P : Program) (ops : Array Oper) (C0 C1 : World → Prop) (s : Nat) (Q : Act → Prop) : Nat → List Oper → Act → Prop
  | _, [], a => Q a
  | k, o :: rest, a => if Region.wanted o (yielded ops a.tmps) then ∃ v, stepG P C0 C1 s k o a v ∧ wpG P ops C0 C1 s Q (k + 1) rest (a.put o.dst v) else k ≠ s ∧ wpG P ops C0 C1 s Q (k + 1) rest (a.put o.dst undef)

theorem wpAnyG_lex {Q : Act → Prop} (hs : Region.noSelect ops = true) (hsz : s < ops.size) : ∀ (l : List Oper) (k : Nat) (listed : Array Bool) (a : Act), (∀ j, l[j]? = ops[k + j]?) → k + l.length = ops.size → listed.size = ops.size →
    (∀ j, j < k → listed.getD j false = true) → Region.lexFrom md ops l.length k listed = true → wpG P ops C0 C1 s Q k l a → wpAnyG P md ops C0 C1 s Q l.length listed a
  | [], k, listed, a, _, hk, _, hd, hB, h => ⟨by simpa [Region.lexFrom] using hB, hd s (by simp at hk; omega), h⟩
  | o :: l, k, listed, a, hl, hk, hlz, hd, hB, h => by
    have h0 : ops[k]? = some o := by simpa using (hl 0).symm
    simp only [List.length_cons, Region.lexFrom, Bool.and_eq_true] at hB
    obtain ⟨⟨hr, hf⟩, hB'⟩ := hB
    have hst : gOp P ops C0 C1 s k (wpG P ops C0 C1 s Q (k + 1) l) a := by unfold gOp; simp only [h0]; exact h
    obtain ⟨v, hy, hK⟩ := yieldsG_of_gOp h0 hst
    have hd' : ∀ j, j < k + 1 → (listed.setIfInBounds k true).getD j false = true := fun j hj => by
      by_cases e : k = j
      · subst e
        have : k < listed.size := by rw [hlz]; simp only [List.length_cons] at hk; omega
        simp [this]
      · rw [getD_set_ne false e]; exact hd j (by omega)
    exact wpAnyG_first h0 (Region.noSelect_spec hs) l.length listed a (Region.free_spec h0 hf) (by simpa using hr) hy
      (wpAnyG_lex hs hsz l (k + 1) _ _ (fun j => by have := hl (j + 1); simpa [Nat.add_assoc, Nat.add_comm 1 j] using this) (by simp only [List.length_cons] at hk; omega) (by simp [hlz]) hd' hB' hK)

theorem wpG_of_quiet {Q : Act → Prop} : ∀ (l : List Oper) (k : Nat) (a : Act), (∀ j, k ≤ j → j < k + l.length → j ≠ s) → wpQuiet P ops C0 Q l a → wpG P ops C0 C1 s Q k l a
  | [], _, _, _, h => h
  | o :: l, k, a, hk, h => by
    rw [wpQuiet] at h
    rw [wpG]
    have hks : k ≠ s := hk k (Nat.le_refl _) (by simp)
    split
    · rename_i hw
      rw [if_pos hw] at h
      obtain ⟨v, h1, h2⟩ := h
      exact ⟨v, by unfold stepG; rw [if_neg hks]; exact h1, wpG_of_quiet l (k + 1) _ (fun j h3 h4 => hk j (by omega) (by simp only [List.length_cons]; omega)) h2⟩
    · rename_i hw
      rw [if_neg hw] at h
      exact ⟨hks, wpG_of_quiet l (k + 1) _ (fun j h3 h4 => hk j (by omega) (by simp only [List.length_cons]; omega)) h⟩
theorem wpG_append {Q : Act → Prop} : ∀ (l r : List Oper) (k : Nat) (a : Act), wpG P ops C0 C1 s (fun a' => wpG P ops C0 C1 s Q (k + l.length) r a') k l a → wpG P ops C0 C1 s Q k (l ++ r) a
  | [], r, k, a, h => by simpa [wpG] using h
  | o :: l, r, k, a, h => by
    rw [List.cons_append, wpG]
    rw [wpG] at h
    have e : k + (o :: l).length = k + 1 + l.length := by simp only [List.length_cons]; omega
    rw [e] at h
    split
    · rename_i hw
      rw [if_pos hw] at h
      obtain ⟨v, h1, h2⟩ := h
      exact ⟨v, h1, wpG_append l r (k + 1) _ h2⟩
    · rename_i hw
      rw [if_neg hw] at h
      exact ⟨h.1, wpG_append l r (k + 1) _ h.2⟩

/-- the store's step, said for all worlds of the family at once -/
def StoreStep (P : Program) (ops : Array Oper) {T : Type} (g : T → World) (Q : Act → World → Prop) (o : Oper) (post : List Oper) (a : Act) : Prop :=
  Region.wanted o (yielded ops a.tmps) = true ∧ ∃ f : T → World, (∀ n, (execOp a.eval o).run P (g n) = .ok .skip (f n)) ∧ wpQuiet P ops (fun w' => ∃ n, w' = g n) (fun a2 => ∀ n, Q a2 (f n)) post (a.put o.dst undef)
end

/-- a region with one store amid operations that are quiet in a family -/
theorem wp_region_store {P : Program} {T : Type} (g : T → World) {id : Nat} {Q : Exit → Act → World → Prop} {a : Act} {w : World} {l : List Oper} (s : Nat) (o : Oper) (ho : l[s]? = some o) (hm : P.follows .mixedOrders = true) (hB : storeB .any l.toArray s = true) (hC : ∃ n, w.drew = g n)
    (h : wpQuiet P l.toArray (fun w' => ∃ n, w' = g n) (StoreStep P l.toArray g (fun a2 w2 => Q .normal a2 w2) o (l.drop (s + 1))) (l.take s) a) : (Code.region id l.toArray true).wp P Q a w := by
  simp only [storeB, Bool.and_eq_true, decide_eq_true_eq] at hB
  obtain ⟨⟨⟨hsel, hsz⟩, hsk⟩, hlex⟩ := hB
  have hsl : s < l.length := by simpa using hsz
  refine wp_region_any hm ?_
  -- the second class hangs on the frame at the store: it is fixed by the walk
  have key : ∀ (pre : List Oper) (k : Nat) (a : Act), k + pre.length = s → wpQuiet P l.toArray (fun w' => ∃ n, w' = g n) (StoreStep P l.toArray g (fun a2 w2 => Q .normal a2 w2) o (l.drop (s + 1))) pre a →
      ∃ f : T → World, wpG P l.toArray (fun w' => ∃ n, w' = g n) (fun w' => ∃ n, w' = f n) s (fun a2 => ∀ n, Q .normal a2 (f n)) k (pre ++ o :: l.drop (s + 1)) a := by
    intro pre
    induction pre with
    | nil =>
      intro k a hk h
      obtain ⟨hw, f, hf, hp⟩ := h
      refine ⟨f, ?_⟩
      rw [List.nil_append, wpG, if_pos hw]
      have hks : k = s := by simpa using hk
      refine ⟨undef, ?_, wpG_of_quiet _ _ _ (fun j h1 _ => by omega) hp⟩
      unfold stepG
      rw [if_pos hks]
      exact ⟨rfl, fun w' ⟨n, e⟩ => ⟨f n, by rw [e]; exact hf n, n, rfl⟩⟩
    | cons o' pre ih =>
      intro k a hk h
      rw [wpQuiet] at h
      have hks : k ≠ s := by simp only [List.length_cons] at hk; omega
      by_cases hw : Region.wanted o' (yielded l.toArray a.tmps) = true
      · rw [if_pos hw] at h
        obtain ⟨v, h1, h2⟩ := h
        obtain ⟨f, hf⟩ := ih (k + 1) _ (by simp only [List.length_cons] at hk; omega) h2
        refine ⟨f, ?_⟩
        rw [List.cons_append, wpG, if_pos hw]
        exact ⟨v, by unfold stepG; rw [if_neg hks]; exact h1, hf⟩
      · rw [if_neg hw] at h
        obtain ⟨f, hf⟩ := ih (k + 1) _ (by simp only [List.length_cons] at hk; omega) h
        refine ⟨f, ?_⟩
        rw [List.cons_append, wpG, if_neg hw]
        exact ⟨hks, hf⟩
  obtain ⟨f, hf⟩ := key (l.take s) 0 a (by simp; omega) h
  have hl : l.take s ++ o :: l.drop (s + 1) = l := by
    have : l.drop s = o :: l.drop (s + 1) := by
      rw [List.drop_eq_getElem_cons hsl]
      rw [List.getElem?_eq_getElem hsl] at ho
      rw [Option.some.inj ho]
    rw [← this, List.take_append_drop]
  rw [hl] at hf
  have inv0 : Shut .any l.toArray (Array.replicate l.toArray.size false) :=
    ⟨by simp, fun j oj _ hl => (by rw [getD_replicate_false] at hl; cases hl)⟩
  have := wpAnyG_lex (P := P) (md := .any) hsel hsz l 0 (Array.replicate l.toArray.size false) a (by simp) (by simp) (by simp) (by omega) (by simpa using hlex) hf
  have hC' := hC
  obtain ⟨n0, hn0⟩ := hC'
  have h2 := wpAny_of_G (md := .any) (Q' := Q) (w0 := g n0) ⟨n0, rfl⟩ hsk hsz (fun a w ⟨n, e⟩ hq => by rw [e]; exact hq n) _ _ _ { w with drawn := w.drawn + 1 } inv0 (by rw [getD_replicate_false, if_neg (by simp)]; exact ⟨n0, hn0⟩) this
  simpa using h2
end Go.Proofs.YtfldpejifpmapaaDoor
