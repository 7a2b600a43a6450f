/- A region that draws its order, with effects, in a round of a loop over an iterator: walked in the order of the text, as outside (Eff). The condition: no defer statement stands in it. -/
import Derived.Test.YtfldpejifpmapaaDoorEff
import Derived.Test.YtfldpejifpmapaaDoorQuietRound
import Derived.OrdersIn
import Derived.RangeFuncCalls
set_option linter.unusedSimpArgs false
set_option linter.unusedVariables false
set_option maxRecDepth 100000
namespace Go.Proofs.YtfldpejifpmapaaDoor
open Go.RowKit
/-- the plain end alone -/
def OnlyN (Q : Exit → Act → World → Prop) : Exit → Act → World → Prop
  | .normal, a, w => Q .normal a w
  | _, _, _ => False
theorem OnlyN.normal {Q : Exit → Act → World → Prop} {a : Act} {w : World} (h : Q .normal a w) : OnlyN Q .normal a w := h
theorem OnlyN.not_out {Q : Exit → Act → World → Prop} (h : LetsOut (OnlyN Q)) : False := let ⟨_, _, h⟩ := h; h
section
variable {n l : Nat} {P : Program} {ops : Array Oper} {Q : Exit → Act → World → Prop} {md : Region.Mode}
theorem wpIn_of_wp {o : Oper} {a : Act} {w : World} {K : Act → World → Prop} (hp : plainOp o = true) (h : o.wp P a w K (OnlyN Q)) : o.wpIn (Fence.wide.inRound l) n P a w K Q := by
  unfold Oper.wp at h
  unfold Oper.wpIn
  refine ⟨fun _ _ => trivial, ?_⟩
  rw [Oper.semAt_eq _ _ _ (plainOp_spec hp)]
  generalize (execOp a.eval o).run P w = r at *
  cases r with
  | ok x w' =>
    cases x <;> simp only [Oper.upon] at h <;> simp only [Oper.uponIn]
    case value u => exact h
    case skip => exact h
    case defer d => exact h
    case enter f args =>
      refine ⟨fun h => by simp [Fence.wide] at h, CallsIn.inRound l (callsIn_wide.2 (h.mono fun e w'' k => ?_))⟩
      cases e with
      | returned v => exact k
      | panicked c => exact (k : False).elim
      | outgrown => exact (OnlyN.not_out k).elim
    case row f args =>
      refine ⟨fun h => by simp [Fence.wide] at h, fun c cs _ => ?_⟩
      obtain ⟨v, w', r, s⟩ := h c cs
      exact ⟨v, w', r, stepsIn_wide.2 s⟩
  | halt x w' =>
    cases x <;> simp only [Oper.upon] at h
    exact (h : False).elim
theorem wpOpIn_of_wpOp {i : Nat} {a : Act} {w : World} {K K' : Act → World → Prop} (hp : ops.all plainOp = true) (hK : ∀ a w, K a w → K' a w) (h : wpOp P ops (OnlyN Q) i K a w) : wpOpIn (Fence.wide.inRound l) n P ops Q i K' a w := by
  unfold wpOp at h
  unfold wpOpIn
  split
  · rename_i ho; simp only [ho] at h; exact hK _ _ h
  · rename_i o ho
    simp only [ho] at h
    have hpo : plainOp o = true := by
      obtain ⟨hi, he⟩ := Array.getElem?_eq_some_iff.1 ho
      have := Array.all_eq_true.1 hp i hi
      rwa [he] at this
    split
    · rename_i hw
      simp only [hw, if_true] at h
      rcases h with h | ⟨_, h⟩
      · exact Oper.wpIn_mono hK (wpIn_of_wp hpo h)
      · exact (OnlyN.not_out h).elim
    · rename_i hw; simp only [hw] at h; exact ⟨fun _ _ => trivial, hK _ _ h⟩
theorem wpAnyIn_of_wpAny (hp : ops.all plainOp = true) : ∀ (fuel : Nat) (listed : Array Bool) (a : Act) (w : World), wpAny P md ops (OnlyN Q) fuel listed a w → wpAnyIn (Fence.wide.inRound l) n P md ops Q fuel listed a w
  | 0, _, _, _, h => h
  | fuel + 1, _, _, _, h => ⟨fun h0 => h.1 h0, fun i hi => wpOpIn_of_wpOp hp (fun a' w' => wpAnyIn_of_wpAny hp fuel _ a' w') (h.2 i hi)⟩

theorem wpIn_region_eff {id : Nat} {a : Act} {w : World} {l' : List Oper} (S : World → Prop) (t : Nat) (hp : l'.toArray.all plainOp = true) (hm : P.follows .mixedOrders = true) (hB : effB .any l'.toArray t = true) (hS : S w.drew)
    (h : wpE P .any l'.toArray (OnlyN Q) S t 0 l' a w.drew) : (Code.region id l'.toArray true).wpIn (Fence.wide.inRound l) n P Q a w := by
  simp only [effB, Bool.and_eq_true, decide_eq_true_eq] at hB
  obtain ⟨⟨⟨hsel, ht⟩, hla⟩, hlex⟩ := hB
  refine wpIn_region_any hm (wpAnyIn_of_wpAny hp _ _ _ _ ?_)
  have inv0 : Shut .any l'.toArray (upB l'.toArray 0) := ⟨by simp [upB, fillB], fun j oj _ hl => (by rw [upB, fillB, getD_replicate_false] at hl; cases hl)⟩
  have := wpAnyE_lex (P := P) (S := S) hsel (Q := OnlyN Q) (fun c d v a w h => h) ht hla (lexFrom_end _ 0 (by simp) hlex) l' 0 a { w with drawn := w.drawn + 1 } (by simp) (by simp) inv0 (.inl (by omega)) (.inl hS) (by simpa [upB, fillB] using hlex) h
  simpa [upB, fillB] using wpAny_of_E _ _ _ _ this
end
end Go.Proofs.YtfldpejifpmapaaDoor
