/- A map of words by addresses, of the call's own: what it answers, what a store makes of it. No condition. -/
import Derived.Test.YtfldpejifpmapaaDoorEPure
import Derived.Maps.OwnSet
import Derived.Maps.OwnOps
set_option linter.unusedSimpArgs false
set_option linter.unusedVariables false
set_option maxRecDepth 100000
namespace Go.Proofs.YtfldpejifpmapaaDoor
open Go.RowKit
open Go.Maps
theorem law_u64 : Keyed Tryd.prog 24 := int_keyed Tryd.underlying24
theorem zero_u64 (w : World) : (zeroValue 24).run Tryd.prog w = .ok (.int .u64 0) w := by kernel_rfl
theorem wf_u64 {x : Int} (h : 0 ≤ x ∧ x < 18446744073709551616) : (Lit.int .u64 x).wf = true := WalkArith.wf_u64 (by omega)
theorem key_u64 {x : Int} (h : 0 ≤ x ∧ x < 18446744073709551616) : keyOf Tryd.prog 24 (.int .u64 x) = some (.int .u64 x) := keyOf_int_mk Tryd.underlying24 (wf_u64 h)
theorem lookW_cons (a v x : Int) (l : List (Int × Int)) : lookW ((a, v) :: l) x = if a = x then some v else lookW l x := by
  unfold lookW
  rw [List.find?_cons]
  by_cases h : a = x
  · subst h; simp
  · have hb : (a == x) = false := by simpa using h
    dsimp only
    rw [hb, if_neg h]
/-- block m is a map of words that answers as these writes, the last one first -/
def MapW (w : World) (m n : Nat) (l : List (Int × Int)) : Prop :=
  ∃ D : DataW Unit, w.ownsMap Tryd.prog 24 (plainElem Tryd.prog 24) m n D ∧ (∀ x : Int, 0 ≤ x → x < 18446744073709551616 → D.atKey (.int .u64 x) (.lit (.int .u64 0)) = .lit (.int .u64 ((lookW l x).getD 0)) ∧ Maps.has D (.int .u64 x) = (lookW l x).isSome) ∧ (Maps.size D = 0 ↔ l = [])
section
variable {w w' : World} {m n : Nat} {l : List (Int × Int)}
theorem MapW.lt (h : MapW w m n l) : m < w.heap.size := by
  obtain ⟨D, h, _⟩ := h
  exact h.lt
theorem MapW.upd {S : List Nat} (h : MapW w m n l) (u : Upd S w w') (hS : m ∉ S) : MapW w' m n l := by
  have hlt := h.lt
  obtain ⟨D, ⟨es, cl, hb, r⟩, h2⟩ := h
  exact ⟨D, ⟨es, cl, by rw [u.block m hlt hS]; exact hb, r⟩, h2⟩
theorem mapW_nil (W : World) : MapW (W.alloc (.map #[] 0)) W.heap.size 0 [] :=
  ⟨.map [], World.ownsMap_made _ _ _ _, fun x _ _ => ⟨rfl, rfl⟩, ⟨fun _ => rfl, fun _ => rfl⟩⟩
theorem mapW_look (h : MapW w m n l) {x : Int} (hx : 0 ≤ x ∧ x < 18446744073709551616) : (Instr.lookup 92 (.map (some m)) (.int .u64 x) true).run Tryd.prog w = .ok (.tuple #[.int .u64 ((lookW l x).getD 0), .bool (lookW l x).isSome]) w := by
  obtain ⟨D, ho, hD, _⟩ := h
  obtain ⟨hD1, hD2⟩ := hD x hx.1 hx.2
  obtain ⟨v, ps, hr, hv⟩ := ho.look_ok law_u64 Tryd.underlying92 (zero_u64 w) (zd := .lit (.int .u64 0)) (zp := []) (plainElem_int Tryd.underlying24 (by decide)) (key_u64 hx)
  obtain ⟨c, rfl, hc, hwc⟩ := plainElem_int_inv Tryd.underlying24 hv
  have hc' : D.atKey (.int .u64 x) (.lit (.int .u64 0)) = .lit (.int .u64 c) := congrArg Prod.fst hc
  rw [hD1] at hc'
  injection hc' with hc'
  injection hc' with _ hc'
  rw [hr, hD2, hc']
theorem mapW_len (h : MapW w m n l) : ∃ s : Nat, (s = 0 ↔ l = []) ∧ s ≤ n ∧ ∀ ty, (Builtin.len_ #[92] ty #[.map (some m)]).run Tryd.prog w = .ok (.int .i64 (s : Int)) w := by
  obtain ⟨D, ho, _, hs⟩ := h
  exact ⟨Maps.size D, hs, ho.size_le, fun ty => ho.len Tryd.underlying92 ty⟩
theorem mapW_store (h : MapW w m n l) {x c : Int} (hx : 0 ≤ x ∧ x < 18446744073709551616) (hc : 0 ≤ c ∧ c < 18446744073709551616) (hn : n < 9223372036854775807) :
    ∃ w', (Instr.mapUpdate 92 (.map (some m)) (.int .u64 x) (.int .u64 c)).run Tryd.prog w = .ok () w' ∧ MapW w' m (n + 1) ((x, c) :: l) ∧ Upd [m] w w' := by
  obtain ⟨D, ho, hD, hs⟩ := h
  have hM := ho.isMap
  have hK : WideAt.IsKeyLit (.int .u64 x) := trivial
  obtain ⟨w', hr, ho', hg⟩ := ho.update law_u64 Tryd.underlying92 (by unfold maxLen; omega) (key_u64 hx) (val := .int .u64 c) (d := .lit (.int .u64 c)) (ps := []) (plainElem_int Tryd.underlying24 (wf_u64 hc))
  refine ⟨w', hr, ⟨_, ho', fun y hy0 hy1 => ?_, ?_⟩, Upd.of_grown hg (fun k hk => by cases hk; exact .inl (by simp))⟩
  · obtain ⟨h1, h2⟩ := hD y hy0 hy1
    rw [lookW_cons]
    by_cases hxy : x = y
    · subst hxy
      rw [if_pos rfl, atKey_put_same hM hK, has_put_same hM hK]
      exact ⟨rfl, rfl⟩
    · have hne : (Lit.int .u64 y) ≠ Lit.int .u64 x := fun e => hxy (by injection e with _ e; exact e.symm)
      rw [if_neg hxy, atKey_put_other hne, has_put_other hne]
      exact ⟨h1, h2⟩
  · obtain ⟨es, he⟩ := ho'.isMap
    have hh := has_put_same hM hK (DataW.lit (.int .u64 c))
    rw [he] at hh ⊢
    rw [has_eq] at hh
    rw [size_eq]
    constructor
    · intro h0
      rw [List.length_eq_zero_iff.1 h0] at hh
      simp at hh
    · intro h0; cases h0
end
end Go.Proofs.YtfldpejifpmapaaDoor
