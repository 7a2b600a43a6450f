/- CellsMeanwhile (layer 1): what All tells is the row as it was when the loop began, whatever is stored meanwhile. No condition. -/
import Derived.Test.YthjiiedpplimpaaCellsMeanwhile
import Derived.Test.YthjiiedpplimpaaOpen
set_option linter.unusedSimpArgs false
set_option linter.unusedVariables false
set_option maxRecDepth 100000
namespace Go.Proofs.Ythjiiedpplimpaa.cellsMeanwhile
open Go.ChangeShapes Go.WideShapes Go.ChangeAt Go.RowKit

theorem lifted (os : Os) (started : os.Started) (H : Type) (enc : TypeId × Value → H) :
    ReturnsInHanded {} Try.checked os 6 .any (Rows.cellsMeanwhileSpec.pre6 enc Try.prog Try.f6 Rows.cellsMeanwhileRow.domain false) (Rows.cellsMeanwhileSpec.post enc Try.prog Try.f6 false true false false) := by
  refine returnsInHanded_of_change_sized (C := Try.checked) law_own started (by kernel_rfl) Try.func6
    (ChangeSpec.witness6 (enc := enc) (C := Try.checked) false ⟨#[], #[.slice none 0 0, .slice none 0 0], []⟩ 8 (by kernel_rfl) (by kernel_rfl) (by kernel_rfl) (by kernel_rfl)) ?_
  intro W base args ds gs before hval0 hW hcnd hsz _
  have hval : ∀ (j : Nat) t v, Try.f6.params[j]? = some t → args[j]? = some v → Value.okWide Try.prog W .any base t v := hval0
  have hW' := hW
  obtain ⟨p, q, hA0, hV, rfl, hfz, hnd⟩ := hW
  have hA : DataW.TrodAll enc Try.prog W 0 (fun _ => true) true Try.f6.params.toList args.toList ds p := hA0
  rw [Try.params6] at hA hval
  obtain ⟨v0, vs0, d0, ds0, p0, q0, hargs, rfl, rfl, h0, r0⟩ := trodAll_cons hA
  obtain ⟨v1, vs1, d1, ds1, p1, q1, rfl, rfl, rfl, h1, r1⟩ := trodAll_cons r0
  obtain ⟨rfl, rfl, rfl⟩ := trodAll_nil r1
  obtain rfl : args = #[v0, v1] := by cases args; simp_all
  obtain ⟨pa0, cap0, zs0, rfl, hs0, wf0, hc0, hm0, hl0⟩ := open_sl_ints Try.underlying31 Try.underlying27 (by kernel_rfl) (hval 0 31 v0 rfl rfl) h0
  have hb0 : ∀ n ∈ zs0, 0 ≤ n ∧ n < 18446744073709551616 := by
    intro n hn
    have : 0 ≤ n ∧ n ≤ 18446744073709551615 := by simpa [Lit.wf, IntKind.min, IntKind.max, IntKind.signed, IntKind.bits] using wf0 n hn
    omega
  obtain ⟨pa1, n1, cap1, V1, rfl, hs1, hc1, hm1, hf1⟩ := open_sl_structs Try.underlying42 Try.underlying57 (by kernel_rfl) (by kernel_rfl) (by decide) (hval 1 42 v1 rfl rfl) h1
  have hr0 := slice_reach (j := 0) Try.underlying31 h0 hsz (by rw [Try.params6]; rfl) rfl 8 (by kernel_rfl)
  have hr1 := slice_reach (j := 1) Try.underlying42 h1 hsz (by rw [Try.params6]; rfl) rfl 16 (by kernel_rfl)
  have hP1 : PairsAt n1 V1 := by
    intro i hi
    obtain ⟨_, _, h0⟩ := hf1 i hi 0 _ rfl
    obtain ⟨_, _, h1⟩ := hf1 i hi 1 _ rfl
    obtain ⟨k0, e0, _, w0⟩ := DataW.trod_int Try.underlying27 h0
    obtain ⟨k1, e1, _, w1⟩ := DataW.trod_int Try.underlying27 h1
    have w0' : 0 ≤ k0 ∧ k0 ≤ 18446744073709551615 := by simpa [Lit.wf, IntKind.min, IntKind.max, IntKind.signed, IntKind.bits] using w0
    have w1' : 0 ≤ k1 ∧ k1 ≤ 18446744073709551615 := by simpa [Lit.wf, IntKind.min, IntKind.max, IntKind.signed, IntKind.bits] using w1
    simp only [List.cons.injEq, and_true] at e0 e1
    have p0 : pA V1 i = k0 := by unfold pA; rw [show V1 (i * 2) = _ from e0]; rfl
    have p1 : pX V1 i = k1 := by unfold pX; rw [show V1 (i * 2 + 1) = _ from e1]; rfl
    rw [p0, p1]
    exact ⟨e0, e1, by omega, by omega⟩
  refine (meanwhile_walk W pa0 pa1 zs0 cap0 cap1 n1 V1 hs0 (fun v hv => hb0 v hv) (by omega) hl0 hs1 hP1 hc1 hm1).mono fun e W' ⟨he, hu⟩ => ?_
  subst he
  exact ⟨_, rfl, law_post rfl (by rw [Try.params6]; decide +kernel) rfl (by obtain ⟨rfl, _⟩ := trodVars_none hV; rfl) hW' (hu.below (Nat.le_refl _) (by simp))⟩

theorem over : Rows.cellsMeanwhileRow.holds Try.pinned (OpenSpec.ofChange Rows.cellsMeanwhileSpec) :=
  OpenClaim.holds_of_wide 6 Try.f6 rfl rfl rfl rfl rfl rfl rfl ⟨rfl, rfl, rfl, rfl, rfl⟩ rfl rfl rfl rfl rfl (by kernel_rfl) Try.func6 (by kernel_rfl)
    (of_decide_eq_true (by kernel_rfl)) (by unfold Func.isWrapper; first | (rw [if_pos (by decide +kernel)]; kernel_rfl) | (rw [if_neg (by decide +kernel)]; exact ⟨rfl, rfl⟩))
    (fun os started H enc _ => lifted os started H enc)

theorem proved : Rows.CellsMeanwhileSaid :=
  over

end Go.Proofs.Ythjiiedpplimpaa.cellsMeanwhile
