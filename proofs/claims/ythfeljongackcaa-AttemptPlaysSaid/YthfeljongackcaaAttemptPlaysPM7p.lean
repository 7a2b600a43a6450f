/- AttemptPlays (layer 7): three attempts over one row and one clock, call by call, with others who store and who take the clock: every answer, every state, the cells and the clock. No condition. -/
import Derived.Test.YthfeljongackcaaM7p36
import Derived.Test.YthfeljongackcaaM7p35
set_option linter.unusedSimpArgs false
set_option linter.unusedVariables false
set_option maxRecDepth 100000
namespace Go.Proofs.Ythfeljongackcaa.attemptPlays
open Go.ChangeShapes Go.WideShapes Go.ChangeAt Go.RowKit

theorem lifted (os : Os) (started : os.Started) (H : Type) (enc : TypeId × Value → H) :
    ReturnsInHanded {} Try.checked os 7 .any (Rows.attemptPlaysSpec.pre6 enc Try.prog Try.f7 Rows.attemptPlaysRow.domain false) (Rows.attemptPlaysSpec.post enc Try.prog Try.f7 false true false false) := by
  refine returnsInHanded_of_change_sized (C := Try.checked) law_own started (by kernel_rfl) Try.func7
    (ChangeSpec.witness6 (enc := enc) (C := Try.checked) false ⟨#[], #[.slice none 0 0, .int .u64 0, .slice none 0 0], []⟩ 8 (by kernel_rfl) (by kernel_rfl) (by kernel_rfl) (by kernel_rfl)) ?_
  intro W base args ds gs before hval0 hW hcnd hsz _
  have hval : ∀ (j : Nat) t v, Try.f7.params[j]? = some t → args[j]? = some v → Value.okWide Try.prog W .any base t v := hval0
  have hW' := hW
  obtain ⟨p, q, hA0, hV, rfl, hfz, hnd⟩ := hW
  have hA : DataW.TrodAll enc Try.prog W 0 (fun _ => true) true Try.f7.params.toList args.toList ds p := hA0
  rw [Try.params7] at hA hval
  obtain ⟨v0, vs0, d0, ds0, p0, q0, hargs, rfl, rfl, h0, r0⟩ := trodAll_cons hA
  obtain ⟨v1, vs1, d1, ds1, p1, q1, rfl, rfl, rfl, h1, r1⟩ := trodAll_cons r0
  obtain ⟨v2, vs2, d2, ds2, p2, q2, rfl, rfl, rfl, h2, r2⟩ := trodAll_cons r1
  obtain ⟨rfl, rfl, rfl⟩ := trodAll_nil r2
  obtain rfl : args = #[v0, v1, v2] := by cases args; simp_all
  obtain ⟨pa0, cap0, zs0, rfl, hs0, wf0, hc0, hm0, hl0⟩ := open_sl_ints Try.underlying48 Try.underlying31 (by kernel_rfl) (hval 0 48 v0 rfl rfl) h0
  have hb0 : ∀ n ∈ zs0, 0 ≤ n ∧ n < 18446744073709551616 := by
    intro n hn
    have : 0 ≤ n ∧ n ≤ 18446744073709551615 := by simpa [Lit.wf, IntKind.min, IntKind.max, IntKind.signed, IntKind.bits] using wf0 n hn
    omega
  obtain ⟨a1, rfl, rfl, rfl, w1⟩ := open_int Try.underlying31 (hval 1 31 v1 rfl rfl) h1
  have hb1 : 0 ≤ a1 ∧ a1 < 18446744073709551616 := by
    have : 0 ≤ a1 ∧ a1 ≤ 18446744073709551615 := by simpa [Lit.wf, IntKind.min, IntKind.max, IntKind.signed, IntKind.bits] using w1
    omega
  obtain ⟨pa2, n2, cap2, V2, rfl, hs2, hc2, hm2, hf2⟩ := open_sl_structs Try.underlying67 Try.underlying79 (by kernel_rfl) (by kernel_rfl) (by decide) (hval 2 67 v2 rfl rfl) h2
  have hr0 := slice_reach (j := 0) Try.underlying48 h0 hsz (by rw [Try.params7]; rfl) rfl 8 (by kernel_rfl)
  have hr2 := slice_reach (j := 2) Try.underlying67 h2 hsz (by rw [Try.params7]; rfl) rfl 40 (by kernel_rfl)
  have hP : StepsAt n2 V2 := by
    intro i hi
    obtain ⟨_, _, t0⟩ := hf2 i hi 0 _ rfl
    obtain ⟨_, _, t1⟩ := hf2 i hi 1 _ rfl
    obtain ⟨_, _, t2⟩ := hf2 i hi 2 _ rfl
    obtain ⟨_, _, t3⟩ := hf2 i hi 3 _ rfl
    obtain ⟨_, _, t4⟩ := hf2 i hi 4 _ rfl
    obtain ⟨k0, e0, _, w0⟩ := DataW.trod_int Try.underlying3 t0
    obtain ⟨k1, e1, _, w1⟩ := DataW.trod_int Try.underlying3 t1
    obtain ⟨k2, e2, _, w2⟩ := DataW.trod_int Try.underlying3 t2
    obtain ⟨k3, e3, _, w3⟩ := DataW.trod_int Try.underlying31 t3
    obtain ⟨k4, e4, _, w4⟩ := DataW.trod_int Try.underlying31 t4
    simp only [List.cons.injEq, and_true] at e0 e1 e2 e3 e4
    have w1' : -9223372036854775808 ≤ k1 ∧ k1 ≤ 9223372036854775807 := by simpa [Lit.wf, IntKind.min, IntKind.max, IntKind.signed, IntKind.bits] using w1
    have w2' : -9223372036854775808 ≤ k2 ∧ k2 ≤ 9223372036854775807 := by simpa [Lit.wf, IntKind.min, IntKind.max, IntKind.signed, IntKind.bits] using w2
    have w3' : 0 ≤ k3 ∧ k3 ≤ 18446744073709551615 := by simpa [Lit.wf, IntKind.min, IntKind.max, IntKind.signed, IntKind.bits] using w3
    have w4' : 0 ≤ k4 ∧ k4 ≤ 18446744073709551615 := by simpa [Lit.wf, IntKind.min, IntKind.max, IntKind.signed, IntKind.bits] using w4
    exact ⟨k0, k1, k2, k3, k4, e0, e1, e2, e3, e4, w1', w2', by omega, by omega⟩
  refine (plays7_walk W pa0 pa2 zs0 cap0 cap2 n2 V2 a1 hs0 (fun v hv => hb0 v hv) (Nat.le_trans hc0 hm0) hb1 hs2 hP (by omega)).mono fun e W' ⟨he, hu⟩ => ?_
  subst he
  exact ⟨_, rfl, law_post rfl (by rw [Try.params7]; decide +kernel) rfl (by obtain ⟨rfl, _⟩ := trodVars_none hV; rfl) hW' (hu.below (Nat.le_refl _) (by simp))⟩

theorem over : Rows.attemptPlaysRow.holds Try.pinned (OpenSpec.ofChange Rows.attemptPlaysSpec) :=
  OpenClaim.holds_of_wide 7 Try.f7 rfl rfl rfl rfl rfl rfl rfl ⟨rfl, rfl, rfl, rfl, rfl⟩ rfl rfl rfl rfl rfl (by kernel_rfl) Try.func7 (by kernel_rfl)
    (of_decide_eq_true (by kernel_rfl)) (by unfold Func.isWrapper; first | (rw [if_pos (by decide +kernel)]; kernel_rfl) | (rw [if_neg (by decide +kernel)]; exact ⟨rfl, rfl⟩))
    (fun os started H enc _ => lifted os started H enc)

theorem proved : Rows.AttemptPlaysSaid :=
  over

end Go.Proofs.Ythfeljongackcaa.attemptPlays
