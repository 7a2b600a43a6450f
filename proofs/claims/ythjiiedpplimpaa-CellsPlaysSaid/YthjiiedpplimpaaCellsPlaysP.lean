/- CellsPlays (layer 1): three rows, one of n cells, one of words, one that is not there, under any steps: every answer; what is handed in stays; a copy goes on apart. No condition. -/
import Derived.Test.YthjiiedpplimpaaCellsPlays
import Derived.Test.YthjiiedpplimpaaOpen
import Derived.Test.YthjiiedpplimpaaOpen2
set_option linter.unusedSimpArgs false
set_option linter.unusedVariables false
set_option maxRecDepth 100000
namespace Go.Proofs.Ythjiiedpplimpaa.cellsPlays
open Go.ChangeShapes Go.WideShapes Go.ChangeAt Go.RowKit

set_option maxHeartbeats 1000000 in
theorem lifted (os : Os) (started : os.Started) (H : Type) (enc : TypeId × Value → H) :
    ReturnsInHanded {} Try.checked os 11 .any (Rows.cellsPlaysSpec.pre6 enc Try.prog Try.f11 Rows.cellsPlaysRow.domain false) (Rows.cellsPlaysSpec.post enc Try.prog Try.f11 false true false false) := by
  refine returnsInHanded_of_change_sized (C := Try.checked) law_own started (by kernel_rfl) Try.func11
    (ChangeSpec.witness6 (enc := enc) (C := Try.checked) false ⟨#[], #[.int .i64 0, .slice none 0 0, .slice none 0 0], []⟩ 8 (by kernel_rfl) (by kernel_rfl) (by kernel_rfl) (by kernel_rfl)) ?_
  intro W base args ds gs before hval0 hW hcnd hsz _
  have hval : ∀ (j : Nat) t v, Try.f11.params[j]? = some t → args[j]? = some v → Value.okWide Try.prog W .any base t v := hval0
  have hW' := hW
  obtain ⟨p, q, hA0, hV, rfl, hfz, hnd⟩ := hW
  have hA : DataW.TrodAll enc Try.prog W 0 (fun _ => true) true Try.f11.params.toList args.toList ds p := hA0
  rw [Try.params11] at hA hval
  obtain ⟨v0, vs0, d0, ds0, p0, q0, hargs, rfl, rfl, h0, r0⟩ := trodAll_cons hA
  obtain ⟨v1, vs1, d1, ds1, p1, q1, rfl, rfl, rfl, h1, r1⟩ := trodAll_cons r0
  obtain ⟨v2, vs2, d2, ds2, p2, q2, rfl, rfl, rfl, h2, r2⟩ := trodAll_cons r1
  obtain ⟨rfl, rfl, rfl⟩ := trodAll_nil r2
  obtain rfl : args = #[v0, v1, v2] := by cases args; simp_all
  obtain ⟨a0, rfl, rfl, rfl, w0⟩ := open_int Try.underlying3 (hval 0 3 v0 rfl rfl) h0
  have hb0 : -9223372036854775808 ≤ a0 ∧ a0 ≤ 9223372036854775807 := by simpa [Lit.wf, IntKind.min, IntKind.max, IntKind.signed, IntKind.bits] using w0
  obtain ⟨pa1, cap1, zs1, rfl, hs1, wf1, hc1, hm1, hl1⟩ := open_sl_ints Try.underlying31 Try.underlying27 (by kernel_rfl) (hval 1 31 v1 rfl rfl) h1
  have hb1 : ∀ n ∈ zs1, 0 ≤ n ∧ n < 18446744073709551616 := by
    intro n hn
    have : 0 ≤ n ∧ n ≤ 18446744073709551615 := by simpa [Lit.wf, IntKind.min, IntKind.max, IntKind.signed, IntKind.bits] using wf1 n hn
    omega
  have hz2 : Sized Try.prog 89 d2 := Sized.arg (j := 2) hsz (by rw [Try.params11]; rfl) rfl
  obtain ⟨u2, u2n, u2c, rfl⟩ := okWide_slice Try.underlying89 (hval 2 89 v2 rfl rfl)
  obtain ⟨fu2, h2'⟩ := id h2
  obtain ⟨pa2, n2, cap2, V2, e2, hs2, hc2, hm2, hr2, hf2⟩ := open_sl_structs2 Try.underlying89 Try.underlying95 (by kernel_rfl) (by kernel_rfl) (by decide) h2' hz2
  obtain ⟨rfl, rfl, rfl⟩ : pa2 = u2 ∧ n2 = u2n ∧ cap2 = u2c := by cases e2; exact ⟨rfl, rfl, rfl⟩
  have hr1 := slice_reach (j := 1) Try.underlying31 h1 hsz (by rw [Try.params11]; rfl) rfl 8 (by kernel_rfl)
  have hP : StepsAt W n2 V2 := by
    intro i hi
    obtain ⟨_, _, t0, _⟩ := hf2 i hi 0 _ rfl
    obtain ⟨_, _, t1, _⟩ := hf2 i hi 1 _ rfl
    obtain ⟨_, _, t2, _⟩ := hf2 i hi 2 _ rfl
    obtain ⟨_, _, t3, _⟩ := hf2 i hi 3 _ rfl
    obtain ⟨_, _, t4, _⟩ := hf2 i hi 4 _ rfl
    obtain ⟨_, _, t5, _⟩ := hf2 i hi 5 _ rfl
    obtain ⟨_, _, t6, _⟩ := hf2 i hi 6 _ rfl
    obtain ⟨_, _, t7, _⟩ := hf2 i hi 7 _ rfl
    obtain ⟨_, _, t8, s8⟩ := hf2 i hi 8 _ rfl
    obtain ⟨k0, e0, _, w0⟩ := DataW.trod_int Try.underlying3 t0
    obtain ⟨k1, e1, _, w1⟩ := DataW.trod_int Try.underlying3 t1
    obtain ⟨k2, e2, _, w2⟩ := DataW.trod_int Try.underlying3 t2
    obtain ⟨k3, e3, _, w3⟩ := DataW.trod_int Try.underlying3 t3
    obtain ⟨k4, e4, _, w4⟩ := DataW.trod_int Try.underlying27 t4
    obtain ⟨k5, e5, _, w5⟩ := DataW.trod_int Try.underlying27 t5
    obtain ⟨k6, e6, _, w6⟩ := DataW.trod_int Try.underlying27 t6
    obtain ⟨k7, e7, _, w7⟩ := DataW.trod_int Try.underlying27 t7
    obtain ⟨p8, c8, zs8, e8, hs8, wf8, hc8, hm8, hb8, hl8⟩ := open_ints_in Try.underlying31 Try.underlying27 (by kernel_rfl) t8 s8 8 (by kernel_rfl)
    simp only [List.cons.injEq, and_true] at e0 e1 e2 e3 e4 e5 e6 e7
    have w1' : -9223372036854775808 ≤ k1 ∧ k1 ≤ 9223372036854775807 := by simpa [Lit.wf, IntKind.min, IntKind.max, IntKind.signed, IntKind.bits] using w1
    have w2' : -9223372036854775808 ≤ k2 ∧ k2 ≤ 9223372036854775807 := by simpa [Lit.wf, IntKind.min, IntKind.max, IntKind.signed, IntKind.bits] using w2
    have w4' : 0 ≤ k4 ∧ k4 ≤ 18446744073709551615 := by simpa [Lit.wf, IntKind.min, IntKind.max, IntKind.signed, IntKind.bits] using w4
    have w5' : 0 ≤ k5 ∧ k5 ≤ 18446744073709551615 := by simpa [Lit.wf, IntKind.min, IntKind.max, IntKind.signed, IntKind.bits] using w5
    have w6' : 0 ≤ k6 ∧ k6 ≤ 18446744073709551615 := by simpa [Lit.wf, IntKind.min, IntKind.max, IntKind.signed, IntKind.bits] using w6
    have w7' : 0 ≤ k7 ∧ k7 ≤ 18446744073709551615 := by simpa [Lit.wf, IntKind.min, IntKind.max, IntKind.signed, IntKind.bits] using w7
    have wz : AllW zs8 := by
      intro v hv
      have h9 : 0 ≤ v ∧ v ≤ 18446744073709551615 := by simpa [Lit.wf, IntKind.min, IntKind.max, IntKind.signed, IntKind.bits] using wf8 v hv
      omega
    refine ⟨⟨k0, k1, k2, k3, k4, k5, k6, k7, p8, zs8, c8⟩, fun j v hj => ?_, w1', w2', ⟨by simp only; omega, by simp only; omega, by simp only; omega, by simp only; omega, hs8, by simp, wz, by simp only; omega, hc8⟩, hl8⟩
    match j, hj with
    | 0, hj => simp [StepV.cells] at hj; rw [← hj]; exact e0
    | 1, hj => simp [StepV.cells] at hj; rw [← hj]; exact e1
    | 2, hj => simp [StepV.cells] at hj; rw [← hj]; exact e2
    | 3, hj => simp [StepV.cells] at hj; rw [← hj]; exact e3
    | 4, hj => simp [StepV.cells] at hj; rw [← hj]; exact e4
    | 5, hj => simp [StepV.cells] at hj; rw [← hj]; exact e5
    | 6, hj => simp [StepV.cells] at hj; rw [← hj]; exact e6
    | 7, hj => simp [StepV.cells] at hj; rw [← hj]; exact e7
    | 8, hj => simp [StepV.cells] at hj; rw [← hj]; exact e8
    | j + 9, hj => simp [StepV.cells] at hj
  refine (plays01_walk W a0 hb0 pa1 pa2 zs1 cap1 cap2 n2 V2 hs1 (fun v hv => hb1 v hv) (by omega) hl1 hs2 hP hc2 hm2).mono fun e W' ⟨he, hu⟩ => ?_
  subst he
  exact ⟨_, rfl, law_post rfl (by rw [Try.params11]; decide +kernel) rfl (by obtain ⟨rfl, _⟩ := trodVars_none hV; rfl) hW' (hu.below (Nat.le_refl _) (by simp))⟩

theorem over : Rows.cellsPlaysRow.holds Try.pinned (OpenSpec.ofChange Rows.cellsPlaysSpec) :=
  OpenClaim.holds_of_wide 11 Try.f11 rfl rfl rfl rfl rfl rfl rfl ⟨rfl, rfl, rfl, rfl, rfl⟩ rfl rfl rfl rfl rfl (by kernel_rfl) Try.func11 (by kernel_rfl)
    (of_decide_eq_true (by kernel_rfl)) (by unfold Func.isWrapper; first | (rw [if_pos (by decide +kernel)]; kernel_rfl) | (rw [if_neg (by decide +kernel)]; exact ⟨rfl, rfl⟩))
    (fun os started H enc _ => lifted os started H enc)

theorem proved : Rows.CellsPlaysSaid :=
  over

end Go.Proofs.Ythjiiedpplimpaa.cellsPlays
