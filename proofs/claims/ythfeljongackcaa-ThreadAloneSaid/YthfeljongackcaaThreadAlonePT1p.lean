/- ThreadAlone (layer 11): a thread that goes on alone is never stale, and takes just so many steps. No condition. -/
import Derived.Test.YthfeljongackcaaT1p28
import Derived.Test.YthfeljongackcaaT1p29
set_option linter.unusedSimpArgs false
set_option linter.unusedVariables false
set_option maxRecDepth 100000
namespace Go.Proofs.Ythfeljongackcaa.threadAlone
open Go.ChangeShapes Go.WideShapes Go.ChangeAt Go.RowKit

theorem lifted (os : Os) (started : os.Started) (H : Type) (enc : TypeId × Value → H) :
    ReturnsInHanded {} Try.checked os 9 .any (Rows.threadAloneSpec.pre6 enc Try.prog Try.f9 Rows.threadAloneRow.domain false) (Rows.threadAloneSpec.post enc Try.prog Try.f9 false true false false) := by
  refine returnsInHanded_of_change_sized (C := Try.checked) law_own started (by kernel_rfl) Try.func9
    (ChangeSpec.witness6 (enc := enc) (C := Try.checked) false ⟨#[], #[.agg #[.slice none 0 0, .int .u64 0, .slice none 0 0, .slice none 0 0], .int .i64 0], []⟩ 8 (by kernel_rfl) (by kernel_rfl) (by kernel_rfl) (by kernel_rfl)) ?_
  intro W base args ds gs before hval0 hW hcnd hsz _
  have hval : ∀ (j : Nat) t v, Try.f9.params[j]? = some t → args[j]? = some v → Value.okWide Try.prog W .any base t v := hval0
  have hW' := hW
  obtain ⟨p, q, hA0, hV, rfl, hfz, hnd⟩ := hW
  have hA : DataW.TrodAll enc Try.prog W 0 (fun _ => true) true Try.f9.params.toList args.toList ds p := hA0
  rw [Try.params9] at hA hval
  obtain ⟨v0, vs0, d0, ds0, p0, q0, hargs, rfl, rfl, h0, r0⟩ := trodAll_cons hA
  obtain ⟨v1, vs1, d1, ds1, p1, q1, rfl, rfl, rfl, h1, r1⟩ := trodAll_cons r0
  obtain ⟨rfl, rfl, rfl⟩ := trodAll_nil r1
  obtain rfl : args = #[v0, v1] := by cases args; simp_all
  have hz0 : Sized Try.prog 92 d0 := Sized.arg (j := 0) hsz (by rw [Try.params9]; rfl) rfl
  obtain ⟨cs, rfl, hcsz, hf⟩ := open_struct Try.underlying92 (by kernel_rfl) (by kernel_rfl) (hval 0 92 v0 rfl rfl) h0 hz0
  obtain ⟨u0, m0, y0, c0, t0, s0⟩ := hf 0 _ rfl
  obtain ⟨u1, m1, y1, c1, t1, s1⟩ := hf 1 _ rfl
  obtain ⟨u2, m2, y2, c2, t2, s2⟩ := hf 2 _ rfl
  obtain ⟨u3, m3, y3, c3, t3, s3⟩ := hf 3 _ rfl
  obtain ⟨pa, cap, zs, rfl, hs, wf, hc, hm, hr, hl⟩ := open_ints_in Try.underlying48 Try.underlying31 (by kernel_rfl) t0 s0 8 (by kernel_rfl)
  obtain ⟨k1, rfl, b1⟩ := open_u64 t1
  obtain ⟨pp, cp, l, rfl, hP, hlm⟩ := open_progs t2 s2
  have hb : ∀ n ∈ zs, 0 ≤ n ∧ n < 18446744073709551616 := by
    intro n hn
    have : 0 ≤ n ∧ n ≤ 18446744073709551615 := by simpa [Lit.wf, IntKind.min, IntKind.max, IntKind.signed, IntKind.bits] using wf n hn
    omega
  obtain rfl : cs = #[.slice pa zs.length cap, .int .u64 k1, .slice pp l.length cp, u3] := by
    have hcsz4 : cs.size = 4 := hcsz
    apply Array.ext'
    apply List.ext_getElem?
    intro i
    by_cases hi : i < 4
    · have : i = 0 ∨ i = 1 ∨ i = 2 ∨ i = 3 := by omega
      rcases this with rfl | rfl | rfl | rfl <;> simpa using by assumption
    · rw [List.getElem?_eq_none (by simp; omega), List.getElem?_eq_none (by simp; omega)]
  obtain ⟨a1, rfl, rfl, rfl, w1⟩ := open_int Try.underlying3 (hval 1 3 v1 rfl rfl) h1
  refine (threadAlone_walk W pa zs cap k1 pp l cp u3 a1 hs hb (Nat.le_trans hc hm) hP hlm b1).mono fun e W' ⟨he, hu⟩ => ?_
  subst he
  exact ⟨_, rfl, law_post rfl (by rw [Try.params9]; decide +kernel) rfl (by obtain ⟨rfl, _⟩ := trodVars_none hV; rfl) hW' (hu.below (Nat.le_refl _) (by simp))⟩

theorem over : Rows.threadAloneRow.holds Try.pinned (OpenSpec.ofChange Rows.threadAloneSpec) :=
  OpenClaim.holds_of_wide 9 Try.f9 rfl rfl rfl rfl rfl rfl rfl ⟨rfl, rfl, rfl, rfl, rfl⟩ rfl rfl rfl rfl rfl (by kernel_rfl) Try.func9 (by kernel_rfl)
    (of_decide_eq_true (by kernel_rfl)) (by unfold Func.isWrapper; first | (rw [if_pos (by decide +kernel)]; kernel_rfl) | (rw [if_neg (by decide +kernel)]; exact ⟨rfl, rfl⟩))
    (fun os started H enc _ => lifted os started H enc)

theorem proved : Rows.ThreadAloneSaid :=
  over

end Go.Proofs.Ythfeljongackcaa.threadAlone
