/- The statement SeqWords of layer 6 (seq): its walk, and the closed check that all of the layer's statements end with. No condition. -/
import Derived.Test.YthjiiedpplimpaaSeq
set_option linter.unusedSimpArgs false
set_option linter.unusedVariables false
set_option maxRecDepth 100000
namespace Go.Proofs.Ythjiiedpplimpaa
open Go.RowKit

theorem known06 (w : World) : Calls Try.prog 23 #[] w fun e w' => e = .returned (.bool true) ∧ Upd [] w w' := by
  refine calls_all fun K hK => ?_
  go_enter Try.func23, Try.ntmps23
  go_wp2_with fail
  refine (clkNew w).mono ?_
  rintro e w1 ⟨c, a, b, rfl, h1, hc, ha, hb, u1⟩
  go_wp2_with fail
  refine (clkTake_yes h1 0 1 (by decide +kernel) (by decide +kernel)).mono ?_
  rintro e w2 ⟨rfl, h2, u2⟩
  rw [wrap64_1] at h2
  go_wp2_with fail
  refine (clkTake_no h2 0 (by decide +kernel)).mono ?_
  rintro e w3 ⟨rfl, h3, u3⟩
  rw [wrap64_2] at h3
  go_wp2_with fail
  refine (clkLeave_yes h3 0 2 (by decide +kernel) (by decide +kernel)).mono ?_
  rintro e w4 ⟨rfl, h4, u4⟩
  rw [wrap64_3] at h4
  go_wp2_with fail
  refine (clkLoad h4).mono ?_
  rintro e w5 ⟨rfl, h5, u5⟩
  rw [wrap64_4] at h5
  go_wp2_with fail
  refine (clkSteps h5).mono ?_
  rintro e w6 ⟨rfl, rfl⟩
  go_wp2
  have hs : ∀ x ∈ [c, a, b], x ∈ ([] : List Nat) ∨ w.heap.size ≤ x := by simp; omega
  exact ⟨rfl, (((u1.tr u2 (by simp) hs).tr u3 (by simp) hs).tr u4 (by simp) hs).tr u5 (by simp) hs⟩

theorem snapshot_any (n : Int) (w : World) : Calls Try.prog 24 #[.int .u64 n] w fun e w' => e = .returned (.int .u64 (IntKind.u64.wrap (2 * n))) ∧ w = w' := by
  rw [Int.mul_comm]
  go_enter Try.func24, Try.ntmps24
  go_wp2
  go_ret
  exact ⟨rfl, rfl⟩

theorem words_walk (n : Int) (w : World) (h0 : 0 ≤ n) (h1 : n < 18446744073709551616) : Calls Try.prog 5 #[.int .u64 n] w fun e w' => e = .returned (.bool true) ∧ Upd [] w w' := by
  refine calls_all fun K hK => ?_
  have h2 : opn (IntKind.u64.wrap (2 * n)) = true := by
    rw [opn_eq (by rw [IntKind.wrap_u64]; omega) (by rw [IntKind.wrap_u64]; omega), IntKind.wrap_u64]
    simp
  have H2 := Lib.hid h2
  clear h2
  go_enter Try.func5, Try.ntmps5
  go_wp2_with fail
  refine (open_any _ _).mono ?_
  rintro e w' ⟨rfl, rfl⟩
  rw [opn_eq h0 h1]
  go_wp2_with fail
  refine (number_any _ _ h0 h1).mono ?_
  rintro e w' ⟨rfl, rfl⟩
  go_wp2_with fail
  refine (snapshot_any _ _).mono ?_
  rintro e w' ⟨rfl, rfl⟩
  go_wp2_with fail
  refine (snapshot_any _ _).mono ?_
  rintro e w' ⟨rfl, rfl⟩
  go_wp2_with fail
  refine (open_any _ _).mono ?_
  rintro e w' ⟨rfl, rfl⟩
  rw [H2.out]
  go_wp2_with fail
  refine (known06 _).mono ?_
  rintro e w' ⟨rfl, hu⟩
  go_wp2
  exact ⟨rfl, hu⟩

end Go.Proofs.Ythjiiedpplimpaa
