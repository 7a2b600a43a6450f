/- formed, of an event. No condition but that its words are words. -/
import Derived.Test.YtfldpejifpmapaaDoorEPure
import Derived.Test.YtfldpejifpmapaaDoorEffB
import Derived.Handy
import Derived.Laws.BitsAllLaws
set_option linter.unusedSimpArgs false
set_option linter.unusedVariables false
set_option maxRecDepth 100000
namespace Go.Proofs.YtfldpejifpmapaaDoor
open Go.RowKit
theorem andNot1 (x : Int) (h : 0 ≤ x ∧ x < 18446744073709551616) : bits BinOp.andNot .u64 x 1 = x - x % 2 := by
  obtain ⟨a, rfl⟩ : ∃ a : Nat, x = a := ⟨x.toNat, by omega⟩
  have h1 := u64_andNot_nat a 1 (by omega) (by omega)
  rw [show ((1 : Nat) : Int) = 1 from rfl] at h1
  rw [h1]
  have h2 : a &&& (18446744073709551615 - 1) = a - a % 2 := by
    apply Nat.eq_of_testBit_eq
    intro i
    rw [Nat.testBit_and]
    cases i with
    | zero =>
      rw [Nat.testBit_zero, Nat.testBit_zero, Nat.testBit_zero]
      have : (a - a % 2) % 2 = 0 := by omega
      rw [this]
      simp
    | succ i =>
      rw [Nat.testBit_succ, Nat.testBit_succ, Nat.testBit_succ, show (18446744073709551615 - 1) / 2 = 2 ^ 63 - 1 from rfl, Nat.testBit_two_pow_sub_one, show (a - a % 2) / 2 = a / 2 by omega]
      by_cases hi : i < 63
      · simp [hi]
      · have : (a / 2).testBit i = false := Nat.testBit_lt_two_pow (Nat.lt_of_lt_of_le (show a / 2 < 2 ^ 63 by omega) (Nat.pow_le_pow_right (by omega) (by omega)))
        rw [this]
        simp
  rw [h2]
  omega
-- the ends of a walk: the answer against formE
section
variable (th ad wd er : Int) (own : Bool) (w : World) (B : Bool)
set_option maxHeartbeats 4000000 in
theorem formed_plain (k : Int) (hk : k = 1 ∨ k = 4 ∨ k = 5 ∨ k = 6 ∨ k = 7 ∨ k = 8 ∨ k = 12) (h1 : 0 ≤ th) (h2 : th < 8) (hw : 0 ≤ wd ∧ wd < 18446744073709551616) (hB : formE ⟨th, k, ad, wd, own, er⟩ = B) : Calls Tryd.prog 38 #[.agg #[.int .i64 th, .int .i64 k, .int .u64 ad, .int .u64 wd, .bool own, .int .i64 er]] w fun e w' => e = .returned (.bool B) ∧ Upd [] w w' := by
  have b1 : decide (th < 0) = false := decide_eq_false (by omega)
  have b2 : decide (8 ≤ th) = false := decide_eq_false (by omega)
  have han := andNot1 wd hw
  have HB := Lib.hid hB
  clear hB
  rcases hk with rfl | rfl | rfl | rfl | rfl | rfl | rfl
  all_goals
    cases own
    all_goals
      refine calls_all fun K hK => ?_
      go_enter Tryd.func38, Tryd.ntmps38
      go_wp2
      all_goals
        refine ⟨ret_bool ?_, by repeat (first | exact Upd.refl _ _ | refine Upd.alloc ?_ _)⟩
        rw [← HB.out]
        simp only [formE, formC, pairK, singK]
        first
          | (symm; apply decide_eq_true; simp_all; try omega)
          | (symm; apply decide_eq_false; simp_all; try omega)
end
end Go.Proofs.YtfldpejifpmapaaDoor
