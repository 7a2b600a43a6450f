/- AttemptNames' walk: the phases' and the outs' numbers, and known. No condition. -/
import Derived.Test.YthfeljongackcaaAKnown
set_option linter.unusedSimpArgs false
set_option linter.unusedVariables false
set_option maxRecDepth 100000
namespace Go.Proofs.Ythfeljongackcaa
open Go.RowKit
theorem ten (k : Nat) (h : k < 10) : ([.int .i64 1, .int .i64 2, .int .i64 3, .int .i64 4, .int .i64 5, .int .i64 6, .int .i64 7, .int .i64 8, .int .i64 9, .int .i64 10] : List Value)[k]? = some (.int .i64 ((k : Int) + 1)) := by
  have : k = 0 ∨ k = 1 ∨ k = 2 ∨ k = 3 ∨ k = 4 ∨ k = 5 ∨ k = 6 ∨ k = 7 ∨ k = 8 ∨ k = 9 := by omega
  rcases this with rfl | rfl | rfl | rfl | rfl | rfl | rfl | rfl | rfl | rfl <;> rfl
theorem seven (k : Nat) (h : k < 7) : ([.int .i64 1, .int .i64 2, .int .i64 3, .int .i64 4, .int .i64 5, .int .i64 6, .int .i64 7] : List Value)[k]? = some (.int .i64 ((k : Int) + 1)) := by
  have : k = 0 ∨ k = 1 ∨ k = 2 ∨ k = 3 ∨ k = 4 ∨ k = 5 ∨ k = 6 := by omega
  rcases this with rfl | rfl | rfl | rfl | rfl | rfl | rfl <;> rfl

set_option maxHeartbeats 2000000 in
theorem attemptNames_walk (w : World) : Calls Try.prog 4 #[] w fun e w' => e = .returned (.bool true) ∧ Upd [] w w' := by
  refine calls_all fun K hK => ?_
  go_enter Try.func4, Try.ntmps4
  go_wp2_with fail
  have B1 := Blk.new w [.int .i64 1, .int .i64 2, .int .i64 3, .int .i64 4, .int .i64 5, .int .i64 6, .int .i64 7, .int .i64 8, .int .i64 9, .int .i64 10] 43
  have u1 : Upd [] w (w.alloc (.cells #[.int .i64 1, .int .i64 2, .int .i64 3, .int .i64 4, .int .i64 5, .int .i64 6, .int .i64 7, .int .i64 8, .int .i64 9, .int .i64 10] 43)) := (Upd.refl _ _).alloc _
  generalize w.alloc (.cells #[.int .i64 1, .int .i64 2, .int .i64 3, .int .i64 4, .int .i64 5, .int .i64 6, .int .i64 7, .int .i64 8, .int .i64 9, .int .i64 10] 43) = W1 at B1 u1 ⊢
  have HB1 := Lib.hid B1
  have HU1 := Lib.hid u1
  clear B1 u1
  go_loop [2] (fun v2 => ∃ k : Nat, k ≤ 10 ∧ v2 = .int .i64 k) (fun v2 => 10 - (intOf v2).toNat)
  case atStart => exact ⟨0, by omega, rfl⟩
  case round =>
    obtain ⟨k, hk, rfl⟩ := hrel
    by_cases hlt : k < 10
    · have hc := HB1.out.cell k (ten k hlt)
      have hvv : ((k : Int) + 1 != (k : Int) + 1) = false := by simp
      have hlt' : (k : Int) < 10 := by omega
      go_wp2_with fail
      go_round
      case rel => exact ⟨k + 1, by omega, by go_num⟩
      case measure => simp [intOf]; omega
    · obtain rfl : k = 10 := by omega
      go_wp2_with fail
      have B2 := Blk.new W1 [.int .i64 1, .int .i64 2, .int .i64 3, .int .i64 4, .int .i64 5, .int .i64 6, .int .i64 7] 30
      have u2 : Upd [] w (W1.alloc (.cells #[.int .i64 1, .int .i64 2, .int .i64 3, .int .i64 4, .int .i64 5, .int .i64 6, .int .i64 7] 30)) := HU1.out.alloc _
      clear HB1 HU1
      generalize W1.alloc (.cells #[.int .i64 1, .int .i64 2, .int .i64 3, .int .i64 4, .int .i64 5, .int .i64 6, .int .i64 7] 30) = W2 at B2 u2 ⊢
      have HB2 := Lib.hid B2
      have HU2 := Lib.hid u2
      clear B2 u2
      go_loop [4] (fun v4 => ∃ k : Nat, k ≤ 7 ∧ v4 = .int .i64 k) (fun v4 => 7 - (intOf v4).toNat)
      case atStart => exact ⟨0, by omega, rfl⟩
      case round =>
        obtain ⟨k, hk, rfl⟩ := hrel
        by_cases hlt : k < 7
        · have hc := HB2.out.cell k (seven k hlt)
          have hvv : ((k : Int) + 1 != (k : Int) + 1) = false := by simp
          have hlt' : (k : Int) < 7 := by omega
          go_wp2_with fail
          go_round
          case rel => exact ⟨k + 1, by omega, by go_num⟩
          case measure => simp [intOf]; omega
        · obtain rfl : k = 7 := by omega
          go_wp2_with fail
          refine (known07_walk W2).mono ?_
          rintro e w3 ⟨rfl, u3⟩
          go_wp2
          all_goals exact ⟨rfl, HU2.out.trans u3⟩
end Go.Proofs.Ythfeljongackcaa
