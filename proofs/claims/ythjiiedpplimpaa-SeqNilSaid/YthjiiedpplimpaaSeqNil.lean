/- The statement SeqNil of layer 6 (seq): its walk: clocks that are not there, and zero ones. No condition. -/
import Derived.Test.YthjiiedpplimpaaSeqWords
set_option linter.unusedSimpArgs false
set_option linter.unusedVariables false
set_option maxRecDepth 100000
namespace Go.Proofs.Ythjiiedpplimpaa
open Go.RowKit

theorem none_true_nil (w : World) :
    Calls Try.prog 56 #[.pointer none] w fun e w' => e = .returned (.bool true) ∧ w = w' := by
  go_enter Try.func56, Try.ntmps56
  go_wp2
  go_ret
  exact ⟨rfl, rfl⟩

theorem none_true (c : Nat) (w : World) (h : w.cell? ⟨c, 0, none⟩ = some (.pointer none)) :
    Calls Try.prog 56 #[.pointer (some ⟨c, 0, none⟩)] w fun e w' => e = .returned (.bool true) ∧ w = w' := by
  go_enter Try.func56, Try.ntmps56
  go_wp2
  go_ret
  exact ⟨rfl, rfl⟩

theorem nothing06_nil (s : Int) (w : World) :
    Calls Try.prog 40 #[.pointer none, .int .u64 s] w fun e w' => e = .returned (.bool true) ∧ w = w' := by
  refine calls_all fun K hK => ?_
  go_enter Try.func40, Try.ntmps40
  go_wp2

theorem nothing06_zero (s : Int) (c : Nat) (w : World) (h0 : w.cell? ⟨c, 0, none⟩ = some (.pointer none)) :
    Calls Try.prog 40 #[.pointer (some ⟨c, 0, none⟩), .int .u64 s] w fun e w' => e = .returned (.bool true) ∧ w = w' := by
  refine calls_all fun K hK => ?_
  go_enter Try.func40, Try.ntmps40
  go_wp2

theorem nil06_walk (s : Int) (w : World) : Calls Try.prog 8 #[.int .u64 s] w fun e w' => e = .returned (.bool true) ∧ Upd [] w w' := by
  refine calls_all fun K hK => ?_
  go_enter Try.func8, Try.ntmps8
  go_wp2_with fail
  refine (nothing06_nil _ _).mono ?_
  rintro e w' ⟨rfl, rfl⟩
  go_wp2_with fail
  refine (nothing06_zero _ _ _ (by simp)).mono ?_
  rintro e w' ⟨rfl, rfl⟩
  go_wp2_with fail
  refine (known06 _).mono ?_
  rintro e w' ⟨rfl, hu⟩
  go_wp2
  exact ⟨rfl, ((Upd.refl [] w).alloc _).trans hu⟩

end Go.Proofs.Ythjiiedpplimpaa
