/- The clock's Copy, and its steps asked anew. No condition. -/
import Derived.Test.YthjiiedpplimpaaRefClk
import Derived.Deep.RegionWith
set_option linter.unusedSimpArgs false
set_option linter.unusedVariables false
set_option maxRecDepth 100000
namespace Go.Proofs.Ythjiiedpplimpaa
open Go.RowKit

theorem RowAt.drew {w : World} {a b : Nat} {ws : List Int} {acc : Int} (h : RowAt w a b ws acc) : RowAt w.drew a b ws acc := h.upd (S := []) (Upd.refl _ _).drew (by simp) (by simp)

theorem copy_row' {w : World} {a b : Nat} {ws : List Int} {acc : Int} (h : RowAt w a b ws acc) : Calls Try.prog 51 #[.pointer (some ⟨a, 0, none⟩)] w fun e w' => ∃ a' b', e = .returned (.pointer (some ⟨a', 0, none⟩)) ∧ RowAt w' a' b' ws 0 ∧ w.heap.size ≤ a' ∧ w.heap.size ≤ b' ∧ Upd [] w w' := copy_row h

theorem clkCopy {w : World} {c a b : Nat} {word steps : Int} (h : ClockAt w c a b word steps) :
    Calls Try.prog 37 #[.pointer (some ⟨c, 0, none⟩)] w (MadeClock w word steps) := by
  obtain ⟨acc, r⟩ := h.row
  have h0 := h.head.cell 0 rfl
  have h1 := h.head.cell 1 rfl
  have hh := h.head
  have rd := r.drew
  refine calls_all fun K hK => ?_
  go_enter Try.func37, Try.ntmps37
  go_wp2_with fail
  refine (none_false _ _ _ h0).mono ?_
  rintro e w' ⟨rfl, rfl⟩
  go_wp2_with fail
  go_region_with (first | (go_at_call 51; refine (copy_row' rd).mono ?_; rintro e w' ⟨a', b', rfl, hr', ha, hb, hu⟩; have h1' := ((hh.drew).upd hu (by simp)).cell 1 rfl))
  all_goals
    go_wp2
    simp only [World.size_drew] at ha hb
    have hu' : Upd [] w w' := ((Upd.refl [] w).drew).trans hu
    have hn := Blk.new w' [Value.pointer (some ⟨a', 0, none⟩), .int .i64 steps] 79
    go_ret
    refine hK _ _ ?_
    exact ⟨w'.heap.size, a', b', rfl, ⟨hn, ⟨_, hr'.upd ((Upd.refl [] _).alloc _) (by simp) (by simp)⟩, by have := hr'.lta; omega, by have := hr'.ltb; omega⟩, hu'.size, ha, hb, hu'.alloc _⟩

end Go.Proofs.Ythjiiedpplimpaa
