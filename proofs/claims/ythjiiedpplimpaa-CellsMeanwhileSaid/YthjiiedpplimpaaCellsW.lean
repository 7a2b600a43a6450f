/- The row's Len, Has, Slice, Words, a row that is there. No condition. -/
import Derived.Test.YthjiiedpplimpaaCellsK
set_option linter.unusedSimpArgs false
set_option linter.unusedVariables false
set_option maxRecDepth 100000
namespace Go.Proofs.Ythjiiedpplimpaa
open Go.RowKit

theorem len_row {w : World} {a b : Nat} {ws : List Int} {acc : Int} (h : RowAt w a b ws acc) :
    Calls Try.prog 46 #[.pointer (some ⟨a, 0, none⟩)] w fun e w' => e = .returned (.int .i64 ws.length) ∧ w = w' := by
  obtain ⟨cap, h0⟩ := h.c0
  have hn := h.len2
  refine calls_all fun K hK => ?_
  go_enter Try.func46, Try.ntmps46
  go_wp2
  all_goals exact ⟨rfl, rfl⟩

theorem has_row {w : World} {a b : Nat} {ws : List Int} {acc : Int} (h : RowAt w a b ws acc) (i : Int) :
    Calls Try.prog 69 #[.pointer (some ⟨a, 0, none⟩), .int .u64 i] w fun e w' => e = .returned (.bool (decide (i < ws.length))) ∧ w = w' := by
  obtain ⟨cap, h0⟩ := h.c0
  have hn := h.len2
  refine calls_all fun K hK => ?_
  go_enter Try.func69, Try.ntmps69
  go_wp2
  all_goals exact ⟨rfl, rfl⟩

/-- what Slice answers where it answers words -/
def SliceOk (w : World) (zs : List Int) (e : Ending) (w' : World) : Prop :=
  ∃ g spare, e = .returned (.tuple #[.slice (some ⟨g, 0, none⟩) zs.length (zs.length + List.length spare), .int .i64 0]) ∧ (w.heap.size ≤ g ∧ zs.length + List.length spare ≤ maxLen) ∧ Blk w' g (zs.map (Value.int .u64) ++ spare) 27 ∧ Upd [] w w'

theorem slice_row_ok {w : World} {a b : Nat} {ws : List Int} {acc : Int} (h : RowAt w a b ws acc) (x y : Nat) (hxy : x ≤ y) (hy : y ≤ ws.length) :
    Calls Try.prog 67 #[.pointer (some ⟨a, 0, none⟩), .int .u64 x, .int .u64 y] w (SliceOk w ((ws.drop x).take (y - x))) := by
  obtain ⟨cap, hb, sp, hb2, hcap⟩ := h.head
  have h0 := hb.cell 0 rfl
  have hn := h.len2
  have d1 : decide (y < x) = false := by simp; omega
  have d2 : decide (ws.length < y) = false := by simp; omega
  have hl : ((ws.drop x).take (y - x)).length = y - x := by simp; omega
  have hx : (0 : Int) ≤ (x : Int) := by omega
  have hy0 : (0 : Int) ≤ (y : Int) := by omega
  have hcy : (y : Int) ≤ (cap : Int) := by omega
  have hsl : ∀ p, SlI w .u64 p ([] : List Int) := fun p => SlI.nil _ _ _
  by_cases hz : x = y
  · subst hz
    rw [Nat.sub_self, List.take_zero]
    refine calls_all fun K hK => ?_
    go_enter Try.func67, Try.ntmps67
    go_wp2_with fail
    refine (made_true h).mono ?_
    rintro e w' ⟨rfl, rfl⟩
    go_wp2_with fail
    refine (clone_ok _ _ [] _ (hsl _) (by simp)).mono ?_
    rintro e w' ⟨g, spare, rfl, hg, hb', hu⟩
    go_wp2
    exact ⟨g, spare, by simp, hg, hb', hu⟩
  · have hs : SlI w .u64 (some ⟨b, x, none⟩) ((ws.drop x).take (y - x)) := by
      refine ⟨fun _ => ⟨b, x, rfl⟩, fun b' o e i hi => ?_⟩
      simp at e
      obtain ⟨rfl, rfl⟩ := e
      rw [hl] at hi
      refine hb2.cell _ ?_
      rw [List.getElem?_append_left (by simp; omega), wd_get (by rw [hl]; exact hi)]
      simp
    have HS := Lib.hid (clone_ok _ (y - x) _ _ hs (by rw [hl]; omega))
    rw [hl] at HS
    have hlt : (x : Int) < (y : Int) := by omega
    refine calls_all fun K hK => ?_
    go_enter Try.func67, Try.ntmps67
    go_wp2_with fail
    refine (made_true h).mono ?_
    rintro e w' ⟨rfl, rfl⟩
    go_wp2_with fail
    refine (HS.out).mono ?_
    rintro e w' ⟨g, spare, rfl, hg, hb', hu⟩
    rw [hl]
    go_wp2
    exact ⟨g, spare, by rw [hl]; rfl, hg, hb', hu⟩

theorem slice_row_arg {w : World} {a b : Nat} {ws : List Int} {acc : Int} (h : RowAt w a b ws acc) (x y : Int) (hxy : y < x) :
    Calls Try.prog 67 #[.pointer (some ⟨a, 0, none⟩), .int .u64 x, .int .u64 y] w fun e w' => e = .returned (.tuple #[.slice none 0 0, .int .i64 2]) ∧ w = w' := by
  have d1 : decide (y < x) = true := by simp; omega
  refine calls_all fun K hK => ?_
  go_enter Try.func67, Try.ntmps67
  go_wp2_with fail
  refine (made_true h).mono ?_
  rintro e w' ⟨rfl, rfl⟩
  go_wp2
  all_goals exact ⟨rfl, rfl⟩

theorem slice_row_range {w : World} {a b : Nat} {ws : List Int} {acc : Int} (h : RowAt w a b ws acc) (x y : Int) (hxy : x ≤ y) (hy : ws.length < y) :
    Calls Try.prog 67 #[.pointer (some ⟨a, 0, none⟩), .int .u64 x, .int .u64 y] w fun e w' => e = .returned (.tuple #[.slice none 0 0, .int .i64 4]) ∧ w = w' := by
  obtain ⟨cap, h0⟩ := h.c0
  have hn := h.len2
  have d1 : decide (y < x) = false := by simp; omega
  have d2 : decide ((ws.length : Int) < y) = true := by simp; omega
  refine calls_all fun K hK => ?_
  go_enter Try.func67, Try.ntmps67
  go_wp2_with fail
  refine (made_true h).mono ?_
  rintro e w' ⟨rfl, rfl⟩
  go_wp2
  all_goals exact ⟨rfl, rfl⟩

theorem words_row {w : World} {a b : Nat} {ws : List Int} {acc : Int} (h : RowAt w a b ws acc) :
    Calls Try.prog 60 #[.pointer (some ⟨a, 0, none⟩)] w (MadeInts w ws) := by
  have HS := Lib.hid (slice_row_ok h 0 ws.length (by omega) (by omega))
  have hn := h.len2
  rw [List.drop_zero, Nat.sub_zero, List.take_length] at HS
  refine calls_all fun K hK => ?_
  go_enter Try.func60, Try.ntmps60
  go_wp2_with fail
  refine (len_row h).mono ?_
  rintro e w' ⟨rfl, rfl⟩
  go_wp2_with fail
  refine (HS.out).mono ?_
  rintro e w' ⟨g, spare, rfl, hg, hb', hu⟩
  go_wp2
  exact ⟨g, spare, rfl, hg, hb', hu⟩

end Go.Proofs.Ythjiiedpplimpaa
