/- A row that is not there, and a zero one: what each function answers. No condition. -/
import Derived.Test.YthjiiedpplimpaaSum
set_option linter.unusedSimpArgs false
set_option linter.unusedVariables false
set_option maxRecDepth 100000
namespace Go.Proofs.Ythjiiedpplimpaa
open Go.RowKit

/-- no row: nil, or a zero one -/
def NoRow (w : World) (p : Option Addr) : Prop := p = none ∨ ∃ a acc, p = some ⟨a, 0, none⟩ ∧ Blk w a [.slice none 0 0, .int .u64 acc] 88

theorem NoRow.upd {S : List Nat} {w w' : World} {p : Option Addr} (h : NoRow w p) (u : Upd S w w') (hS : ∀ a, p = some ⟨a, 0, none⟩ → a ∉ S) : NoRow w' p := by
  rcases h with rfl | ⟨a, acc, rfl, h⟩
  · exact .inl rfl
  · exact .inr ⟨a, acc, rfl, h.upd u (hS a rfl)⟩

theorem NoRow.upd0 {w w' : World} {p : Option Addr} (h : NoRow w p) (u : Upd [] w w') : NoRow w' p := h.upd u (by simp)

section
variable {w : World} {p : Option Addr}

theorem made_no (h : NoRow w p) : Calls Try.prog 62 #[.pointer p] w fun e w' => e = .returned (.bool false) ∧ w = w' := by
  rcases h with rfl | ⟨a, acc, rfl, h⟩
  · refine calls_all fun K hK => ?_
    go_enter Try.func62, Try.ntmps62
    go_wp2
    all_goals first | exact ⟨rfl, rfl⟩ | rfl
  · have h0 := h.cell 0 rfl
    clear h
    refine calls_all fun K hK => ?_
    go_enter Try.func62, Try.ntmps62
    go_wp2
    all_goals first | exact ⟨rfl, rfl⟩ | rfl

theorem load_no (h : NoRow w p) (i : Int) : Calls Try.prog 14 #[.pointer p, .int .u64 i] w fun e w' => e = .returned (.tuple #[.int .u64 0, .int .i64 1]) ∧ w = w' := by
  rcases h with rfl | ⟨a, acc, rfl, h⟩
  · refine calls_all fun K hK => ?_
    go_enter Try.func14, Try.ntmps14
    go_wp2
    all_goals first | exact ⟨rfl, rfl⟩ | rfl
  · have h0 := h.cell 0 rfl
    clear h
    refine calls_all fun K hK => ?_
    go_enter Try.func14, Try.ntmps14
    go_wp2
    all_goals first | exact ⟨rfl, rfl⟩ | rfl

theorem store_no (h : NoRow w p) (i x : Int) : Calls Try.prog 31 #[.pointer p, .int .u64 i, .int .u64 x] w fun e w' => e = .returned (.int .i64 1) ∧ w = w' := by
  rcases h with rfl | ⟨a, acc, rfl, h⟩
  · refine calls_all fun K hK => ?_
    go_enter Try.func31, Try.ntmps31
    go_wp2
    all_goals first | exact ⟨rfl, rfl⟩ | rfl
  · have h0 := h.cell 0 rfl
    clear h
    refine calls_all fun K hK => ?_
    go_enter Try.func31, Try.ntmps31
    go_wp2
    all_goals first | exact ⟨rfl, rfl⟩ | rfl

theorem swap_no (h : NoRow w p) (i x y : Int) : Calls Try.prog 41 #[.pointer p, .int .u64 i, .int .u64 x, .int .u64 y] w fun e w' => e = .returned (.tuple #[.bool false, .int .i64 1]) ∧ w = w' := by
  rcases h with rfl | ⟨a, acc, rfl, h⟩
  · refine calls_all fun K hK => ?_
    go_enter Try.func41, Try.ntmps41
    go_wp2
    all_goals first | exact ⟨rfl, rfl⟩ | rfl
  · have h0 := h.cell 0 rfl
    clear h
    refine calls_all fun K hK => ?_
    go_enter Try.func41, Try.ntmps41
    go_wp2
    all_goals first | exact ⟨rfl, rfl⟩ | rfl

theorem add_no (h : NoRow w p) (i x : Int) : Calls Try.prog 45 #[.pointer p, .int .u64 i, .int .u64 x] w fun e w' => e = .returned (.tuple #[.int .u64 0, .int .i64 1]) ∧ w = w' := by
  rcases h with rfl | ⟨a, acc, rfl, h⟩
  · refine calls_all fun K hK => ?_
    go_enter Try.func45, Try.ntmps45
    go_wp2
    all_goals first | exact ⟨rfl, rfl⟩ | rfl
  · have h0 := h.cell 0 rfl
    clear h
    refine calls_all fun K hK => ?_
    go_enter Try.func45, Try.ntmps45
    go_wp2
    all_goals first | exact ⟨rfl, rfl⟩ | rfl

theorem fill_no (h : NoRow w p) (i : Int) (q : Option Addr) (n c : Nat) : Calls Try.prog 68 #[.pointer p, .int .u64 i, .slice q n c] w fun e w' => e = .returned (.int .i64 1) ∧ w = w' := by
  rcases h with rfl | ⟨a, acc, rfl, h⟩
  · refine calls_all fun K hK => ?_
    go_enter Try.func68, Try.ntmps68
    go_wp2
    all_goals first | exact ⟨rfl, rfl⟩ | rfl
  · have h0 := h.cell 0 rfl
    clear h
    refine calls_all fun K hK => ?_
    go_enter Try.func68, Try.ntmps68
    go_wp2
    all_goals first | exact ⟨rfl, rfl⟩ | rfl

theorem slice_no (h : NoRow w p) (i x : Int) : Calls Try.prog 67 #[.pointer p, .int .u64 i, .int .u64 x] w fun e w' => e = .returned (.tuple #[.slice none 0 0, .int .i64 1]) ∧ w = w' := by
  rcases h with rfl | ⟨a, acc, rfl, h⟩
  · refine calls_all fun K hK => ?_
    go_enter Try.func67, Try.ntmps67
    go_wp2
    all_goals first | exact ⟨rfl, rfl⟩ | rfl
  · have h0 := h.cell 0 rfl
    clear h
    refine calls_all fun K hK => ?_
    go_enter Try.func67, Try.ntmps67
    go_wp2
    all_goals first | exact ⟨rfl, rfl⟩ | rfl

theorem len_no (h : NoRow w p) : Calls Try.prog 46 #[.pointer p] w fun e w' => e = .returned (.int .i64 0) ∧ w = w' := by
  rcases h with rfl | ⟨a, acc, rfl, h⟩
  · refine calls_all fun K hK => ?_
    go_enter Try.func46, Try.ntmps46
    go_wp2
    all_goals first | exact ⟨rfl, rfl⟩ | rfl
  · have h0 := h.cell 0 rfl
    clear h
    refine calls_all fun K hK => ?_
    go_enter Try.func46, Try.ntmps46
    go_wp2
    all_goals first | exact ⟨rfl, rfl⟩ | rfl

theorem accesses_no (h : NoRow w p) : Calls Try.prog 34 #[.pointer p] w fun e w' => e = .returned (.int .u64 0) ∧ w = w' := by
  rcases h with rfl | ⟨a, acc, rfl, h⟩
  · refine calls_all fun K hK => ?_
    go_enter Try.func34, Try.ntmps34
    go_wp2
    all_goals first | exact ⟨rfl, rfl⟩ | rfl
  · have h0 := h.cell 0 rfl
    clear h
    refine calls_all fun K hK => ?_
    go_enter Try.func34, Try.ntmps34
    go_wp2
    all_goals first | exact ⟨rfl, rfl⟩ | rfl

theorem copy_no (h : NoRow w p) : Calls Try.prog 51 #[.pointer p] w fun e w' => e = .returned (.pointer none) ∧ w = w' := by
  rcases h with rfl | ⟨a, acc, rfl, h⟩
  · refine calls_all fun K hK => ?_
    go_enter Try.func51, Try.ntmps51
    go_wp2
    all_goals first | exact ⟨rfl, rfl⟩ | rfl
  · have h0 := h.cell 0 rfl
    clear h
    refine calls_all fun K hK => ?_
    go_enter Try.func51, Try.ntmps51
    go_wp2
    all_goals first | exact ⟨rfl, rfl⟩ | rfl

theorem sum_no (h : NoRow w p) : Calls Try.prog 44 #[.pointer p] w fun e w' => e = .returned (.int .u64 0) ∧ w = w' := by
  rcases h with rfl | ⟨a, acc, rfl, h⟩
  · refine calls_all fun K hK => ?_
    go_enter Try.func44, Try.ntmps44
    go_wp2
    all_goals first | exact ⟨rfl, rfl⟩ | rfl
  · have h0 := h.cell 0 rfl
    clear h
    refine calls_all fun K hK => ?_
    go_enter Try.func44, Try.ntmps44
    go_wp2
    all_goals first | exact ⟨rfl, rfl⟩ | rfl

theorem words_no (h : NoRow w p) : Calls Try.prog 60 #[.pointer p] w fun e w' => e = .returned (.slice none 0 0) ∧ w = w' := by
  rcases h with rfl | ⟨a, acc, rfl, h⟩
  · refine calls_all fun K hK => ?_
    go_enter Try.func60, Try.ntmps60
    go_wp2
    all_goals first | exact ⟨rfl, rfl⟩ | rfl
  · have h0 := h.cell 0 rfl
    clear h
    refine calls_all fun K hK => ?_
    go_enter Try.func60, Try.ntmps60
    go_wp2
    all_goals first | exact ⟨rfl, rfl⟩ | rfl

theorem has_no (h : NoRow w p) (i : Int) (hi : 0 ≤ i) : Calls Try.prog 69 #[.pointer p, .int .u64 i] w fun e w' => e = .returned (.bool false) ∧ w = w' := by
  have hd : decide (i < 0) = false := by simp; omega
  refine calls_all fun K hK => ?_
  go_enter Try.func69, Try.ntmps69
  go_wp2_with fail
  refine (len_no h).mono ?_
  rintro e w' ⟨rfl, rfl⟩
  go_wp2
  all_goals first | exact ⟨rfl, rfl⟩ | rfl

theorem differ_no (h : NoRow w p) (r : Option Addr) : Calls Try.prog 42 #[.pointer p, .pointer r] w fun e w' => e = .returned (.tuple #[.slice none 0 0, .int .i64 1]) ∧ w = w' := by
  refine calls_all fun K hK => ?_
  go_enter Try.func42, Try.ntmps42
  go_wp2_with fail
  go_step3
  go_wp2_with (go_at_call 62; refine (made_no h).mono ?_; rintro e w' ⟨rfl, rfl⟩)

theorem same_no (h : NoRow w p) (r : Option Addr) : Calls Try.prog 43 #[.pointer p, .pointer r] w fun e w' => e = .returned (.bool false) ∧ w = w' := by
  refine calls_all fun K hK => ?_
  go_enter Try.func43, Try.ntmps43
  go_wp2_with fail
  refine (differ_no h r).mono ?_
  rintro e w' ⟨rfl, rfl⟩
  go_wp2
  all_goals first | exact ⟨rfl, rfl⟩ | rfl
end

open Go.Shelf in
theorem all_stops_no (n : Nat) (hn : 1 ≤ n) (S : List Nat) {w : World} {bx : Nat} {p : Option Addr} (hbx : Blk w bx [.pointer p] 22) (hR : NoRow w p) :
    SeqStopsK Fence.wide n Try.prog 59 #[.pointer (some ⟨bx, 0, none⟩)] (encw []) (CUpd S) (fun xs => xs = []) (fun pre => False) 0 w := by
  intro l J Jx W hW hJ hJx hY h0
  have hbx0 := (hbx.below hW hbx.lt).cell 0 rfl
  have hRW : NoRow W p := by
    rcases hR with rfl | ⟨a, acc, rfl, h⟩
    · exact .inl rfl
    · exact .inr ⟨a, acc, rfl, h.below hW h.lt⟩
  refine callsIn_of_wp Try.func59 rfl trivial ?_ rfl
  simp only [Try.ntmps59, List.size_toArray, List.length_cons, List.length_nil, Nat.reduceAdd, Nat.reduceSub, Array.replicate_succ, Array.replicate_zero, List.push_toArray, List.append_toArray, List.nil_append, List.cons_append]
  have hF : ∀ f, Fence.wide.fn f := fun _ => trivial
  gi_wp2_with (gi_at_call 60; refine (callsIn_wide.2 (words_no hRW)).mono ?_; rintro e w' ⟨rfl, rfl⟩)
  gi_loopw [8] (fun v8 wr => v8 = .int .i64 0 ∧ J [] wr) (fun v8 _ => 0)
  case atStart => exact ⟨rfl, h0⟩
  case round =>
    obtain ⟨rfl, hJk⟩ := hrel
    gi_wp2
    go_end0
    exact ⟨⟨_, rfl⟩, .inl ⟨[], rfl, hJk⟩⟩

end Go.Proofs.Ythjiiedpplimpaa
