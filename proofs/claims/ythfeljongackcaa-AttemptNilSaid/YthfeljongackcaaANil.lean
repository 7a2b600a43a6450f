/- Attempts, rows and clocks that are not there: what each call answers; AttemptNil's walk. No condition. -/
import Derived.Test.YthfeljongackcaaASame
set_option linter.unusedSimpArgs false
set_option linter.unusedVariables false
set_option maxRecDepth 100000
namespace Go.Proofs.Ythfeljongackcaa
open Go.RowKit
open Go.Maps

/-- no attempt: nil, or one without a clock -/
def NT (w : World) (p : Option Addr) : Prop := p = none ∨ ∃ a, p = some ⟨a, 0, none⟩ ∧ w.cell? ⟨a, 1, none⟩ = some (.pointer none)
section
variable {w w' : World} {p : Option Addr}
theorem NT.upd0 (h : NT w p) (u : Upd [] w w') : NT w' p := by
  rcases h with rfl | ⟨a, rfl, h⟩
  · exact .inl rfl
  · exact .inr ⟨a, rfl, (World.cell?_of_block (w := w) (u.block a (World.block_lt_of_cell? w _ h) (by simp))).trans h⟩
theorem there_no (h : NT w p) : Calls Try.prog 48 #[.pointer p] w fun e w' => e = .returned (.bool false) ∧ w = w' := by
  rcases h with rfl | ⟨a, rfl, h⟩
  · refine calls_all fun K hK => ?_
    go_enter Try.func48, Try.ntmps48
    go_wp2
    all_goals exact ⟨rfl, rfl⟩
  · refine calls_all fun K hK => ?_
    go_enter Try.func48, Try.ntmps48
    go_wp2
    all_goals exact ⟨rfl, rfl⟩
theorem idle_no (h : NT w p) : Calls Try.prog 45 #[.pointer p] w fun e w' => e = .returned (.int .i64 1) ∧ w = w' := by
  have H := Lib.hid (there_no h)
  refine calls_all fun K hK => ?_
  go_enter Try.func45, Try.ntmps45
  go_wp2_with fail
  refine (H.out).mono ?_
  rintro e w' ⟨rfl, rfl⟩
  go_wp2
  all_goals exact ⟨rfl, rfl⟩
theorem phase_no (h : NT w p) : Calls Try.prog 17 #[.pointer p] w fun e w' => e = .returned (.int .i64 0) ∧ w = w' := by
  have H := Lib.hid (there_no h)
  refine calls_all fun K hK => ?_
  go_enter Try.func17, Try.ntmps17
  go_wp2_with fail
  refine (H.out).mono ?_
  rintro e w' ⟨rfl, rfl⟩
  go_wp2
  all_goals exact ⟨rfl, rfl⟩
theorem locked_no (h : NT w p) : Calls Try.prog 56 #[.pointer p] w fun e w' => e = .returned (.bool false) ∧ w = w' := by
  have H := Lib.hid (phase_no h)
  refine calls_all fun K hK => ?_
  go_enter Try.func56, Try.ntmps56
  go_wp2_with fail
  refine (H.out).mono ?_
  rintro e w' ⟨rfl, rfl⟩
  go_wp2_with fail
  refine (H.out).mono ?_
  rintro e w' ⟨rfl, rfl⟩
  go_wp2
  all_goals exact ⟨rfl, rfl⟩
theorem drop_no (h : NT w p) : Calls Try.prog 55 #[.pointer p] w fun e w' => e = .returned (.int .i64 1) ∧ w = w' := by
  have H := Lib.hid (there_no h)
  refine calls_all fun K hK => ?_
  go_enter Try.func55, Try.ntmps55
  go_wp2_with fail
  refine (H.out).mono ?_
  rintro e w' ⟨rfl, rfl⟩
  go_wp2
  all_goals exact ⟨rfl, rfl⟩
theorem copy_no (h : NT w p) (r c : Option Addr) : Calls Try.prog 57 #[.pointer p, .pointer r, .pointer c] w fun e w' => e = .returned (.pointer none) ∧ w = w' := by
  have H := Lib.hid (there_no h)
  refine calls_all fun K hK => ?_
  go_enter Try.func57, Try.ntmps57
  go_wp2_with fail
  refine (H.out).mono ?_
  rintro e w' ⟨rfl, rfl⟩
  go_wp2
  all_goals exact ⟨rfl, rfl⟩
theorem get_no (h : NT w p) (x : Int) : Calls Try.prog 14 #[.pointer p, .int .u64 x] w fun e w' => e = .returned (.tuple #[trnNone.val, .int .i64 1]) ∧ Upd [] w w' := by
  have HI := Lib.hid fun W (u : Upd [] w W) => idle_no (h.upd0 u)
  refine calls_all fun K hK => ?_
  go_enter Try.func14, Try.ntmps14
  go_wp2_with fail
  obtain ⟨W, hW⟩ : ∃ W, W = w.alloc (.cells turn0.toArray 36) := ⟨_, rfl⟩
  have RB : Blk W w.heap.size turn0 36 := by rw [hW]; exact Blk.new w _ _
  have HU : Upd [] w W := by rw [hW]; exact (Upd.refl _ _).alloc _
  have hWs : W.heap.size = w.heap.size + 1 := by rw [hW]; exact World.size_alloc _ _
  simp only [turn0, trnNone, evNone, Trn.cells] at hW
  rw [← hW]
  clear hW
  refine (HI.out W HU).mono ?_
  rintro e w' ⟨rfl, rfl⟩
  have q0 := (RB).cell 0 rfl
  have q1 := (RB).cell 1 rfl
  have q2 := (RB).cell 2 rfl
  have q3 := (RB).cell 3 rfl
  have q4 := (RB).cell 4 rfl
  have q5 := (RB).cell 5 rfl
  have q6 := (RB).cell 6 rfl
  have q7 := (RB).cell 7 rfl
  have g0 := (RB).free 0
  have g1 := (RB).free 1
  have g2 := (RB).free 2
  have g3 := (RB).free 3
  have g4 := (RB).free 4
  have g5 := (RB).free 5
  have g6 := (RB).free 6
  have g7 := (RB).free 7
  go_wp2_with fail
  exact bodyPost_ret (turn_results2 4 5 rfl _ _ _ trnNone (.int .i64 1) rfl rfl (turn_set RB rfl trnNone)) rfl (hK _ _ ⟨rfl, upd8 HU (Nat.le_refl _) _ _ _ _ _ _ _ _⟩)
theorem put_no (h : NT w p) (x v : Int) : Calls Try.prog 16 #[.pointer p, .int .u64 x, .int .u64 v] w fun e w' => e = .returned (.tuple #[trnNone.val, .int .i64 1]) ∧ Upd [] w w' := by
  have HI := Lib.hid fun W (u : Upd [] w W) => idle_no (h.upd0 u)
  refine calls_all fun K hK => ?_
  go_enter Try.func16, Try.ntmps16
  go_wp2_with fail
  obtain ⟨W, hW⟩ : ∃ W, W = w.alloc (.cells turn0.toArray 36) := ⟨_, rfl⟩
  have RB : Blk W w.heap.size turn0 36 := by rw [hW]; exact Blk.new w _ _
  have HU : Upd [] w W := by rw [hW]; exact (Upd.refl _ _).alloc _
  have hWs : W.heap.size = w.heap.size + 1 := by rw [hW]; exact World.size_alloc _ _
  simp only [turn0, trnNone, evNone, Trn.cells] at hW
  rw [← hW]
  clear hW
  refine (HI.out W HU).mono ?_
  rintro e w' ⟨rfl, rfl⟩
  have q0 := (RB).cell 0 rfl
  have q1 := (RB).cell 1 rfl
  have q2 := (RB).cell 2 rfl
  have q3 := (RB).cell 3 rfl
  have q4 := (RB).cell 4 rfl
  have q5 := (RB).cell 5 rfl
  have q6 := (RB).cell 6 rfl
  have q7 := (RB).cell 7 rfl
  have g0 := (RB).free 0
  have g1 := (RB).free 1
  have g2 := (RB).free 2
  have g3 := (RB).free 3
  have g4 := (RB).free 4
  have g5 := (RB).free 5
  have g6 := (RB).free 6
  have g7 := (RB).free 7
  go_wp2_with fail
  exact bodyPost_ret (turn_results2 6 7 rfl _ _ _ trnNone (.int .i64 1) rfl rfl (turn_set RB rfl trnNone)) rfl (hK _ _ ⟨rfl, upd8 HU (Nat.le_refl _) _ _ _ _ _ _ _ _⟩)
theorem end_no (h : NT w p) : Calls Try.prog 49 #[.pointer p] w fun e w' => e = .returned (.tuple #[trnNone.val, .int .i64 1]) ∧ Upd [] w w' := by
  have HI := Lib.hid fun W (u : Upd [] w W) => idle_no (h.upd0 u)
  refine calls_all fun K hK => ?_
  go_enter Try.func49, Try.ntmps49
  go_wp2_with fail
  obtain ⟨W, hW⟩ : ∃ W, W = w.alloc (.cells turn0.toArray 36) := ⟨_, rfl⟩
  have RB : Blk W w.heap.size turn0 36 := by rw [hW]; exact Blk.new w _ _
  have HU : Upd [] w W := by rw [hW]; exact (Upd.refl _ _).alloc _
  have hWs : W.heap.size = w.heap.size + 1 := by rw [hW]; exact World.size_alloc _ _
  simp only [turn0, trnNone, evNone, Trn.cells] at hW
  rw [← hW]
  clear hW
  refine (HI.out W HU).mono ?_
  rintro e w' ⟨rfl, rfl⟩
  have q0 := (RB).cell 0 rfl
  have q1 := (RB).cell 1 rfl
  have q2 := (RB).cell 2 rfl
  have q3 := (RB).cell 3 rfl
  have q4 := (RB).cell 4 rfl
  have q5 := (RB).cell 5 rfl
  have q6 := (RB).cell 6 rfl
  have q7 := (RB).cell 7 rfl
  have g0 := (RB).free 0
  have g1 := (RB).free 1
  have g2 := (RB).free 2
  have g3 := (RB).free 3
  have g4 := (RB).free 4
  have g5 := (RB).free 5
  have g6 := (RB).free 6
  have g7 := (RB).free 7
  go_wp2_with fail
  exact bodyPost_ret (turn_results2 2 3 rfl _ _ _ trnNone (.int .i64 1) rfl rfl (turn_set RB rfl trnNone)) rfl (hK _ _ ⟨rfl, upd8 HU (Nat.le_refl _) _ _ _ _ _ _ _ _⟩)
theorem step_no (h : NT w p) : Calls Try.prog 15 #[.pointer p] w fun e w' => e = .returned (.tuple #[trnNone.val, .int .i64 1]) ∧ Upd [] w w' := by
  have HI := Lib.hid fun W (u : Upd [] w W) => there_no (h.upd0 u)
  refine calls_all fun K hK => ?_
  go_enter Try.func15, Try.ntmps15
  go_wp2_with fail
  obtain ⟨W, hW⟩ : ∃ W, W = w.alloc (.cells turn0.toArray 36) := ⟨_, rfl⟩
  have RB : Blk W w.heap.size turn0 36 := by rw [hW]; exact Blk.new w _ _
  have HU : Upd [] w W := by rw [hW]; exact (Upd.refl _ _).alloc _
  have hWs : W.heap.size = w.heap.size + 1 := by rw [hW]; exact World.size_alloc _ _
  simp only [turn0, trnNone, evNone, Trn.cells] at hW
  rw [← hW]
  clear hW
  refine (HI.out W HU).mono ?_
  rintro e w' ⟨rfl, rfl⟩
  have q0 := (RB).cell 0 rfl
  have q1 := (RB).cell 1 rfl
  have q2 := (RB).cell 2 rfl
  have q3 := (RB).cell 3 rfl
  have q4 := (RB).cell 4 rfl
  have q5 := (RB).cell 5 rfl
  have q6 := (RB).cell 6 rfl
  have q7 := (RB).cell 7 rfl
  have g0 := (RB).free 0
  have g1 := (RB).free 1
  have g2 := (RB).free 2
  have g3 := (RB).free 3
  have g4 := (RB).free 4
  have g5 := (RB).free 5
  have g6 := (RB).free 6
  have g7 := (RB).free 7
  go_wp2_with fail
  exact bodyPost_ret (turn_results2 2 3 rfl _ _ _ trnNone (.int .i64 1) rfl rfl (turn_set RB rfl trnNone)) rfl (hK _ _ ⟨rfl, upd8 HU (Nat.le_refl _) _ _ _ _ _ _ _ _⟩)

def zeroAS : AS := ⟨0, [], [], 0, 0, 0, 0, 0, 0⟩
def astCells (s : AS) (rv wv : Value) : List Value := [.int .u64 s.snap, rv, wv, .int .i64 s.phase, .int .i64 s.thn, .int .u64 s.addr, .int .u64 s.word, .int .u64 s.found, .int .i64 s.at_]
theorem ast_results {fn : Func} (k : Nat) (hr : fn.results = #[.cell k 60]) (t : Array Value) (w : World) (rb : Nat) (s : AS) (rv wv : Value) (h2 : t.getD k undef = .pointer (some ⟨rb, 0, none⟩)) (hb : Blk w rb (astCells s rv wv) 60) :
    (results fn t).run Try.prog w = .ok (stateV s rv wv) w := by
  have c0 := hb.cell 0 rfl
  have c1 := hb.cell 1 rfl
  have c2 := hb.cell 2 rfl
  have c3 := hb.cell 3 rfl
  have c4 := hb.cell 4 rfl
  have c5 := hb.cell 5 rfl
  have c6 := hb.cell 6 rfl
  have c7 := hb.cell 7 rfl
  have c8 := hb.cell 8 rfl
  have h2' : t[k]?.getD undef = .pointer (some ⟨rb, 0, none⟩) := by simpa using h2
  simp [results, hr, h2', go_sem, c0, c1, c2, c3, c4, c5, c6, c7, c8, stateV]
theorem state_no (h : NT w p) : Calls Try.prog 26 #[.pointer p] w fun e w' => e = .returned (stateV zeroAS (.slice none 0 0) (.slice none 0 0)) ∧ Upd [] w w' := by
  have HI := Lib.hid fun W (u : Upd [] w W) => there_no (h.upd0 u)
  refine calls_all fun K hK => ?_
  go_enter Try.func26, Try.ntmps26
  go_wp2_with fail
  have RB := Blk.new w (astCells zeroAS (.slice none 0 0) (.slice none 0 0)) 60
  have HU : Upd [] w (w.alloc (.cells (astCells zeroAS (.slice none 0 0) (.slice none 0 0)).toArray 60)) := (Upd.refl [] _).alloc _
  simp only [astCells, zeroAS] at RB HU
  refine (HI.out _ HU).mono ?_
  rintro e w' ⟨rfl, rfl⟩
  generalize w.alloc (.cells #[.int .u64 0, .slice none 0 0, .slice none 0 0, .int .i64 0, .int .i64 0, .int .u64 0, .int .u64 0, .int .u64 0, .int .i64 0] 60) = W at RB HU ⊢
  have c0 := RB.cell 0 rfl
  have c1 := RB.cell 1 rfl
  have c2 := RB.cell 2 rfl
  have c3 := RB.cell 3 rfl
  have c4 := RB.cell 4 rfl
  have c5 := RB.cell 5 rfl
  have c6 := RB.cell 6 rfl
  have c7 := RB.cell 7 rfl
  have c8 := RB.cell 8 rfl
  have g0 := RB.free 0
  have g1 := RB.free 1
  have g2 := RB.free 2
  have g3 := RB.free 3
  have g4 := RB.free 4
  have g5 := RB.free 5
  have g6 := RB.free 6
  have g7 := RB.free 7
  have g8 := RB.free 8
  have RB2 := ((((((((RB.set 0 (.int .u64 0)).set 1 (.slice none 0 0)).set 2 (.slice none 0 0)).set 3 (.int .i64 0)).set 4 (.int .i64 0)).set 5 (.int .u64 0)).set 6 (.int .u64 0)).set 7 (.int .u64 0)).set 8 (.int .i64 0)
  go_wp2_with fail
  refine bodyPost_ret (ast_results 2 rfl _ _ w.heap.size zeroAS (.slice none 0 0) (.slice none 0 0) rfl RB2) rfl (hK _ _ ⟨rfl, ?_⟩)
  (repeat (refine Upd.setCell ?_ (Or.inr (Nat.le_refl _)) _))
  exact HU

theorem len_nil (w : World) : Calls Try.prog 41 #[.pointer none] w fun e w' => e = .returned (.int .i64 0) ∧ w = w' := by
  refine calls_all fun K hK => ?_
  go_enter Try.func41, Try.ntmps41
  go_wp2
  all_goals exact ⟨rfl, rfl⟩
theorem begin_nil1 (w : World) (c : Option Addr) : Calls Try.prog 13 #[.pointer none, .pointer c] w fun e w' => e = .returned (.tuple #[.pointer none, trnNone.val, .int .i64 1]) ∧ Upd [] w w' := by
  refine calls_all fun K hK => ?_
  go_enter Try.func13, Try.ntmps13
  go_wp2_with fail
  obtain ⟨W, hW⟩ : ∃ W, W = w.alloc (.cells turn0.toArray 36) := ⟨_, rfl⟩
  have RB : Blk W w.heap.size turn0 36 := by rw [hW]; exact Blk.new w _ _
  have HU : Upd [] w W := by rw [hW]; exact (Upd.refl _ _).alloc _
  have hWs : W.heap.size = w.heap.size + 1 := by rw [hW]; exact World.size_alloc _ _
  simp only [turn0, trnNone, evNone, Trn.cells] at hW
  rw [← hW]
  clear hW
  refine (len_nil W).mono ?_
  rintro e w' ⟨rfl, rfl⟩
  have q0 := (RB).cell 0 rfl
  have q1 := (RB).cell 1 rfl
  have q2 := (RB).cell 2 rfl
  have q3 := (RB).cell 3 rfl
  have q4 := (RB).cell 4 rfl
  have q5 := (RB).cell 5 rfl
  have q6 := (RB).cell 6 rfl
  have q7 := (RB).cell 7 rfl
  have g0 := (RB).free 0
  have g1 := (RB).free 1
  have g2 := (RB).free 2
  have g3 := (RB).free 3
  have g4 := (RB).free 4
  have g5 := (RB).free 5
  have g6 := (RB).free 6
  have g7 := (RB).free 7
  go_wp2_with fail
  exact bodyPost_ret (turn_results3 4 5 6 rfl _ _ _ trnNone (.pointer none) (.int .i64 1) rfl rfl rfl (turn_set RB rfl trnNone)) rfl (hK _ _ ⟨rfl, upd8 HU (Nat.le_refl _) _ _ _ _ _ _ _ _⟩)
theorem begin_nil2 {X : SX} {sh : Sh} (h : XAt w X sh) : Calls Try.prog 13 #[.pointer (some ⟨X.ra, 0, none⟩), .pointer none] w fun e w' => e = .returned (.tuple #[.pointer none, trnNone.val, .int .i64 1]) ∧ Upd [] w w' := by
  obtain ⟨acc, st, h⟩ := h
  have hl1 : ((sh.row.length : Int) == 0) = false := by have := h.row.len1; rw [beq_eq_false_iff_ne]; omega
  refine calls_all fun K hK => ?_
  go_enter Try.func13, Try.ntmps13
  go_wp2_with fail
  obtain ⟨W, hW⟩ : ∃ W, W = w.alloc (.cells turn0.toArray 36) := ⟨_, rfl⟩
  have RB : Blk W w.heap.size turn0 36 := by rw [hW]; exact Blk.new w _ _
  have HU : Upd [] w W := by rw [hW]; exact (Upd.refl _ _).alloc _
  have hWs : W.heap.size = w.heap.size + 1 := by rw [hW]; exact World.size_alloc _ _
  simp only [turn0, trnNone, evNone, Trn.cells] at hW
  rw [← hW]
  clear hW
  refine (len_row (h.upd HU (by simp)).row).mono ?_
  rintro e w' ⟨rfl, rfl⟩
  have q0 := (RB).cell 0 rfl
  have q1 := (RB).cell 1 rfl
  have q2 := (RB).cell 2 rfl
  have q3 := (RB).cell 3 rfl
  have q4 := (RB).cell 4 rfl
  have q5 := (RB).cell 5 rfl
  have q6 := (RB).cell 6 rfl
  have q7 := (RB).cell 7 rfl
  have g0 := (RB).free 0
  have g1 := (RB).free 1
  have g2 := (RB).free 2
  have g3 := (RB).free 3
  have g4 := (RB).free 4
  have g5 := (RB).free 5
  have g6 := (RB).free 6
  have g7 := (RB).free 7
  go_wp2_with fail
  exact bodyPost_ret (turn_results3 4 5 6 rfl _ _ _ trnNone (.pointer none) (.int .i64 1) rfl rfl rfl (turn_set RB rfl trnNone)) rfl (hK _ _ ⟨rfl, upd8 HU (Nat.le_refl _) _ _ _ _ _ _ _ _⟩)
theorem from_nil1 (w : World) (s : AS) (rv wv : Value) (c : Option Addr) : Calls Try.prog 22 #[stateV s rv wv, .pointer none, .pointer c] w fun e w' => e = .returned (.tuple #[.pointer none, .int .i64 1]) ∧ Upd [] w w' := by
  unfold stateV
  refine calls_all fun K hK => ?_
  go_enter Try.func22, Try.ntmps22
  go_wp2_with fail
  refine (len_nil _).mono ?_
  rintro e w' ⟨rfl, rfl⟩
  go_wp2_with fail
  all_goals exact ⟨rfl, (Upd.refl _ _).alloc _⟩
theorem from_nil2 {X : SX} {sh : Sh} (h : XAt w X sh) (s : AS) (rv wv : Value) : Calls Try.prog 22 #[stateV s rv wv, .pointer (some ⟨X.ra, 0, none⟩), .pointer none] w fun e w' => e = .returned (.tuple #[.pointer none, .int .i64 1]) ∧ Upd [] w w' := by
  obtain ⟨acc, st, h⟩ := h
  have hl1 : ((sh.row.length : Int) == 0) = false := by have := h.row.len1; rw [beq_eq_false_iff_ne]; omega
  unfold stateV
  refine calls_all fun K hK => ?_
  go_enter Try.func22, Try.ntmps22
  go_wp2_with fail
  refine (len_row (h.upd ((Upd.refl [] _).alloc _) (by simp)).row).mono ?_
  rintro e w' ⟨rfl, rfl⟩
  go_wp2_with fail
  all_goals exact ⟨rfl, (Upd.refl _ _).alloc _⟩
end
end Go.Proofs.Ythfeljongackcaa
