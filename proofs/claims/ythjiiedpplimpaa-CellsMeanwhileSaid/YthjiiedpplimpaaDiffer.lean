/- Where two rows differ: cells.Differ and cells.Same, rows that are there (they may be one). No condition. -/
import Derived.Test.YthjiiedpplimpaaNoRow
import Derived.Test.YthjiiedpplimpaaOwn
import Derived.Handy
import Derived.Maps.AppendAt
import Derived.Deep.QuietTactic
import Derived.BigQuiet
set_option linter.unusedSimpArgs false
set_option linter.unusedVariables false
set_option maxRecDepth 100000
namespace Go.Proofs.Ythjiiedpplimpaa
open Go.RowKit

def cell2 (x : Nat × Int) : List Value := [.int .u64 (x.1 : Int), .int .u64 x.2]
/-- the places below n where us has another word than ws, and its words there -/
def difs (ws us : List Int) (n : Nat) : List (Nat × Int) := (List.range n).filterMap fun i => if wd us i == wd ws i then none else some (i, wd us i)

theorem difs_succ (ws us : List Int) (n : Nat) : difs ws us (n + 1) = difs ws us n ++ (if wd us n == wd ws n then [] else [(n, wd us n)]) := by
  unfold difs
  rw [List.range_succ, List.filterMap_append]
  congr 1
  by_cases h : wd us n = wd ws n
  · simp [h]
  · simp [h, List.filterMap]
theorem difs_len (ws us : List Int) (n : Nat) : (difs ws us n).length ≤ n := by
  unfold difs
  have := List.length_filterMap_le (fun i => if wd us i == wd ws i then none else some (i, wd us i)) (List.range n)
  simpa using this

theorem info_cell : (Try.prog.info? 57).map (fun i => (i.zero, i.size, i.bytes)) = some (some (.agg #[.int .u64 0, .int .u64 0]), 2, 16) := by kernel_rfl

/-- what Differ answers where it answers cells -/
def DifferOk (w : World) (L : List (Nat × Int)) (e : Ending) (w' : World) : Prop :=
  ∃ v, e = .returned (.tuple #[v, .int .i64 0]) ∧ w'.ownsRow w.heap.size 57 2 v L.length (L.flatMap cell2) ∧ Upd [] w w'

theorem differ_row {w : World} {a b a' b' : Nat} {ws us : List Int} {acc acc' : Int} (h : RowAt w a b ws acc) (k : RowAt w a' b' us acc') (hl : ws.length = us.length) :
    Calls Try.prog 42 #[.pointer (some ⟨a, 0, none⟩), .pointer (some ⟨a', 0, none⟩)] w (DifferOk w (difs ws us us.length)) := by
  obtain ⟨i2, hi2, hz2, hs2, hy2⟩ := info_parts info_cell
  obtain ⟨cap, h0⟩ := h.c0
  obtain ⟨cap', k0⟩ := k.c0
  rw [hl] at h0
  have hn := k.len2
  have hdr : (us.length : Int) ≤ 65536 := by omega
  have la := h.lta
  have la' := k.lta
  have hne : ((us.length : Int) != (us.length : Int)) = false := by simp
  refine calls_all fun K hK => ?_
  go_enter Try.func42, Try.ntmps42
  go_wp2_with fail
  go_step3
  go_wp2_with (go_at_call 62; refine (made_true (by first | exact h | exact k)).mono ?_; rintro e w' ⟨rfl, rfl⟩)
  go_region
  go_wp2_with fail
  go_step3
  go_wp2_with fail
  have u0 : Upd [] w (w.alloc (.cells #[] 57)).drew := ((Upd.refl [] w).alloc _).drew
  have o0 : (w.alloc (.cells #[] 57)).drew.ownsRow w.heap.size 57 2 (.slice (some ⟨w.heap.size, 0, none⟩) 0 0) (difs ws us 0).length ((difs ws us 0).flatMap cell2) :=
    World.ownsRow_lit w #[] 0 (Nat.le_refl _) (by simp [maxLen]) (by simp)
  go_loopw [6, 34] (fun v6 v34 wr => ∃ j : Nat, j ≤ us.length ∧ v34 = .int .i64 j ∧ wr.ownsRow w.heap.size 57 2 v6 (difs ws us j).length ((difs ws us j).flatMap cell2) ∧ Upd [] w wr) (fun _ v34 _ => us.length - (intOf v34).toNat)
  case atStart => exact ⟨0, by omega, rfl, o0, u0⟩
  case round =>
    obtain ⟨j, hj, rfl, ho, hu⟩ := hrel
    clear o0 u0
    by_cases hlt : j < us.length
    · have hr := h.upd hu (by simp) (by simp)
      have kr := k.upd hu (by simp) (by simp)
      obtain ⟨cap2, h0'⟩ := hr.c0
      rw [hl] at h0'
      have hcb := hr.cw j (by omega)
      have kcb := kr.cw j hlt
      have hjl : (j : Int) < (us.length : Int) := by omega
      have hds := difs_succ ws us j
      have hdl := difs_len ws us j
      generalize wd us j = u at *
      generalize wd ws j = x at *
      by_cases he : u = x
      · subst he
        have heb : (u == u) = true := by simp
        rw [if_pos heb, List.append_nil] at hds
        have HD := Lib.hid hds
        clear hds hl hr kr
        go_wp2_with fail
        go_roundw
        case rel => exact ⟨j + 1, by omega, by go_num, by rw [HD.out]; exact ho, hu⟩
        case measure => simp [intOf]; omega
      · have heb : (u == x) = false := by simp [he]
        rw [if_neg (by simp [he])] at hds
        have HD := Lib.hid hds
        have hsz := hu.size
        clear hds hl hr kr
        go_wp2_with (at_builtin; refine wpList_append_own _ rfl (.tmp 48) (.tmp 53) 42 rfl w.heap.size 57 i2 (.agg #[.int .u64 0, .int .u64 0]) 2 16 Try.underlying42 hi2 hz2 hs2 hy2 rfl (by decide) _ _ _ rfl (ho.alloc _) ⟨_, 0, none⟩ 1 1 (cell2 (j, u)) rfl rfl (news_new (cell2 (j, u)) 57 (by simp)) (by simp [cell2, Value.oneCell']) (by unfold maxLen; omega) (by omega) (by simp; omega) ?_; intro v' w3 ho3 hg3 _)
        have hu3 : Upd [] w w3 := (hu.alloc _).tr (Upd.own hg3) (by simp) (fun g hg => .inr (own_blocks ho g hg).1)
        go_roundw
        case rel => exact ⟨j + 1, by omega, by go_num, by rw [HD.out, List.length_append, List.flatMap_append]; exact ho3, hu3⟩
        case measure => simp [intOf]; omega
    · obtain rfl : j = us.length := by omega
      go_wp2_with fail
      exact ⟨_, rfl, ho, hu⟩

theorem differ_arg {w : World} {a b a' b' : Nat} {ws us : List Int} {acc acc' : Int} (h : RowAt w a b ws acc) (k : RowAt w a' b' us acc') (hl : ws.length ≠ us.length) :
    Calls Try.prog 42 #[.pointer (some ⟨a, 0, none⟩), .pointer (some ⟨a', 0, none⟩)] w fun e w' => e = .returned (.tuple #[.slice none 0 0, .int .i64 2]) ∧ Upd [] w w' := by
  obtain ⟨cap, h0⟩ := h.c0
  obtain ⟨cap', k0⟩ := k.c0
  have hne : ((ws.length : Int) != (us.length : Int)) = true := by simp; omega
  have hu : Upd [] w w.drew := (Upd.refl [] w).drew
  refine calls_all fun K hK => ?_
  go_enter Try.func42, Try.ntmps42
  go_wp2_with fail
  go_step3
  go_wp2_with (go_at_call 62; refine (made_true (by first | exact h | exact k)).mono ?_; rintro e w' ⟨rfl, rfl⟩)
  go_region
  go_wp2
  all_goals first | exact ⟨rfl, hu⟩ | exact hu

theorem eq_of_difs {ws us : List Int} (hl : ws.length = us.length) : ((difs ws us us.length).length == 0) = decide (ws = us) := by
  rw [Bool.eq_iff_iff]
  simp only [beq_iff_eq, List.length_eq_zero_iff, decide_eq_true_eq]
  constructor
  · intro h
    apply List.ext_getElem hl
    intro i h1 h2
    have : i ∈ List.range us.length := List.mem_range.2 h2
    have hn := (List.filterMap_eq_nil_iff.1 h) i this
    rw [wd_get h1, wd_get h2] at hn
    by_cases he : us[i] = ws[i]
    · exact he.symm
    · simp [he] at hn
  · rintro rfl
    exact List.filterMap_eq_nil_iff.2 (fun i _ => by simp)

theorem same_row {w : World} {a b a' b' : Nat} {ws us : List Int} {acc acc' : Int} (h : RowAt w a b ws acc) (k : RowAt w a' b' us acc') :
    Calls Try.prog 43 #[.pointer (some ⟨a, 0, none⟩), .pointer (some ⟨a', 0, none⟩)] w fun e w' => e = .returned (.bool (decide (ws = us))) ∧ Upd [] w w' := by
  by_cases hl : ws.length = us.length
  · rw [← eq_of_difs hl]
    refine calls_all fun K hK => ?_
    go_enter Try.func43, Try.ntmps43
    go_wp2_with fail
    refine (differ_row h k hl).mono ?_
    rintro e w' ⟨v, rfl, ho, hu⟩
    obtain ⟨p, c, rfl⟩ := own_form ho
    have hd := difs_len ws us us.length
    have hn := k.len2
    generalize (difs ws us us.length).length = m at *
    go_wp2
    refine ⟨?_, hu⟩
    by_cases hm : m = 0
    · subst hm; rfl
    · have h1 : ((m : Int) == 0) = false := by simp; omega
      have h2 : (m == 0) = false := by simp [hm]
      rw [h2]
      simp only [h1]
      rfl
  · have hf : decide (ws = us) = false := by simp; intro e; exact hl (by rw [e])
    rw [hf]
    refine calls_all fun K hK => ?_
    go_enter Try.func43, Try.ntmps43
    go_wp2_with fail
    refine (differ_arg h k hl).mono ?_
    rintro e w' ⟨rfl, hu⟩
    go_wp2
    all_goals first | exact ⟨rfl, hu⟩ | exact hu

end Go.Proofs.Ythjiiedpplimpaa
