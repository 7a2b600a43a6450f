/- Where two rows differ is told alike by the document's (differs), rows that are there and rows that are not. No condition. -/
import Derived.Test.YthjiiedpplimpaaPlays2
set_option linter.unusedSimpArgs false
set_option linter.unusedVariables false
set_option maxRecDepth 100000
namespace Go.Proofs.Ythjiiedpplimpaa
open Go.RowKit

theorem cell2_at {D : List (Nat × Int)} {j : Nat} {x : Nat × Int} (h : D[j]? = some x) : (D.flatMap cell2)[j * 2]? = some (.int .u64 (x.1 : Int)) ∧ (D.flatMap cell2)[j * 2 + 1]? = some (.int .u64 x.2) := by
  induction D generalizing j with
  | nil => simp at h
  | cons a r ih =>
    cases j with
    | zero => simp at h; subst h; exact ⟨rfl, rfl⟩
    | succ j =>
      have k := ih (j := j) (by simpa using h)
      have e : (j + 1) * 2 = (cell2 a).length + j * 2 := by simp [cell2]; omega
      rw [List.flatMap_cons]
      refine ⟨?_, ?_⟩
      · rw [List.getElem?_append_right (by omega), e, Nat.add_sub_cancel_left]; exact k.1
      · rw [List.getElem?_append_right (by omega), e, Nat.add_assoc, Nat.add_sub_cancel_left]; exact k.2

theorem same_cells {w : World} {base base' : Nat} {v v' : Value} {D : List (Nat × Int)} (ho : w.ownsRow base 57 2 v D.length (D.flatMap cell2)) (hp : w.ownsRow base' 57 2 v' D.length (D.flatMap cell2)) (hn : D.length ≤ 65536) :
    Calls Try.prog 73 #[v, v'] w fun e w' => e = .returned (.bool true) ∧ Qt w w' := by
  obtain ⟨p, c, rfl⟩ := own_form ho
  obtain ⟨p', c', rfl⟩ := own_form hp
  have hne : ((D.length : Int) != (D.length : Int)) = false := by simp
  refine calls_all fun K hK => ?_
  go_enter Try.func73, Try.ntmps73
  go_wp2
  go_loopw [5] (fun v5 wr => ∃ j : Nat, j ≤ D.length ∧ v5 = .int .i64 j ∧ Qt w wr) (fun v5 _ => D.length - (intOf v5).toNat)
  case atStart => exact ⟨0, by omega, rfl, Qt.refl _⟩
  case round =>
    obtain ⟨j, hj, rfl, m, rfl⟩ := hrel
    by_cases hlt : j < D.length
    · obtain ⟨g, c1, e1⟩ := own_some ho (by omega)
      obtain ⟨g', c1', e1'⟩ := own_some hp (by omega)
      cases e1
      cases e1'
      obtain ⟨x, hx⟩ : ∃ x, D[j]? = some x := ⟨D[j], List.getElem?_eq_getElem hlt⟩
      obtain ⟨k0, k1⟩ := cell2_at hx
      have c0 : w.cell? ⟨g, j * 2, none⟩ = some (.int .u64 (x.1 : Int)) := by rw [ho.cellAt (j * 2) (by omega)]; exact k0
      have c1 : w.cell? ⟨g, j * 2 + 1, none⟩ = some (.int .u64 x.2) := by rw [ho.cellAt (j * 2 + 1) (by omega)]; exact k1
      have d0 : w.cell? ⟨g', j * 2, none⟩ = some (.int .u64 (x.1 : Int)) := by rw [hp.cellAt (j * 2) (by omega)]; exact k0
      have d1 : w.cell? ⟨g', j * 2 + 1, none⟩ = some (.int .u64 x.2) := by rw [hp.cellAt (j * 2 + 1) (by omega)]; exact k1
      clear hx k0 k1
      obtain ⟨A, hA⟩ : ∃ A : Int, (x.1 : Int) = A := ⟨_, rfl⟩
      rw [hA] at c0 d0
      clear hA
      generalize x.2 = B at *
      have hjl : (j : Int) < (D.length : Int) := by omega
      have hab : (A != A) = false := by simp
      have hbb : (B != B) = false := by simp
      have hab2 : (A == A) = true := by simp
      have hbb2 : (B == B) = true := by simp
      go_wp2_with fail
      go_quiet (fail)
      go_wp2_with fail
      go_roundw
      case rel => exact ⟨j + 1, by omega, by go_num, ⟨m + nq, by first | rfl | rw [World.drewN_drewN]⟩⟩
      case measure => simp [intOf]; omega
    · obtain rfl : j = D.length := by omega
      go_wp2
      all_goals first | exact ⟨rfl, m, rfl⟩ | exact ⟨m, rfl⟩

section
variable {w : World} {a b a' b' : Nat} {ws us : List Int} {acc acc' : Int}

theorem rdiffer_row (h : RRow w a b ws acc) (k : RRow w a' b' us acc') (hl : ws.length = us.length) :
    Calls Try.prog 72 #[.pointer (some ⟨a, 0, none⟩), .pointer (some ⟨a', 0, none⟩)] w (DifferOk w (difs ws us us.length)) := by
  obtain ⟨i2, hi2, hz2, hs2, hy2⟩ := info_parts info_cell
  obtain ⟨cap, h0⟩ := h.c0
  obtain ⟨cap', k0⟩ := k.c0
  rw [hl] at h0
  have hn := k.len2
  have la := h.lta
  have la' := k.lta
  have hne : ((us.length : Int) != (us.length : Int)) = false := by simp
  refine calls_all fun K hK => ?_
  go_enter Try.func72, Try.ntmps72
  go_wp2_with fail
  go_quiet (fail)
  go_wp2_with fail
  have u0 : Upd [] w (w.drewN nq) := (Upd.refl [] w).drewN nq
  go_loopw [6, 7] (fun v6 v7 wr => ∃ j : Nat, j ≤ us.length ∧ v7 = .int .i64 j ∧ wr.ownsRow w.heap.size 57 2 v6 (difs ws us j).length ((difs ws us j).flatMap cell2) ∧ Upd [] w wr) (fun _ v7 _ => us.length - (intOf v7).toNat)
  case atStart => exact ⟨0, by omega, rfl, World.ownsRow_nil _ _ _ _, u0⟩
  case round =>
    obtain ⟨j, hj, rfl, ho, hu⟩ := hrel
    clear u0
    by_cases hlt : j < us.length
    · have hr := h.upd hu (by simp) (by simp)
      have kr := k.upd hu (by simp) (by simp)
      obtain ⟨cap2, h0'⟩ := hr.c0
      obtain ⟨cap2', k0'⟩ := kr.c0
      rw [hl] at h0'
      have hcb := hr.cw j (by omega)
      have kcb := kr.cw j hlt
      have hjl : (j : Int) < (us.length : Int) := by omega
      have hds := difs_succ ws us j
      have hdl := difs_len ws us j
      have hw1 : IntKind.u64.wrap (j : Int) = (j : Int) := by rw [IntKind.wrap_u64]; omega
      generalize wd us j = u at *
      generalize wd ws j = x at *
      by_cases he : u = x
      · subst he
        have heb : (u != u) = false := by simp
        rw [if_pos (by simp), List.append_nil] at hds
        have HD := Lib.hid hds
        clear hds hl hr kr
        go_wp2_with fail
        go_quiet (fail)
        go_wp2_with fail
        go_roundw
        case rel => exact ⟨j + 1, by omega, by go_num, by rw [HD.out]; exact own_upd ho ((Upd.refl [] _).drewN nq) (by simp), hu.drewN nq⟩
        case measure => simp [intOf]; omega
      · have heb : (x != u) = true := by simp; exact fun e => he e.symm
        rw [if_neg (by simp [he])] at hds
        have HD := Lib.hid hds
        have hsz := hu.size
        clear hds hl hr kr
        go_wp2_with fail
        go_quiet (fail)
        have ho2 := own_upd ho ((Upd.refl [] wr).drewN nq) (by simp)
        have hu2 := hu.drewN nq
        have q1 : (wr.drewN nq).cell? ⟨a', 0, none⟩ = some (.slice (some ⟨b', 0, none⟩) us.length cap2') := k0'
        have q2 : (wr.drewN nq).cell? ⟨b', j, none⟩ = some (.int .u64 u) := kcb
        have hsz2 : w.heap.size ≤ (wr.drewN nq).heap.size := hsz
        clear ho hu hcb kcb h0' k0'
        generalize wr.drewN nq = wq at *
        go_wp2_with (at_builtin; refine wpList_append_own _ rfl (.tmp 49) (.tmp 60) 42 rfl w.heap.size 57 i2 (.agg #[.int .u64 0, .int .u64 0]) 2 16 Try.underlying42 hi2 hz2 hs2 hy2 rfl (by decide) _ _ _ rfl (ho2.alloc _) ⟨_, 0, none⟩ 1 1 (cell2 (j, u)) rfl rfl (news_new (cell2 (j, u)) 57 (by simp)) (by simp [cell2, Value.oneCell']) (by unfold maxLen; omega) (by omega) (by simp; omega) ?_; intro v' w3 ho3 hg3 _)
        have hu3 : Upd [] w w3 := (hu2.alloc _).tr (Upd.own hg3) (by simp) (fun g hg => .inr (own_blocks ho2 g hg).1)
        go_roundw
        case rel => exact ⟨j + 1, by omega, by go_num, by rw [HD.out, List.length_append, List.flatMap_append]; exact ho3, hu3⟩
        case measure => simp [intOf]; omega
    · obtain rfl : j = us.length := by omega
      obtain ⟨cap2, h0'⟩ := (h.upd hu (by simp) (by simp)).c0
      rw [hl] at h0'
      go_wp2_with fail
      exact ⟨_, rfl, ho, hu⟩

theorem rdiffer_arg (h : RRow w a b ws acc) (k : RRow w a' b' us acc') (hl : ws.length ≠ us.length) :
    Calls Try.prog 72 #[.pointer (some ⟨a, 0, none⟩), .pointer (some ⟨a', 0, none⟩)] w fun e w' => e = .returned (.tuple #[.slice none 0 0, .int .i64 2]) ∧ Upd [] w w' := by
  obtain ⟨cap, h0⟩ := h.c0
  obtain ⟨cap', k0⟩ := k.c0
  have hne : ((ws.length : Int) != (us.length : Int)) = true := by simp; omega
  have hu : ∀ n, Upd [] w (w.drewN n) := fun n => (Upd.refl [] w).drewN n
  refine calls_all fun K hK => ?_
  go_enter Try.func72, Try.ntmps72
  go_wp2_with fail
  go_quiet (fail)
  go_wp2
  all_goals first | exact ⟨rfl, hu _⟩ | exact hu _

theorem rdiffer_no1 (w : World) (q : Option Addr) : Calls Try.prog 72 #[.pointer none, .pointer q] w fun e w' => e = .returned (.tuple #[.slice none 0 0, .int .i64 1]) ∧ w = w' := by
  refine calls_all fun K hK => ?_
  go_enter Try.func72, Try.ntmps72
  go_wp2
  all_goals first | exact ⟨rfl, rfl⟩ | rfl

theorem rdiffer_no2 (w : World) (q : Option Addr) : Calls Try.prog 72 #[.pointer q, .pointer none] w fun e w' => e = .returned (.tuple #[.slice none 0 0, .int .i64 1]) ∧ w = w' := by
  cases q with
  | none => exact rdiffer_no1 w none
  | some ad =>
    refine calls_all fun K hK => ?_
    go_enter Try.func72, Try.ntmps72
    go_wp2
    all_goals first | exact ⟨rfl, rfl⟩ | rfl

theorem differ_no2 (h : RowAt w a b ws acc) : Calls Try.prog 42 #[.pointer (some ⟨a, 0, none⟩), .pointer none] w fun e w' => e = .returned (.tuple #[.slice none 0 0, .int .i64 1]) ∧ w = w' := by
  refine calls_all fun K hK => ?_
  go_enter Try.func42, Try.ntmps42
  go_wp2_with fail
  go_step3
  go_wp2_with fail
  refine (made_true h).mono ?_
  rintro e w' ⟨rfl, rfl⟩
  go_wp2_with fail
  refine (made_no (.inl rfl)).mono ?_
  rintro e w' ⟨rfl, rfl⟩
  go_wp2
  all_goals first | exact ⟨rfl, rfl⟩ | rfl

theorem same_no2 (h : RowAt w a b ws acc) : Calls Try.prog 43 #[.pointer (some ⟨a, 0, none⟩), .pointer none] w fun e w' => e = .returned (.bool false) ∧ w = w' := by
  refine calls_all fun K hK => ?_
  go_enter Try.func43, Try.ntmps43
  go_wp2_with fail
  refine (differ_no2 h).mono ?_
  rintro e w' ⟨rfl, rfl⟩
  go_wp2
  all_goals first | exact ⟨rfl, rfl⟩ | rfl

end

/-- a row, or none -/
def rowP (x : Option Rw) : Value := match x with | some x => .pointer (some ⟨x.a, 0, none⟩) | none => .pointer none
def refP (x : Option Rw) : Value := match x with | some x => .pointer (some ⟨x.ra, 0, none⟩) | none => .pointer none

theorem differs_any {w : World} (x y : Option Rw) (hx : ∀ r, x = some r → r.At w) (hy : ∀ r, y = some r → r.At w) :
    Calls Try.prog 52 #[rowP x, rowP y, refP x, refP y] w fun e w' => e = .returned (.bool true) ∧ Upd [] w w' := by
  have hN : ∀ w : World, NoRow w none := fun _ => .inl rfl
  have sc0 : ∀ w : World, Calls Try.prog 73 #[.slice none 0 0, .slice none 0 0] w fun e w' => e = .returned (.bool true) ∧ Qt w w' := fun w => same_cells (D := []) (base := 0) (base' := 0) (World.ownsRow_nil _ _ _ _) (World.ownsRow_nil _ _ _ _) (by simp)
  match x, y, hx, hy with
  | none, y, _, _ =>
    obtain ⟨p, hp⟩ : ∃ p, rowP y = .pointer p := by cases y; exact ⟨_, rfl⟩; exact ⟨_, rfl⟩
    obtain ⟨p', hp'⟩ : ∃ p, refP y = .pointer p := by cases y; exact ⟨_, rfl⟩; exact ⟨_, rfl⟩
    rw [hp, hp']
    clear hp hp'
    refine calls_all fun K hK => ?_
    go_enter Try.func52, Try.ntmps52
    go_wp2_with ((go_at_call 13; refine (num_any _ _).mono ?_; rintro e w' ⟨rfl, rfl⟩))
    refine (differ_no (hN _) p).mono ?_
    rintro e w1 ⟨rfl, rfl⟩
    go_wp2_with ((go_at_call 13; refine (num_any _ _).mono ?_; rintro e w' ⟨rfl, rfl⟩))
    refine (rdiffer_no1 _ p').mono ?_
    rintro e w1 ⟨rfl, rfl⟩
    go_wp2_with ((go_at_call 13; refine (num_any _ _).mono ?_; rintro e w' ⟨rfl, rfl⟩))
    refine (sc0 _).mono ?_
    rintro e w1 ⟨rfl, q1⟩
    go_wp2_with ((go_at_call 13; refine (num_any _ _).mono ?_; rintro e w' ⟨rfl, rfl⟩))
    refine (same_no (hN _) p).mono ?_
    rintro e w2 ⟨rfl, rfl⟩
    go_wp2_with ((go_at_call 13; refine (num_any _ _).mono ?_; rintro e w' ⟨rfl, rfl⟩))
    all_goals first | exact ⟨rfl, q1.upd⟩ | exact q1.upd
  | some x, none, hx, _ =>
    have hx := hx x rfl
    refine calls_all fun K hK => ?_
    go_enter Try.func52, Try.ntmps52
    go_wp2_with ((go_at_call 13; refine (num_any _ _).mono ?_; rintro e w' ⟨rfl, rfl⟩))
    refine (differ_no2 hx.row).mono ?_
    rintro e w1 ⟨rfl, rfl⟩
    go_wp2_with ((go_at_call 13; refine (num_any _ _).mono ?_; rintro e w' ⟨rfl, rfl⟩))
    refine (rdiffer_no2 _ _).mono ?_
    rintro e w1 ⟨rfl, rfl⟩
    go_wp2_with ((go_at_call 13; refine (num_any _ _).mono ?_; rintro e w' ⟨rfl, rfl⟩))
    refine (sc0 _).mono ?_
    rintro e w1 ⟨rfl, q1⟩
    go_wp2_with ((go_at_call 13; refine (num_any _ _).mono ?_; rintro e w' ⟨rfl, rfl⟩))
    refine (same_no2 (hx.upd0 q1.upd).row).mono ?_
    rintro e w2 ⟨rfl, rfl⟩
    go_wp2_with ((go_at_call 13; refine (num_any _ _).mono ?_; rintro e w' ⟨rfl, rfl⟩))
    all_goals first | exact ⟨rfl, q1.upd⟩ | exact q1.upd
  | some x, some y, hx, hy =>
    have hx := hx x rfl
    have hy := hy y rfl
    show Calls Try.prog _ #[.pointer (some ⟨x.a, 0, none⟩), .pointer (some ⟨y.a, 0, none⟩), .pointer (some ⟨x.ra, 0, none⟩), .pointer (some ⟨y.ra, 0, none⟩)] _ _
    by_cases hl : x.ws.length = y.ws.length
    · have h1 := differ_row hx.row hy.row hl
      have hD := eq_of_difs hl
      have hDl := difs_len x.ws y.ws y.ws.length
      have h64 := hy.row.len2
      obtain ⟨D, hDe⟩ : ∃ D, difs x.ws y.ws y.ws.length = D := ⟨_, rfl⟩
      obtain ⟨q, hq⟩ : ∃ q, decide (x.ws = y.ws) = q := ⟨_, rfl⟩
      rw [hDe] at h1 hD hDl
      rw [hq] at hD
      have HDE := Lib.hid hDe
      have HQ := Lib.hid hq
      clear hDe hq
      have hm : (((D.length : Nat) : Int) == 0) = q := by rw [← hD]; cases D <;> simp; omega
      have HM := Lib.hid hm
      have hqq : (q == q) = true := by simp
      clear hm hD
      refine calls_all fun K hK => ?_
      go_enter Try.func52, Try.ntmps52
      go_wp2_with ((go_at_call 13; refine (num_any _ _).mono ?_; rintro e w' ⟨rfl, rfl⟩))
      refine (h1).mono ?_
      rintro e w1 ⟨v1, rfl, o1, u1⟩
      have r2 := rdiffer_row (hx.upd0 u1).ref (hy.upd0 u1).ref hl
      rw [HDE.out] at r2
      go_wp2_with ((go_at_call 13; refine (num_any _ _).mono ?_; rintro e w' ⟨rfl, rfl⟩))
      refine (r2).mono ?_
      rintro e w2 ⟨v2, rfl, o2, u2⟩
      have o1' := own_upd o1 u2 (by simp)
      go_wp2_with ((go_at_call 13; refine (num_any _ _).mono ?_; rintro e w' ⟨rfl, rfl⟩))
      refine (same_cells o1' o2 (by omega)).mono ?_
      rintro e w3 ⟨rfl, q3⟩
      have U3 := (u1.trans u2).trans q3.upd
      have s3 := same_row (hx.upd0 U3).row (hy.upd0 U3).row
      rw [HQ.out] at s3
      obtain ⟨p2, c2, rfl⟩ := own_form o2
      go_wp2_with ((go_at_call 13; refine (num_any _ _).mono ?_; rintro e w' ⟨rfl, rfl⟩))
      refine (s3).mono ?_
      rintro e w4 ⟨rfl, u4⟩
      have hm := HM.out
      go_wp2_with ((go_at_call 13; refine (num_any _ _).mono ?_; rintro e w' ⟨rfl, rfl⟩))
      all_goals first | exact ⟨rfl, U3.trans u4⟩ | exact U3.trans u4
    · have hf : decide (x.ws = y.ws) = false := by simp; intro e; exact hl (by rw [e])
      have HF := Lib.hid hf
      clear hf
      refine calls_all fun K hK => ?_
      go_enter Try.func52, Try.ntmps52
      go_wp2_with ((go_at_call 13; refine (num_any _ _).mono ?_; rintro e w' ⟨rfl, rfl⟩))
      refine (differ_arg hx.row hy.row hl).mono ?_
      rintro e w1 ⟨rfl, u1⟩
      go_wp2_with ((go_at_call 13; refine (num_any _ _).mono ?_; rintro e w' ⟨rfl, rfl⟩))
      refine (rdiffer_arg (hx.upd0 u1).ref (hy.upd0 u1).ref hl).mono ?_
      rintro e w2 ⟨rfl, u2⟩
      go_wp2_with ((go_at_call 13; refine (num_any _ _).mono ?_; rintro e w' ⟨rfl, rfl⟩))
      refine (sc0 _).mono ?_
      rintro e w3 ⟨rfl, q3⟩
      have U3 := (u1.trans u2).trans q3.upd
      have s3 := same_row (hx.upd0 U3).row (hy.upd0 U3).row
      rw [HF.out] at s3
      go_wp2_with ((go_at_call 13; refine (num_any _ _).mono ?_; rintro e w' ⟨rfl, rfl⟩))
      refine (s3).mono ?_
      rintro e w4 ⟨rfl, u4⟩
      go_wp2_with ((go_at_call 13; refine (num_any _ _).mono ?_; rintro e w' ⟨rfl, rfl⟩))
      all_goals first | exact ⟨rfl, U3.trans u4⟩ | exact U3.trans u4

end Go.Proofs.Ythjiiedpplimpaa
