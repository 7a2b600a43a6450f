/- A step on a clock of the program's and on one of the document's: the answers are the same. No condition. -/
import Derived.Test.YthjiiedpplimpaaSeqCopy
import Derived.Test.YthjiiedpplimpaaSeqTurns
import Derived.Deep.RegionHeld3
set_option linter.unusedSimpArgs false
set_option linter.unusedVariables false
set_option maxRecDepth 100000
namespace Go.Proofs.Ythjiiedpplimpaa
open Go.RowKit

theorem QAt.upd {S : List Nat} {w w' : World} {b o : Nat} {vs : List Value} {t : TypeId} {word st : Int} (h : QAt w b o vs t word st) (u : Upd S w w') (hn : b ∉ S) : QAt w' b o vs t word st := ⟨h.blk.upd u hn, h.c0, h.c1⟩

theorem qtakes_eq {word s : Int} (h0 : 0 ≤ s) (h1 : s < 18446744073709551616) : qtakes word s = takes word s := by
  unfold qtakes takes; rw [opn_eq h0 h1]; congr 1
theorem qholds_eq {word s : Int} (h0 : 0 ≤ s) (h1 : s < 18446744073709551616) : qholds word s = holds word s := by
  unfold qholds holds; rw [opn_eq h0 h1]; congr 1

/-- what a step leaves: both clocks at one word and one count -/
def PlOut (w : World) (c a b br o : Nat) (vs : List Value) (t : TypeId) (e : Ending) (w' : World) : Prop :=
  e = .returned (.bool true) ∧ ∃ word' st', ClockAt w' c a b word' st' ∧ Blk w' br (qset vs o word' st') t ∧ Upd [c, a, b, br] w w'

theorem QAt.set_same {w : World} {b o : Nat} {vs : List Value} {t : TypeId} {word st : Int} (h : QAt w b o vs t word st) : qset vs o word st = vs := by
  have hl := h.lt1
  have h1 := h.c1
  rw [List.getElem?_eq_getElem (by omega)] at h1
  simp at h1
  rw [qset, h.same0, ← h1, List.set_getElem_self]

section
variable {w : World} {c a b br o : Nat} {vs : List Value} {t : TypeId} {word st : Int}

theorem pl_1 (on S : Int) (near : Bool) (hC : ClockAt w c a b word st) (hQ : QAt w br o vs t word st) (hn : br ∉ [c, a, b]) :
    Calls Try.prog 38 #[.pointer (some ⟨c, 0, none⟩), .pointer (some ⟨br, o, none⟩), .agg #[.int .i64 1, .int .i64 on, .int .u64 S, .bool near]] w (PlOut w c a b br o vs t) := by
  have u0 := (Upd.refl [c, a, b, br] w).alloc (.cells #[.int .i64 1, .int .i64 on, .int .u64 S, .bool near] 71)
  have ub := (Upd.refl [] w).alloc (.cells #[.int .i64 1, .int .i64 on, .int .u64 S, .bool near] 71)
  have hC1 := hC.upd ub (by simp) (by simp) (by simp)
  have hQ1 := hQ.upd ub (by simp)
  refine calls_all fun K hK => ?_
  go_enter Try.func38, Try.ntmps38
  go_wp2_with fail
  refine (clkLoad hC1).mono ?_
  rintro e w2 ⟨rfl, h2, u2⟩
  have q2 := hQ1.upd u2 hn
  go_wp2_with fail
  refine (qLoad_any q2).mono ?_
  rintro e w3 ⟨rfl, h3, u3⟩
  go_wp2
  exact ⟨rfl, _, _, h2.upd u3 (by simp at hn ⊢; omega) (by simp at hn ⊢; omega) (by simp at hn ⊢; omega), h3, (u0.tr u2 (fun _ h => .inl h) (by simp)).tr u3 (fun _ h => .inl h) (by simp)⟩

theorem pl_2 (on S : Int) (near : Bool) (hS : 0 ≤ S ∧ S < 18446744073709551616) (hC : ClockAt w c a b word st) (hQ : QAt w br o vs t word st) (hn : br ∉ [c, a, b]) :
    Calls Try.prog 38 #[.pointer (some ⟨c, 0, none⟩), .pointer (some ⟨br, o, none⟩), .agg #[.int .i64 2, .int .i64 on, .int .u64 S, .bool near]] w (PlOut w c a b br o vs t) := by
  have u0 := (Upd.refl [c, a, b, br] w).alloc (.cells #[.int .i64 2, .int .i64 on, .int .u64 S, .bool near] 71)
  have ub := (Upd.refl [] w).alloc (.cells #[.int .i64 2, .int .i64 on, .int .u64 S, .bool near] 71)
  have hs := Blk.new w [.int .i64 2, .int .i64 on, .int .u64 S, .bool near] 71
  have hC1 := hC.upd ub (by simp) (by simp) (by simp)
  have hQ1 := hQ.upd ub (by simp)
  have l1 := hC.ltc
  have l2 := hC.lta
  have l3 := hC.ltb
  refine calls_all fun K hK => ?_
  go_enter Try.func38, Try.ntmps38
  go_wp2_with fail
  refine (clkTake hC1 S).mono ?_
  rintro e w2 ⟨rfl, h2, u2⟩
  have q2 := hQ1.upd u2 hn
  have s2 := (hs.upd u2 (by simp; omega)).cell 2 rfl
  have q3 := qTake_any q2 S hS.1
  rw [qtakes_eq hS.1 hS.2] at q3
  go_wp2_with fail
  refine (q3).mono ?_
  rintro e w3 ⟨rfl, h3, u3⟩
  go_wp2
  exact ⟨rfl, _, _, h2.upd u3 (by simp at hn ⊢; omega) (by simp at hn ⊢; omega) (by simp at hn ⊢; omega), h3, (u0.tr u2 (fun _ h => .inl h) (by simp)).tr u3 (fun _ h => .inl h) (by simp)⟩

theorem pl_3 (on S : Int) (near : Bool) (hS : 0 ≤ S ∧ S < 18446744073709551616) (hC : ClockAt w c a b word st) (hQ : QAt w br o vs t word st) (hn : br ∉ [c, a, b]) :
    Calls Try.prog 38 #[.pointer (some ⟨c, 0, none⟩), .pointer (some ⟨br, o, none⟩), .agg #[.int .i64 3, .int .i64 on, .int .u64 S, .bool near]] w (PlOut w c a b br o vs t) := by
  have u0 := ((Upd.refl [c, a, b, br] w).alloc (.cells #[.int .i64 3, .int .i64 on, .int .u64 S, .bool near] 71)).drew
  have ub := ((Upd.refl [] w).alloc (.cells #[.int .i64 3, .int .i64 on, .int .u64 S, .bool near] 71)).drew
  have hs := (Blk.new w [.int .i64 3, .int .i64 on, .int .u64 S, .bool near] 71).drew
  have hC1 := hC.upd ub (by simp) (by simp) (by simp)
  have hQ1 := hQ.upd ub (by simp)
  have l1 := hC.ltc
  have l2 := hC.lta
  have l3 := hC.ltb
  have l4 := hQ.blk.lt
  have hbr : br ≠ c ∧ br ≠ a ∧ br ≠ b := by simpa using hn
  have hb1 : c ∉ [br] := by simp; omega
  have hb2 : a ∉ [br] := by simp; omega
  have hb3 : b ∉ [br] := by simp; omega
  have hz1 : w.heap.size ∉ [c, a, b] := by simp; omega
  have hz2 : w.heap.size ∉ [br] := by simp; omega
  refine calls_all fun K hK => ?_
  go_enter Try.func38, Try.ntmps38
  go_wp2_with fail
  go_region_held3 (fun w' => w'.cell? ⟨w.heap.size, 2, none⟩ = some (.int .u64 S))
    (first | exact hs.cell 2 rfl | exact hs2.cell 2 rfl | exact hs3.cell 2 rfl | exact hs4.cell 2 rfl)
    (first | (go_at_call 21; refine (clkLeave (c := c) (a := a) (b := b) (word := word) (steps := st) (by first | exact hC1 | exact hC3) S).mono ?_; rintro e w2 ⟨rfl, hC2, hu2⟩; (try have hQ2 := hQ1.upd hu2 hn); (try have hs2 := hs.upd hu2 hz1); (try have hs4 := hs3.upd hu2 hz1)) | (go_at_call 65; refine (qLeave_any (vs := vs) (t := t) (word := word) (st := st) (by first | exact hQ1 | exact hQ2) S hS.1).mono ?_; rw [qholds_eq hS.1 hS.2]; rintro e w3 ⟨rfl, hB3, hu3⟩; (try have hC3 := hC1.upd hu3 hb1 hb2 hb3); (try have hs3 := hs.upd hu3 hz2); (try have hs4 := hs2.upd hu3 hz2)))
  · go_wp2
    exact ⟨rfl, _, _, hC2.upd hu3 hb1 hb2 hb3, hB3, (u0.tr hu2 (fun _ h => .inl h) (by simp)).tr hu3 (fun _ h => .inl h) (by simp)⟩

theorem pl_4 (on S : Int) (near : Bool) (hS : 0 ≤ S ∧ S < 18446744073709551616) (hC : ClockAt w c a b word st) (hQ : QAt w br o vs t word st) (hn : br ∉ [c, a, b]) :
    Calls Try.prog 38 #[.pointer (some ⟨c, 0, none⟩), .pointer (some ⟨br, o, none⟩), .agg #[.int .i64 4, .int .i64 on, .int .u64 S, .bool near]] w (PlOut w c a b br o vs t) := by
  have u0 := ((Upd.refl [c, a, b, br] w).alloc (.cells #[.int .i64 4, .int .i64 on, .int .u64 S, .bool near] 71)).drew
  have ub := ((Upd.refl [] w).alloc (.cells #[.int .i64 4, .int .i64 on, .int .u64 S, .bool near] 71)).drew
  have hs := (Blk.new w [.int .i64 4, .int .i64 on, .int .u64 S, .bool near] 71).drew
  have hC1 := hC.upd ub (by simp) (by simp) (by simp)
  have hQ1 := hQ.upd ub (by simp)
  have l1 := hC.ltc
  have l2 := hC.lta
  have l3 := hC.ltb
  have l4 := hQ.blk.lt
  have hbr : br ≠ c ∧ br ≠ a ∧ br ≠ b := by simpa using hn
  have hb1 : c ∉ [br] := by simp; omega
  have hb2 : a ∉ [br] := by simp; omega
  have hb3 : b ∉ [br] := by simp; omega
  have hz1 : w.heap.size ∉ [c, a, b] := by simp; omega
  have hz2 : w.heap.size ∉ [br] := by simp; omega
  refine calls_all fun K hK => ?_
  go_enter Try.func38, Try.ntmps38
  go_wp2_with fail
  go_region_held3 (fun w' => w'.cell? ⟨w.heap.size, 2, none⟩ = some (.int .u64 S))
    (first | exact hs.cell 2 rfl | exact hs2.cell 2 rfl | exact hs3.cell 2 rfl | exact hs4.cell 2 rfl)
    (first | (go_at_call 22; refine (clkBack (c := c) (a := a) (b := b) (word := word) (steps := st) (by first | exact hC1 | exact hC3) S).mono ?_; rintro e w2 ⟨rfl, hC2, hu2⟩; (try have hQ2 := hQ1.upd hu2 hn); (try have hs2 := hs.upd hu2 hz1); (try have hs4 := hs3.upd hu2 hz1)) | (go_at_call 66; refine (qBack_any (vs := vs) (t := t) (word := word) (st := st) (by first | exact hQ1 | exact hQ2) S hS.1).mono ?_; rw [qholds_eq hS.1 hS.2]; rintro e w3 ⟨rfl, hB3, hu3⟩; (try have hC3 := hC1.upd hu3 hb1 hb2 hb3); (try have hs3 := hs.upd hu3 hz2); (try have hs4 := hs2.upd hu3 hz2)))
  · go_wp2
    exact ⟨rfl, _, _, hC2.upd hu3 hb1 hb2 hb3, hB3, (u0.tr hu2 (fun _ h => .inl h) (by simp)).tr hu3 (fun _ h => .inl h) (by simp)⟩

theorem pl_5 (on S : Int) (near : Bool) (hC : ClockAt w c a b word st) (hQ : QAt w br o vs t word st) (hn : br ∉ [c, a, b]) :
    Calls Try.prog 38 #[.pointer (some ⟨c, 0, none⟩), .pointer (some ⟨br, o, none⟩), .agg #[.int .i64 5, .int .i64 on, .int .u64 S, .bool near]] w (PlOut w c a b br o vs t) := by
  have u0 := ((Upd.refl [c, a, b, br] w).alloc (.cells #[.int .i64 5, .int .i64 on, .int .u64 S, .bool near] 71)).drew
  have ub := ((Upd.refl [] w).alloc (.cells #[.int .i64 5, .int .i64 on, .int .u64 S, .bool near] 71)).drew
  have hC1 := hC.upd ub (by simp) (by simp) (by simp)
  have hQ1 := hQ.upd ub (by simp)
  have h1 := hQ1.blk.cell (o + 1) hQ1.c1
  have hB := hQ1.blk
  rw [← hQ1.set_same] at hB
  refine calls_all fun K hK => ?_
  go_enter Try.func38, Try.ntmps38
  go_wp2_with fail
  go_region_held3 (fun w' => w'.cell? ⟨br, o + 1, none⟩ = some (.int .i64 st))
    (first | exact h1)
    (first | (go_at_call 39; refine (clkSteps hC1).mono ?_; rintro e w2 ⟨rfl, rfl⟩))
  all_goals
    go_wp2
    exact ⟨rfl, _, _, hC1, hB, u0⟩

theorem pl_0 (kind on S : Int) (near : Bool) (hk : kind ≠ 1 ∧ kind ≠ 2 ∧ kind ≠ 3 ∧ kind ≠ 4 ∧ kind ≠ 5) (hC : ClockAt w c a b word st) (hQ : QAt w br o vs t word st) :
    Calls Try.prog 38 #[.pointer (some ⟨c, 0, none⟩), .pointer (some ⟨br, o, none⟩), .agg #[.int .i64 kind, .int .i64 on, .int .u64 S, .bool near]] w (PlOut w c a b br o vs t) := by
  have u0 := (Upd.refl [c, a, b, br] w).alloc (.cells #[.int .i64 kind, .int .i64 on, .int .u64 S, .bool near] 71)
  have ub := (Upd.refl [] w).alloc (.cells #[.int .i64 kind, .int .i64 on, .int .u64 S, .bool near] 71)
  have hC1 := hC.upd ub (by simp) (by simp) (by simp)
  have hQ1 := hQ.upd ub (by simp)
  have hB := hQ1.blk
  rw [← hQ1.set_same] at hB
  have k1 : (kind == 1) = false := by simp [hk.1]
  have k2 : (kind == 2) = false := by simp [hk.2.1]
  have k3 : (kind == 3) = false := by simp [hk.2.2.1]
  have k4 : (kind == 4) = false := by simp [hk.2.2.2.1]
  have k5 : (kind == 5) = false := by simp [hk.2.2.2.2]
  clear hk
  refine calls_all fun K hK => ?_
  go_enter Try.func38, Try.ntmps38
  go_wp2
  exact ⟨rfl, _, _, hC1, hB, u0⟩

theorem pl_any (kind on S : Int) (near : Bool) (hS : 0 ≤ S ∧ S < 18446744073709551616) (hC : ClockAt w c a b word st) (hQ : QAt w br o vs t word st) (hn : br ∉ [c, a, b]) :
    Calls Try.prog 38 #[.pointer (some ⟨c, 0, none⟩), .pointer (some ⟨br, o, none⟩), .agg #[.int .i64 kind, .int .i64 on, .int .u64 S, .bool near]] w (PlOut w c a b br o vs t) := by
  by_cases h1 : kind = 1
  · subst h1; exact pl_1 on S near hC hQ hn
  by_cases h2 : kind = 2
  · subst h2; exact pl_2 on S near hS hC hQ hn
  by_cases h3 : kind = 3
  · subst h3; exact pl_3 on S near hS hC hQ hn
  by_cases h4 : kind = 4
  · subst h4; exact pl_4 on S near hS hC hQ hn
  by_cases h5 : kind = 5
  · subst h5; exact pl_5 on S near hC hQ hn
  exact pl_0 kind on S near ⟨h1, h2, h3, h4, h5⟩ hC hQ
end

end Go.Proofs.Ythjiiedpplimpaa
