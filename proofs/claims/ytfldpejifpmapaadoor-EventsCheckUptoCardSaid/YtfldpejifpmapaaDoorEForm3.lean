/- formed, of any event. No condition but that its words are words. -/
import Derived.Test.YtfldpejifpmapaaDoorEForm2
set_option linter.unusedSimpArgs false
set_option linter.unusedVariables false
set_option maxRecDepth 100000
namespace Go.Proofs.YtfldpejifpmapaaDoor
open Go.RowKit
-- the ends of a walk: the answer against formE
section
variable (th ad wd er : Int) (own : Bool) (w : World) (B : Bool)
set_option maxHeartbeats 4000000 in
theorem formed_fail (h1 : 0 ≤ th) (h2 : th < 8) (hB : formE ⟨th, 9, ad, wd, own, er⟩ = B) : Calls Tryd.prog 38 #[.agg #[.int .i64 th, .int .i64 9, .int .u64 ad, .int .u64 wd, .bool own, .int .i64 er]] w fun e w' => e = .returned (.bool B) ∧ Upd [] w w' := by
  have b1 : decide (th < 0) = false := decide_eq_false (by omega)
  have b2 : decide (8 ≤ th) = false := decide_eq_false (by omega)
  have HB := Lib.hid hB
  clear hB
  by_cases g1 : 4 ≤ er
  · have d1 : decide (4 ≤ er) = true := decide_eq_true g1
    by_cases g2 : er ≤ 6
    · have d2 : decide (er ≤ 6) = true := decide_eq_true g2
      cases own
      all_goals
        refine calls_all fun K hK => ?_
        go_enter Tryd.func38, Tryd.ntmps38
        go_wp2
        all_goals
          refine ⟨ret_bool ?_, by repeat (first | exact Upd.refl _ _ | refine Upd.alloc ?_ _)⟩
          rw [← HB.out]
          simp only [formE, formC, pairK, singK]
          first
            | (symm; apply decide_eq_true; simp_all; try omega)
            | (symm; apply decide_eq_false; simp_all; try omega)
    · have d2 : decide (er ≤ 6) = false := decide_eq_false g2
      have hB2 : B = false := by rw [← HB.out]; exact decide_eq_false (fun k => by have := k.2.2.2.2.2.2; rw [if_pos rfl] at this; dsimp only at this; omega)
      subst hB2
      clear HB g1 g2
      refine calls_all fun K hK => ?_
      go_enter Tryd.func38, Tryd.ntmps38
      go_wp2
      all_goals first | exact ⟨rfl, by repeat (first | exact Upd.refl _ _ | refine Upd.alloc ?_ _)⟩ | (repeat (first | exact Upd.refl _ _ | refine Upd.alloc ?_ _))
  · have d1 : decide (4 ≤ er) = false := decide_eq_false g1
    have hB2 : B = false := by rw [← HB.out]; exact decide_eq_false (fun k => by have := k.2.2.2.2.2.2; rw [if_pos rfl] at this; dsimp only at this; omega)
    subst hB2
    clear HB g1
    refine calls_all fun K hK => ?_
    go_enter Tryd.func38, Tryd.ntmps38
    go_wp2
    all_goals first | exact ⟨rfl, by repeat (first | exact Upd.refl _ _ | refine Upd.alloc ?_ _)⟩ | (repeat (first | exact Upd.refl _ _ | refine Upd.alloc ?_ _))
set_option maxHeartbeats 4000000 in
theorem formed_bad (k : Int) (h : th < 0 ∨ 8 ≤ th ∨ k < 1 ∨ 12 < k) : Calls Tryd.prog 38 #[.agg #[.int .i64 th, .int .i64 k, .int .u64 ad, .int .u64 wd, .bool own, .int .i64 er]] w fun e w' => e = .returned (.bool false) ∧ Upd [] w w' := by
  by_cases g1 : th < 0
  · have b1 : decide (th < 0) = true := decide_eq_true g1
    refine calls_all fun K hK => ?_
    go_enter Tryd.func38, Tryd.ntmps38
    go_wp2
    all_goals first | exact ⟨rfl, by repeat (first | exact Upd.refl _ _ | refine Upd.alloc ?_ _)⟩ | (repeat (first | exact Upd.refl _ _ | refine Upd.alloc ?_ _))
  · have b1 : decide (th < 0) = false := decide_eq_false g1
    by_cases g2 : 8 ≤ th
    · have b2 : decide (8 ≤ th) = true := decide_eq_true g2
      refine calls_all fun K hK => ?_
      go_enter Tryd.func38, Tryd.ntmps38
      go_wp2
      all_goals first | exact ⟨rfl, by repeat (first | exact Upd.refl _ _ | refine Upd.alloc ?_ _)⟩ | (repeat (first | exact Upd.refl _ _ | refine Upd.alloc ?_ _))
    · have b2 : decide (8 ≤ th) = false := decide_eq_false g2
      have e1 : (k == 1) = false := beq_eq_false_iff_ne.2 (by omega)
      have e2 : (k == 2) = false := beq_eq_false_iff_ne.2 (by omega)
      have e3 : (k == 3) = false := beq_eq_false_iff_ne.2 (by omega)
      have e4 : (k == 4) = false := beq_eq_false_iff_ne.2 (by omega)
      have e5 : (k == 5) = false := beq_eq_false_iff_ne.2 (by omega)
      have e6 : (k == 6) = false := beq_eq_false_iff_ne.2 (by omega)
      have e7 : (k == 7) = false := beq_eq_false_iff_ne.2 (by omega)
      have e8 : (k == 8) = false := beq_eq_false_iff_ne.2 (by omega)
      have e9 : (k == 9) = false := beq_eq_false_iff_ne.2 (by omega)
      have e10 : (k == 10) = false := beq_eq_false_iff_ne.2 (by omega)
      have e11 : (k == 11) = false := beq_eq_false_iff_ne.2 (by omega)
      have e12 : (k == 12) = false := beq_eq_false_iff_ne.2 (by omega)
      clear h g1 g2
      refine calls_all fun K hK => ?_
      go_enter Tryd.func38, Tryd.ntmps38
      go_wp2
      all_goals first | exact ⟨rfl, by repeat (first | exact Upd.refl _ _ | refine Upd.alloc ?_ _)⟩ | (repeat (first | exact Upd.refl _ _ | refine Upd.alloc ?_ _))
end
theorem formed_code (e : Ev) (he : e.wide) (w : World) : Calls Tryd.prog 38 #[e.val] w fun r w' => r = .returned (.bool (formE e)) ∧ Upd [] w w' := by
  obtain ⟨th, kd, ad, wd, own, er⟩ := e
  by_cases h : th < 0 ∨ 8 ≤ th ∨ kd < 1 ∨ 12 < kd
  · have : formE ⟨th, kd, ad, wd, own, er⟩ = false := decide_eq_false (fun k => by have h1 := k.1; have h2 := k.2.1; dsimp only at h1 h2; omega)
    rw [this]
    exact formed_bad th ad wd er own w kd h
  · have h1 : 0 ≤ th := by omega
    have h2 : th < 8 := by omega
    have hk : kd = 1 ∨ kd = 2 ∨ kd = 3 ∨ kd = 4 ∨ kd = 5 ∨ kd = 6 ∨ kd = 7 ∨ kd = 8 ∨ kd = 9 ∨ kd = 10 ∨ kd = 11 ∨ kd = 12 := by omega
    by_cases h9 : kd = 9
    · subst h9
      exact formed_fail th ad wd er own w _ h1 h2 rfl
    · by_cases hp : kd = 2 ∨ kd = 3 ∨ kd = 10 ∨ kd = 11
      · exact formed_pair th ad wd er own w _ kd hp h1 h2 rfl
      · exact formed_plain th ad wd er own w _ kd (by omega) h1 h2 he.2 rfl
end Go.Proofs.YtfldpejifpmapaaDoor
