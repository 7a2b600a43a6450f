/- wrong, joined: what is wrong with the next event. The conditions: the state's and the event's words are words, the number is small. -/
import Derived.Test.YtfldpejifpmapaaDoorEWrong4
import Derived.Test.YtfldpejifpmapaaDoorEWrong5
import Derived.Test.YtfldpejifpmapaaDoorEWrong6
set_option linter.unusedSimpArgs false
set_option linter.unusedVariables false
set_option maxRecDepth 100000
namespace Go.Proofs.YtfldpejifpmapaaDoor
open Go.RowKit
open Go.Maps
set_option maxHeartbeats 2000000 in
theorem wrong_form (w : World) (lb : Nat) (e : Ev) (he : e.wide) (hf : formE e = false) : Calls Tryd.prog 67 #[.pointer (some ⟨lb, 0, none⟩), e.val] w fun r w' => r = .returned (.int .i64 201) ∧ Upd [] w w' := by
  have hfc : ∀ W, Calls Tryd.prog 38 #[e.val] W fun r w' => r = .returned (.bool false) ∧ Upd [] W w' := fun W => by have h := formed_code e he W; rw [hf] at h; exact h
  obtain ⟨th, kd, ad, wd, own, er⟩ := e
  clear hf he
  simp only [Ev.val] at hfc ⊢
  have HFC := Lib.hid hfc
  clear hfc
  refine calls_all fun K hK => ?_
  go_enter Tryd.func67, Tryd.ntmps67
  go_wp2_with fail
  refine (HFC.out _).mono ?_
  rintro e W2 ⟨rfl, u2⟩
  have U2 := Lib.hid (((Upd.refl [] w).alloc (.cells #[.int .i64 th, .int .i64 kd, .int .u64 ad, .int .u64 wd, .bool own, .int .i64 er] 27)).trans u2)
  clear u2
  go_wp2_with fail
  exact ⟨rfl, U2.out⟩
def turnOk (h k : Nat) : Bool := (h == 0 && (k == 1 || k == 9 || k == 10 || k == 11 || k == 12)) || (h == 1 && (k == 2 || k == 3 || k == 4 || k == 5 || k == 6 || k == 7 || k == 8 || k == 9)) || (h == 2 && k == 6)
theorem turn_some0 : ∀ h, h < 4 → ∀ k : Nat, k < 13 → (turnL.getD (13 * h + k) 0 == 0 || k == 0 || turnOk h k) = true := by decide
theorem turn_some {h k : Nat} (hh : h < 4) (hk : 1 ≤ k ∧ k ≤ 12) (ht : turnL.getD (13 * h + k) 0 ≠ 0) : (h = 0 ∧ (k = 1 ∨ k = 9 ∨ k = 10 ∨ k = 11 ∨ k = 12)) ∨ (h = 1 ∧ (k = 2 ∨ k = 3 ∨ k = 4 ∨ k = 5 ∨ k = 6 ∨ k = 7 ∨ k = 8 ∨ k = 9)) ∨ (h = 2 ∧ k = 6) := by
  have h1 := turn_some0 h hh k (by omega)
  have b1 : (turnL.getD (13 * h + k) 0 == 0) = false := beq_eq_false_iff_ne.2 ht
  have b2 : (k == 0) = false := beq_eq_false_iff_ne.2 (by omega)
  rw [b1, b2] at h1
  simp only [Bool.false_or, turnOk, Bool.or_eq_true, Bool.and_eq_true, beq_iff_eq] at h1
  omega
theorem wrong_code {w : World} {B lb n j : Nat} {S : LS} (hok : LSOk S j) (hj : j ≤ 4611686018427387904) (hL : LookAt w B lb n S) (e : Ev) (he : e.wide) :
    Calls Tryd.prog 67 #[.pointer (some ⟨lb, 0, none⟩), e.val] w fun r w' => r = .returned (.int .i64 (wrongE S e)) ∧ Upd [] w w' := by
  by_cases hf : formE e = false
  · have : wrongE S e = 201 := by unfold wrongE; rw [if_pos hf]
    rw [this]
    exact wrong_form w lb e he hf
  · have hf : formE e = true := by simpa using hf
    obtain ⟨th, kd, ad, wd, own, er⟩ := e
    obtain ⟨h1, h2, _⟩ := formE_c hf
    dsimp only at h1 h2
    obtain ⟨i, rfl⟩ : ∃ i : Nat, th = i := ⟨th.toNat, by omega⟩
    obtain ⟨k, rfl⟩ : ∃ k : Nat, kd = k := ⟨kd.toNat, by omega⟩
    have hi : i < 8 := by omega
    have hk : 1 ≤ k ∧ k ≤ 12 := by omega
    have hh := hok.hows i
    by_cases hT : turnT (S.ths i).how k = 0
    · have : wrongE S ⟨i, k, ad, wd, own, er⟩ = 230 := by unfold wrongE; rw [if_neg (by rw [hf]; decide), if_pos (.inl (by simpa using hT))]
      rw [this]
      exact wrong_turn w B lb n i k S ad wd er own hL he hf hi hk hh hT
    · by_cases hno : (S.ths i).how = 0 ∧ k = 9 ∧ er ≠ 4
      · have : wrongE S ⟨i, k, ad, wd, own, er⟩ = 230 := by unfold wrongE; rw [if_neg (by rw [hf]; decide), if_pos (.inr ⟨by simpa using hno.1, by have := hno.2.1; dsimp only; omega, hno.2.2⟩)]
        rw [this]
        exact wrong_first w B lb n i k S ad wd er own hL he hf hi hk hh hT hno.1 hno.2.1 hno.2.2
      · have ht := turn_some (h := (S.ths i).how) (k := k) (by omega) (by omega) (by unfold turnT at hT; simpa using hT)
        rcases ht with ⟨h0, hc⟩ | ⟨h0, hc⟩ | ⟨h0, hc⟩
        · by_cases k1 : k = 1
          · exact wrong_a w B lb n i k j S ad wd er own hok hj hL he hf hi hk hh hT hno k1 h0
          · by_cases k9 : k = 9
            · exact wrong_e2 w B lb n i k j S ad wd er own hok hj hL he hf hi hk hh hT hno k9 h0 (by by_cases q : er = 4; exact q; exact absurd ⟨h0, k9, q⟩ hno)
            · exact wrong_e1 w B lb n i k j S ad wd er own hok hj hL he hf hi hk hh hT hno (by omega) h0
        · by_cases k2 : k = 2
          · exact wrong_d w B lb n i k j S ad wd er own hok hj hL he hf hi hk hh hT hno k2 h0
          · by_cases k4 : k = 4
            · exact wrong_a4 w B lb n i k j S ad wd er own hok hj hL he hf hi hk hh hT hno k4 (by omega)
            · by_cases k5 : k = 5
              · exact wrong_b w B lb n i k j S ad wd er own hok hj hL he hf hi hk hh hT hno k5 (.inl h0)
              · by_cases k6 : k = 6
                · exact wrong_c1 w B lb n i k j S ad wd er own hok hj hL he hf hi hk hh hT hno k6 h0
                · exact wrong_e0 w B lb n i k j S ad wd er own hok hj hL he hf hi hk hh hT hno (by omega) (by omega)
        · exact wrong_c2 w B lb n i k j S ad wd er own hok hj hL he hf hi hk hh hT hno hc h0
end Go.Proofs.YtfldpejifpmapaaDoor
