/- Line, joined: an event's line, or the refusal. The conditions: the library's table is laid; the event's words are words. -/
import Derived.Test.YtfldpejifpmapaaDoorELine3
import Derived.Test.YtfldpejifpmapaaDoorELine4
import Derived.Test.YtfldpejifpmapaaDoorELine5
import Derived.Test.YtfldpejifpmapaaDoorELine6
set_option linter.unusedSimpArgs false
set_option linter.unusedVariables false
set_option maxRecDepth 100000
namespace Go.Proofs.YtfldpejifpmapaaDoor
open Go.RowKit
open Go.Maps
theorem line_code (w : World) (e : Ev) (he : e.wide) (hT : Tab w) : Calls Tryd.prog 13 #[e.val] w fun r w' => r = .returned (.tuple #[.string ⟨(lineO e).1.toArray⟩, .int .i64 (lineO e).2]) ∧ Upd [] w w' := by
  by_cases hf : formE e = true
  · obtain ⟨th, kd, ad, wd, own, er⟩ := e
    have hfc := formE_c hf
    obtain ⟨h1, h2, h3, h4, h5, _⟩ := hfc
    dsimp only at h1 h2 h5
    obtain ⟨t, rfl⟩ : ∃ i : Nat, th = i := ⟨th.toNat, by omega⟩
    obtain ⟨k, rfl⟩ : ∃ k : Nat, kd = k := ⟨kd.toNat, by omega⟩
    obtain ⟨a, rfl⟩ : ∃ k : Nat, ad = k := ⟨ad.toNat, by have := he.1; dsimp only at this; omega⟩
    obtain ⟨d, rfl⟩ : ∃ k : Nat, wd = k := ⟨wd.toNat, by have := he.2; dsimp only at this; omega⟩
    have ha : a < 18446744073709551616 := by have := he.1; dsimp only at this; omega
    have hd : d < 18446744073709551616 := by have := he.2; dsimp only at this; omega
    have hO : lineO ⟨t, k, a, d, own, er⟩ = (lineE ⟨t, k, a, d, own, er⟩, 0) := by unfold lineO; rw [if_pos hf]
    rw [hO]
    have ht : t < 8 := by omega
    cases own with
    | true =>
      have hk : k = 2 := by
        by_cases q : k = 2
        · exact q
        · have := h5 (by omega); cases this
      exact line_own w t k a d er true rfl he hf ht ha hd hk hT
    | false =>
      by_cases c1 : k = 2 ∨ k = 3 ∨ k = 10 ∨ k = 11
      · exact line_pair w t k a d er he hf ht ha hd c1 hT false rfl
      · by_cases c2 : k = 1 ∨ k = 4 ∨ k = 6
        · exact line_sing w t k a d er false rfl he hf ht ha hd c2 hT
        · by_cases c3 : k = 9
          · exact line_fail w t k a d er false rfl he hf ht ha hd c3 hT
          · exact line_none w t k a d er false rfl he hf ht ha hd (by omega) hT
  · have hf : formE e = false := by simpa using hf
    have hO : lineO e = ([], 201) := by unfold lineO; rw [if_neg (by rw [hf]; simp)]
    rw [hO]
    exact line_no w e he hf
/-- a line is short -/
theorem lineE_len (e : Ev) (he : e.wide) (hf : formE e = true) : 1 ≤ (lineE e).length ∧ (lineE e).length ≤ 60 := by
  obtain ⟨h1, h2, h3, h4, h5, h6, h7⟩ := formE_c hf
  have ha := dec_le e.ad.toNat (by have := he.1; omega)
  have hd := dec_le e.wd.toNat (by have := he.2; omega)
  have ht : (Lib.decDigits e.th.toNat).length = 1 := by rw [Lib.decDigits_one (by omega)]; rfl
  have hn : (nameE e).length ≤ 9 := by
    unfold nameE
    split
    · decide
    · exact names_len _
  have hl : (tailE e).length ≤ 42 := by
    unfold tailE
    split
    · simp only [List.length_append, List.length_cons]; omega
    · split
      · simp only [List.length_cons]; omega
      · split
        · rename_i h9
          rw [if_pos h9] at h7
          have := dec_le e.er.toNat (by omega)
          simp only [List.length_cons]; omega
        · simp
  unfold lineE
  simp only [List.length_append, List.length_cons]
  omega
end Go.Proofs.YtfldpejifpmapaaDoor
