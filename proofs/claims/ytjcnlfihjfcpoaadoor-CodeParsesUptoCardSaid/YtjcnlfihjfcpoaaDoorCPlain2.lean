/- What is read is written: a line that is an instruction's is its text. Plain lists. No condition. -/
import Derived.Test.YtjcnlfihjfcpoaaDoorCPlain
set_option linter.unusedSimpArgs false
set_option linter.unusedVariables false
set_option maxRecDepth 100000
namespace Go.Proofs.YtjcnlfihjfcpoaaDoor
open Go.RowKit

theorem findN_found : ∀ (xs : List (List UInt8)) (i : Nat) (l : List UInt8) (k : Nat), findN xs i l = (k, true) → ∃ j, k = i + j ∧ xs[j]? = some l
  | [], i, l, k, h => by simp [findN] at h
  | x :: xs, i, l, k, h => by
    rw [findN] at h
    split at h
    · rename_i e
      simp only [Prod.mk.injEq, and_true] at h
      exact ⟨0, by omega, by simp [e]⟩
    · obtain ⟨j, h1, h2⟩ := findN_found xs (i + 1) l k h
      exact ⟨j + 1, by omega, by simpa using h2⟩
theorem named_name {p : List UInt8} {k : Nat} (h : namedL p = (k, true)) : nameI k = p ∧ 1 ≤ k ∧ k ≤ 17 := by
  unfold namedL at h
  obtain ⟨j, rfl, hj⟩ := findN_found _ _ _ _ h
  have hl : j < 17 := by
    have := (List.getElem?_eq_some_iff.1 hj).1
    simpa [nameBs] using this
  refine ⟨?_, by omega, by omega⟩
  unfold nameI
  rw [if_neg (by omega), Int.toNat_natCast, List.getD_eq_getElem?_getD]
  rw [List.getElem?_drop] at hj
  rw [hj]
  rfl

theorem regOk_iff {p : List UInt8} (h : regOk p = true) : (numL p).2 = true ∧ (numL p).1 < 8 := by
  unfold regOk at h
  simpa using h

theorem parseF_some {P : List (List UInt8)} {op : Nat} {ok : Bool} {R : Nat} {num : Bool} {i : Ins} (h : parseF P op ok R num = some i) :
    ok = true ∧ P.length = 1 + R + (if num then 1 else 0) ∧ (∀ k, k < R → regOk (P.getD (1 + k) []) = true) ∧ (num = true → (lastN P).2 = true) ∧ i = ⟨op, rg P R 0, rg P R 1, rg P R 2, if num then (lastN P).1 else 0⟩ := by
  unfold parseF at h
  by_cases hc : (ok && decide (P.length = 1 + R + (if num = true then 1 else 0)) && regsOk P R && (!num || (lastN P).2)) = true
  · rw [if_pos hc] at h
    simp only [Bool.and_eq_true, decide_eq_true_eq] at hc
    obtain ⟨⟨⟨h1, h2⟩, h3⟩, h4⟩ := hc
    refine ⟨h1, h2, fun k hk => ?_, fun hn => ?_, (Option.some.inj h).symm⟩
    · unfold regsOk at h3
      exact List.all_eq_true.1 h3 k (List.mem_range.2 hk)
    · subst hn
      simpa using h4
  · rw [if_neg hc] at h
    cases h

theorem text_parse {l : List UInt8} {i : Ins} (h : parseL l = some i) : formed i = true ∧ textOf i = l ∧ 0 ≤ i.n ∧ i.n < 18446744073709551616 := by
  obtain ⟨p, ws, hsp, hj⟩ := join_sp l
  unfold parseL at h
  rw [hsp, List.getD_cons_zero] at h
  obtain ⟨h1, h2, h3, h4, rfl⟩ := parseF_some h
  obtain ⟨k, hk⟩ : ∃ k, namedL p = (k, true) := ⟨(namedL p).1, by rw [← h1]⟩
  rw [hk] at h2 h3 h4 ⊢
  simp only at h2 h3 h4 ⊢
  obtain ⟨hnm, hk1, hk2⟩ := named_name hk
  have hR3 := regs_le (k : Int)
  have hws : ws.length = (formI k).regs + (if (formI k).num then 1 else 0) := by
    rw [List.length_cons] at h2; omega
  have hrg : ∀ j, j < (formI k).regs → (numL (ws.getD j [])).2 = true ∧ (numL (ws.getD j [])).1 < 8 := fun j hj => by
    have := h3 j hj
    rw [Nat.add_comm 1 j, List.getD_cons_succ] at this
    exact regOk_iff this
  have hrv : ∀ j, j < (formI k).regs → rg (p :: ws) (formI k).regs j = (numL (ws.getD j [])).1 := fun j hj => by
    unfold rg
    rw [if_pos hj, Nat.add_comm 1 j, List.getD_cons_succ]
  have hrz : ∀ j, ¬ j < (formI k).regs → rg (p :: ws) (formI k).regs j = 0 := fun j hj => by
    unfold rg
    rw [if_neg hj]
  have hla : (formI k).num = true → lastN (p :: ws) = numL (ws.getD (formI k).regs []) := fun hn => by
    unfold lastN
    rw [List.length_cons, hws, if_pos hn, Nat.add_sub_cancel, List.getD_cons_succ]
  obtain ⟨i, hi⟩ : ∃ i : Ins, (⟨(k : Int), rg (p :: ws) (formI k).regs 0, rg (p :: ws) (formI k).regs 1, rg (p :: ws) (formI k).regs 2, if (formI k).num = true then (lastN (p :: ws)).1 else 0⟩ : Ins) = i := ⟨_, rfl⟩
  rw [hi]
  have hop : i.op = k := by rw [← hi]
  have hin : i.n = if (formI k).num = true then ((lastN (p :: ws)).1 : Int) else 0 := by rw [← hi]
  have hreg : ∀ j, j < 3 → i.reg j = (rg (p :: ws) (formI k).regs j : Nat) := fun j hj => by
    rw [← hi]
    have : j = 0 ∨ j = 1 ∨ j = 2 := by omega
    rcases this with rfl | rfl | rfl <;> rfl
  have hisop : isOp i.op = true := by rw [hop]; exact decide_eq_true (by omega)
  have hnn : 0 ≤ i.n ∧ i.n < 18446744073709551616 := by
    rw [hin]
    split
    · have := numL_lt ((p :: ws).getD ((p :: ws).length - 1) [])
      unfold lastN
      omega
    · omega
  refine ⟨?_, ?_, by rw [hin] at hnn; exact hnn.1, by rw [hin] at hnn; exact hnn.2⟩
  · have hok : ∀ j, j < 3 → okReg (formI i.op).regs i.reg j = true := fun j hj => by
      rw [hop]
      by_cases hjR : j < (formI k).regs
      · refine okReg_in hjR ?_ ?_
        · rw [hreg j hj]; omega
        · rw [hreg j hj, hrv j hjR]; have := (hrg j hjR).2; omega
      · refine okReg_zero hjR ?_
        rw [hreg j hj, hrz j hjR]; rfl
    unfold formed
    rw [formedF_yes hok, hisop, Bool.true_and]
    rw [hop]
    cases hnum : (formI k).num with
    | true => rfl
    | false => rw [Bool.false_or]; exact decide_eq_true (by rw [hin, hnum]; rfl)
  · rw [textOf_jn, hop, hnm, ← hj]
    congr 2
    unfold tails
    rw [hop]
    apply List.ext_getElem?
    intro j
    by_cases hjR : j < (formI k).regs
    · rw [List.getElem?_append_left (by simpa using hjR), List.getElem?_map, List.getElem?_range hjR]
      have hjw : j < ws.length := by omega
      simp only [Option.map_some]
      rw [hreg j (by omega), Int.toNat_natCast, hrv j hjR, dec_numL _ (hrg j hjR).1, List.getD_eq_getElem?_getD, List.getElem?_eq_getElem hjw]
      rfl
    · rw [List.getElem?_append_right (by simp; omega)]
      simp only [List.length_map, List.length_range]
      cases hnum : (formI k).num with
      | false =>
        rw [hnum] at hws
        simp only [Bool.false_eq_true, if_false] at hws ⊢
        rw [List.getElem?_nil, List.getElem?_eq_none (by omega)]
      | true =>
        rw [hnum] at hws
        simp only [if_true] at hws ⊢
        by_cases hje : j = (formI k).regs
        · subst hje
          have h5 := h4 hnum
          rw [hla hnum] at h5
          have hn' : i.n.toNat = (numL (ws.getD (formI k).regs [])).1 := by rw [hin, if_pos hnum, hla hnum, Int.toNat_natCast]
          rw [Nat.sub_self, hn', dec_numL _ h5, List.getD_eq_getElem?_getD, List.getElem?_eq_getElem (by omega : (formI k).regs < ws.length)]
          rfl
        · rw [List.getElem?_eq_none (by simp; omega), List.getElem?_eq_none (by omega)]
end Go.Proofs.YtjcnlfihjfcpoaaDoor
