/- The reference's answer for the instruction with whose bytes a text begins, plainly: it is what one answers. No conditions. -/
import Derived.Test.YtjcnlfihjfcpoaaDoorCPlain3
set_option linter.unusedSimpArgs false
set_option linter.unusedVariables false
set_option maxRecDepth 100000
namespace Go.Proofs.YtjcnlfihjfcpoaaDoor
open Go.RowKit

/-- the reference's number: at most so many groups of seven bits, in words -/
def refV : Nat → Nat → Nat → List UInt8 → Nat × Nat
  | 0, _, acc, _ => (acc, 0)
  | _ + 1, _, acc, [] => (acc, 0)
  | f + 1, wt, acc, c :: r =>
    if c.toNat < 128 then ((acc + c.toNat % 128 * wt) % 18446744073709551616, 1)
    else ((refV f (wt * 128 % 18446744073709551616) ((acc + c.toNat % 128 * wt) % 18446744073709551616) r).1, (refV f (wt * 128 % 18446744073709551616) ((acc + c.toNat % 128 * wt) % 18446744073709551616) r).2 + 1)

theorem refV_lt : ∀ (f wt acc : Nat) (l : List UInt8), acc < 18446744073709551616 → (refV f wt acc l).1 < 18446744073709551616
  | 0, _, _, _, h => by simpa [refV] using h
  | _ + 1, _, _, [], h => by simpa [refV] using h
  | f + 1, wt, acc, c :: r, h => by
    rw [refV]
    split
    · exact Nat.mod_lt _ (by decide)
    · exact refV_lt f _ _ r (Nat.mod_lt _ (by decide))
theorem refV_le : ∀ (f wt acc : Nat) (l : List UInt8), (refV f wt acc l).2 ≤ l.length ∧ (refV f wt acc l).2 ≤ f
  | 0, _, _, _ => by simp [refV]
  | _ + 1, _, _, [] => by simp [refV]
  | f + 1, wt, acc, c :: r => by
    rw [refV]
    have h := refV_le f (wt * 128 % 18446744073709551616) ((acc + c.toNat % 128 * wt) % 18446744073709551616) r
    split
    · simp
    · simp only [List.length_cons]; omega

theorem refV_vint (m : Nat) : ∀ (f i acc : Nat) (r : List UInt8), f + i = 10 → i ≤ 9 → acc + m * 2 ^ (7 * i) < 18446744073709551616 → refV f (2 ^ (7 * i)) acc (vint m ++ r) = (acc + m * 2 ^ (7 * i), (vint m).length) := by
  induction m using Nat.strongRecOn with
  | ind m ih =>
    intro f i acc r hf hi hN
    obtain ⟨f, rfl⟩ : ∃ g, f = g + 1 := ⟨f - 1, by omega⟩
    by_cases h : m < 128
    · have hc : (UInt8.ofNat m).toNat = m := by simp; omega
      rw [vint_lt h]
      simp only [List.cons_append, List.nil_append, refV, hc, List.length_cons, List.length_nil]
      rw [if_pos h, show m % 128 = m by omega, Nat.mod_eq_of_lt hN]
    · have hc : (UInt8.ofNat (m % 128 + 128)).toNat = m % 128 + 128 := by simp; omega
      have hi9 : i < 9 := by
        rcases Nat.lt_or_ge i 9 with h9 | h9
        · exact h9
        · obtain rfl : i = 9 := by omega
          have h3 : 128 * 2 ^ (7 * 9) ≤ m * 2 ^ (7 * 9) := Nat.mul_le_mul_right _ (by omega)
          have h4 : (2 : Nat) ^ (7 * 9) = 9223372036854775808 := by decide
          omega
      have e : acc + m % 128 * 2 ^ (7 * i) + m / 128 * 2 ^ (7 * (i + 1)) = acc + m * 2 ^ (7 * i) := by
        have h1 : m / 128 * 2 ^ (7 * (i + 1)) = m / 128 * 128 * 2 ^ (7 * i) := by rw [pow7, Nat.mul_assoc]
        rw [h1, Nat.add_assoc, ← Nat.add_mul, show m % 128 + m / 128 * 128 = m by omega]
      have hw : 2 ^ (7 * i) * 128 % 18446744073709551616 = 2 ^ (7 * (i + 1)) := by
        rw [pow7, Nat.mul_comm]
        apply Nat.mod_eq_of_lt
        have h3 : 2 ^ (7 * (i + 1)) ≤ 2 ^ 63 := Nat.pow_le_pow_right (by decide) (by omega)
        have h4 : (2 : Nat) ^ 63 = 9223372036854775808 := by decide
        rw [pow7] at h3
        omega
      have hm : (acc + m % 128 * 2 ^ (7 * i)) % 18446744073709551616 = acc + m % 128 * 2 ^ (7 * i) := by
        apply Nat.mod_eq_of_lt
        have h3 : 0 ≤ m / 128 * 2 ^ (7 * (i + 1)) := Nat.zero_le _
        omega
      rw [vint_ge h]
      simp only [List.cons_append, refV, hc, List.length_cons]
      rw [if_neg (by omega), show (m % 128 + 128) % 128 = m % 128 by omega, hw, hm, ih (m / 128) (by omega) f (i + 1) _ r (by omega) (by omega) (by rw [e]; exact hN), e]

/-- the reference's one, plainly -/
def rdecF (l : List UInt8) (f : Form) : Ins × Nat :=
  if f.num = true then (insB l f.regs (refV 10 1 0 (l.drop (1 + f.regs))).1, 1 + f.regs + (refV 10 1 0 (l.drop (1 + f.regs))).2) else (insB l f.regs 0, 1 + f.regs)
def roneF (l : List UInt8) (f : Form) (ok : Bool) : Option (Ins × Nat) :=
  if ok = true ∧ f.regs < l.length then
    if formed (rdecF l f).1 = true ∧ bytesOf (rdecF l f).1 = l.take (rdecF l f).2 then some (rdecF l f) else none
  else none
def roneL (l : List UInt8) : Option (Ins × Nat) := roneF l (formI ((l.getD 0 0).toNat : Int)) (isOp ((l.getD 0 0).toNat : Int))

theorem roneF_plain (l : List UInt8) (f : Form) (hf : f.num = false) (hg : f.regs < l.length) :
    roneF l f true = if formed (insB l f.regs 0) = true ∧ bytesOf (insB l f.regs 0) = l.take (1 + f.regs) then some (insB l f.regs 0, 1 + f.regs) else none := by
  unfold roneF rdecF
  rw [if_pos ⟨rfl, hg⟩]
  simp only [hf, Bool.false_eq_true, if_false]
theorem roneF_num (l : List UInt8) (f : Form) (hf : f.num = true) (hg : f.regs < l.length) (N j : Nat) (h : refV 10 1 0 (l.drop (1 + f.regs)) = (N, j)) :
    roneF l f true = if formed (insB l f.regs N) = true ∧ bytesOf (insB l f.regs N) = l.take (1 + f.regs + j) then some (insB l f.regs N, 1 + f.regs + j) else none := by
  unfold roneF rdecF
  rw [if_pos ⟨rfl, hg⟩]
  simp only [hf, if_true, h]

theorem rdec_n (l : List UInt8) (f : Form) : 0 ≤ (rdecF l f).1.n ∧ (rdecF l f).1.n < 18446744073709551616 := by
  unfold rdecF insB
  split
  · have := refV_lt 10 1 0 (l.drop (1 + f.regs)) (by decide)
    dsimp only
    omega
  · dsimp only; omega

theorem rone_one {l : List UInt8} (hl : 0 < l.length) : roneL l = oneL l := by
  cases h : oneL l with
  | some y =>
    obtain ⟨x, n⟩ := y
    obtain ⟨q1, q2, q3, r, q4⟩ := one_says hl h
    unfold oneL at h
    unfold roneL
    generalize formI ((l.getD 0 0).toNat : Int) = f at *
    generalize isOp ((l.getD 0 0).toNat : Int) = ok at *
    unfold oneF at h
    unfold roneF
    by_cases hg : ok = true ∧ f.regs < l.length
    · rw [if_pos hg] at h ⊢
      have hx : rdecF l f = (x, n) := by
        unfold rdecF
        by_cases hn : f.num = true
        · rw [if_pos hn] at h ⊢
          cases hd : decV 0 0 (l.drop (1 + f.regs)) with
          | none => rw [hd] at h; cases h
          | some z =>
            obtain ⟨N, k⟩ := z
            rw [hd] at h
            simp only at h
            by_cases hf : formed (insB l f.regs N) = true
            · rw [if_pos hf] at h
              simp only [Option.some.injEq, Prod.mk.injEq] at h
              obtain ⟨m, e1, e2, _, r', e4, e5⟩ := dec_says _ 0 0 N k (by omega) (by decide) hd
              have h0 : 2 ^ (7 * 0) = 1 := rfl
              rw [h0] at e1
              have e1' : N = m := by omega
              have hv := refV_vint m 10 0 0 r' (by omega) (by omega) (by rw [h0]; omega)
              rw [h0] at hv
              rw [e4, hv, ← e5, ← h.1, ← h.2, e1']
              simp
            · rw [if_neg hf] at h; cases h
        · rw [if_neg hn] at h ⊢
          by_cases hf : formed (insB l f.regs 0) = true
          · rw [if_pos hf] at h
            simpa using h
          · rw [if_neg hf] at h; cases h
      rw [hx]
      simp only
      rw [if_pos ⟨q1, by rw [q3]; conv => rhs; rw [q4]
                         rw [List.take_left]⟩]
    · rw [if_neg hg] at h; cases h
  | none =>
    cases hr : roneL l with
    | none => rfl
    | some y =>
      exfalso
      unfold roneL at hr
      generalize formI ((l.getD 0 0).toNat : Int) = f at *
      generalize isOp ((l.getD 0 0).toNat : Int) = ok at *
      unfold roneF at hr
      by_cases hg : ok = true ∧ f.regs < l.length
      · rw [if_pos hg] at hr
        by_cases hb : formed (rdecF l f).1 = true ∧ bytesOf (rdecF l f).1 = l.take (rdecF l f).2
        · have h1 := one_bytes (rdecF l f).1 (l.drop (rdecF l f).2) hb.1 (rdec_n l f)
          rw [hb.2, List.take_append_drop, h] at h1
          cases h1
        · rw [if_neg hb] at hr; cases hr
      · rw [if_neg hg] at hr; cases hr
end Go.Proofs.YtjcnlfihjfcpoaaDoor
