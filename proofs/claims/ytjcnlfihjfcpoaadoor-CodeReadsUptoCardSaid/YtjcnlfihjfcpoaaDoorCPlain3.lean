/- What bytes say, plainly: what one reads is what is written, and back; so for whole programs. No conditions. -/
import Derived.Test.YtjcnlfihjfcpoaaDoorCOneS
set_option linter.unusedSimpArgs false
set_option linter.unusedVariables false
set_option maxRecDepth 100000
namespace Go.Proofs.YtjcnlfihjfcpoaaDoor
open Go.RowKit

theorem u8_eq {c : UInt8} {n : Nat} (h : c.toNat = n) : UInt8.ofNat n = c := by subst h; simp
theorem pow7 (i : Nat) : 2 ^ (7 * (i + 1)) = 128 * 2 ^ (7 * i) := by rw [Nat.mul_succ, Nat.pow_add]; omega

theorem dec_says : ∀ (l : List UInt8) (i acc N k : Nat), i ≤ 9 → acc < 2 ^ (7 * i) → decV (7 * i) acc l = some (N, k) → ∃ m, N = acc + m * 2 ^ (7 * i) ∧ N < 18446744073709551616 ∧ (i = 0 ∨ 0 < m) ∧ ∃ r, l = vint m ++ r ∧ k = (vint m).length
  | [], i, acc, N, k, _, _, h => by simp [decV] at h
  | c :: r, i, acc, N, k, hi, ha, h => by
    have h256 := UInt8.toNat_lt c
    rw [decV, if_neg (by omega)] at h
    by_cases h9 : 7 * i = 63 ∧ 1 < c.toNat
    · rw [if_pos h9] at h; cases h
    · rw [if_neg h9] at h
      have hlt := dec_lt acc c.toNat i ha
      by_cases h8 : c.toNat < 128
      · rw [if_pos h8] at h
        by_cases h0 : 0 < c.toNat ∨ 7 * i = 0
        · rw [if_pos h0] at h
          simp only [Option.some.injEq, Prod.mk.injEq] at h
          obtain ⟨rfl, rfl⟩ := h
          have hm : c.toNat % 128 = c.toNat := by omega
          refine ⟨c.toNat, by rw [hm], ?_, by omega, r, by rw [vint_lt h8, u8_eq rfl]; rfl, by rw [vint_lt h8]; rfl⟩
          by_cases h63 : i = 9
          · subst h63
            have h1 : c.toNat % 128 ≤ 1 := by omega
            have h2 : c.toNat % 128 * 2 ^ (7 * 9) ≤ 1 * 2 ^ (7 * 9) := Nat.mul_le_mul_right _ h1
            have h3 : (2 : Nat) ^ (7 * 9) = 9223372036854775808 := by decide
            omega
          · exact dec_lt64 _ (i + 1) (by omega) hlt
        · rw [if_neg h0] at h; cases h
      · rw [if_neg h8] at h
        obtain ⟨⟨N', k'⟩, h1, h2⟩ := Option.map_eq_some_iff.1 h
        simp only [Prod.mk.injEq] at h2
        obtain ⟨rfl, rfl⟩ := h2
        rw [show 7 * i + 7 = 7 * (i + 1) by omega] at h1
        obtain ⟨m, e1, e2, e3, r', e4, e5⟩ := dec_says r (i + 1) _ _ _ (by omega) hlt h1
        have hm0 : 0 < m := by omega
        have hv : ¬ c.toNat % 128 + 128 * m < 128 := by omega
        have hd : (c.toNat % 128 + 128 * m) / 128 = m := by omega
        have hmod : (c.toNat % 128 + 128 * m) % 128 + 128 = c.toNat := by omega
        refine ⟨c.toNat % 128 + 128 * m, ?_, e2, by omega, r', ?_, ?_⟩
        · rw [e1, pow7, Nat.add_mul, Nat.add_assoc, Nat.mul_comm 128 m, Nat.mul_assoc]
        · rw [vint_ge hv, hd, hmod, u8_eq rfl, e4]; rfl
        · rw [vint_ge hv, hd, e5]; rfl

theorem dec_vint (m : Nat) : ∀ (i acc : Nat) (r : List UInt8), i ≤ 9 → acc + m * 2 ^ (7 * i) < 18446744073709551616 → (i = 0 ∨ 0 < m) → decV (7 * i) acc (vint m ++ r) = some (acc + m * 2 ^ (7 * i), (vint m).length) := by
  induction m using Nat.strongRecOn with
  | ind m ih =>
    intro i acc r hi hN h0
    by_cases h : m < 128
    · have hc : (UInt8.ofNat m).toNat = m := by simp; omega
      have h9 : ¬ (7 * i = 63 ∧ 1 < m) := by
        rintro ⟨h1, h2⟩
        obtain rfl : i = 9 := by omega
        have h3 : 2 * 2 ^ (7 * 9) ≤ m * 2 ^ (7 * 9) := Nat.mul_le_mul_right _ h2
        have h4 : (2 : Nat) ^ (7 * 9) = 9223372036854775808 := by decide
        omega
      rw [vint_lt h]
      simp only [List.cons_append, List.nil_append, decV, hc, List.length_cons, List.length_nil]
      rw [if_neg (by omega), if_neg h9, if_pos h, if_pos (by omega), show m % 128 = m by omega]
    · have hc : (UInt8.ofNat (m % 128 + 128)).toNat = m % 128 + 128 := by simp; omega
      have hi9 : i < 9 := by
        rcases Nat.lt_or_ge i 9 with h9 | h9
        · exact h9
        · obtain rfl : i = 9 := by omega
          have h3 : 128 * 2 ^ (7 * 9) ≤ m * 2 ^ (7 * 9) := Nat.mul_le_mul_right _ (by omega)
          have h4 : (2 : Nat) ^ (7 * 9) = 9223372036854775808 := by decide
          omega
      have e : acc + m % 128 * 2 ^ (7 * i) + m / 128 * 2 ^ (7 * (i + 1)) = acc + m * 2 ^ (7 * i) := by
        have h1 : m / 128 * 2 ^ (7 * (i + 1)) = m / 128 * 128 * 2 ^ (7 * i) := by rw [pow7, Nat.mul_assoc]
        rw [h1, Nat.add_assoc, ← Nat.add_mul, show m % 128 + m / 128 * 128 = m by omega]
      rw [vint_ge h]
      simp only [List.cons_append, decV, hc, List.length_cons]
      rw [if_neg (by omega), if_neg (by omega), if_neg (by omega), show 7 * i + 7 = 7 * (i + 1) by omega, show (m % 128 + 128) % 128 = m % 128 by omega,
        ih (m / 128) (by omega) (i + 1) _ r (by omega) (by rw [e]; exact hN) (by omega), e]
      rfl

theorem regBytes_len (i : Ins) (k : Nat) : (regBytes i k).length = k := by simp [regBytes]
theorem regBytes_at (i : Ins) (k j : Nat) (h : j < k) : (regBytes i k)[j]? = some (UInt8.ofNat (i.reg j).toNat) := by
  unfold regBytes
  rw [List.getElem?_map, List.getElem?_range h]
  rfl

theorem formed_zero {i : Ins} (h : formed i = true) (k : Nat) (hk : k < 3) (hR : ¬ k < (formI i.op).regs) : i.reg k = 0 := by
  by_cases h0 : i.reg k = 0
  · exact h0
  · exfalso
    unfold formed at h
    rw [formedF_no (okReg_more hR h0) hk] at h
    cases h
theorem formed_num {i : Ins} (h : formed i = true) (hn : (formI i.op).num = false) : i.n = 0 := by
  unfold formed formedF at h
  simp only [Bool.and_eq_true, Bool.or_eq_true] at h
  rcases h.2.2 with h1 | h1
  · rw [hn] at h1; cases h1
  · exact of_decide_eq_true h1
theorem formed_op {i : Ins} (h : formed i = true) : isOp i.op = true := by
  unfold formed formedF at h
  simp only [Bool.and_eq_true] at h
  exact h.2.1

/-- what is written is read -/
theorem one_bytes (x : Ins) (r : List UInt8) (hf : formed x = true) (hw : 0 ≤ x.n ∧ x.n < 18446744073709551616) : oneL (bytesOf x ++ r) = some (x, (bytesOf x).length) := by
  have hop := formed_isOp hf
  have hrg := formed_reg hf
  have hR3 := regs_le x.op
  have hz := formed_zero hf
  have h0 : (((bytesOf x ++ r).getD 0 0).toNat : Int) = x.op := by
    unfold bytesOf
    simp only [List.cons_append, List.getD_cons_zero]
    exact ofNat_toNat (by omega) (by omega)
  unfold oneL
  rw [h0, formed_op hf]
  unfold oneF
  have hlen : (bytesOf x).length = 1 + (formI x.op).regs + (if (formI x.op).num then vint x.n.toNat else []).length := by
    unfold bytesOf
    simp only [List.length_cons, List.length_append, regBytes_len]
    omega
  rw [if_pos ⟨rfl, by rw [List.length_append, hlen]; omega⟩]
  have hrb : ∀ k, k < 3 → rB (bytesOf x ++ r) (formI x.op).regs k = x.reg k := fun k hk => by
    unfold rB
    by_cases h : k < (formI x.op).regs
    · rw [if_pos h]
      have e : (bytesOf x ++ r).getD (1 + k) 0 = UInt8.ofNat (x.reg k).toNat := by
        unfold bytesOf
        rw [List.getD_eq_getElem?_getD, List.cons_append, Nat.add_comm 1 k, List.getElem?_cons_succ, List.append_assoc, List.getElem?_append_left (by rw [regBytes_len]; exact h), regBytes_at _ _ _ h]
        rfl
      rw [e]
      obtain ⟨h1, h2⟩ := hrg k h
      exact ofNat_toNat h1 (by omega)
    · rw [if_neg h]
      exact (hz k hk h).symm
  have hins : ∀ N : Nat, (N : Int) = x.n → insB (bytesOf x ++ r) (formI x.op).regs N = x := fun N hN => by
    unfold insB
    rw [h0, hrb 0 (by omega), hrb 1 (by omega), hrb 2 (by omega), hN]
    rfl
  by_cases hn : (formI x.op).num = true
  · rw [if_pos hn]
    have hdrop : (bytesOf x ++ r).drop (1 + (formI x.op).regs) = vint x.n.toNat ++ r := by
      unfold bytesOf
      rw [hn, if_pos rfl, List.cons_append, Nat.add_comm 1, List.drop_succ_cons, List.append_assoc]
      conv => lhs; arg 1; rw [← regBytes_len x (formI x.op).regs]
      rw [List.drop_left]
    have hd := dec_vint x.n.toNat 0 0 r (by omega) (by simp; omega) (.inl rfl)
    simp only [Nat.mul_zero, Nat.pow_zero, Nat.mul_one, Nat.zero_add] at hd
    rw [hdrop, hd]
    simp only
    rw [hins _ (by omega), if_pos hf, hlen, hn]
    simp
  · have hn' : (formI x.op).num = false := by simpa using hn
    rw [if_neg hn, hins 0 (by rw [formed_num hf hn']; rfl), if_pos hf, hlen, hn']
    simp

theorem take_regs (l : List UInt8) (x : Ins) : ∀ R, 1 + R ≤ l.length → (∀ k, k < R → x.reg k = ((l.getD (1 + k) 0).toNat : Int)) → l.take (1 + R) = l.getD 0 0 :: regBytes x R
  | 0, h, _ => by
    cases l with
    | nil => simp at h
    | cons a b => simp [regBytes]
  | R + 1, h, hk => by
    have ih := take_regs l x R (by omega) (fun k hk' => hk k (by omega))
    rw [show 1 + (R + 1) = (1 + R) + 1 by omega, List.take_succ_eq_append_getElem (by omega), ih, regBytes_succ, List.cons_append]
    have e := hk R (by omega)
    have h2 : l.getD (1 + R) 0 = l[1 + R] := by simp [List.getD, show 1 + R < l.length by omega]
    rw [e, h2]
    simp

/-- what is read is what was written -/
theorem one_says {l : List UInt8} (hl : 0 < l.length) {x : Ins} {n : Nat} (h : oneL l = some (x, n)) : formed x = true ∧ (0 ≤ x.n ∧ x.n < 18446744073709551616) ∧ n = (bytesOf x).length ∧ ∃ r, l = bytesOf x ++ r := by
  unfold oneL oneF at h
  obtain ⟨R, hR⟩ : ∃ R, (formI ((l.getD 0 0).toNat : Int)).regs = R := ⟨_, rfl⟩
  rw [hR] at h
  by_cases hg : isOp ((l.getD 0 0).toNat : Int) = true ∧ R < l.length
  · rw [if_pos hg] at h
    have hR3 := regs_le ((l.getD 0 0).toNat : Int)
    rw [hR] at hR3
    have key : ∀ N : Nat, N < 18446744073709551616 → (0 ≤ (insB l R N).n ∧ (insB l R N).n < 18446744073709551616) ∧ (∀ k, k < R → (insB l R N).reg k = ((l.getD (1 + k) 0).toNat : Int)) ∧ (insB l R N).op = ((l.getD 0 0).toNat : Int) ∧ (insB l R N).n.toNat = N := fun N hN => by
      refine ⟨⟨by unfold insB; simp only; omega, by unfold insB; simp only; omega⟩, fun k hk => ?_, rfl, by unfold insB; simp⟩
      have hrr : rB l R k = ((l.getD (1 + k) 0).toNat : Int) := by unfold rB; rw [if_pos hk]
      have : k = 0 ∨ k = 1 ∨ k = 2 := by omega
      rcases this with rfl | rfl | rfl
      · exact hrr
      · exact hrr
      · exact hrr
    have hsplit : l = l.take (1 + R) ++ l.drop (1 + R) := (List.take_append_drop _ _).symm
    by_cases hn : (formI ((l.getD 0 0).toNat : Int)).num = true
    · rw [if_pos hn] at h
      cases hd : decV 0 0 (l.drop (1 + R)) with
      | none => rw [hd] at h; cases h
      | some y =>
        obtain ⟨N, k⟩ := y
        rw [hd] at h
        simp only at h
        by_cases hf : formed (insB l R N) = true
        · rw [if_pos hf] at h
          simp only [Option.some.injEq, Prod.mk.injEq] at h
          obtain ⟨rfl, rfl⟩ := h
          obtain ⟨m, e1, e2, _, r, e4, e5⟩ := dec_says _ 0 0 N k (by omega) (by simp) hd
          simp only [Nat.mul_zero, Nat.pow_zero, Nat.mul_one, Nat.zero_add] at e1
          subst e1
          obtain ⟨q1, q2, q3, q4⟩ := key N e2
          have hb : bytesOf (insB l R N) = l.getD 0 0 :: (regBytes (insB l R N) R ++ vint N) := by
            unfold bytesOf
            rw [q4, q3, hR, hn, if_pos rfl, Int.toNat_natCast, u8_eq rfl]
          refine ⟨hf, q1, ?_, r, ?_⟩
          · rw [hb, List.length_cons, List.length_append, regBytes_len, e5]; omega
          · rw [hb]
            conv => lhs; rw [hsplit, e4, take_regs l (insB l R N) R (by omega) q2]
            simp
        · rw [if_neg hf] at h; cases h
    · rw [if_neg hn] at h
      have hn' : (formI ((l.getD 0 0).toNat : Int)).num = false := by simpa using hn
      by_cases hf : formed (insB l R 0) = true
      · rw [if_pos hf] at h
        simp only [Option.some.injEq, Prod.mk.injEq] at h
        obtain ⟨rfl, rfl⟩ := h
        obtain ⟨q1, q2, q3, q4⟩ := key 0 (by omega)
        have hb : bytesOf (insB l R 0) = l.getD 0 0 :: regBytes (insB l R 0) R := by
          unfold bytesOf
          rw [q3, hR, hn', Int.toNat_natCast, u8_eq rfl]
          simp
        refine ⟨hf, q1, ?_, l.drop (1 + R), ?_⟩
        · rw [hb, List.length_cons, regBytes_len]; omega
        · rw [hb]
          conv => lhs; rw [hsplit, take_regs l (insB l R 0) R (by omega) q2]
      · rw [if_neg hf] at h; cases h
  · rw [if_neg hg] at h; cases h

theorem bytesOf_pos (x : Ins) : 0 < (bytesOf x).length := by unfold bytesOf; simp

/-- all instructions of bytes; else those ahead of the first one that is not there -/
def readF : Nat → List UInt8 → List Ins × Nat × Bool
  | 0, l => ([], 0, l.isEmpty)
  | f + 1, l => if l = [] then ([], 0, true) else match oneL l with
    | none => ([], 0, false)
    | some (x, n) => let y := readF f (l.drop n); (x :: y.1, n + y.2.1, y.2.2)
def readL (l : List UInt8) : List Ins × Nat × Bool := readF l.length l

theorem readF_more : ∀ (f g : Nat) (l : List UInt8), l.length ≤ f → l.length ≤ g → readF f l = readF g l
  | 0, 0, _, _, _ => rfl
  | 0, g + 1, l, h, _ => by
    have : l = [] := List.length_eq_zero_iff.1 (by omega)
    subst this
    rfl
  | f + 1, 0, l, _, h => by
    have : l = [] := List.length_eq_zero_iff.1 (by omega)
    subst this
    rfl
  | f + 1, g + 1, l, h1, h2 => by
    by_cases hl : l = []
    · subst hl; rfl
    · rw [readF, readF, if_neg hl, if_neg hl]
      cases ho : oneL l with
      | none => rfl
      | some y =>
        obtain ⟨x, n⟩ := y
        obtain ⟨_, _, hn, r, hr⟩ := one_says (List.length_pos_iff.2 hl) ho
        have := bytesOf_pos x
        have hd : (l.drop n).length < l.length := by rw [List.length_drop]; have := List.length_pos_iff.2 hl; omega
        simp only
        rw [readF_more f g (l.drop n) (by omega) (by omega)]
theorem readL_nil : readL [] = ([], 0, true) := rfl
theorem readL_no {l : List UInt8} (hl : l ≠ []) (h : oneL l = none) : readL l = ([], 0, false) := by
  unfold readL
  cases l with
  | nil => exact absurd rfl hl
  | cons a b => rw [List.length_cons, readF, if_neg hl, h]
theorem readL_one {l : List UInt8} (hl : l ≠ []) {x : Ins} {n : Nat} (h : oneL l = some (x, n)) : readL l = (x :: (readL (l.drop n)).1, n + (readL (l.drop n)).2.1, (readL (l.drop n)).2.2) := by
  unfold readL
  obtain ⟨_, _, hn, r, hr⟩ := one_says (List.length_pos_iff.2 hl) h
  have hb := bytesOf_pos x
  have hd : (l.drop n).length < l.length := by rw [List.length_drop]; have := List.length_pos_iff.2 hl; omega
  cases hll : l.length with
  | zero => omega
  | succ f =>
    rw [readF, if_neg hl, h]
    simp only
    rw [readF_more f (l.drop n).length (l.drop n) (by omega) (Nat.le_refl _)]

theorem read_bytes : ∀ (L : List Ins), allFormed L = true → words L → readL (bytesAll L) = (L, (bytesAll L).length, true)
  | [], _, _ => rfl
  | x :: L, hf, hw => by
    have hx : formed x = true := by unfold allFormed at hf; rw [List.all_cons, Bool.and_eq_true] at hf; exact hf.1
    have hL : allFormed L = true := by unfold allFormed at *; rw [List.all_cons, Bool.and_eq_true] at hf; exact hf.2
    have e : bytesAll (x :: L) = bytesOf x ++ bytesAll L := rfl
    have h1 := one_bytes x (bytesAll L) hx (hw x (by simp))
    have hb := bytesOf_pos x
    rw [e, readL_one (by intro h; have h2 := congrArg List.length h; rw [List.length_append, List.length_nil] at h2; omega) h1, List.drop_left, read_bytes L hL (fun y hy => hw y (by simp [hy])), List.length_append]
theorem read_says (l : List UInt8) : allFormed (readL l).1 = true ∧ words (readL l).1 ∧ (readL l).2.1 = (bytesAll (readL l).1).length ∧ (readL l).1.length ≤ (readL l).2.1 ∧ (∃ r, l = bytesAll (readL l).1 ++ r ∧ ((readL l).2.2 = true → r = [])) := by
  obtain ⟨n, hn⟩ : ∃ n, l.length = n := ⟨_, rfl⟩
  induction n using Nat.strongRecOn generalizing l with
  | ind n ih =>
    subst hn
    by_cases hl : l = []
    · subst hl
      rw [readL_nil]
      exact ⟨rfl, fun _ h => by simp at h, rfl, by simp, [], rfl, fun _ => rfl⟩
    · cases ho : oneL l with
      | none =>
        rw [readL_no hl ho]
        exact ⟨rfl, fun _ h => by simp at h, rfl, by simp, l, rfl, fun h => by simp at h⟩
      | some y =>
        obtain ⟨x, n⟩ := y
        obtain ⟨q1, q2, q3, r, q4⟩ := one_says (List.length_pos_iff.2 hl) ho
        have hb := bytesOf_pos x
        have hd : (l.drop n).length < l.length := by rw [List.length_drop]; have := List.length_pos_iff.2 hl; omega
        obtain ⟨i1, i2, i3, i4, r', i5, i6⟩ := ih _ hd (l.drop n) rfl
        rw [readL_one hl ho]
        have hdr : l.drop n = r := by rw [q3]; conv => lhs; rw [q4]
                                      rw [List.drop_left]
        refine ⟨?_, fun z hz => ?_, ?_, ?_, r', ?_, i6⟩
        · unfold allFormed at *; rw [List.all_cons, q1, i1]; rfl
        · rcases List.mem_cons.1 hz with rfl | hz
          · exact q2
          · exact i2 z hz
        · show n + _ = (bytesOf x ++ bytesAll _).length
          rw [List.length_append, i3, q3]
        · simp only [List.length_cons]; omega
        · show l = (bytesOf x ++ bytesAll _) ++ r'
          rw [List.append_assoc, ← i5, hdr]
          exact q4
end Go.Proofs.YtjcnlfihjfcpoaaDoor
