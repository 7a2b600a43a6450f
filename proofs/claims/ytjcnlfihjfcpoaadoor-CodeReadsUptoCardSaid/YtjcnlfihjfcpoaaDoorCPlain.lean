/- What is written is read, and what is read is written: one instruction's text, in plain lists. No condition. -/
import Derived.Test.YtjcnlfihjfcpoaaDoorCPre
import Derived.Lib.ItoaNum
set_option linter.unusedSimpArgs false
set_option linter.unusedVariables false
set_option maxRecDepth 100000
namespace Go.Proofs.YtjcnlfihjfcpoaaDoor
open Go.RowKit

theorem dec_small {u : Nat} (h : u < 10) : Lib.decDigits u = [UInt8.ofNat (48 + u)] := Lib.decDigits_one h
theorem dec_big {u : Nat} (h : ¬ u < 10) : Lib.decDigits u = Lib.decDigits (u / 10) ++ [UInt8.ofNat (48 + u % 10)] := by rw [Lib.decDigits, dif_neg h]

theorem isDig_ofNat {d : Nat} (h : d < 10) : isDig (UInt8.ofNat (48 + d)) = true := by
  unfold isDig
  have : (UInt8.ofNat (48 + d)).toNat = 48 + d := by simp; omega
  rw [this]
  exact decide_eq_true (by omega)
theorem toNat_dig {d : Nat} (h : d < 10) : (UInt8.ofNat (48 + d)).toNat = 48 + d := by simp; omega

theorem dec_all (u : Nat) : (Lib.decDigits u).all isDig = true := by
  induction u using Nat.strongRecOn with
  | ind u ih =>
    by_cases h : u < 10
    · rw [dec_small h, List.all_cons, isDig_ofNat h]; rfl
    · rw [dec_big h, List.all_append, ih (u / 10) (by omega)]
      rw [List.all_cons, isDig_ofNat (Nat.mod_lt u (by omega))]; rfl
theorem dec_ne (u : Nat) : Lib.decDigits u ≠ [] := by
  by_cases h : u < 10
  · rw [dec_small h]; simp
  · rw [dec_big h]; simp
theorem dec_head (u : Nat) (h1 : 1 ≤ u) : (Lib.decDigits u).head? ≠ some 48 := by
  induction u using Nat.strongRecOn with
  | ind u ih =>
    by_cases h : u < 10
    · rw [dec_small h]
      simp only [List.head?_cons, ne_eq, Option.some.injEq]
      intro e
      have := congrArg UInt8.toNat e
      rw [toNat_dig h] at this
      simp at this
      omega
    · rw [dec_big h]
      have := ih (u / 10) (by omega) (by omega)
      cases hd : Lib.decDigits (u / 10) with
      | nil => exact absurd hd (dec_ne _)
      | cons a b => rw [hd] at this; simpa using this
theorem dec_long (u : Nat) (h : 1 < (Lib.decDigits u).length) : 10 ≤ u := by
  rcases Nat.lt_or_ge u 10 with h1 | h1
  · rw [dec_small h1] at h; simp at h
  · exact h1
theorem dec_plain (u : Nat) : plainNum (Lib.decDigits u) = true := by
  unfold plainNum
  rw [dec_all, Bool.true_and, Bool.not_eq_true', Bool.and_eq_false_iff]
  rcases Nat.lt_or_ge 1 (Lib.decDigits u).length with h | h
  · right
    exact decide_eq_false (dec_head u (by have := dec_long u h; omega))
  · left
    exact decide_eq_false (by omega)

theorem parseM_snoc (M : Nat) : ∀ (l : List UInt8) (acc : Nat) (c : UInt8) (u : Nat), Lib.parseUintM M acc (l ++ [c]) = .ok u ↔ ∃ v, Lib.parseUintM M acc l = .ok v ∧ Lib.parseUintM M v [c] = .ok u
  | [], acc, c, u => by
    constructor
    · intro h; exact ⟨acc, rfl, h⟩
    · rintro ⟨v, h1, h2⟩; cases h1; exact h2
  | x :: l, acc, c, u => by
    rw [List.cons_append, Lib.parseUintM, Lib.parseUintM]
    split
    · split
      · simp
      · split
        · simp
        · exact parseM_snoc M l _ c u
    · simp

theorem parseM_one (v : Nat) (c : UInt8) (u : Nat) : Lib.parseUintM 18446744073709551615 v [c] = .ok u ↔ isDig c = true ∧ u = v * 10 + (c.toNat - 48) ∧ u ≤ 18446744073709551615 := by
  rw [Lib.parseUintM]
  unfold isDig
  split
  · rename_i hd
    rw [decide_eq_true hd]
    split
    · rename_i h1
      constructor
      · intro h; cases h
      · rintro ⟨_, rfl, h⟩; omega
    · split
      · rename_i h1 h2
        constructor
        · intro h; cases h
        · rintro ⟨_, rfl, h⟩; omega
      · rename_i h1 h2
        rw [Lib.parseUintM]
        constructor
        · intro h; cases h; exact ⟨rfl, rfl, by omega⟩
        · rintro ⟨_, rfl, h⟩; rfl
  · rename_i hd
    rw [decide_eq_false hd]
    constructor
    · intro h; cases h
    · rintro ⟨h, _⟩; cases h

theorem parseM_dec (u : Nat) (h : u ≤ 18446744073709551615) : Lib.parseUintM 18446744073709551615 0 (Lib.decDigits u) = .ok u := by
  induction u using Nat.strongRecOn with
  | ind u ih =>
    by_cases h1 : u < 10
    · rw [dec_small h1, parseM_one]
      exact ⟨isDig_ofNat h1, by rw [toNat_dig h1]; omega, h⟩
    · rw [dec_big h1, parseM_snoc]
      refine ⟨u / 10, ih (u / 10) (by omega) (by omega), ?_⟩
      rw [parseM_one]
      have hm := Nat.mod_lt u (show 10 > 0 by omega)
      exact ⟨isDig_ofNat hm, by rw [toNat_dig hm]; omega, h⟩

theorem numL_dec (u : Nat) (h : u < 18446744073709551616) : numL (Lib.decDigits u) = (u, true) := by
  unfold numL
  rw [dec_plain]
  unfold Lib.parseUintB
  rw [if_neg (dec_ne u)]
  rw [show 2 ^ 64 - 1 = 18446744073709551615 from rfl, parseM_dec u (by omega)]
  rfl

theorem snoc_cases (l : List UInt8) : l = [] ∨ ∃ l' c, l = l' ++ [c] := by
  rcases List.eq_nil_or_concat l with h | ⟨l', c, h⟩
  · exact .inl h
  · exact .inr ⟨l', c, by simpa using h⟩

theorem dec_of_parse : ∀ (k : Nat) (l : List UInt8) (u : Nat), l.length = k → l ≠ [] → plainNum l = true → Lib.parseUintM 18446744073709551615 0 l = .ok u → Lib.decDigits u = l
  | 0, l, u, hk, hne, _, _ => absurd (List.length_eq_zero_iff.1 hk) hne
  | k + 1, l, u, hk, hne, hp, hu => by
    rcases snoc_cases l with rfl | ⟨l', c, rfl⟩
    · exact absurd rfl hne
    · obtain ⟨v, hv, hc⟩ := (parseM_snoc _ l' 0 c u).1 hu
      obtain ⟨hd, rfl, hle⟩ := (parseM_one v c u).1 hc
      unfold isDig at hd
      have hd' := of_decide_eq_true hd
      have hcc : UInt8.ofNat (48 + (c.toNat - 48)) = c := by rw [show 48 + (c.toNat - 48) = c.toNat by omega]; simp
      unfold plainNum at hp
      rw [Bool.and_eq_true, List.all_append, Bool.and_eq_true] at hp
      cases l' with
      | nil =>
        cases hv
        rw [Nat.zero_mul, Nat.zero_add, dec_small (by omega), hcc]
        rfl
      | cons a b =>
        have ha : a ≠ 48 := by
          rintro rfl
          have := hp.2
          simp at this
        have hpl : plainNum (a :: b) = true := by
          unfold plainNum
          rw [Bool.and_eq_true]
          refine ⟨hp.1.1, ?_⟩
          simp [ha]
        have ih := dec_of_parse k (a :: b) v (by simp at hk ⊢; omega) (by simp) hpl hv
        have hv1 : 1 ≤ v := by
          rcases Nat.eq_zero_or_pos v with h0 | h0
          · subst h0
            rw [dec_small (by omega)] at ih
            have : a = 48 := by have := congrArg List.head? ih; simpa using this.symm
            exact absurd this ha
          · exact h0
        rw [dec_big (by omega), show (v * 10 + (c.toNat - 48)) / 10 = v by omega, show (v * 10 + (c.toNat - 48)) % 10 = c.toNat - 48 by omega, hcc, ih]

theorem dec_numL (l : List UInt8) (h : (numL l).2 = true) : Lib.decDigits (numL l).1 = l := by
  unfold numL at h ⊢
  split at h
  · rename_i hp
    rw [if_pos hp]
    unfold Lib.parseUintB at h ⊢
    split at h
    · cases h
    · rename_i hne
      rw [if_neg hne]
      rw [show 2 ^ 64 - 1 = 18446744073709551615 from rfl] at h ⊢
      rcases hu : Lib.parseUintM 18446744073709551615 0 l with u | _ | _
      · exact dec_of_parse l.length l u rfl hne hp hu
      · rw [hu] at h; cases h
      · rw [hu] at h; cases h
  · cases h

theorem no_blank {l : List UInt8} (h : l.all isDig = true) : 32 ∉ l := by
  intro hm
  have := List.all_eq_true.1 h 32 hm
  revert this
  decide

theorem sp_word : ∀ p : List UInt8, 32 ∉ p → sp p = [p]
  | [], _ => rfl
  | c :: p, h => by
    have hc : c ≠ 32 := fun e => h (by simp [e])
    rw [sp_other c p hc, sp_word p (fun hm => h (by simp [hm]))]
    rfl
theorem sp_words : ∀ (p r : List UInt8), 32 ∉ p → sp (p ++ 32 :: r) = p :: sp r
  | [], r, _ => sp_blank r
  | c :: p, r, h => by
    have hc : c ≠ 32 := fun e => h (by simp [e])
    rw [List.cons_append, sp_other c _ hc, sp_words p r (fun hm => h (by simp [hm]))]
    rfl
def jn (ws : List (List UInt8)) : List UInt8 := ws.flatMap (32 :: ·)
theorem sp_join : ∀ (ws : List (List UInt8)) (p : List UInt8), 32 ∉ p → (∀ q ∈ ws, 32 ∉ q) → sp (p ++ jn ws) = p :: ws
  | [], p, hp, _ => by rw [show jn [] = [] from rfl, List.append_nil]; exact sp_word p hp
  | q :: ws, p, hp, hq => by
    rw [show jn (q :: ws) = 32 :: (q ++ jn ws) from rfl, sp_words p _ hp, sp_join ws q (hq q (by simp)) (fun x hx => hq x (by simp [hx]))]
theorem join_cons1 (c : UInt8) (L : List (List UInt8)) (hL : L ≠ []) : ∃ a r, L = a :: r ∧ cons1 c L = (c :: a) :: r := by
  cases L with
  | nil => exact absurd rfl hL
  | cons a r => exact ⟨a, r, rfl, rfl⟩
theorem join_sp : ∀ l : List UInt8, ∃ p ws, sp l = p :: ws ∧ p ++ jn ws = l
  | [] => ⟨[], [], rfl, rfl⟩
  | c :: l => by
    obtain ⟨p, ws, h1, h2⟩ := join_sp l
    by_cases hc : c = 32
    · subst hc
      exact ⟨[], p :: ws, by rw [sp_blank, h1], by rw [show jn (p :: ws) = 32 :: (p ++ jn ws) from rfl, h2]; rfl⟩
    · exact ⟨c :: p, ws, by rw [sp_other c l hc, h1]; rfl, by rw [List.cons_append, h2]⟩

/-- the words behind the name -/
def tails (i : Ins) : List (List UInt8) := ((List.range (formI i.op).regs).map fun k => Lib.decDigits (i.reg k).toNat) ++ if (formI i.op).num then [Lib.decDigits i.n.toNat] else []
theorem textOf_jn (i : Ins) : textOf i = nameI i.op ++ jn (tails i) := by
  unfold textOf tails jn regsText
  rw [List.flatMap_append, List.flatMap_map, List.append_assoc]
  congr 2
  split
  · simp
  · rfl
theorem tails_len (i : Ins) : (tails i).length = (formI i.op).regs + (if (formI i.op).num then 1 else 0) := by
  unfold tails
  split <;> simp
theorem tails_reg (i : Ins) (k : Nat) (hk : k < (formI i.op).regs) : (tails i).getD k [] = Lib.decDigits (i.reg k).toNat := by
  unfold tails
  rw [List.getD_eq_getElem?_getD, List.getElem?_append_left (by simpa using hk)]
  simp [hk]
theorem tails_num (i : Ins) (hn : (formI i.op).num = true) : (tails i).getD (formI i.op).regs [] = Lib.decDigits i.n.toNat := by
  unfold tails
  rw [List.getD_eq_getElem?_getD, List.getElem?_append_right (by simp), if_pos hn]
  simp
theorem tails_no32 (i : Ins) : ∀ q ∈ tails i, 32 ∉ q := by
  intro q hq
  unfold tails at hq
  rcases List.mem_append.1 hq with h | h
  · obtain ⟨k, _, rfl⟩ := List.mem_map.1 h
    exact no_blank (dec_all _)
  · split at h
    · simp at h; subst h; exact no_blank (dec_all _)
    · cases h
theorem name_no32 (op : Int) : 32 ∉ nameI op := by
  unfold nameI
  split
  · simp
  · by_cases h : op.toNat < 18
    · have : ∀ n, n < 18 → 32 ∉ nameBs.getD n [] := by decide
      exact this _ h
    · rw [List.getD_eq_getElem?_getD, List.getElem?_eq_none (by simp [nameBs]; omega)]
      simp

theorem reg3 (i : Ins) : i.reg 0 = i.a ∧ i.reg 1 = i.b ∧ i.reg 2 = i.c := ⟨rfl, rfl, rfl⟩
theorem formed_zero {i : Ins} (h : formed i = true) (k : Nat) (hk : k < 3) (hR : ¬ k < (formI i.op).regs) : i.reg k = 0 := by
  have hok : okReg (formI i.op).regs i.reg k = true := by
    cases hb : okReg (formI i.op).regs i.reg k with
    | true => rfl
    | false => exact absurd (h.symm.trans (formedF_no hb hk)) (by decide)
  unfold okReg at hok
  rw [if_neg hR] at hok
  exact of_decide_eq_true hok
theorem formed_n {i : Ins} (h : formed i = true) (hn : (formI i.op).num = false) : i.n = 0 := by
  unfold formed formedF at h
  simp only [Bool.and_eq_true, hn, Bool.false_or] at h
  exact of_decide_eq_true h.2.2
theorem formed_op {i : Ins} (h : formed i = true) : isOp i.op = true := by
  unfold formed formedF at h
  simp only [Bool.and_eq_true] at h
  exact h.2.1

theorem rg_of {i : Ins} (h : formed i = true) {p : List UInt8} (k : Nat) (hk : k < 3) : ((rg (p :: tails i) (formI i.op).regs k : Nat) : Int) = i.reg k := by
  unfold rg
  split
  · rename_i hR
    have h1 := formed_reg h k hR
    rw [Nat.add_comm 1 k, List.getD_cons_succ, tails_reg i k hR, numL_dec _ (by omega)]
    simp only
    omega
  · rename_i hR
    rw [formed_zero h k hk hR]
    rfl

theorem parse_text {i : Ins} (h : formed i = true) (hn : 0 ≤ i.n ∧ i.n < 18446744073709551616) (hnm : (namedL (nameI i.op)).2 = isOp i.op ∧ (isOp i.op = true → ((namedL (nameI i.op)).1 : Int) = i.op)) : parseL (textOf i) = some i := by
  have hop := formed_op h
  have e1 := hnm.2 hop
  have e2 := hnm.1.trans hop
  have hsp : sp (textOf i) = nameI i.op :: tails i := by rw [textOf_jn]; exact sp_join _ _ (name_no32 _) (tails_no32 i)
  unfold parseL
  rw [hsp, List.getD_cons_zero, e1, e2]
  have hlen : (nameI i.op :: tails i).length = 1 + (formI i.op).regs + (if (formI i.op).num then 1 else 0) := by rw [List.length_cons, tails_len]; omega
  have hlast : (formI i.op).num = true → lastN (nameI i.op :: tails i) = (i.n.toNat, true) := fun hnum => by
    unfold lastN
    rw [hlen, hnum]
    simp only [if_true]
    rw [show 1 + (formI i.op).regs + 1 - 1 = (formI i.op).regs + 1 by omega, List.getD_cons_succ, tails_num i hnum, numL_dec _ (by omega)]
  rw [parseF_yes rfl hlen (fun k hk => ?_) (fun hnum => by rw [hlast hnum])]
  · congr 1
    have r0 := rg_of h (p := nameI i.op) 0 (by omega)
    have r1 := rg_of h (p := nameI i.op) 1 (by omega)
    have r2 := rg_of h (p := nameI i.op) 2 (by omega)
    rw [r0, r1, r2, e1]
    have hN : (if (formI i.op).num = true then ((lastN (nameI i.op :: tails i)).1 : Int) else 0) = i.n := by
      split
      · rename_i hnum
        rw [hlast hnum]
        simp only
        omega
      · rename_i hnum
        rw [formed_n h (by simpa using hnum)]
    rw [hN]
    rfl
  · have h1 := formed_reg h k hk
    unfold regOk
    rw [Nat.add_comm 1 k, List.getD_cons_succ, tails_reg i k hk, numL_dec _ (by omega)]
    simp
    omega
end Go.Proofs.YtjcnlfihjfcpoaaDoor
