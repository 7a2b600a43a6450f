/- What one answers, said plainly: the number in groups of seven bits, an instruction. No conditions. -/
import Derived.Test.YtjcnlfihjfcpoaaDoorCParse
import Derived.Test.YtjcnlfihjfcpoaaDoorCBytes
import Derived.Laws.BitsAllLaws
set_option linter.unusedSimpArgs false
set_option linter.unusedVariables false
set_option maxRecDepth 100000
namespace Go.Proofs.YtjcnlfihjfcpoaaDoor
open Go.RowKit

/-- a slice that reads as these bytes -/
structure SlB (w : World) (p : Option Addr) (l : List UInt8) : Prop where
  ne : l ≠ [] → ∃ b o, p = some ⟨b, o, none⟩
  cells : ∀ b o, p = some ⟨b, o, none⟩ → ∀ j, j < l.length → w.cell? ⟨b, o + j, none⟩ = some (.int .u8 ((l.getD j 0).toNat : Int))
theorem SlB.lt {w : World} {p : Option Addr} {l : List UInt8} (h : SlB w p l) (hn : l ≠ []) {b o : Nat} (e : p = some ⟨b, o, none⟩) : b < w.heap.size :=
  World.block_lt_of_cell? w _ (h.cells b o e 0 (List.length_pos_iff.2 hn))
theorem SlB.upd {w w' : World} {p : Option Addr} {l : List UInt8} {S : List Nat} (h : SlB w p l) (hu : Upd S w w') (hn : ∀ b o, p = some ⟨b, o, none⟩ → l ≠ [] → b ∉ S) : SlB w' p l :=
  ⟨h.ne, fun b o e j hj => by
    have hl : l ≠ [] := by rintro rfl; simp at hj
    rw [← h.cells b o e j hj]
    exact World.cell?_of_block (hu.block b (h.lt hl e) (hn b o e hl))⟩

def decV : Nat → Nat → List UInt8 → Option (Nat × Nat)
  | _, _, [] => none
  | sh, acc, c :: r =>
    if 70 ≤ sh then none
    else if sh = 63 ∧ 1 < c.toNat then none
    else if c.toNat < 128 then (if 0 < c.toNat ∨ sh = 0 then some (acc + c.toNat % 128 * 2 ^ sh, 1) else none)
    else (decV (sh + 7) (acc + c.toNat % 128 * 2 ^ sh) r).map fun x => (x.1, x.2 + 1)

def rB (l : List UInt8) (R k : Nat) : Int := if k < R then ((l.getD (1 + k) 0).toNat : Int) else 0
def insB (l : List UInt8) (R N : Nat) : Ins := ⟨((l.getD 0 0).toNat : Int), rB l R 0, rB l R 1, rB l R 2, N⟩
def oneF (l : List UInt8) (f : Form) (ok : Bool) : Option (Ins × Nat) :=
  if ok = true ∧ f.regs < l.length then
    if f.num = true then
      match decV 0 0 (l.drop (1 + f.regs)) with
      | some (N, k) => if formed (insB l f.regs N) = true then some (insB l f.regs N, 1 + f.regs + k) else none
      | none => none
    else if formed (insB l f.regs 0) = true then some (insB l f.regs 0, 1 + f.regs) else none
  else none
def oneL (l : List UInt8) : Option (Ins × Nat) := oneF l (formI ((l.getD 0 0).toNat : Int)) (isOp ((l.getD 0 0).toNat : Int))

theorem dec_step (acc x i : Nat) (hx : x < 256) (ha : acc < 2 ^ (7 * i)) (hi : i < 10) (h9 : i = 9 → x ≤ 1) :
    bits .or .u64 (acc : Int) (IntKind.u64.wrap (IntKind.u64.wrap (bits .and .u8 (x : Int) 127) * 2 ^ (7 * i))) = ((acc + x % 128 * 2 ^ (7 * i) : Nat) : Int) := by
  have h1 : bits .and .u8 (x : Int) 127 = ((x % 128 : Nat) : Int) := by
    have hall : ∀ x : Fin 256, bits .and .u8 ((x.val : Nat) : Int) 127 = ((x.val % 128 : Nat) : Int) := by decide +kernel
    exact hall ⟨x, hx⟩
  have h2 : IntKind.u64.wrap ((x % 128 : Nat) : Int) = ((x % 128 : Nat) : Int) := by rw [IntKind.wrap_u64]; omega
  have hp : x % 128 * 2 ^ (7 * i) < 18446744073709551616 := by
    by_cases h : i = 9
    · subst h
      have := h9 rfl
      have h3 : x % 128 ≤ 1 := by omega
      calc x % 128 * 2 ^ (7 * 9) ≤ 1 * 2 ^ (7 * 9) := Nat.mul_le_mul_right _ h3
        _ < 18446744073709551616 := by decide
    · have h3 : 2 ^ (7 * i) ≤ 2 ^ 56 := Nat.pow_le_pow_right (by decide) (by omega)
      have h4 : x % 128 ≤ 127 := by omega
      calc x % 128 * 2 ^ (7 * i) ≤ 127 * 2 ^ 56 := Nat.mul_le_mul h4 h3
        _ < 18446744073709551616 := by decide
  have h3 : IntKind.u64.wrap (((x % 128 : Nat) : Int) * 2 ^ (7 * i)) = ((x % 128 * 2 ^ (7 * i) : Nat) : Int) := by
    have e : ((x % 128 : Nat) : Int) * 2 ^ (7 * i) = ((x % 128 * 2 ^ (7 * i) : Nat) : Int) := by push_cast; rfl
    rw [e, IntKind.wrap_u64]
    omega
  have hacc64 : acc < 18446744073709551616 := Nat.lt_of_lt_of_le ha (Nat.le_trans (Nat.pow_le_pow_right (by decide) (by omega : 7 * i ≤ 63)) (by decide))
  rw [h1, h2, h3, u64_or_nat acc _ hacc64 hp]
  congr 1
  rw [Nat.or_comm, Nat.mul_comm (x % 128), ← Nat.two_pow_add_eq_or_of_lt ha]
  omega

theorem dec_step9 (acc x i : Nat) (hx : x < 256) (ha : acc < 2 ^ (7 * i)) (hi : i < 10) (h9 : i = 9 → x ≤ 1) (N2 : Nat) (hN : acc + x % 128 * 2 ^ (7 * i) = N2) (e9 : i = 9) :
    bits .or .u64 (acc : Int) (IntKind.u64.wrap (IntKind.u64.wrap (bits .and .u8 (x : Int) 127) * 9223372036854775808)) = (N2 : Int) := by
  have h := dec_step acc x i hx ha hi h9
  rw [hN, e9, show ((2 : Int) ^ (7 * 9)) = 9223372036854775808 by decide] at h
  exact h

def rkB (l : List UInt8) (k j : Nat) : Int := if j < k then ((l.getD (1 + j) 0).toNat : Int) else 0
theorem rkB_set (l : List UInt8) (op N : Int) (k x : Nat) (hk : k < 3) (hx : (l.getD (1 + k) 0).toNat = x) :
    [Value.int .i64 op, .int .i64 (rkB l k 0), .int .i64 (rkB l k 1), .int .i64 (rkB l k 2), .int .u64 N].set (1 + k) (.int .i64 (x : Int)) = [Value.int .i64 op, .int .i64 (rkB l (k + 1) 0), .int .i64 (rkB l (k + 1) 1), .int .i64 (rkB l (k + 1) 2), .int .u64 N] := by
  subst hx
  have : k = 0 ∨ k = 1 ∨ k = 2 := by omega
  rcases this with rfl | rfl | rfl <;> simp [rkB]
theorem rkB_at (l : List UInt8) (op N : Int) (k j : Nat) (hk : j < 3) : ∃ z, [Value.int .i64 op, .int .i64 (rkB l k 0), .int .i64 (rkB l k 1), .int .i64 (rkB l k 2), .int .u64 N][1 + j]? = some (.int .i64 z) := by
  have : j = 0 ∨ j = 1 ∨ j = 2 := by omega
  rcases this with rfl | rfl | rfl
  · exact ⟨_, rfl⟩
  · exact ⟨_, rfl⟩
  · exact ⟨_, rfl⟩

theorem drop_at (l : List UInt8) (m x : Nat) (hm : m < l.length) (hx : (l.getD m 0).toNat = x) : ∃ c : UInt8, c.toNat = x ∧ l.drop m = c :: l.drop (m + 1) :=
  ⟨l.getD m 0, hx, by rw [List.drop_eq_getElem_cons hm]; simp [List.getD, hm]⟩
theorem dec_end (l : List UInt8) (m i acc x : Nat) (hm : m < l.length) (hx : (l.getD m 0).toNat = x) (hi : i < 10) (hb : ¬ (i = 9 ∧ 1 < x)) (h8 : x < 128) (h0 : 0 < x ∨ i = 0) :
    decV (7 * i) acc (l.drop m) = some (acc + x % 128 * 2 ^ (7 * i), 1) := by
  obtain ⟨c, hc, e⟩ := drop_at l m x hm hx
  rw [e]
  unfold decV
  rw [hc, if_neg (by omega), if_neg (by omega), if_pos h8, if_pos (by omega)]
theorem dec_zero (l : List UInt8) (m i acc x : Nat) (hm : m < l.length) (hx : (l.getD m 0).toNat = x) (hi : i < 10) (h8 : x = 0) (h0 : 0 < i) :
    decV (7 * i) acc (l.drop m) = none := by
  obtain ⟨c, hc, e⟩ := drop_at l m x hm hx
  rw [e]
  unfold decV
  rw [hc, if_neg (by omega), if_neg (by omega), if_pos (by omega), if_neg (by omega)]
theorem dec_nine (l : List UInt8) (m i acc x : Nat) (hm : m < l.length) (hx : (l.getD m 0).toNat = x) (hb : i = 9 ∧ 1 < x) :
    decV (7 * i) acc (l.drop m) = none := by
  obtain ⟨c, hc, e⟩ := drop_at l m x hm hx
  rw [e]
  unfold decV
  rw [hc, if_neg (by omega), if_pos (by omega)]
theorem dec_more (l : List UInt8) (m i acc x : Nat) (hm : m < l.length) (hx : (l.getD m 0).toNat = x) (hi : i < 9) (h8 : 128 ≤ x) :
    decV (7 * i) acc (l.drop m) = (decV (7 * (i + 1)) (acc + x % 128 * 2 ^ (7 * i)) (l.drop (m + 1))).map fun y => (y.1, y.2 + 1) := by
  obtain ⟨c, hc, e⟩ := drop_at l m x hm hx
  rw [e]
  conv => lhs; unfold decV
  rw [hc, if_neg (by omega), if_neg (by omega), if_neg (by omega)]
  rfl
theorem dec_out (l : List UInt8) (m i acc : Nat) (h : l.length ≤ m ∨ i = 10) : decV (7 * i) acc (l.drop m) = none := by
  rcases h with h | h
  · rw [List.drop_eq_nil_of_le h]; rfl
  · subst h
    cases l.drop m with
    | nil => rfl
    | cons c r => unfold decV; rw [if_pos (by omega)]
theorem dec_lt (acc x i : Nat) (ha : acc < 2 ^ (7 * i)) : acc + x % 128 * 2 ^ (7 * i) < 2 ^ (7 * (i + 1)) := by
  have h1 : x % 128 ≤ 127 := by omega
  have h2 : x % 128 * 2 ^ (7 * i) ≤ 127 * 2 ^ (7 * i) := Nat.mul_le_mul_right _ h1
  have h3 : 2 ^ (7 * (i + 1)) = 128 * 2 ^ (7 * i) := by rw [Nat.mul_succ, Nat.pow_add]; omega
  omega
theorem dec_lt64 (n i : Nat) (hi : i ≤ 9) (h : n < 2 ^ (7 * i)) : n < 18446744073709551616 :=
  Nat.lt_of_lt_of_le h (Nat.le_trans (Nat.pow_le_pow_right (by decide) (by omega : 7 * i ≤ 63)) (by decide))
end Go.Proofs.YtjcnlfihjfcpoaaDoor
