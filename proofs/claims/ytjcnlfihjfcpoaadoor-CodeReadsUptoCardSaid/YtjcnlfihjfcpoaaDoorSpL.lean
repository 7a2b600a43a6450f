/- Splitting at blanks: what strings.Split answers, and by recursion on the bytes. Plain lists, no program. -/
import Derived.Lib.SplitLaws
import Derived.Lib.Replace
set_option linter.unusedSimpArgs false
set_option linter.unusedVariables false
namespace Go.Proofs.YtjcnlfihjfcpoaaDoor

def cons1 (c : UInt8) : List (List UInt8) → List (List UInt8)
  | [] => [[c]]
  | h :: t => (c :: h) :: t
def sp : List UInt8 → List (List UInt8)
  | [] => [[]]
  | c :: l => if c = 32 then [] :: sp l else cons1 c (sp l)

theorem sp_len : ∀ l, 1 ≤ (sp l).length
  | [] => by simp [sp]
  | c :: l => by
    have ih := sp_len l
    unfold sp
    split
    · simp
    · cases h : sp l with
      | nil => simp [cons1]
      | cons a b => simp [cons1]

theorem sp_len_le : ∀ l, (sp l).length ≤ l.length + 1
  | [] => by simp [sp]
  | c :: l => by
    have ih := sp_len_le l
    have h1 := sp_len l
    unfold sp
    split
    · simp; omega
    · cases h : sp l with
      | nil => simp [cons1]
      | cons a b => rw [h] at ih; simp [cons1] at *; omega

theorem sp_split : ∀ l, Lib.splitK [32] 0 (Lib.count l [32]) l = sp l
  | [] => by
    rw [Lib.count_miss (by simp [Lib.index])]
    rfl
  | c :: l => by
    have ih := sp_split l
    by_cases hc : c = 32
    · subst hc
      have hix : Lib.index ((32 : UInt8) :: l) [32] = ((0 : Nat) : Int) := by rw [Lib.index]; simp [List.isPrefixOf]
      rw [Lib.count_cons_eq, Nat.add_comm, Lib.splitK, if_neg (by rw [hix]; decide), hix]
      simp only [Int.toNat_natCast, Nat.add_zero, List.take_zero, Nat.zero_add, List.length_cons, List.length_nil, List.drop_succ_cons, List.drop_zero]
      rw [ih]
      simp [sp]
    · rw [Lib.count_cons_ne c 32 l hc]
      have hs : sp (c :: l) = cons1 c (sp l) := by rw [sp, if_neg hc]
      rw [hs, ← ih]
      cases hn : Lib.count l [32] with
      | zero => rfl
      | succ m =>
        obtain ⟨i, hi⟩ := Lib.index_of_count (s := l) (old := [32]) (by omega)
        have hp : ([32] : List UInt8).isPrefixOf (c :: l) = false := by simp [List.isPrefixOf, Ne.symm hc]
        have hix : Lib.index (c :: l) [32] = ((i + 1 : Nat) : Int) := by
          rw [Lib.index, hp, hi]
          have hne : ¬ ((i : Int) == -1) = true := fun e => by have := beq_iff_eq.1 e; omega
          simp only [Bool.false_eq_true, if_false]
          rw [if_neg hne]
          omega
        rw [Lib.splitK, if_neg (by rw [hix]; intro e; have := beq_iff_eq.1 e; omega), hix]
        rw [Lib.splitK, if_neg (by rw [hi]; intro e; have := beq_iff_eq.1 e; omega), hi]
        simp [cons1]

theorem sp_blank (l : List UInt8) : sp (32 :: l) = [] :: sp l := by simp [sp]
theorem sp_other (c : UInt8) (l : List UInt8) (h : c ≠ 32) : sp (c :: l) = cons1 c (sp l) := by simp [sp, h]
theorem pre_cons (p h : List UInt8) (t : List (List UInt8)) : p.foldr cons1 (h :: t) = (p ++ h) :: t := by
  induction p with
  | nil => rfl
  | cons c p ih => rw [List.foldr_cons, ih]; rfl

theorem split_data (s : ByteArray) : (Lib.splitB ⟨#[32]⟩ 0 (Lib.countB s ⟨#[32]⟩) s).map (·.data.toList) = sp s.data.toList := by
  rw [Lib.splitB_data, ← sp_split, Lib.countB]

end Go.Proofs.YtjcnlfihjfcpoaaDoor
