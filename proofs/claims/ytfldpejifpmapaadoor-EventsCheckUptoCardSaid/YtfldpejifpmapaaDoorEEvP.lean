/- A line read as an event, plainly. No condition. -/
import Derived.Test.YtfldpejifpmapaaDoorENum
set_option linter.unusedSimpArgs false
set_option linter.unusedVariables false
set_option maxRecDepth 100000
namespace Go.Proofs.YtfldpejifpmapaaDoor
open Go.RowKit
open Go.Maps
def namesB : List ByteArray := nameBsE.map fun l => ⟨l.toArray⟩
/-- the words of a line's rest -/
def wordsF : Nat → List UInt8 → Option (List Nat)
  | 0, l => if l = [] then some [] else none
  | n + 1, l => if l = [] then some [] else if (numberL l).2.2 = true then (wordsF n (Lib.trimPrefix (numberL l).2.1 [32])).map ((numberL l).1 :: ·) else none
def wordAt (W : List Nat) (i : Nat) : Int := ((W ++ [0, 0]).getD i 0 : Nat)
def kindL (nm : List UInt8) : Int := max 0 (Lib.idxOfS namesB ⟨nm.toArray⟩)
def evOf (t : Nat) (own : Bool) (k : Int) (W : List Nat) : Ev :=
  ⟨t, k, if pairK k = true then wordAt W 0 else 0, if pairK k = true then wordAt W 1 else if singK k = true then wordAt W 0 else 0, own, if k = 9 then IntKind.i64.wrap (wordAt W 0) else 0⟩
/-- the event that a line is read as -/
def eventL (l : List UInt8) : Option Ev :=
  if (numberL l).2.2 = true ∧ Lib.hasPrefix (numberL l).2.1 [32] = true ∧ (numberL l).1 < 8 then
    (wordsF (Lib.cut (Lib.trimPrefix (numberL l).2.1 [32]) [32]).2.1.length (Lib.cut (Lib.trimPrefix (numberL l).2.1 [32]) [32]).2.1).map
      (evOf (numberL l).1 (decide ((Lib.cut (Lib.trimPrefix (numberL l).2.1 [32]) [32]).1 = [111, 119, 110])) (kindL (if (Lib.cut (Lib.trimPrefix (numberL l).2.1 [32]) [32]).1 = [111, 119, 110] then [114, 101, 97, 100] else (Lib.cut (Lib.trimPrefix (numberL l).2.1 [32]) [32]).1)))
  else none
def evO : Option Ev → Ev
  | some e => e
  | none => zeroE
theorem trim_len (a b : List UInt8) : (Lib.trimPrefix a b).length ≤ a.length := by
  unfold Lib.trimPrefix
  split
  · rw [List.length_drop]; omega
  · exact Nat.le_refl _
theorem number_len {l : List UInt8} (h : (numberL l).2.2 = true) : (numberL l).2.1.length < l.length := by
  unfold numberL at h ⊢
  dsimp only at h ⊢
  cases l with
  | nil =>
    simp [Lib.parseUintB, numEnd] at h
  | cons a l =>
    cases ha : isDig a with
    | true =>
      rw [List.dropWhile_cons, ha]
      have : (l.dropWhile isDig).length ≤ l.length := (List.dropWhile_sublist _).length_le
      simp only [List.length_cons]
      simpa using Nat.lt_succ_of_le this
    | false =>
      rw [List.takeWhile_cons, ha] at h
      simp [Lib.parseUintB, numEnd] at h
theorem number_le (l : List UInt8) : (numberL l).2.1.length ≤ l.length := by
  unfold numberL
  exact (List.dropWhile_sublist _).length_le
theorem cut_len (a b : List UInt8) : (Lib.cut a b).1.length ≤ a.length ∧ (Lib.cut a b).2.1.length ≤ a.length := by
  unfold Lib.cut
  split
  · dsimp only
    rw [List.length_take, List.length_drop]
    omega
  · simp
theorem number_lt (l : List UInt8) : (numberL l).1 < 18446744073709551616 := by
  unfold numberL
  rcases h : Lib.parseUintB 64 (l.takeWhile isDig) with u | _ | _
  · simp only [numEnd]
    unfold Lib.parseUintB at h
    split at h
    · cases h
    · have := Lib.parseUintM_le _ (l.takeWhile isDig) 0 u (by omega) h
      omega
  · simp [numEnd]
  · simp [numEnd]
theorem idx_bd (x : ByteArray) : ∀ (zs : List ByteArray) (i : Nat), Lib.idxFromS zs x i < i + zs.length ∨ zs = []
  | [], _ => .inr rfl
  | z :: zs, i => by
    left
    unfold Lib.idxFromS
    split
    · simp only [List.length_cons]; omega
    · rcases idx_bd x zs (i + 1) with h | h
      · simp only [List.length_cons]; omega
      · subst h; simp [Lib.idxFromS]; omega
theorem kind_bd (nm : List UInt8) : 0 ≤ kindL nm ∧ kindL nm ≤ 12 := by
  unfold kindL Lib.idxOfS
  rcases idx_bd ⟨nm.toArray⟩ namesB 0 with h | h
  · have : namesB.length = 13 := rfl
    omega
  · cases h
end Go.Proofs.YtfldpejifpmapaaDoor
