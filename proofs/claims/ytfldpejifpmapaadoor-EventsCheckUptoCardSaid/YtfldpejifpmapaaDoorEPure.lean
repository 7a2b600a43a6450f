/- Histories, plainly: an event's form, what is wrong with the next event, what it makes of the state. No condition. -/
import Derived.Test.YtfldpejifpmapaaDoorBase
set_option linter.unusedSimpArgs false
set_option linter.unusedVariables false
set_option maxRecDepth 100000
namespace Go.Proofs.YtfldpejifpmapaaDoor
open Go.RowKit
theorem Upd.cell {S : List Nat} {a b : World} (u : Upd S a b) {g k : Nat} {v : Value} (hg : g ∉ S) (h : a.cell? ⟨g, k, none⟩ = some v) : b.cell? ⟨g, k, none⟩ = some v :=
  (World.cell?_of_block (w := a) (u.block g (World.block_lt_of_cell? a _ h) hg)).trans h
structure Ev where
  th : Int
  kd : Int
  ad : Int
  wd : Int
  own : Bool
  er : Int
def Ev.cells (e : Ev) : List Value := [.int .i64 e.th, .int .i64 e.kd, .int .u64 e.ad, .int .u64 e.wd, .bool e.own, .int .i64 e.er]
def Ev.val (e : Ev) : Value := .agg #[.int .i64 e.th, .int .i64 e.kd, .int .u64 e.ad, .int .u64 e.wd, .bool e.own, .int .i64 e.er]
def zeroE : Ev := ⟨0, 0, 0, 0, false, 0⟩
/-- its words are words, its number of a thread and its kind fit -/
def Ev.wide (e : Ev) : Prop := (0 ≤ e.ad ∧ e.ad < 18446744073709551616) ∧ (0 ≤ e.wd ∧ e.wd < 18446744073709551616)
def pairK (k : Int) : Bool := k == 2 || k == 3 || k == 10 || k == 11
def singK (k : Int) : Bool := k == 1 || k == 4 || k == 6
/-- is it in form? -/
def formC (e : Ev) : Prop := (0 ≤ e.th ∧ e.th < 8) ∧ (1 ≤ e.kd ∧ e.kd ≤ 12) ∧ (pairK e.kd = false → e.ad = 0) ∧ (pairK e.kd = false → singK e.kd = false → e.wd = 0) ∧ (e.kd ≠ 2 → e.own = false) ∧ (e.kd = 1 ∨ e.kd = 4 → e.wd % 2 = 0) ∧ (if e.kd = 9 then 4 ≤ e.er ∧ e.er ≤ 6 else e.er = 0)
instance (e : Ev) : Decidable (formC e) := by unfold formC; infer_instance
def formE (e : Ev) : Bool := decide (formC e)
structure Th where
  how : Nat
  snap : Int
  wr : List (Int × Int)
  try_ : Nat
structure Try where
  th : Int
  first : Int
  last : Int
  snap : Int
  how : Int
  reads : Int
  writes : Int
def Try.cells (t : Try) : List Value := [.int .i64 t.th, .int .i64 t.first, .int .i64 t.last, .int .u64 t.snap, .int .i64 t.how, .int .i64 t.reads, .int .i64 t.writes]
def Try.val (t : Try) : Value := .agg #[.int .i64 t.th, .int .i64 t.first, .int .i64 t.last, .int .u64 t.snap, .int .i64 t.how, .int .i64 t.reads, .int .i64 t.writes]
structure LS where
  ths : Nat → Th
  num : Int
  holder : Int
  tries : List Try
def turnL : List Nat := [0, 2, 0, 0, 0, 0, 0, 0, 0, 4, 1, 1, 4, 0, 0, 2, 2, 2, 3, 1, 1, 1, 4, 0, 0, 0, 0, 0, 0, 0, 0, 0, 1, 0, 0, 0, 0, 0, 0, 0, 0, 0, 0, 0, 0, 0, 0, 0, 0, 0, 0, 0]
/-- how a thread is behind an event of a kind, and 1; 0: it may not have it -/
def turnT (h : Nat) (k : Int) : Nat := turnL.getD (13 * h + k.toNat) 0
def lookW (l : List (Int × Int)) (a : Int) : Option Int := (l.find? fun p => p.1 == a).map (·.2)
def wordOk (S : LS) (t : Th) (e : Ev) : Bool :=
  if e.kd = 1 then e.wd == 2 * S.num
  else if e.kd = 4 then e.wd == 2 * S.num && decide (t.snap < e.wd)
  else if e.kd = 5 then t.snap == 2 * S.num
  else if e.kd = 6 then (if t.how = 2 then e.wd == S.num + 1 else e.wd == t.snap / 2)
  else true
def ownOk (t : Th) (e : Ev) : Bool :=
  if e.kd = 5 then !t.wr.isEmpty
  else if e.kd = 6 then (if t.how = 2 then true else t.wr.isEmpty)
  else if e.kd = 2 then (match lookW t.wr e.ad with | some x => e.own && x == e.wd | none => !e.own)
  else true
/-- what is wrong with the next event -/
def wrongE (S : LS) (e : Ev) : Int :=
  if formE e = false then 201
  else if turnT (S.ths e.th.toNat).how e.kd = 0 ∨ ((S.ths e.th.toNat).how = 0 ∧ e.kd = 9 ∧ e.er ≠ 4) then 230
  else if (e.kd = 1 ∨ e.kd = 4 ∨ e.kd = 5) ∧ 0 ≤ S.holder then 231
  else if wordOk S (S.ths e.th.toNat) e = false then 232
  else if ownOk (S.ths e.th.toNat) e = false then 233 else 0
def updT (f : Nat → Th) (i : Nat) (t : Th) : Nat → Th := fun j => if j = i then t else f j
def tryNext (x : Try) (i : Nat) (e : Ev) : Try :=
  { x with last := i, snap := if e.kd = 1 ∨ e.kd = 4 then e.wd else x.snap, how := if e.kd = 6 ∨ e.kd = 7 ∨ e.kd = 8 ∨ e.kd = 9 then e.kd else x.how,
           reads := if e.kd = 2 ∧ e.own = false then x.reads + 1 else x.reads, writes := if e.kd = 3 then x.writes + 1 else x.writes }
def thNext (t : Th) (n : Nat) (e : Ev) : Th :=
  ⟨turnT t.how e.kd - 1, if e.kd = 1 ∨ e.kd = 4 then e.wd else t.snap, if e.kd = 1 then [] else if e.kd = 3 then (e.ad, e.wd) :: t.wr else t.wr, if e.kd = 1 then n else t.try_⟩
/-- the state behind an event that can be -/
def takeE (S : LS) (i : Nat) (e : Ev) : LS :=
  let t := S.ths e.th.toNat
  let l := if e.kd = 1 then S.tries ++ [⟨e.th, i, 0, 0, 0, 0, 0⟩] else S.tries
  let t2 := thNext t S.tries.length e
  ⟨updT S.ths e.th.toNat t2, if e.kd = 6 ∧ t.how = 2 then e.wd else S.num, if e.kd = 5 then e.th else if e.kd = 6 ∧ t.how = 2 then -1 else S.holder,
   if t.how ≠ 0 ∨ e.kd = 1 then l.modify t2.try_ (fun x => tryNext x i e) else l⟩
def th0 : Th := ⟨0, 0, [], 0⟩
def ls0 : LS := ⟨fun _ => th0, 0, -1, []⟩
/-- a history as far as it can be: the state, how many events, the error (0: the whole) -/
def runE : LS → Nat → List Ev → LS × Nat × Int
  | S, i, [] => (S, i, 0)
  | S, i, e :: l => if wrongE S e = 0 then runE (takeE S i e) (i + 1) l else (S, i, wrongE S e)
def oddE (h : List Ev) : Int × Int := if (runE ls0 0 h).2.2 = 0 then (-1, 0) else ((runE ls0 0 h).2.1, (runE ls0 0 h).2.2)
/-- what every state that a history leads to bears -/
structure LSOk (S : LS) (i : Nat) : Prop where
  hows : ∀ j, (S.ths j).how ≤ 3
  snaps : ∀ j, 0 ≤ (S.ths j).snap ∧ (S.ths j).snap < 18446744073709551616
  trys : ∀ j, (S.ths j).how = 1 ∨ (S.ths j).how = 2 → (S.ths j).try_ < S.tries.length
  num : 0 ≤ S.num ∧ S.num ≤ i
  hold : -1 ≤ S.holder ∧ S.holder < 8
  len : S.tries.length ≤ i
  cnt : ∀ x ∈ S.tries, (0 ≤ x.reads ∧ x.reads ≤ i) ∧ (0 ≤ x.writes ∧ x.writes ≤ i)
theorem turnT_le : ∀ h, h < 4 → ∀ k : Nat, k ≤ 12 → turnL.getD (13 * h + k) 0 ≤ 4 := by decide
theorem ls0_ok : LSOk ls0 0 := ⟨fun _ => by simp [ls0, th0], fun _ => by simp [ls0, th0], fun _ h => by simp [ls0, th0] at h, by simp [ls0], by simp [ls0], by simp [ls0], fun x h => by simp [ls0] at h⟩
theorem formE_c {e : Ev} (h : formE e = true) : formC e := of_decide_eq_true h
/-- an event that is not wrong -/
theorem wrong_ok {S : LS} {e : Ev} (h : wrongE S e = 0) : formC e ∧ turnT (S.ths e.th.toNat).how e.kd ≠ 0 ∧ ¬ ((S.ths e.th.toNat).how = 0 ∧ e.kd = 9 ∧ e.er ≠ 4) ∧ ((e.kd = 1 ∨ e.kd = 4 ∨ e.kd = 5) → S.holder < 0) ∧ wordOk S (S.ths e.th.toNat) e = true ∧ ownOk (S.ths e.th.toNat) e = true := by
  unfold wrongE at h
  by_cases h1 : formE e = false
  · rw [if_pos h1] at h; omega
  · rw [if_neg h1] at h
    by_cases h2 : turnT (S.ths e.th.toNat).how e.kd = 0 ∨ ((S.ths e.th.toNat).how = 0 ∧ e.kd = 9 ∧ e.er ≠ 4)
    · rw [if_pos h2] at h; omega
    · rw [if_neg h2] at h
      by_cases h3 : (e.kd = 1 ∨ e.kd = 4 ∨ e.kd = 5) ∧ 0 ≤ S.holder
      · rw [if_pos h3] at h; omega
      · rw [if_neg h3] at h
        by_cases h4 : wordOk S (S.ths e.th.toNat) e = false
        · rw [if_pos h4] at h; omega
        · rw [if_neg h4] at h
          by_cases h5 : ownOk (S.ths e.th.toNat) e = false
          · rw [if_pos h5] at h; omega
          · exact ⟨formE_c (by simpa using h1), fun k => h2 (.inl k), fun k => h2 (.inr k), fun k => by
              rcases Int.lt_or_le S.holder 0 with q | q
              · exact q
              · exact absurd ⟨k, q⟩ h3, by simpa using h4, by simpa using h5⟩
theorem take_ok {S : LS} {i : Nat} {e : Ev} (hS : LSOk S i) (hw : wrongE S e = 0) (he : e.wide) : LSOk (takeE S i e) (i + 1) := by
  obtain ⟨hf, ht, hx, hh, hwd, ho⟩ := wrong_ok hw
  obtain ⟨f1, f2, f3, f4, f5, f6, f7⟩ := hf
  have hle := turnT_le (S.ths e.th.toNat).how (by have := hS.hows e.th.toNat; omega) e.kd.toNat (by omega)
  have hlen : (takeE S i e).tries.length = if e.kd = 1 then S.tries.length + 1 else S.tries.length := by
    unfold takeE
    dsimp only
    split <;> split <;> simp
  refine ⟨fun j => ?_, fun j => ?_, fun j hj => ?_, ?_, ?_, ?_, fun x hx => ?_⟩
  · unfold takeE updT
    dsimp only
    split
    · unfold thNext turnT at *; dsimp only; omega
    · exact hS.hows j
  · unfold takeE updT
    dsimp only
    split
    · unfold thNext; dsimp only
      split
      · exact he.2
      · exact hS.snaps _
    · exact hS.snaps j
  · rw [hlen]
    unfold takeE updT at hj ⊢
    dsimp only at hj ⊢
    split
    · rename_i hji
      rw [if_pos hji] at hj
      unfold thNext at hj ⊢
      dsimp only at hj ⊢
      by_cases h1 : e.kd = 1
      · rw [if_pos h1, if_pos h1]; omega
      · rw [if_neg h1, if_neg h1]
        apply hS.trys
        have hq : (S.ths e.th.toNat).how ≤ 3 := hS.hows _
        have : (S.ths e.th.toNat).how ≠ 0 ∧ (S.ths e.th.toNat).how ≠ 3 := by
          constructor
          · intro q
            unfold turnT at hj ht
            rw [q] at hj ht
            have hk : e.kd = 2 ∨ e.kd = 3 ∨ e.kd = 4 ∨ e.kd = 5 ∨ e.kd = 6 ∨ e.kd = 7 ∨ e.kd = 8 ∨ e.kd = 9 ∨ e.kd = 10 ∨ e.kd = 11 ∨ e.kd = 12 := by omega
            rcases hk with k | k | k | k | k | k | k | k | k | k | k <;> rw [k] at hj ht <;> revert hj ht <;> decide
          · intro q
            unfold turnT at ht
            rw [q] at ht
            have hk : e.kd = 2 ∨ e.kd = 3 ∨ e.kd = 4 ∨ e.kd = 5 ∨ e.kd = 6 ∨ e.kd = 7 ∨ e.kd = 8 ∨ e.kd = 9 ∨ e.kd = 10 ∨ e.kd = 11 ∨ e.kd = 12 := by omega
            rcases hk with k | k | k | k | k | k | k | k | k | k | k <;> rw [k] at ht <;> revert ht <;> decide
        omega
    · rename_i hji
      rw [if_neg hji] at hj
      have := hS.trys j hj
      split <;> omega
  · have hn := hS.num
    unfold takeE
    dsimp only
    split
    · rename_i hk
      unfold wordOk at hwd
      rw [if_neg (by omega), if_neg (by omega), if_neg (by omega), if_pos hk.1, if_pos hk.2] at hwd
      have := eq_of_beq hwd
      omega
    · omega
  · have hn := hS.hold
    unfold takeE
    dsimp only
    split
    · omega
    · split <;> omega
  · rw [hlen]
    have := hS.len
    split <;> omega
  · have hb : ∀ y : Try, ((0 ≤ y.reads ∧ y.reads ≤ i) ∧ (0 ≤ y.writes ∧ y.writes ≤ i)) → ((0 ≤ y.reads ∧ y.reads ≤ (i + 1 : Nat)) ∧ (0 ≤ y.writes ∧ y.writes ≤ (i + 1 : Nat))) := fun y hy => by omega
    have hn : ∀ y : Try, ((0 ≤ y.reads ∧ y.reads ≤ i) ∧ (0 ≤ y.writes ∧ y.writes ≤ i)) → ((0 ≤ (tryNext y i e).reads ∧ (tryNext y i e).reads ≤ (i + 1 : Nat)) ∧ (0 ≤ (tryNext y i e).writes ∧ (tryNext y i e).writes ≤ (i + 1 : Nat))) := fun y hy => by
      unfold tryNext; dsimp only
      constructor <;> split <;> omega
    have hl : ∀ y ∈ (if e.kd = 1 then S.tries ++ [⟨e.th, i, 0, 0, 0, 0, 0⟩] else S.tries), ((0 ≤ y.reads ∧ y.reads ≤ i) ∧ (0 ≤ y.writes ∧ y.writes ≤ i)) := by
      intro y hy
      split at hy
      · rcases List.mem_append.1 hy with k | k
        · exact hS.cnt y k
        · simp at k; subst k; dsimp only; omega
      · exact hS.cnt y hy
    unfold takeE at hx
    dsimp only at hx
    split at hx
    · obtain ⟨k, hk, rfl⟩ := List.getElem_of_mem hx
      rw [List.getElem_modify]
      split
      · exact hn _ (hl _ (List.getElem_mem _))
      · exact hb _ (hl _ (List.getElem_mem _))
    · exact hb _ (hl _ hx)
theorem runE_snoc {S : LS} {i k : Nat} {l : List Ev} {e : Ev} {S2 : LS} (h : runE S i l = (S2, k, 0)) : k = i + l.length ∧ runE S i (l ++ [e]) = if wrongE S2 e = 0 then (takeE S2 k e, k + 1, 0) else (S2, k, wrongE S2 e) := by
  induction l generalizing S i with
  | nil =>
    simp only [runE, Prod.mk.injEq] at h
    obtain ⟨rfl, rfl, _⟩ := h
    refine ⟨by simp, ?_⟩
    rw [List.nil_append, runE]
    split <;> simp [runE]
  | cons a l ih =>
    rw [runE] at h
    split at h
    · rename_i ha
      obtain ⟨h1, h2⟩ := ih h
      refine ⟨by rw [h1, List.length_cons]; omega, ?_⟩
      rw [List.cons_append, runE, if_pos ha, h2]
    · rename_i ha
      simp only [Prod.mk.injEq] at h
      exact absurd h.2.2 ha
end Go.Proofs.YtfldpejifpmapaaDoor
