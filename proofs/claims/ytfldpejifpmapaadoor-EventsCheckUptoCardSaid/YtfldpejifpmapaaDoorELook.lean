/- A look over a history, in memory. No condition. -/
import Derived.Test.YtfldpejifpmapaaDoorEMap
import Derived.Test.YtfldpejifpmapaaDoorOwn
set_option linter.unusedSimpArgs false
set_option linter.unusedVariables false
set_option maxRecDepth 100000
namespace Go.Proofs.YtfldpejifpmapaaDoor
open Go.RowKit
open Go.Maps
/-- the cells of a look: the table, the threads, the number, who holds the lock, the attempts -/
structure LookC (C : List Value) (S : LS) (tv : Value) (mv : Nat → Value) : Prop where
  len : C.length = 87
  turns : ∀ h k : Nat, h < 4 → k < 13 → C[13 * h + k]? = some (.int .i64 ((turnT h (k : Int) : Nat) : Int))
  how : ∀ i, i < 8 → C[52 + 4 * i]? = some (.int .i64 ((S.ths i).how : Int))
  snap : ∀ i, i < 8 → C[52 + 4 * i + 1]? = some (.int .u64 (S.ths i).snap)
  wr : ∀ i, i < 8 → C[52 + 4 * i + 2]? = some (mv i)
  try_ : ∀ i, i < 8 → C[52 + 4 * i + 3]? = some (.int .i64 ((S.ths i).try_ : Int))
  num : C[84]? = some (.int .u64 S.num)
  hold : C[85]? = some (.int .i64 S.holder)
  tries : C[86]? = some tv
theorem updT_same (f : Nat → Th) (i : Nat) (t : Th) : updT f i t i = t := if_pos rfl
theorem updT_other (f : Nat → Th) {i j : Nat} (t : Th) (h : j ≠ i) : updT f i t j = f j := if_neg h
section
variable {C : List Value} {S : LS} {tv : Value} {mv : Nat → Value}
theorem get_set {C : List Value} {o j : Nat} (v : Value) {u : Value} (h : C[j]? = some u) (hj : j ≠ o) : (C.set o v)[j]? = some u := by
  rw [List.getElem?_set_ne (Ne.symm hj)]; exact h
theorem set_get {C : List Value} {o : Nat} (v : Value) (h : o < C.length) : (C.set o v)[o]? = some v := by
  rw [List.getElem?_set_self h]
theorem LookC.set_how (h : LookC C S tv mv) {i : Nat} (hi : i < 8) (x : Nat) : LookC (C.set (52 + 4 * i) (.int .i64 (x : Int))) { S with ths := updT S.ths i { S.ths i with how := x } } tv mv := by
  refine ⟨by rw [List.length_set]; exact h.len, fun a b ha hb => get_set _ (h.turns a b ha hb) (by omega), fun j hj => ?_, fun j hj => ?_, fun j hj => get_set _ (h.wr j hj) (by omega), fun j hj => ?_, get_set _ h.num (by omega), get_set _ h.hold (by omega), get_set _ h.tries (by omega)⟩
  · dsimp only
    by_cases e : j = i
    · subst e; rw [updT_same]; exact set_get _ (by have := h.len; omega)
    · rw [updT_other _ _ e]; exact get_set _ (h.how j hj) (by omega)
  · dsimp only
    by_cases e : j = i
    · subst e; rw [updT_same]; exact get_set _ (h.snap j hj) (by omega)
    · rw [updT_other _ _ e]; exact get_set _ (h.snap j hj) (by omega)
  · dsimp only
    by_cases e : j = i
    · subst e; rw [updT_same]; exact get_set _ (h.try_ j hj) (by omega)
    · rw [updT_other _ _ e]; exact get_set _ (h.try_ j hj) (by omega)
theorem LookC.set_snap (h : LookC C S tv mv) {i : Nat} (hi : i < 8) (x : Int) : LookC (C.set (52 + 4 * i + 1) (.int .u64 x)) { S with ths := updT S.ths i { S.ths i with snap := x } } tv mv := by
  refine ⟨by rw [List.length_set]; exact h.len, fun a b ha hb => get_set _ (h.turns a b ha hb) (by omega), fun j hj => ?_, fun j hj => ?_, fun j hj => get_set _ (h.wr j hj) (by omega), fun j hj => ?_, get_set _ h.num (by omega), get_set _ h.hold (by omega), get_set _ h.tries (by omega)⟩
  · dsimp only
    by_cases e : j = i
    · subst e; rw [updT_same]; exact get_set _ (h.how j hj) (by omega)
    · rw [updT_other _ _ e]; exact get_set _ (h.how j hj) (by omega)
  · dsimp only
    by_cases e : j = i
    · subst e; rw [updT_same]; exact set_get _ (by have := h.len; omega)
    · rw [updT_other _ _ e]; exact get_set _ (h.snap j hj) (by omega)
  · dsimp only
    by_cases e : j = i
    · subst e; rw [updT_same]; exact get_set _ (h.try_ j hj) (by omega)
    · rw [updT_other _ _ e]; exact get_set _ (h.try_ j hj) (by omega)
theorem LookC.set_try (h : LookC C S tv mv) {i : Nat} (hi : i < 8) (x : Nat) : LookC (C.set (52 + 4 * i + 3) (.int .i64 (x : Int))) { S with ths := updT S.ths i { S.ths i with try_ := x } } tv mv := by
  refine ⟨by rw [List.length_set]; exact h.len, fun a b ha hb => get_set _ (h.turns a b ha hb) (by omega), fun j hj => ?_, fun j hj => ?_, fun j hj => get_set _ (h.wr j hj) (by omega), fun j hj => ?_, get_set _ h.num (by omega), get_set _ h.hold (by omega), get_set _ h.tries (by omega)⟩
  · dsimp only
    by_cases e : j = i
    · subst e; rw [updT_same]; exact get_set _ (h.how j hj) (by omega)
    · rw [updT_other _ _ e]; exact get_set _ (h.how j hj) (by omega)
  · dsimp only
    by_cases e : j = i
    · subst e; rw [updT_same]; exact get_set _ (h.snap j hj) (by omega)
    · rw [updT_other _ _ e]; exact get_set _ (h.snap j hj) (by omega)
  · dsimp only
    by_cases e : j = i
    · subst e; rw [updT_same]; exact set_get _ (by have := h.len; omega)
    · rw [updT_other _ _ e]; exact get_set _ (h.try_ j hj) (by omega)
/-- a thread's Writes: the list alone turns, no cell -/
theorem LookC.ghost (h : LookC C S tv mv) (i : Nat) (l : List (Int × Int)) : LookC C { S with ths := updT S.ths i { S.ths i with wr := l } } tv mv := by
  refine ⟨h.len, h.turns, fun j hj => ?_, fun j hj => ?_, h.wr, fun j hj => ?_, h.num, h.hold, h.tries⟩
  all_goals
    dsimp only
    by_cases e : j = i
    · subst e; rw [updT_same]
      first | exact h.how j hj | exact h.snap j hj | exact h.try_ j hj
    · rw [updT_other _ _ e]
      first | exact h.how j hj | exact h.snap j hj | exact h.try_ j hj
def updV (f : Nat → Value) (i : Nat) (v : Value) : Nat → Value := fun j => if j = i then v else f j
theorem LookC.set_wr (h : LookC C S tv mv) {i : Nat} (hi : i < 8) (v : Value) : LookC (C.set (52 + 4 * i + 2) v) S tv (updV mv i v) := by
  refine ⟨by rw [List.length_set]; exact h.len, fun a b ha hb => get_set _ (h.turns a b ha hb) (by omega), fun j hj => get_set _ (h.how j hj) (by omega), fun j hj => get_set _ (h.snap j hj) (by omega), fun j hj => ?_, fun j hj => get_set _ (h.try_ j hj) (by omega), get_set _ h.num (by omega), get_set _ h.hold (by omega), get_set _ h.tries (by omega)⟩
  unfold updV
  by_cases e : j = i
  · subst e; rw [if_pos rfl]; exact set_get _ (by have := h.len; omega)
  · rw [if_neg e]; exact get_set _ (h.wr j hj) (by omega)
theorem LookC.set_num (h : LookC C S tv mv) (x : Int) : LookC (C.set 84 (.int .u64 x)) { S with num := x } tv mv :=
  ⟨by rw [List.length_set]; exact h.len, fun a b ha hb => get_set _ (h.turns a b ha hb) (by omega), fun j hj => get_set _ (h.how j hj) (by omega), fun j hj => get_set _ (h.snap j hj) (by omega), fun j hj => get_set _ (h.wr j hj) (by omega), fun j hj => get_set _ (h.try_ j hj) (by omega), set_get _ (by have := h.len; omega), get_set _ h.hold (by omega), get_set _ h.tries (by omega)⟩
theorem LookC.set_hold (h : LookC C S tv mv) (x : Int) : LookC (C.set 85 (.int .i64 x)) { S with holder := x } tv mv :=
  ⟨by rw [List.length_set]; exact h.len, fun a b ha hb => get_set _ (h.turns a b ha hb) (by omega), fun j hj => get_set _ (h.how j hj) (by omega), fun j hj => get_set _ (h.snap j hj) (by omega), fun j hj => get_set _ (h.wr j hj) (by omega), fun j hj => get_set _ (h.try_ j hj) (by omega), get_set _ h.num (by omega), set_get _ (by have := h.len; omega), get_set _ h.tries (by omega)⟩
theorem LookC.set_tries (h : LookC C S tv mv) (v : Value) (l : List Try) : LookC (C.set 86 v) { S with tries := l } v mv :=
  ⟨by rw [List.length_set]; exact h.len, fun a b ha hb => get_set _ (h.turns a b ha hb) (by omega), fun j hj => get_set _ (h.how j hj) (by omega), fun j hj => get_set _ (h.snap j hj) (by omega), fun j hj => get_set _ (h.wr j hj) (by omega), fun j hj => get_set _ (h.try_ j hj) (by omega), get_set _ h.num (by omega), get_set _ h.hold (by omega), set_get _ (by have := h.len; omega)⟩
theorem LookC.ghost_tries (h : LookC C S tv mv) (l : List Try) : LookC C { S with tries := l } tv mv := ⟨h.len, h.turns, h.how, h.snap, h.wr, h.try_, h.num, h.hold, h.tries⟩
end
structure LookM (w : World) (B lb n : Nat) (C : List Value) (S : LS) (tv : Value) (mv : Nat → Value) : Prop where
  blk : Blk w lb C 97
  cs : LookC C S tv mv
  low : B ≤ lb
  row : w.ownsRow B 52 7 tv S.tries.length (S.tries.flatMap Try.cells)
  maps : ∀ j, j < 8 → (S.ths j).how = 1 ∨ (S.ths j).how = 2 → ∃ m, mv j = .map (some m) ∧ B ≤ m ∧ MapW w m n (S.ths j).wr
  apart : ∀ i j m, i < 8 → j < 8 → i ≠ j → (S.ths i).how = 1 ∨ (S.ths i).how = 2 → (S.ths j).how = 1 ∨ (S.ths j).how = 2 → mv i = .map (some m) → mv j ≠ .map (some m)
/-- a look in memory -/
def LookAt (w : World) (B lb n : Nat) (S : LS) : Prop := ∃ C tv mv, LookM w B lb n C S tv mv
section
variable {w w' : World} {B lb n : Nat} {C : List Value} {S : LS} {tv : Value} {mv : Nat → Value}
theorem MapW.ne_blk {m k : Nat} {l : List (Int × Int)} {b : Nat} {vs : List Value} {t : TypeId} (h : MapW w m k l) (hb : Blk w b vs t) : m ≠ b := by
  rintro rfl
  obtain ⟨D, ⟨es, cl, hm, _⟩, _⟩ := h
  unfold Blk at hb
  rw [hm] at hb
  cases hb
theorem MapW.ne_row {m k : Nat} {l : List (Int × Int)} {base : Nat} {e : TypeId} {size j : Nat} {v : Value} {us : List Value} (h : MapW w m k l) (hr : w.ownsRow base e size v j us) : v.ownBlock ≠ some m := by
  rcases hr.2 with ⟨rfl, _⟩ | ⟨g, cap, cur, rfl, _, hh, _⟩
  · simp [Value.ownBlock]
  · simp only [Value.ownBlock, ne_eq, Option.some.injEq]
    intro e
    subst e
    exact h.ne_blk (b := g) (vs := cur.toList) (t := _) (by unfold Blk; simpa using hh) rfl
theorem LookM.row_ne (h : LookM w B lb n C S tv mv) : tv.ownBlock ≠ some lb := fun e => own_ne_blk h.row h.blk (by decide) (by rw [e]; simp)
theorem LookM.upd0 (h : LookM w B lb n C S tv mv) (u : Upd [] w w') : LookM w' B lb n C S tv mv :=
  ⟨h.blk.upd u (by simp), h.cs, h.low, own_upd h.row u (by simp), fun j hj hl => by obtain ⟨m, h1, h2, h3⟩ := h.maps j hj hl; exact ⟨m, h1, h2, h3.upd u (by simp)⟩, h.apart⟩
end
end Go.Proofs.YtfldpejifpmapaaDoor
