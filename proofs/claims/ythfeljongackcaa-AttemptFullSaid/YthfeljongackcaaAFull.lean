/- AttemptFull's walk: the logs at their bounds, and one past them. No condition. -/
import Derived.Test.YthfeljongackcaaAMany
set_option linter.unusedSimpArgs false
set_option linter.unusedVariables false
set_option maxRecDepth 100000
namespace Go.Proofs.Ythfeljongackcaa
open Go.RowKit
open Go.Maps
def shF : Sh := ⟨List.replicate 2000 0, 0⟩
def rk (k : Nat) : AS := { fresh 0 with reads := List.replicate k (7, 0) }
def rm (k : Nat) : AS := { fresh 0 with reads := List.replicate k (7, 0), addr := 7, word := 0, phase := 3 }
def wl (k : Nat) : List (Int × Int) := (List.range k).map fun (i : Nat) => ((i : Int), (1 : Int))
def wk (k : Nat) : AS := { fresh 0 with writes := wl k }
theorem shF_len : shF.row.length = 2000 := by simp [shF]
theorem loadF (x : Int) : loadW shF.row x = 0 := by
  unfold loadW
  split
  · unfold wd shF
    simp only [List.getD_eq_getElem?_getD, List.getElem?_replicate]
    split <;> rfl
  · rfl
theorem fe1 (k : Nat) (h : k < 1024) : getS (rk k) shF 7 = (going, 0, rm k) := by
  unfold getS
  rw [if_neg (by simp [rk, fresh])]
  have hp : place (rk k).writes 7 = none := rfl
  rw [hp]
  simp only
  rw [shF_len, if_neg (by decide), if_neg (by simp [rk]; omega)]
  unfold loadS
  rw [loadF]
  rfl
theorem fe2 (k : Nat) : stepS (rm k) shF = (⟨2, 0, ⟨2, 7, 0, false⟩⟩, 0, rk (k + 1), shF) := by
  unfold stepS
  rw [if_neg (by simp [rm]), if_pos (by simp [rm])]
  unfold lookS
  rw [if_pos (by simp [rm, shF, fresh])]
  simp [rm, rk, fresh, List.replicate_succ']
theorem fe3 : getS (rk 1024) shF 7 = (trnNone, 5, rk 1024) := by
  unfold getS
  rw [if_neg (by simp [rk, fresh])]
  have hp : place (rk 1024).writes 7 = none := rfl
  rw [hp]
  simp only
  rw [shF_len, if_neg (by decide), if_pos (by simp [rk])]
theorem place_wl (k : Nat) (x : Int) (h : (k : Int) ≤ x) : place (wl k) x = none := by
  unfold place wl
  rw [List.findIdx?_eq_none_iff]
  intro c hc
  obtain ⟨i, hi, rfl⟩ := List.mem_map.1 hc
  have := List.mem_range.1 hi
  simp
  omega
theorem place_wl0 (k : Nat) (h : 0 < k) : place (wl k) 0 = some 0 := by
  obtain ⟨k, rfl⟩ : ∃ j, k = j + 1 := ⟨k - 1, by omega⟩
  unfold wl
  rw [List.range_succ_eq_map, List.map_cons, place_cons]
  simp
theorem wl_len (k : Nat) : (wl k).length = k := by simp [wl]
theorem fe4 (k : Nat) (h : k < 1024) : putS (wk k) shF k 1 = (⟨3, 0, ⟨3, k, 1, false⟩⟩, 0, wk (k + 1)) := by
  unfold putS
  rw [if_neg (by simp [wk, fresh]), shF_len, if_neg (by simp; omega)]
  have hp : place (wk k).writes k = none := place_wl k k (by omega)
  rw [hp]
  simp only
  rw [if_pos (by show (wl k).length < 1024; rw [wl_len]; exact h)]
  simp [wk, fresh, wl, List.range_succ]
theorem fe5 : putS (wk 1024) shF 1024 1 = (trnNone, 5, wk 1024) := by
  unfold putS
  rw [if_neg (by simp [wk, fresh]), shF_len, if_neg (by decide)]
  have hp : place (wk 1024).writes 1024 = none := place_wl 1024 1024 (by omega)
  rw [hp]
  simp only
  rw [if_neg (by show ¬ (wl 1024).length < 1024; rw [wl_len]; omega)]
def wz : AS := { wk 1024 with writes := (wl 1024).set 0 (0, 2) }
theorem fe6 : putS (wk 1024) shF 0 2 = (⟨3, 0, ⟨3, 0, 2, false⟩⟩, 0, wz) := by
  unfold putS
  rw [if_neg (by simp [wk, fresh]), shF_len, if_neg (by decide)]
  have hp : place (wk 1024).writes 0 = some 0 := place_wl0 1024 (by omega)
  rw [hp]
  rfl
theorem fe7 : getS wz shF 0 = (⟨2, 2, ⟨2, 0, 2, true⟩⟩, 0, wz) := by
  unfold getS
  rw [if_neg (by simp [wz, wk, fresh])]
  have hp : place wz.writes 0 = some 0 := by
    show place ((wl 1024).set 0 (0, 2)) 0 = some 0
    rw [place_set (place_wl0 1024 (by omega))]
    exact place_wl0 1024 (by omega)
  rw [hp]
  simp only
  have : wz.writes.getD 0 (0, 0) = (0, 2) := by
    show ((wl 1024).set 0 (0, 2)).getD 0 (0, 0) = (0, 2)
    simp [List.getD, wl_len]
  rw [this]
theorem fe8 : putS wz shF 2000 1 = (trnNone, 4, wz) := by
  unfold putS
  rw [if_neg (by simp [wz, wk, fresh]), shF_len, if_pos (by decide)]
theorem fm1 (k : Nat) (h : k ≤ 1024) : May (rk k) := by
  induction k with
  | zero => exact km0
  | succ k ih =>
    have h1 := may_get (sh := shF) (ih (by omega)) 7
    rw [fe1 k (by omega)] at h1
    have h2 := may_step (sh := shF) h1 (.inl rfl)
    rw [fe2] at h2
    exact h2
theorem fm2 (k : Nat) (h : k < 1024) : May (rm k) := by
  have h1 := may_get (sh := shF) (fm1 k (by omega)) 7
  rw [fe1 k h] at h1
  exact h1
theorem fm3 (k : Nat) (h : k ≤ 1024) : May (wk k) := by
  induction k with
  | zero => exact km0
  | succ k ih =>
    have h1 := may_put (sh := shF) (ih (by omega)) k 1
    rw [fe4 k (by omega)] at h1
    exact h1
theorem fm4 : May wz := by
  have h1 := may_put (sh := shF) (fm3 1024 (by omega)) 0 2
  rw [fe6] at h1
  exact h1
theorem wideF : WideSh shF := ⟨by simp [shF], by simp [shF]⟩
end Go.Proofs.Ythfeljongackcaa
