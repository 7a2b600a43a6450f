/- AttemptAlone, plainly: an attempt alone, what it reads and writes. No program in sight. The condition: fewer than 1024 entries. -/
import Derived.Test.YthfeljongackcaaAKnown
set_option linter.unusedSimpArgs false
set_option linter.unusedVariables false
set_option maxRecDepth 100000
namespace Go.Proofs.Ythfeljongackcaa
open Go.RowKit
/-- between two calls, alone: the reads, the writes -/
def al (R L : List (Int × Int)) : AS := ⟨0, R, L, 1, 0, 0, 0, 0, 0⟩
/-- a word is being read -/
def am (R L : List (Int × Int)) (x v : Int) : AS := ⟨0, R, L, 3, 0, x, v, 0, 0⟩
def sh0 (ws : List Int) : Sh := ⟨ws, 0⟩
section
variable {ws : List Int} {R L : List (Int × Int)} {x v : Int}
theorem al_put_out (hx : ¬ x < ws.length) : putS (al R L) (sh0 ws) x v = (trnNone, 4, al R L) := by
  unfold putS
  rw [if_neg (by simp [al]), if_pos (by simpa [sh0] using hx)]
theorem al_put_old {k : Nat} (hx : x < ws.length) (hp : place L x = some k) : putS (al R L) (sh0 ws) x v = (⟨3, 0, ⟨3, x, v, false⟩⟩, 0, al R (L.set k (x, v))) := by
  unfold putS
  rw [if_neg (by simp [al]), if_neg (by simpa [sh0] using hx)]
  have : place (al R L).writes x = some k := hp
  rw [this]
  rfl
theorem al_put_new (hx : x < ws.length) (hp : place L x = none) (hl : L.length < 1024) : putS (al R L) (sh0 ws) x v = (⟨3, 0, ⟨3, x, v, false⟩⟩, 0, al R (L ++ [(x, v)])) := by
  unfold putS
  rw [if_neg (by simp [al]), if_neg (by simpa [sh0] using hx)]
  have : place (al R L).writes x = none := hp
  rw [this]
  simp only
  rw [if_pos (by exact hl)]
  rfl
theorem al_get_own {k : Nat} {u : Int} (hp : place L x = some k) (hk : L[k]? = some (x, u)) : getS (al R L) (sh0 ws) x = (⟨2, u, ⟨2, x, u, true⟩⟩, 0, al R L) := by
  unfold getS
  rw [if_neg (by simp [al])]
  have : place (al R L).writes x = some k := hp
  rw [this]
  have hg : (L.getD k (0, 0)).2 = u := by simp [List.getD, hk]
  show (_, _, _) = _
  rw [show (al R L).writes = L from rfl, hg]
theorem al_get_out (hp : place L x = none) (hx : ¬ x < ws.length) : getS (al R L) (sh0 ws) x = (trnNone, 4, al R L) := by
  unfold getS
  rw [if_neg (by simp [al])]
  have : place (al R L).writes x = none := hp
  rw [this]
  simp only
  rw [if_pos (by simpa [sh0] using hx)]
theorem al_get (hp : place L x = none) (hx : x < ws.length) (hr : R.length < 1024) : getS (al R L) (sh0 ws) x = (going, 0, am R L x (wd ws x.toNat)) := by
  unfold getS
  rw [if_neg (by simp [al])]
  have : place (al R L).writes x = none := hp
  rw [this]
  simp only
  rw [if_neg (by simpa [sh0] using hx), if_neg (by show ¬ 1024 ≤ R.length; omega)]
  have h : loadW (sh0 ws).row x = wd ws x.toNat := by
    unfold loadW
    exact if_pos hx
  show (going, 0, ({ al R L with addr := x, word := loadW (sh0 ws).row x, phase := 3 } : AS)) = _
  rw [h]
  rfl
theorem al_look : stepS (am R L x v) (sh0 ws) = (⟨2, v, ⟨2, x, v, false⟩⟩, 0, al (R ++ [(x, v)]) L, sh0 ws) := by
  unfold stepS
  rw [if_neg (by simp [am]), if_pos (by simp [am])]
  unfold lookS
  rw [if_pos (by simp [am, sh0])]
  rfl

/-- the word that stands there now, as the law keeps it -/
def nowL (ws : List Int) (L : List (Int × Int)) : List Int := (List.range ws.length).map (nowAt ws L)
/-- what was written, as the law keeps it -/
def wroteL (ws : List Int) (L : List (Int × Int)) : List Bool := (List.range ws.length).map fun (i : Nat) => (place L (i : Int)).isSome
theorem nowL_len : (nowL ws L).length = ws.length := by simp [nowL]
theorem wroteL_len : (wroteL ws L).length = ws.length := by simp [wroteL]
theorem nowL_nil : nowL ws [] = ws := by
  apply List.ext_getElem (by simp [nowL])
  intro i h1 h2
  simp only [nowL, List.getElem_map, List.getElem_range]
  show wd ws i = _
  rw [wd_get h2]
theorem wroteL_nil : wroteL ws [] = List.replicate ws.length false := by
  apply List.ext_getElem (by simp [wroteL])
  intro i h1 h2
  simp [wroteL, place]
theorem nowAt_own {i k : Nat} {u : Int} (hp : place L (i : Int) = some k) (hk : L[k]? = some ((i : Int), u)) : nowAt ws L i = u := by
  unfold nowAt
  rw [hp]
  simp [List.getD, hk]
theorem nowAt_not {i : Nat} (hp : place L (i : Int) = none) : nowAt ws L i = wd ws i := by
  unfold nowAt
  rw [hp]
theorem nowL_put {i : Nat} {L' : List (Int × Int)} (hi : i < ws.length) (h : ∀ j : Nat, j < ws.length → nowAt ws L' j = if (i : Int) = (j : Int) then v else nowAt ws L j) : nowL ws L' = (nowL ws L).set i v := by
  apply List.ext_getElem (by simp [nowL])
  intro j h1 h2
  have hj : j < ws.length := by simpa [nowL] using h1
  rw [List.getElem_set]
  simp only [nowL, List.getElem_map, List.getElem_range]
  rw [h j hj]
  by_cases e : i = j
  · subst e; simp
  · rw [if_neg (by omega), if_neg e]
theorem wroteL_put {i : Nat} {L' : List (Int × Int)} (hi : i < ws.length) (h : ∀ j : Nat, (place L' (j : Int)).isSome = if i = j then true else (place L (j : Int)).isSome) : wroteL ws L' = (wroteL ws L).set i true := by
  apply List.ext_getElem (by simp [wroteL])
  intro j h1 h2
  rw [List.getElem_set]
  simp only [wroteL, List.getElem_map, List.getElem_range]
  rw [h j]
/-- a put at an address: what the lists are then -/
theorem put_lists {i : Nat} (hi : i < ws.length) (hl : L.length < 1024) (L' : List (Int × Int)) (T : Trn) (he : putS (al R L) (sh0 ws) (i : Int) v = (T, 0, al R L')) :
    nowL ws L' = (nowL ws L).set i v ∧ wroteL ws L' = (wroteL ws L).set i true ∧ L'.length = (if (place L (i : Int)).isSome then L.length else L.length + 1) ∧ ∀ c ∈ L', c ∈ L ∨ c = ((i : Int), v) := by
  have hn := fun (j : Nat) => now_put ws (al R L) (sh0 ws) (i : Int) v (by simpa [sh0] using hi) (by omega) rfl hl j
  rw [he] at hn
  refine ⟨nowL_put hi fun j _ => hn j, ?_⟩
  have hil : (i : Int) < ws.length := by omega
  cases hp : place L (i : Int) with
  | some k =>
    rw [al_put_old hil hp] at he
    have hL : L.set k ((i : Int), v) = L' := by
      have := congrArg (fun z : Trn × Int × AS => z.2.2.writes) he
      exact this
    subst hL
    refine ⟨wroteL_put hi fun j => ?_, by simp, fun c hc => ?_⟩
    · rw [place_set hp]
      by_cases e : i = j
      · subst e; rw [hp]; simp
      · simp [e]
    · exact List.mem_or_eq_of_mem_set hc
  | none =>
    rw [al_put_new hil hp hl] at he
    have hL : L ++ [((i : Int), v)] = L' := by
      have := congrArg (fun z : Trn × Int × AS => z.2.2.writes) he
      exact this
    subst hL
    refine ⟨wroteL_put hi fun j => ?_, by simp, fun c hc => by simpa using hc⟩
    rw [place_snoc]
    by_cases e : i = j
    · subst e; rw [hp]; simp
    · cases place L (j : Int) <;> simp [e]
      omega
/-- the cells behind the commit -/
theorem nowL_stores (hw : ∀ c ∈ L, 0 ≤ c.1) (hn : (L.map (·.1)).Nodup) : stores ws L = nowL ws L := by
  apply List.ext_getElem (by rw [stores_len, nowL_len])
  intro i h1 h2
  have hi : i < ws.length := by rw [stores_len] at h1; exact h1
  rw [← wd_get h1, stores_at L ws hw hn i hi]
  simp [nowL]
end

/-! the commit, step by step -/
def c8 (R L : List (Int × Int)) (j : Nat) : AS := ⟨0, R, L, 8, 0, 0, 0, 0, j⟩
def c9 (R L : List (Int × Int)) : AS := ⟨0, R, L, 9, 0, 0, 0, 0, 0⟩
section
variable {ws : List Int} {R L : List (Int × Int)}
theorem al_end_no : endS (al R []) (sh0 ws) = (⟨4, 0, ⟨6, 0, 0, false⟩⟩, 0, overS, sh0 ws) := rfl
theorem al_end (hL : L ≠ []) : endS (al R L) (sh0 ws) = (⟨1, 0, ⟨5, 0, 0, false⟩⟩, 0, c8 R L 0, ⟨ws, 1⟩) := by
  unfold endS
  rw [if_neg (by simp [al]), if_neg (by exact hL)]
  rfl
theorem c8_step {j : Nat} (hj : j + 1 < L.length) : stepS (c8 R L j) ⟨stores ws (L.take j), 1⟩ = (going, 0, c8 R L (j + 1), ⟨stores ws (L.take (j + 1)), 1⟩) := by
  unfold stepS
  iterate 6 rw [if_neg (by simp [c8])]
  rw [if_pos (by simp [c8])]
  unfold storeS
  have hg : (c8 R L j).writes[(c8 R L j).at_.toNat]? = some (L[j]'(by omega)) := by
    show L[(j : Int).toNat]? = _
    rw [Int.toNat_natCast, List.getElem?_eq_getElem (by omega)]
  rw [hg]
  simp only
  rw [if_neg (by show ¬ (j : Int) + 1 = (L.length : Int); omega)]
  rw [List.take_add_one, List.getElem?_eq_getElem (by omega)]
  simp only [Option.toList_some, stores_snoc]
  rfl
theorem c8_last {j : Nat} (hj : j + 1 = L.length) : stepS (c8 R L j) ⟨stores ws (L.take j), 1⟩ = (going, 0, c9 R L, ⟨stores ws L, 1⟩) := by
  unfold stepS
  iterate 6 rw [if_neg (by simp [c8])]
  rw [if_pos (by simp [c8])]
  unfold storeS
  have hg : (c8 R L j).writes[(c8 R L j).at_.toNat]? = some (L[j]'(by omega)) := by
    show L[(j : Int).toNat]? = _
    rw [Int.toNat_natCast, List.getElem?_eq_getElem (by omega)]
  rw [hg]
  simp only
  rw [if_pos (by show (j : Int) + 1 = (L.length : Int); omega)]
  have ht : stores ws L = storeW (stores ws (L.take j)) (L[j]'(by omega)).1 (L[j]'(by omega)).2 := by
    have e : L = L.take j ++ [L[j]'(by omega)] := by
      have h1 := List.take_add_one (l := L) (i := j)
      rw [hj, List.take_length, List.getElem?_eq_getElem (by omega)] at h1
      simpa using h1
    conv => lhs; rw [e]
    rw [stores_snoc]
  rw [ht]
  rfl
theorem c9_step : stepS (c9 R L) ⟨ws, 1⟩ = (⟨4, 0, ⟨6, 0, 1, false⟩⟩, 0, overS, ⟨ws, 2⟩) := rfl
end
end Go.Proofs.Ythfeljongackcaa
