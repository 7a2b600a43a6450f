/- Plain laws of a redo log: what the stores leave, what is looked up. No conditions. -/
import Derived.Test.YthfeljongackcaaAPure
set_option linter.unusedSimpArgs false
set_option linter.unusedVariables false
set_option maxRecDepth 100000
namespace Go.Proofs.Ythfeljongackcaa
open Go.RowKit

theorem place_cons (c : Int × Int) (L : List (Int × Int)) (x : Int) : place (c :: L) x = if c.1 = x then some 0 else (place L x).map (· + 1) := by
  unfold place
  rw [List.findIdx?_cons]
  by_cases h : c.1 = x
  · rw [if_pos h]; simp [h]
  · rw [if_neg h]
    have : (c.1 == x) = false := by simp [h]
    rw [this]
    rfl
theorem wd_storeW (row : List Int) (a v : Int) (h0 : 0 ≤ a) (x : Nat) (hx : x < row.length) : wd (storeW row a v) x = if a = (x : Int) then v else wd row x := by
  unfold storeW
  split
  · rename_i h
    rw [wd_set v x (by omega)]
    by_cases e : a = (x : Int)
    · rw [if_pos e, if_pos (by omega)]
    · rw [if_neg e, if_neg (by omega)]
  · rw [if_neg (by omega)]
/-- what stands at x behind all stores -/
def nowAt (row : List Int) (L : List (Int × Int)) (x : Nat) : Int := match place L x with | some k => (L.getD k (0, 0)).2 | none => wd row x
def stores (row : List Int) (L : List (Int × Int)) : List Int := L.foldl (fun r c => storeW r c.1 c.2) row
theorem stores_len (L : List (Int × Int)) : ∀ row : List Int, (stores row L).length = row.length := by
  induction L with
  | nil => intro row; rfl
  | cons c L ih => intro row; show (stores (storeW row c.1 c.2) L).length = _; rw [ih, storeW_len]
theorem stores_snoc (row : List Int) (L : List (Int × Int)) (c : Int × Int) : stores row (L ++ [c]) = storeW (stores row L) c.1 c.2 := by simp [stores, List.foldl_append]
theorem stores_at (L : List (Int × Int)) : ∀ (row : List Int), (∀ c ∈ L, 0 ≤ c.1) → (L.map (·.1)).Nodup → ∀ x : Nat, x < row.length → wd (stores row L) x = nowAt row L x := by
  induction L with
  | nil => intro row _ _ x _; simp [stores, nowAt, place]
  | cons c L ih =>
    intro row hL nd x hx
    show wd (stores (storeW row c.1 c.2) L) x = _
    rw [List.map_cons, List.nodup_cons] at nd
    rw [ih _ (fun d hd => hL d (by simp [hd])) nd.2 x (by rw [storeW_len]; exact hx)]
    unfold nowAt
    rw [place_cons]
    by_cases hc : c.1 = (x : Int)
    · rw [if_pos hc]
      have hp : place L (x : Int) = none := by
        cases h : place L (x : Int) with
        | none => rfl
        | some k =>
          obtain ⟨hk, v, hv⟩ := place_some h
          exact absurd (hc ▸ List.mem_map.2 ⟨_, List.mem_of_getElem? hv, rfl⟩) nd.1
      rw [hp]
      simp only
      rw [wd_storeW row _ _ (hL c (by simp)) x hx, if_pos hc]
      rfl
    · rw [if_neg hc]
      cases h : place L (x : Int) with
      | none =>
        simp only [Option.map_none]
        rw [wd_storeW row _ _ (hL c (by simp)) x hx, if_neg hc]
      | some k => simp
theorem place_snoc (L : List (Int × Int)) (c : Int × Int) (x : Int) : place (L ++ [c]) x = match place L x with | some k => some k | none => if c.1 = x then some L.length else none := by
  induction L with
  | nil => rw [List.nil_append, place_cons]; simp [place]
  | cons d L ih =>
    rw [List.cons_append, place_cons, place_cons, ih]
    by_cases h : d.1 = x
    · rw [if_pos h, if_pos h]
    · rw [if_neg h, if_neg h]
      cases place L x with
      | some k => rfl
      | none =>
        simp only [Option.map_none]
        split <;> simp
theorem place_set {L : List (Int × Int)} {a v : Int} {k : Nat} (h : place L a = some k) (x : Int) : place (L.set k (a, v)) x = place L x := by
  unfold place
  have hm := set_map (v := v) h
  have e : ∀ M : List (Int × Int), M.findIdx? (fun c => c.1 == x) = (M.map (·.1)).findIdx? (· == x) := by
    intro M
    rw [List.findIdx?_map]
    rfl
  rw [e, e, hm]
/-- a put is what is looked up then -/
theorem now_put (row : List Int) (s : AS) (sh : Sh) (a v : Int) (ha : a < sh.row.length) (h0 : 0 ≤ a) (hp : s.phase = 1) (hl : s.writes.length < 1024) (x : Nat) : nowAt row (putS s sh a v).2.2.writes x = if a = (x : Int) then v else nowAt row s.writes x := by
  unfold putS
  rw [if_neg (by omega), if_neg (by omega)]
  cases h : place s.writes a with
  | some k =>
    simp only
    obtain ⟨hk, u, hu⟩ := place_some h
    unfold nowAt
    rw [place_set h]
    by_cases e : a = (x : Int)
    · rw [if_pos e, ← e, h]
      simp [List.getD, hk]
    · rw [if_neg e]
      cases hx : place s.writes (x : Int) with
      | none => rfl
      | some j =>
        obtain ⟨hj, u2, hu2⟩ := place_some hx
        have hne : k ≠ j := by
          rintro rfl
          rw [hu] at hu2
          simp only [Option.some.injEq, Prod.mk.injEq] at hu2
          exact e hu2.1
        simp only [List.getD_eq_getElem?_getD]
        rw [List.getElem?_set_ne hne]
  | none =>
    simp only
    rw [if_pos hl]
    simp only
    unfold nowAt
    rw [place_snoc]
    by_cases e : a = (x : Int)
    · rw [if_pos e, ← e, h]
      simp [List.getD]
    · rw [if_neg e]
      cases hx : place s.writes (x : Int) with
      | none => simp [e]
      | some j =>
        obtain ⟨hj, _, _⟩ := place_some hx
        simp only [if_neg e, List.getD_eq_getElem?_getD, List.getElem?_append_left hj]
end Go.Proofs.Ythfeljongackcaa
