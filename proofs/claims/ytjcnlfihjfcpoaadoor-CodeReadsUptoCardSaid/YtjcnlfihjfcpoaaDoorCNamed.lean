/- The operation of a name: the code and the reference. The condition: the table of names is laid. -/
import Derived.Test.YtjcnlfihjfcpoaaDoorCode2
import Derived.Handy
import Derived.Lib.Strings
set_option linter.unusedSimpArgs false
set_option linter.unusedVariables false
set_option maxRecDepth 100000
namespace Go.Proofs.YtjcnlfihjfcpoaaDoor
open Go.RowKit

def findN : List (List UInt8) → Nat → List UInt8 → Nat × Bool
  | [], _, _ => (0, false)
  | x :: xs, i, l => if x = l then (i, true) else findN xs (i + 1) l

def namedL (l : List UInt8) : Nat × Bool := findN (nameBs.drop 1) 1 l

theorem findN_step (k : Nat) (l : List UInt8) (h : k < 18) : findN (nameBs.drop k) k l = if nameBs.getD k [] = l then (k, true) else findN (nameBs.drop (k + 1)) (k + 1) l := by
  have hl : k < nameBs.length := h
  rw [List.drop_eq_getElem_cons hl, findN, List.getD_eq_getElem?_getD, List.getElem?_eq_getElem hl]
  rfl

theorem str_eql (l : List UInt8) (s : ByteArray) : (l == s.toList) = decide (l = s.data.toList) := by
  rw [Lib.toList_data]
  by_cases h : l = s.data.toList
  · simp [h]
  · simp [h]

open Instr Sem in
theorem run_index_arr1 {P : Program} {w : World} (t e : TypeId) (n : Nat) (cs : Array Value) (kd : IntKind) (k : Nat) (v : Value) (h : P.underlying t = some (.array n e)) (hs : ∀ w, (sizeOf e).run P w = .ok 1 w) (ha : ∀ w, (isAgg e).run P w = .ok false w) (hk : k < n) (hv : cs[k]? = some v) :
    (Instr.index t (.agg cs) (.int kd (k : Int))).run P w = .ok v w := by
  have h0 : 0 ≤ (k : Int) ∧ (k : Int) < (n : Int) := by omega
  simp [Instr.index, run_underlying h, asIntOf, h0, hk, part, hs, ha, hv, go_sem]

set_option maxHeartbeats 20000000 in
theorem named (s : ByteArray) (w : World) (hN : NamesAt w) : Calls Tryd.prog 12 #[.string s] w fun e w' => e = .returned (.tuple #[.int .i64 ((namedL s.data.toList).1 : Nat), .bool (namedL s.data.toList).2]) ∧ w' = w := by
  have c0 := hN 0 (by omega)
  have c1 := hN 1 (by omega)
  have c2 := hN 2 (by omega)
  have c3 := hN 3 (by omega)
  have c4 := hN 4 (by omega)
  have c5 := hN 5 (by omega)
  have c6 := hN 6 (by omega)
  have c7 := hN 7 (by omega)
  have c8 := hN 8 (by omega)
  have c9 := hN 9 (by omega)
  have c10 := hN 10 (by omega)
  have c11 := hN 11 (by omega)
  have c12 := hN 12 (by omega)
  have c13 := hN 13 (by omega)
  have c14 := hN 14 (by omega)
  have c15 := hN 15 (by omega)
  have c16 := hN 16 (by omega)
  have c17 := hN 17 (by omega)
  clear hN
  have hix : ∀ (W : World) (k : Nat), k < 18 → (Instr.index 69 (.agg (nameBs.map strV).toArray) (.int .i64 (k : Int))).run Tryd.prog W = .ok (strV (nameBs.getD k [])) W := fun W k hk =>
    run_index_arr1 69 9 18 _ _ k _ Tryd.underlying69 (fun w => by go_simp) (fun w => by go_simp) hk (by rw [List.getElem?_toArray, List.getElem?_map, List.getD_eq_getElem?_getD, List.getElem?_eq_getElem (show k < nameBs.length from hk)]; rfl)
  obtain ⟨AR, hAR⟩ : ∃ AR, Value.agg (nameBs.map strV).toArray = AR := ⟨_, rfl⟩
  rw [hAR] at hix
  simp only [strV, nameBs, List.map_cons, List.map_nil] at hAR
  simp only [strV, nameBs, List.getD_cons_zero, List.getD_cons_succ] at c0 c1 c2 c3 c4 c5 c6 c7 c8 c9 c10 c11 c12 c13 c14 c15 c16 c17
  have HIX := Lib.hid hix
  have HAR := Lib.hid hAR
  clear hix hAR
  have HS := Lib.hid (findN_step · s.data.toList)
  obtain ⟨L, hL⟩ : ∃ L, namedL s.data.toList = L := ⟨_, rfl⟩
  rw [hL]
  have HL := Lib.hid hL
  clear hL
  refine calls_all fun K hK => ?_
  go_enter Tryd.func12, Tryd.ntmps12
  go_wp2
  rw [HAR.out]
  clear c0 c1 c2 c3 c4 c5 c6 c7 c8 c9 c10 c11 c12 c13 c14 c15 c16 c17 HAR
  go_loop [4, 5, 7] (fun v4 v5 v7 => ∃ k : Nat, k ≤ 18 ∧ v7 = .int .i64 k ∧ (0 < k → findN (nameBs.drop k) k s.data.toList = L)) (fun v4 v5 v7 => 18 - (intOf v7).toNat)
  case atStart => exact ⟨0, by omega, rfl, by omega⟩
  case round =>
    obtain ⟨k, hk, rfl, hF⟩ := hrel
    have HF := Lib.hid hF
    clear hF
    by_cases hlt : k < 18
    · have hkl : (k : Int) < 18 := by omega
      have hix := fun W => HIX.out W k hlt
      have hst := HS.out k hlt
      have heq := str_eql (nameBs.getD k []) s
      obtain ⟨l, hl⟩ : ∃ l, nameBs.getD k [] = l := ⟨_, rfl⟩
      rw [hl] at hix hst heq
      have HL2 := Lib.hid hl
      clear hl
      simp only [strV] at hix
      by_cases h0 : k = 0
      · have g0 : ¬ 0 < k := by omega
        have H0 := Lib.hid h0
        clear hst heq h0
        go_wp2
        go_round
        case rel => exact ⟨k + 1, by omega, by go_num, fun _ => by rw [H0.out]; exact HL.out⟩
        case measure => simp [intOf]; omega
      · have g0 : 0 < k := by omega
        by_cases he : l = s.data.toList
        · rw [if_pos he, HF.out (by omega)] at hst
          rw [decide_eq_true he] at heq
          have HST := Lib.hid hst
          clear hst he
          go_wp2
          all_goals first | exact ⟨by rw [HST.out], rfl⟩ | (rw [HST.out]; exact ⟨rfl, rfl⟩) | (rw [HST.out])
        · rw [if_neg he, HF.out (by omega)] at hst
          rw [decide_eq_false he] at heq
          have HST := Lib.hid hst
          clear hst he
          go_wp2
          go_round
          case rel => exact ⟨k + 1, by omega, by go_num, fun _ => HST.out.symm⟩
          case measure => simp [intOf]; omega
    · obtain rfl : k = 18 := by omega
      have hst := HF.out (by omega)
      have HST := Lib.hid (hst.symm.trans (show _ = ((0 : Nat), false) from rfl))
      clear hst
      go_wp2
      all_goals first | exact ⟨by rw [HST.out]; rfl, rfl⟩ | (rw [HST.out]; exact ⟨rfl, rfl⟩) | (rw [HST.out]; rfl)
end Go.Proofs.YtjcnlfihjfcpoaaDoor