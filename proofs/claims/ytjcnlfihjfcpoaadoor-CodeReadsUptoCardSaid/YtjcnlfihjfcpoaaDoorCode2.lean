/- The names of the operations: the code and the reference. Conditions: the table of names is laid. -/
import Derived.Test.YtjcnlfihjfcpoaaDoorCode1
set_option linter.unusedSimpArgs false
set_option linter.unusedVariables false
set_option maxRecDepth 100000
namespace Go.Proofs.YtjcnlfihjfcpoaaDoor
open Go.RowKit

/-- the names, by their numbers -/
def nameBs : List (List UInt8) := [[], [99, 111, 110, 115, 116], [109, 111, 118, 101], [97, 100, 100], [115, 117, 98], [109, 117, 108], [108, 101, 115, 115], [101, 113, 117, 97, 108], [106, 117, 109, 112], [122, 101, 114, 111], [108, 111, 97, 100], [115, 116, 111, 114, 101], [98, 101, 103, 105, 110], [103, 101, 116], [112, 117, 116], [101, 110, 100], [97, 98, 111, 114, 116], [104, 97, 108, 116]]

def strV (l : List UInt8) : Value := .string ⟨l.toArray⟩

/-- the table of names is laid -/
def NamesAt (w : World) : Prop := ∀ k, k < 18 → w.cell? ⟨0, k, none⟩ = some (strV (nameBs.getD k []))

theorem cell_upd {w w' : World} {S : List Nat} {b k : Nat} {v : Value} (h : w.cell? ⟨b, k, none⟩ = some v) (u : Upd S w w') (hS : b ∉ S) : w'.cell? ⟨b, k, none⟩ = some v := by
  have hlt : b < w.heap.size := World.block_lt_of_cell? _ _ h
  rw [← h]
  exact World.cell?_of_block (u.block b hlt hS)

theorem NamesAt.upd {w w' : World} {S : List Nat} (h : NamesAt w) (u : Upd S w w') (hS : 0 ∉ S) : NamesAt w' := fun k hk => cell_upd (h k hk) u hS

def nameI (op : Int) : List UInt8 := if op < 0 then [] else nameBs.getD op.toNat []

set_option maxHeartbeats 8000000 in
theorem name_at (op : Int) (w : World) (hw : NamesAt w) : Calls Tryd.prog 14 #[.int .i64 op] w fun e w' => e = .returned (strV (nameI op)) ∧ w' = w := by
  by_cases h : 0 ≤ op ∧ op < 18
  · obtain ⟨n, rfl⟩ : ∃ n : Nat, op = n := ⟨op.toNat, by omega⟩
    have hlt : n < 18 := by omega
    have c := hw n hlt
    have en : nameI n = nameBs.getD n [] := by
      unfold nameI
      rw [if_neg (by omega), Int.toNat_natCast]
    rw [en]
    generalize nameBs.getD n [] = l at c ⊢
    clear h hw en
    refine calls_all fun K hK => ?_
    go_enter Tryd.func14, Tryd.ntmps14
    go_wp2
    all_goals first | rfl | exact ⟨rfl, rfl⟩
  · by_cases hn : op < 0
    · have e1 : decide (op < 0) = true := decide_eq_true hn
      have en : nameI op = [] := if_pos hn
      rw [en]
      clear h hw
      refine calls_all fun K hK => ?_
      go_enter Tryd.func14, Tryd.ntmps14
      go_wp2
      first | rfl | exact ⟨rfl, rfl⟩
    · obtain ⟨n, rfl⟩ : ∃ n : Nat, op = n := ⟨op.toNat, by omega⟩
      have hge : 18 ≤ n := by omega
      have en : nameI n = [] := by
        unfold nameI
        rw [if_neg hn]
        rw [List.getD_eq_getElem?_getD, List.getElem?_eq_none (by simp [nameBs]; omega)]
        rfl
      rw [en]
      clear h hw hn
      refine calls_all fun K hK => ?_
      go_enter Tryd.func14, Tryd.ntmps14
      go_wp2
      first | rfl | exact ⟨rfl, rfl⟩

set_option maxHeartbeats 8000000 in
/-- the reference's name: no table -/
theorem rname (op : Int) (w : World) : Calls Tryd.prog 15 #[.int .i64 op] w fun e w' => e = .returned (strV (nameI op)) ∧ Upd [] w w' := by
  by_cases h : 0 ≤ op ∧ op < 18
  · have hc : op = 0 ∨ op = 1 ∨ op = 2 ∨ op = 3 ∨ op = 4 ∨ op = 5 ∨ op = 6 ∨ op = 7 ∨ op = 8 ∨ op = 9 ∨ op = 10 ∨ op = 11 ∨ op = 12 ∨ op = 13 ∨ op = 14 ∨ op = 15 ∨ op = 16 ∨ op = 17 := by omega
    clear h
    rcases hc with rfl | rfl | rfl | rfl | rfl | rfl | rfl | rfl | rfl | rfl | rfl | rfl | rfl | rfl | rfl | rfl | rfl | rfl
    all_goals
      refine calls_all fun K hK => ?_
      go_enter Tryd.func15, Tryd.ntmps15
      go_wp2
      first | exact (Upd.refl _ _).alloc _ | exact ⟨rfl, (Upd.refl _ _).alloc _⟩
  · by_cases hn : op < 0
    · have e1 : decide (op < 0) = true := decide_eq_true hn
      have en : nameI op = [] := if_pos hn
      rw [en]
      clear h
      refine calls_all fun K hK => ?_
      go_enter Tryd.func15, Tryd.ntmps15
      go_wp2
      first | exact (Upd.refl _ _).alloc _ | exact ⟨rfl, (Upd.refl _ _).alloc _⟩
    · obtain ⟨n, rfl⟩ : ∃ n : Nat, op = n := ⟨op.toNat, by omega⟩
      have hge : 18 ≤ n := by omega
      have en : nameI n = [] := by
        unfold nameI
        rw [if_neg hn]
        rw [List.getD_eq_getElem?_getD, List.getElem?_eq_none (by simp [nameBs]; omega)]
        rfl
      rw [en]
      clear h hn
      refine calls_all fun K hK => ?_
      go_enter Tryd.func15, Tryd.ntmps15
      go_wp2
      first | exact (Upd.refl _ _).alloc _ | exact ⟨rfl, (Upd.refl _ _).alloc _⟩
end Go.Proofs.YtjcnlfihjfcpoaaDoor
