/- The closed check that the statements of layer 1 (cells) end with, and CellsNames' walk. No condition. -/
import Derived.Test.YthfeljongackcaaCells
set_option linter.unusedSimpArgs false
set_option linter.unusedVariables false
set_option maxRecDepth 100000
namespace Go.Proofs.Ythfeljongackcaa
open Go.RowKit



theorem new_row (n : Nat) (w : World) (hn : 1 ≤ n) (hn2 : n ≤ 65536) :
    Calls Try.prog 10 #[.int .i64 n] w (MadeRow w (List.replicate n 0)) := by
  refine (new_ok n w hn hn2).mono fun e w' ⟨he, hw⟩ => ⟨w.heap.size + 1, w.heap.size, he, ?_, by omega, by omega, by rw [← hw]; exact ((Upd.refl _ _).alloc _).alloc _⟩
  subst hw
  have h0 : Blk (w.alloc (.cells (zeros .u64 n) 31)) w.heap.size ((List.replicate n (0 : Int)).map (Value.int .u64)) 31 := Blk.new w _ _
  have h1 : Blk ((w.alloc (.cells (zeros .u64 n) 31)).alloc (.cells #[.slice (some ⟨w.heap.size, 0, none⟩) n n, .int .u64 0] 111)) (w.heap.size + 1) [.slice (some ⟨w.heap.size, 0, none⟩) n n, .int .u64 0] 111 := by
    have := Blk.new (w.alloc (.cells (zeros .u64 n) 31)) [.slice (some ⟨w.heap.size, 0, none⟩) n n, .int .u64 0] 111
    simpa using this
  exact ⟨⟨n, by simpa using h1, [], by simpa using h0.alloc _, by simp⟩, by simpa using hn, by simpa using hn2, by omega⟩

/-- the same at given values -/
theorem load_is {w : World} {a b : Nat} {ws : List Int} {acc : Int} (h : RowAt w a b ws acc) (i v e0 acc' : Int) (hi : 0 ≤ i) (hv : rLoad ws i = (v, e0)) (ha : up64 acc = acc') :
    Calls Try.prog 50 #[.pointer (some ⟨a, 0, none⟩), .int .u64 i] w fun e w' => e = .returned (.tuple #[.int .u64 v, .int .i64 e0]) ∧ RowAt w' a b ws acc' ∧ Upd [a] w w' := by
  have k := load_any h i hi
  rw [hv, ha] at k
  exact k
theorem store_is {w : World} {a b : Nat} {ws : List Int} {acc : Int} (h : RowAt w a b ws acc) (i x e0 acc' : Int) (ws' : List Int) (hi : 0 ≤ i) (hv : (rLoad ws i).2 = e0) (hs : ws.set i.toNat x = ws') (ha : up64 acc = acc') :
    Calls Try.prog 94 #[.pointer (some ⟨a, 0, none⟩), .int .u64 i, .int .u64 x] w fun e w' => e = .returned (.int .i64 e0) ∧ RowAt w' a b ws' acc' ∧ Upd [a, b] w w' := by
  have k := store_any h i x hi
  rw [hv, hs, ha] at k
  exact k


theorem rLoad_zeros (n : Nat) (i : Int) (h0 : 0 ≤ i) (h1 : i < n) : rLoad (List.replicate n 0) i = (0, 0) := by
  have : i.toNat < n := by omega
  simp [rLoad, wd, List.getElem?_replicate, this, h1]
theorem rLoad_past (ws : List Int) (i : Int) (h1 : ws.length ≤ i) : rLoad ws i = (0, 4) := if_neg (by omega)


end Go.Proofs.Ythfeljongackcaa
