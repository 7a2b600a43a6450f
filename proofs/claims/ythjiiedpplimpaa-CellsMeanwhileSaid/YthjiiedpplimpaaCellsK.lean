/- The closed check that the statements of layer 1 (cells) end with, and CellsNames' walk. No condition. -/
import Derived.Test.YthjiiedpplimpaaCells
set_option linter.unusedSimpArgs false
set_option linter.unusedVariables false
set_option maxRecDepth 100000
namespace Go.Proofs.Ythjiiedpplimpaa
open Go.RowKit

theorem num_any (n : Int) (w : World) : Calls Try.prog 13 #[.int .i64 n] w fun e w' => e = .returned (.int .i64 n) ∧ w = w' := by
  refine calls_all fun K hK => ?_
  go_enter Try.func13, Try.ntmps13
  go_wp2
  all_goals exact ⟨rfl, rfl⟩

theorem accesses_any {w : World} {a b : Nat} {ws : List Int} {acc : Int} (h : RowAt w a b ws acc) :
    Calls Try.prog 34 #[.pointer (some ⟨a, 0, none⟩)] w fun e w' => e = .returned (.int .u64 acc) ∧ w = w' := by
  obtain ⟨cap, h0⟩ := h.c0
  have h1 := h.c1
  refine calls_all fun K hK => ?_
  go_enter Try.func34, Try.ntmps34
  go_wp2
  all_goals exact ⟨rfl, rfl⟩

theorem new_row (n : Nat) (w : World) (hn : 1 ≤ n) (hn2 : n ≤ 65536) :
    Calls Try.prog 12 #[.int .i64 n] w (MadeRow w (List.replicate n 0)) := by
  refine (new_ok n w hn hn2).mono fun e w' ⟨he, hw⟩ => ⟨w.heap.size + 1, w.heap.size, he, ?_, by omega, by omega, by rw [← hw]; exact ((Upd.refl _ _).alloc _).alloc _⟩
  subst hw
  have h0 : Blk (w.alloc (.cells (zeros .u64 n) 27)) w.heap.size ((List.replicate n (0 : Int)).map (Value.int .u64)) 27 := Blk.new w _ _
  have h1 : Blk ((w.alloc (.cells (zeros .u64 n) 27)).alloc (.cells #[.slice (some ⟨w.heap.size, 0, none⟩) n n, .int .u64 0] 88)) (w.heap.size + 1) [.slice (some ⟨w.heap.size, 0, none⟩) n n, .int .u64 0] 88 := by
    have := Blk.new (w.alloc (.cells (zeros .u64 n) 27)) [.slice (some ⟨w.heap.size, 0, none⟩) n n, .int .u64 0] 88
    simpa using this
  exact ⟨⟨n, by simpa using h1, [], by simpa using h0.alloc _, by simp⟩, by simpa using hn, by simpa using hn2, by omega⟩

/-- the same at given values -/
theorem load_is {w : World} {a b : Nat} {ws : List Int} {acc : Int} (h : RowAt w a b ws acc) (i v e0 acc' : Int) (hi : 0 ≤ i) (hv : rLoad ws i = (v, e0)) (ha : up64 acc = acc') :
    Calls Try.prog 14 #[.pointer (some ⟨a, 0, none⟩), .int .u64 i] w fun e w' => e = .returned (.tuple #[.int .u64 v, .int .i64 e0]) ∧ RowAt w' a b ws acc' ∧ Upd [a] w w' := by
  have k := load_any h i hi
  rw [hv, ha] at k
  exact k
theorem store_is {w : World} {a b : Nat} {ws : List Int} {acc : Int} (h : RowAt w a b ws acc) (i x e0 acc' : Int) (ws' : List Int) (hi : 0 ≤ i) (hv : (rLoad ws i).2 = e0) (hs : ws.set i.toNat x = ws') (ha : up64 acc = acc') :
    Calls Try.prog 31 #[.pointer (some ⟨a, 0, none⟩), .int .u64 i, .int .u64 x] w fun e w' => e = .returned (.int .i64 e0) ∧ RowAt w' a b ws' acc' ∧ Upd [a, b] w w' := by
  have k := store_any h i x hi
  rw [hv, hs, ha] at k
  exact k

theorem known01 (w : World) : Calls Try.prog 15 #[] w fun e w' => e = .returned (.bool true) ∧ Upd [] w w' := by
  refine calls_all fun K hK => ?_
  go_enter Try.func15, Try.ntmps15
  go_wp2_with fail
  refine (new_row 3 _ (by omega) (by omega)).mono ?_
  rintro e w1 ⟨a, b, rfl, h1, ha, hb, u1⟩
  go_wp2_with ((go_at_call 13; refine (num_any _ _).mono ?_; rintro e w' ⟨rfl, rfl⟩))
  refine (store_is h1 2 7 0 1 [0, 0, 7] (by omega) (by decide +kernel) (by decide +kernel) (by decide +kernel)).mono ?_
  rintro e w2 ⟨rfl, h2, u2⟩
  go_wp2_with ((go_at_call 13; refine (num_any _ _).mono ?_; rintro e w' ⟨rfl, rfl⟩))
  refine (load_is h2 3 0 4 2 (by omega) (by decide +kernel) (by decide +kernel)).mono ?_
  rintro e w3 ⟨rfl, h3, u3⟩
  have k3 := swap_any h3 2 7 9 (by omega)
  rw [show rHit [0, 0, 7] 2 7 = true by decide +kernel, show (rLoad [0, 0, 7] 2).2 = 0 by decide +kernel, show up64 2 = 3 by decide +kernel] at k3
  go_wp2_with ((go_at_call 13; refine (num_any _ _).mono ?_; rintro e w' ⟨rfl, rfl⟩))
  refine (k3).mono ?_
  rintro e w4 ⟨rfl, h4, u4⟩
  have k4 := add_any (ws := [0, 0, 9]) h4 2 18446744073709551615 (by omega) (by decide) (by omega)
  rw [show rLoad [0, 0, 9] 2 = (9, 0) by decide +kernel, show up64 3 = 4 by decide +kernel] at k4
  go_wp2_with ((go_at_call 13; refine (num_any _ _).mono ?_; rintro e w' ⟨rfl, rfl⟩))
  refine (k4).mono ?_
  rintro e w5 ⟨rfl, h5, u5⟩
  have h5' : RowAt w5 a b [0, 0, 8] 4 := by
    have e5 : ([0, 0, 9] : List Int).set (2 : Int).toNat (addU (wd [0, 0, 9] (2 : Int).toNat) 18446744073709551615) = [0, 0, 8] := by decide +kernel
    rwa [e5] at h5
  go_wp2_with ((go_at_call 13; refine (num_any _ _).mono ?_; rintro e w' ⟨rfl, rfl⟩))
  refine (load_is h5' 2 8 0 5 (by omega) (by decide +kernel) (by decide +kernel)).mono ?_
  rintro e w6 ⟨rfl, h6, u6⟩
  go_wp2_with ((go_at_call 13; refine (num_any _ _).mono ?_; rintro e w' ⟨rfl, rfl⟩))
  refine (accesses_any h6).mono ?_
  rintro e w7 ⟨rfl, rfl⟩
  go_wp2
  have hs : ∀ x ∈ [a, b], x ∈ ([] : List Nat) ∨ w.heap.size ≤ x := by simp; omega
  have hs1 : ∀ x ∈ [a], x ∈ ([] : List Nat) ∨ w.heap.size ≤ x := by simp; omega
  exact ⟨rfl, ((((u1.tr u2 (by simp) hs).tr u3 (by simp) hs1).tr u4 (by simp) hs).tr u5 (by simp) hs).tr u6 (by simp) hs1⟩

theorem rLoad_zeros (n : Nat) (i : Int) (h0 : 0 ≤ i) (h1 : i < n) : rLoad (List.replicate n 0) i = (0, 0) := by
  have : i.toNat < n := by omega
  simp [rLoad, wd, List.getElem?_replicate, this, h1]
theorem rLoad_past (ws : List Int) (i : Int) (h1 : ws.length ≤ i) : rLoad ws i = (0, 4) := if_neg (by omega)

theorem names01_walk (w : World) : Calls Try.prog 3 #[] w fun e w' => e = .returned (.bool true) ∧ Upd [] w w' := by
  refine calls_all fun K hK => ?_
  go_enter Try.func3, Try.ntmps3
  go_wp2_with fail
  refine (new_row 65536 _ (by omega) (by omega)).mono ?_
  rintro e w1 ⟨a, b, rfl, h1, ha, hb, u1⟩
  go_wp2_with fail
  refine (new_bad 65537 _ (by omega)).mono ?_
  rintro e w2 ⟨rfl, rfl⟩
  go_wp2_with fail
  refine (new_bad 0 _ (by omega)).mono ?_
  rintro e w2 ⟨rfl, rfl⟩
  have l1 : rLoad (List.replicate 65536 0) 65535 = (0, 0) := rLoad_zeros _ _ (by omega) (by omega)
  have l2 : rLoad (List.replicate 65536 0) 65536 = (0, 4) := rLoad_past _ _ (by rw [List.length_replicate]; omega)
  have L1 := Lib.hid l1
  have L2 := Lib.hid l2
  clear l1 l2
  go_wp2_with ((go_at_call 13; refine (num_any _ _).mono ?_; rintro e w' ⟨rfl, rfl⟩))
  refine (load_is h1 65535 0 0 1 (by omega) L1.out (by decide +kernel)).mono ?_
  rintro e w3 ⟨rfl, h3, u3⟩
  go_wp2_with ((go_at_call 13; refine (num_any _ _).mono ?_; rintro e w' ⟨rfl, rfl⟩))
  refine (load_is h3 65536 0 4 2 (by omega) L2.out (by decide +kernel)).mono ?_
  rintro e w4 ⟨rfl, h4, u4⟩
  go_wp2_with ((go_at_call 13; refine (num_any _ _).mono ?_; rintro e w' ⟨rfl, rfl⟩))
  refine (known01 _).mono ?_
  rintro e w5 ⟨rfl, u5⟩
  go_wp2
  have hs1 : ∀ x ∈ [a], x ∈ ([] : List Nat) ∨ w.heap.size ≤ x := by simp; omega
  exact ⟨rfl, ((u1.tr u3 (by simp) hs1).tr u4 (by simp) hs1).trans u5⟩

end Go.Proofs.Ythjiiedpplimpaa
