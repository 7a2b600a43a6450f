/- The contracts of the row of cells, function by function: a row that is there. Each says what comes back, what the row holds then, and that nothing else has turned. The closed check that the statements of layer 1 (cells) end with, and CellsNames' walk. No condition. The row's Len, Has, Slice, Words, a row that is there. No condition. The contracts of the clock, function by function: a clock that is there. -/
import Derived.Test.YthfeljongackcaaT1p00
import Derived.Laws.CopyOwn
set_option linter.unusedSimpArgs false
set_option linter.unusedVariables false
set_option maxRecDepth 100000
namespace Go.Proofs.Ythfeljongackcaa
open Go.RowKit

/-- a row: its head's block a, its words' block b -/
structure RowAt (w : World) (a b : Nat) (ws : List Int) (acc : Int) : Prop where
  head : ∃ cap, Blk w a [.slice (some ⟨b, 0, none⟩) ws.length cap, .int .u64 acc] 111 ∧ ∃ spare : List Value, Blk w b (ws.map (Value.int .u64) ++ spare) 31 ∧ ws.length + spare.length = cap
  len1 : 1 ≤ ws.length
  len2 : ws.length ≤ 65536
  ne : a ≠ b

section
variable {w w' : World} {a b : Nat} {ws : List Int} {acc : Int}

theorem RowAt.lta (h : RowAt w a b ws acc) : a < w.heap.size := let ⟨_, h, _⟩ := h.head; h.lt
theorem RowAt.ltb (h : RowAt w a b ws acc) : b < w.heap.size := let ⟨_, _, _, h, _⟩ := h.head; h.lt
theorem RowAt.c1 (h : RowAt w a b ws acc) : w.cell? ⟨a, 1, none⟩ = some (.int .u64 acc) := let ⟨_, h, _⟩ := h.head; h.cell 1 rfl
theorem RowAt.c0 (h : RowAt w a b ws acc) : ∃ cap, w.cell? ⟨a, 0, none⟩ = some (.slice (some ⟨b, 0, none⟩) ws.length cap) := let ⟨cap, h, _⟩ := h.head; ⟨cap, h.cell 0 rfl⟩
theorem RowAt.fa (h : RowAt w a b ws acc) (o : Nat) : w.frozen? ⟨a, o, none⟩ = false := let ⟨_, h, _⟩ := h.head; h.free o
theorem RowAt.fb (h : RowAt w a b ws acc) (o : Nat) : w.frozen? ⟨b, o, none⟩ = false := let ⟨_, _, _, h, _⟩ := h.head; h.free o
theorem RowAt.cw (h : RowAt w a b ws acc) (i : Nat) (hi : i < ws.length) : w.cell? ⟨b, i, none⟩ = some (.int .u64 (wd ws i)) :=
  let ⟨_, _, _, h, _⟩ := h.head; h.cell i (by rw [List.getElem?_append_left (by simpa using hi)]; simp [hi, wd_get])
theorem RowAt.upd {S : List Nat} (h : RowAt w a b ws acc) (k : Upd S w w') (ha : a ∉ S) (hb : b ∉ S) : RowAt w' a b ws acc :=
  let ⟨cap, h1, sp, h2, h3⟩ := h.head; ⟨⟨cap, h1.upd k ha, sp, h2.upd k hb, h3⟩, h.len1, h.len2, h.ne⟩
theorem RowAt.below {B : Nat} (h : RowAt w a b ws acc) (k : Below B w w') (ha : a < B) (hb : b < B) : RowAt w' a b ws acc :=
  let ⟨cap, h1, sp, h2, h3⟩ := h.head; ⟨⟨cap, h1.below k ha, sp, h2.below k hb, h3⟩, h.len1, h.len2, h.ne⟩
theorem RowAt.acc' (h : RowAt w a b ws acc) (x : Int) : RowAt (w.setCell ⟨a, 1, none⟩ (.int .u64 x)) a b ws x :=
  let ⟨cap, h1, sp, h2, h3⟩ := h.head; ⟨⟨cap, h1.set 1 _, sp, h2.other _ _ h.ne.symm, h3⟩, h.len1, h.len2, h.ne⟩
theorem RowAt.put (h : RowAt w a b ws acc) (i : Nat) (hi : i < ws.length) (x : Int) : RowAt (w.setCell ⟨b, i, none⟩ (.int .u64 x)) a b (ws.set i x) acc :=
  let ⟨cap, h1, sp, h2, h3⟩ := h.head; ⟨⟨cap, by simpa using h1.other _ _ h.ne, sp, by have := h2.set i (.int .u64 x); rwa [List.set_append_left _ _ (by simpa using hi), ← List.map_set] at this, by simpa using h3⟩, by simpa using h.len1, by simpa using h.len2, h.ne⟩
theorem RowAt.out {t : TypeId} {c : Nat} {vs : List Value} (h : RowAt w a b ws acc) (k : Blk w c vs t) (h1 : vs.length = 1) (h2 : t ≠ 31 := by decide) : c ≠ a ∧ c ≠ b := by
  obtain ⟨cap, g1, sp, g2, _⟩ := h.head
  exact ⟨fun e => by subst e; have := (g1.inj k).1; subst this; simp at h1, fun e => by subst e; exact h2 (g2.inj k).2.symm⟩
end

def up64 (n : Int) : Int := IntKind.u64.wrap (n + 1)

theorem at_in {w : World} {a b : Nat} {ws : List Int} {acc : Int} (h : RowAt w a b ws acc) (i : Int) (hi : 0 ≤ i) (hi2 : i < ws.length) :
    Calls Try.prog 89 #[.pointer (some ⟨a, 0, none⟩), .int .u64 i] w fun e w' => e = .returned (.tuple #[.pointer (some ⟨b, i.toNat, none⟩), .int .i64 0]) ∧ w.setCell ⟨a, 1, none⟩ (.int .u64 (up64 acc)) = w' := by
  obtain ⟨cap, h0⟩ := h.c0
  have h1 := h.c1
  have hf := h.fa 1
  have hn := h.len2
  go_enter Try.func89, Try.ntmps89
  go_wp2
  go_ret2
  exact ⟨rfl, rfl⟩

theorem at_out {w : World} {a b : Nat} {ws : List Int} {acc : Int} (h : RowAt w a b ws acc) (i : Int) (hi2 : ws.length ≤ i) :
    Calls Try.prog 89 #[.pointer (some ⟨a, 0, none⟩), .int .u64 i] w fun e w' => e = .returned (.tuple #[.pointer none, .int .i64 4]) ∧ w.setCell ⟨a, 1, none⟩ (.int .u64 (up64 acc)) = w' := by
  obtain ⟨cap, h0⟩ := h.c0
  have h1 := h.c1
  have hf := h.fa 1
  have hn := h.len2
  have hd : decide (i < (ws.length : Int)) = false := by simpa using hi2
  go_enter Try.func89, Try.ntmps89
  go_wp2
  go_ret2
  exact ⟨rfl, rfl⟩

/-- what Load answers -/
def rLoad (ws : List Int) (i : Int) : Int × Int := if i < ws.length then (wd ws i.toNat, 0) else (0, 4)

theorem load_any {w : World} {a b : Nat} {ws : List Int} {acc : Int} (h : RowAt w a b ws acc) (i : Int) (hi : 0 ≤ i) :
    Calls Try.prog 50 #[.pointer (some ⟨a, 0, none⟩), .int .u64 i] w fun e w' => e = .returned (.tuple #[.int .u64 (rLoad ws i).1, .int .i64 (rLoad ws i).2]) ∧ RowAt w' a b ws (up64 acc) ∧ Upd [a] w w' := by
  have hu : Upd [a] w (w.setCell ⟨a, 1, none⟩ (.int .u64 (up64 acc))) := (Upd.refl _ _).setCell (.inl (by simp)) _
  have hr := h.acc' (up64 acc)
  by_cases hi2 : i < ws.length
  · have hc := h.cw i.toNat (by omega)
    have hne := h.ne
    have hx : rLoad ws i = (wd ws i.toNat, 0) := if_pos hi2
    have HX := Lib.hid hx
    clear hx
    go_enter Try.func50, Try.ntmps50
    go_wp2_with (go_at_call 89; refine (at_in h i hi hi2).mono ?_; rintro e w' ⟨rfl, rfl⟩)
    go_ret2
    rw [HX.out]
    exact ⟨rfl, hr, hu⟩
  · have hx : rLoad ws i = (0, 4) := if_neg hi2
    rw [hx]
    go_enter Try.func50, Try.ntmps50
    go_wp2_with (go_at_call 89; refine (at_out h i (by omega)).mono ?_; rintro e w' ⟨rfl, rfl⟩)
    go_ret2
    exact ⟨rfl, hr, hu⟩

theorem store_any {w : World} {a b : Nat} {ws : List Int} {acc : Int} (h : RowAt w a b ws acc) (i x : Int) (hi : 0 ≤ i) :
    Calls Try.prog 94 #[.pointer (some ⟨a, 0, none⟩), .int .u64 i, .int .u64 x] w fun e w' => e = .returned (.int .i64 (rLoad ws i).2) ∧ RowAt w' a b (ws.set i.toNat x) (up64 acc) ∧ Upd [a, b] w w' := by
  have hu : Upd [a, b] w (w.setCell ⟨a, 1, none⟩ (.int .u64 (up64 acc))) := (Upd.refl _ _).setCell (.inl (by simp)) _
  have hr := h.acc' (up64 acc)
  by_cases hi2 : i < ws.length
  · have hc := hr.cw i.toNat (by omega)
    have hf := hr.fb i.toNat
    have hx : rLoad ws i = (wd ws i.toNat, 0) := if_pos hi2
    have HX := Lib.hid hx
    clear hx
    go_enter Try.func94, Try.ntmps94
    go_wp2_with (go_at_call 89; refine (at_in h i hi hi2).mono ?_; rintro e w' ⟨rfl, rfl⟩)
    go_ret
    rw [HX.out]
    exact ⟨rfl, hr.put i.toNat (by omega) x, hu.setCell (.inl (by simp)) _⟩
  · have hx : rLoad ws i = (0, 4) := if_neg hi2
    rw [hx, List.set_eq_of_length_le (by omega)]
    go_enter Try.func94, Try.ntmps94
    go_wp2_with (go_at_call 89; refine (at_out h i (by omega)).mono ?_; rintro e w' ⟨rfl, rfl⟩)
    go_ret
    exact ⟨rfl, hr, hu⟩

/-- does a Swap hit? -/
def rHit (ws : List Int) (i old : Int) : Bool := decide (i < ws.length) && (wd ws i.toNat == old)

theorem swap_any {w : World} {a b : Nat} {ws : List Int} {acc : Int} (h : RowAt w a b ws acc) (i old x : Int) (hi : 0 ≤ i) :
    Calls Try.prog 118 #[.pointer (some ⟨a, 0, none⟩), .int .u64 i, .int .u64 old, .int .u64 x] w fun e w' =>
      e = .returned (.tuple #[.bool (rHit ws i old), .int .i64 (rLoad ws i).2]) ∧ RowAt w' a b (if rHit ws i old then ws.set i.toNat x else ws) (up64 acc) ∧ Upd [a, b] w w' := by
  have hu : Upd [a, b] w (w.setCell ⟨a, 1, none⟩ (.int .u64 (up64 acc))) := (Upd.refl _ _).setCell (.inl (by simp)) _
  have hr := h.acc' (up64 acc)
  by_cases hi2 : i < ws.length
  · have hc := hr.cw i.toNat (by omega)
    have hf := hr.fb i.toNat
    have hx : rLoad ws i = (wd ws i.toNat, 0) := if_pos hi2
    have hy : rHit ws i old = (wd ws i.toNat == old) := by simp [rHit, hi2]
    rw [hx, hy]
    clear hx hy
    obtain ⟨v, hv⟩ : ∃ v, v = wd ws i.toNat := ⟨_, rfl⟩
    rw [← hv] at hc ⊢
    clear hv
    by_cases ho : v = old
    · subst ho
      refine calls_to (R := fun e w' => e = .returned (.tuple #[.bool true, .int .i64 0]) ∧ (w.setCell ⟨a, 1, none⟩ (.int .u64 (up64 acc))).setCell ⟨b, i.toNat, none⟩ (.int .u64 x) = w') ?_
        (fun e w' ⟨he, hw⟩ => ⟨by rw [he]; simp, by rw [if_pos (by simp), ← hw]; exact hr.put i.toNat (by omega) x, by rw [← hw]; exact hu.setCell (.inl (by simp)) _⟩)
      have h2 : (v != v) = false := by simp
      go_enter Try.func118, Try.ntmps118
      go_wp2_with (go_at_call 89; refine (at_in h i hi hi2).mono ?_; rintro e w' ⟨rfl, rfl⟩)
      go_ret2
      exact ⟨rfl, rfl⟩
    · have h1 : (v == old) = false := by simp [ho]
      have h2 : (v != old) = true := by simp [ho]
      rw [h1]
      clear h1
      refine calls_to (R := fun e w' => e = .returned (.tuple #[.bool false, .int .i64 0]) ∧ w.setCell ⟨a, 1, none⟩ (.int .u64 (up64 acc)) = w') ?_
        (fun e w' ⟨he, hw⟩ => ⟨he, by rw [if_neg (by simp), ← hw]; exact hr, by rw [← hw]; exact hu⟩)
      go_enter Try.func118, Try.ntmps118
      go_wp2_with (go_at_call 89; refine (at_in h i hi hi2).mono ?_; rintro e w' ⟨rfl, rfl⟩)
      go_ret2
      exact ⟨rfl, rfl⟩
  · have hx : rLoad ws i = (0, 4) := if_neg hi2
    have hy : rHit ws i old = false := by simp [rHit, hi2]
    rw [hx, hy]
    go_enter Try.func118, Try.ntmps118
    go_wp2_with (go_at_call 89; refine (at_out h i (by omega)).mono ?_; rintro e w' ⟨rfl, rfl⟩)
    go_ret2
    exact ⟨rfl, hr, hu⟩

def addU (x y : Int) : Int := IntKind.u64.wrap (x + y)


theorem info_u64 : (Try.prog.info? 31).map (fun i => (i.zero, i.size, i.bytes)) = some (some (.int .u64 0), 1, 8) := by kernel_rfl

theorem new_ok (n : Nat) (w : World) (hn : 1 ≤ n) (hn2 : n ≤ 65536) :
    Calls Try.prog 10 #[.int .i64 n] w fun e w' => e = .returned (.tuple #[.pointer (some ⟨w.heap.size + 1, 0, none⟩), .int .i64 0]) ∧
      (w.alloc (.cells (zeros .u64 n) 31)).alloc (.cells #[.slice (some ⟨w.heap.size, 0, none⟩) n n, .int .u64 0] 111) = w' := by
  have hmk : ∀ w, (Instr.makeSlice 48 (.int .i64 n) (.int .i64 n)).run Try.prog w = .ok (.slice (some ⟨w.heap.size, 0, none⟩) n n) (w.alloc (.cells (zeros .u64 n) 31)) := by
    intro w
    obtain ⟨i0, hi, hz0, hz1, hz2⟩ := info_parts info_u64
    have h := run_make (P := Try.prog) w 48 31 i0 (.int .u64 0) Try.underlying48 hi hz0 .i64 .i64 n n (by omega) (by omega) (by rw [hz2]; omega) (by omega)
    rw [hz1] at h
    simp only [Int.toNat_natCast] at h
    rw [h, zeros_made]
  go_enter Try.func10, Try.ntmps10
  go_wp2
  go_ret2
  exact ⟨rfl, rfl⟩

theorem new_bad (n : Int) (w : World) (hn : n < 1 ∨ 65536 < n) :
    Calls Try.prog 10 #[.int .i64 n] w fun e w' => e = .returned (.tuple #[.pointer none, .int .i64 2]) ∧ w = w' := by
  rcases hn with hn | hn
  · have hd : decide (n < 1) = true := by simpa using hn
    go_enter Try.func10, Try.ntmps10
    go_wp2
    go_ret2
    exact ⟨rfl, rfl⟩
  · have hd : decide (n < 1) = false := by simp; omega
    have hd2 : decide (65536 < n) = true := by simpa using hn
    go_enter Try.func10, Try.ntmps10
    go_wp2
    go_ret2
    exact ⟨rfl, rfl⟩

theorem of_bad (p : Option Addr) (n cap : Nat) (w : World) (hn : n < 1 ∨ 65536 < n) (hm : n ≤ maxLen) :
    Calls Try.prog 19 #[.slice p n cap] w fun e w' => e = .returned (.tuple #[.pointer none, .int .i64 2]) ∧ w = w' := by
  unfold maxLen at hm
  go_enter Try.func19, Try.ntmps19
  go_wp2_with (go_at_call 10; refine (new_bad _ _ (by omega)).mono ?_; rintro e w' ⟨rfl, rfl⟩)
  go_ret2
  exact ⟨rfl, rfl⟩

/-- what a new row is -/
def MadeRow (w : World) (ws : List Int) (e : Ending) (w' : World) : Prop :=
  ∃ a b, e = .returned (.tuple #[.pointer (some ⟨a, 0, none⟩), .int .i64 0]) ∧ RowAt w' a b ws 0 ∧ w.heap.size ≤ a ∧ w.heap.size ≤ b ∧ Upd [] w w'

theorem made_row (w : World) (zs : List Int) (hn : 1 ≤ zs.length) (hn2 : zs.length ≤ 65536) :
    RowAt (((w.alloc (.cells (zeros .u64 zs.length) 31)).alloc (.cells #[.slice (some ⟨w.heap.size, 0, none⟩) zs.length zs.length, .int .u64 0] 111)).setRow w.heap.size (zs.map (Value.int .u64)).toArray) (w.heap.size + 1) w.heap.size zs 0 := by
  have h0 : Blk (w.alloc (.cells (zeros .u64 zs.length) 31)) w.heap.size ((List.replicate zs.length (0 : Int)).map (Value.int .u64)) 31 := Blk.new w _ _
  have h1 : Blk ((w.alloc (.cells (zeros .u64 zs.length) 31)).alloc (.cells #[.slice (some ⟨w.heap.size, 0, none⟩) zs.length zs.length, .int .u64 0] 111)) (w.heap.size + 1) [.slice (some ⟨w.heap.size, 0, none⟩) zs.length zs.length, .int .u64 0] 111 := by
    have := Blk.new (w.alloc (.cells (zeros .u64 zs.length) 31)) [.slice (some ⟨w.heap.size, 0, none⟩) zs.length zs.length, .int .u64 0] 111
    simpa using this
  have h2 := (h0.alloc (.cells #[.slice (some ⟨w.heap.size, 0, none⟩) zs.length zs.length, .int .u64 0] 111)).setRow (zs.map (Value.int .u64))
  refine ⟨⟨zs.length, ?_, [], by simpa using h2, by simp⟩, hn, hn2, by omega⟩
  exact h1.same (setRow_other _ _ _ _ (by omega))

theorem of_ok (p : Option Addr) (cap : Nat) (zs : List Int) (w : World) (h : SlI w .u64 p zs) (hn : 1 ≤ zs.length) (hn2 : zs.length ≤ 65536) :
    Calls Try.prog 19 #[.slice p zs.length cap] w (MadeRow w zs) := by
  have hz : zs ≠ [] := fun e => by subst e; simp at hn
  refine calls_to (R := fun e w' => e = .returned (.tuple #[.pointer (some ⟨w.heap.size + 1, 0, none⟩), .int .i64 0]) ∧
    (((w.alloc (.cells (zeros .u64 zs.length) 31)).alloc (.cells #[.slice (some ⟨w.heap.size, 0, none⟩) zs.length zs.length, .int .u64 0] 111)).setRow w.heap.size (zs.map (Value.int .u64)).toArray) = w') ?_
    (fun e w' ⟨he, hw⟩ => ⟨w.heap.size + 1, w.heap.size, he, by rw [← hw]; exact made_row w zs hn hn2, by omega, by omega, by rw [← hw]; exact (((Upd.refl _ _).alloc _).alloc _).setRow (.inr (by omega)) _⟩)
  obtain ⟨ad, hp, hsrc⟩ := h.src hz
  subst hp
  have hcp := run_copy_row (P := Try.prog) ((w.alloc (.cells (zeros .u64 zs.length) 31)).alloc (.cells #[.slice (some ⟨w.heap.size, 0, none⟩) zs.length zs.length, .int .u64 0] 111)) 48 48 3 31 w.heap.size 0 zs.length zs.length ad zs.length cap
    (zeros .u64 zs.length) 31 (zs.map (Value.int .u64)) Try.underlying48 (by obtain ⟨i0, hi, hz0, hz1, hz2⟩ := info_parts info_u64; rw [hi]; simp [hz1])
    (((Blk.new w ((List.replicate zs.length (0 : Int)).map (Value.int .u64)) 31).alloc _)) (by simp)
    (fun j v hj => by
      have hc := hsrc j v hj
      have hb := World.block_lt_of_cell? w _ hc
      rw [World.cell?_alloc_lt _ _ _ (by simp; omega), World.cell?_alloc_lt _ _ _ hb]
      exact hc)
    (by simp [zeros]) (fun v hv => by simp at hv; obtain ⟨x, _, rfl⟩ := hv; rfl)
  go_enter Try.func19, Try.ntmps19
  go_wp2_with (go_at_call 10; refine (new_ok _ _ (by omega) (by omega)).mono ?_; rintro e w' ⟨rfl, rfl⟩)
  go_ret2
  exact ⟨rfl, by simp [zeros]⟩

theorem made_true {w : World} {a b : Nat} {ws : List Int} {acc : Int} (h : RowAt w a b ws acc) :
    Calls Try.prog 76 #[.pointer (some ⟨a, 0, none⟩)] w fun e w' => e = .returned (.bool true) ∧ w = w' := by
  obtain ⟨cap, h0⟩ := h.c0
  go_enter Try.func76, Try.ntmps76
  go_wp2
  go_ret
  exact ⟨rfl, rfl⟩

/-- a slice in new memory that reads so -/
def MadeInts (w : World) (zs : List Int) (e : Ending) (w' : World) : Prop :=
  ∃ g spare, e = .returned (.slice (some ⟨g, 0, none⟩) zs.length (zs.length + List.length spare)) ∧ (w.heap.size ≤ g ∧ zs.length + List.length spare ≤ maxLen) ∧ Blk w' g (zs.map (Value.int .u64) ++ spare) 31 ∧ Upd [] w w'

theorem clone_ok (ad : Addr) (cap : Nat) (zs : List Int) (w : World) (h : SlI w .u64 (some ad) zs) (hn : zs.length * 8 ≤ 140737488355328) :
    Calls Try.prog 116 #[.slice (some ad) zs.length cap] w (MadeInts w zs) := by
  obtain ⟨i0, hi, hz0, hz1, hz2⟩ := info_parts info_u64
  have hnil : ∀ (w : World) (ad : Addr) (n c : Nat), (binOp .eql 48 (.slice (some ad) n c) (.slice none 0 0)).run Try.prog w = .ok (.bool false) w := fun w ad n c => Lib.run_eql_slice_nil w _ _ (some ad) n c 0 0 Try.underlying48
  by_cases hz : zs = []
  · subst hz
    refine calls_to (R := fun e w' => e = .returned (.slice (some ⟨w.heap.size, 0, none⟩) 0 0) ∧ (w.alloc (.cells #[] 31)) = w') ?_
      (fun e w' ⟨he, hw⟩ => ⟨w.heap.size, [], he, ⟨by omega, by simp [maxLen]⟩, by rw [← hw]; exact Blk.new w [] _, by rw [← hw]; exact (Upd.refl _ _).alloc _⟩)
    have hr := run_append_room (P := Try.prog) (w.alloc (.cells #[] 31)) 48 48 31 i0 Try.underlying48 hi w.heap.size 0 0 #[] (heap_alloc_new w _) ad 0 cap [] (by simp) (by simp) (by simp) (by simp) (by simp)
    have hsr : (w.alloc (.cells #[] 31)).setRow w.heap.size #[] = w.alloc (.cells #[] 31) := setRow_self _ _ _ _ _ (heap_alloc_new w _)
    simp only [List.take_nil, List.drop_nil, List.append_nil, Nat.add_zero, Nat.zero_mul, List.length_nil] at hr
    rw [hsr] at hr
    go_enter Try.func116, Try.ntmps116
    go_wp2_with (at_builtin; refine wpList_append_eq rfl _ _ _ _ rfl _ _ _ rfl rfl hr ?_)
    go_ret
    exact ⟨rfl, rfl⟩
  · obtain ⟨ad', e, hsrc⟩ := h.src hz
    cases e
    have hpos : 0 < zs.length := List.length_pos_iff.2 hz
    have hcap : grownCap (w.alloc (.cells #[] 31)) (0 + zs.length) 0 31 ≥ zs.length := by have := grownCap_ge (w.alloc (.cells #[] 31)) (0 + zs.length) 0 31; omega
    have hr := run_append_grow (P := Try.prog) (w.alloc (.cells #[] 31)) 48 48 31 i0 (.int .u64 0) Try.underlying48 hi hz0 ⟨w.heap.size, 0, none⟩ 0 0 [] (by simp) (by simp) ad zs.length cap (zs.map (Value.int .u64)) (by simp [hz1])
      (fun j v hj => by
        have hc := hsrc j v hj
        rw [World.cell?_alloc_lt _ _ _ (World.block_lt_of_cell? w _ hc)]
        exact hc) (by omega) (by omega) (growslice_fits (by omega) (by rw [hz2]; omega))
    have hcapm : grownCap (w.alloc (.cells #[] 31)) (0 + zs.length) 0 31 ≤ maxLen := grownCap_le_maxLen _ _ _ _ (by unfold maxLen; omega)
    obtain ⟨cp, hcp⟩ : ∃ cp, cp = grownCap (w.alloc (.cells #[] 31)) (0 + zs.length) 0 31 := ⟨_, rfl⟩
    rw [← hcp] at hr hcap hcapm
    clear hcp
    obtain ⟨C, hC⟩ : ∃ C : Array Value, C = (List.toArray [] ++ (zs.map (Value.int .u64)).toArray ++ Builtin.zeroCells (Value.int .u64 0).cells (cp - (0 + zs.length))) := ⟨_, rfl⟩
    rw [← hC] at hr
    have hC2 : C = (zs.map (Value.int .u64) ++ (Builtin.zeroCells (Value.int .u64 0).cells (cp - zs.length)).toList).toArray := by rw [hC]; apply Array.ext'; simp
    clear hC
    simp only [Nat.zero_add, World.size_alloc] at hr
    refine calls_to (R := fun e w' => e = .returned (.slice (some ⟨w.heap.size + 1, 0, none⟩) zs.length cp) ∧ (((w.alloc (.cells #[] 31)).alloc (.cells C 31)).drew) = w') ?_
      (fun e w' ⟨he, hw⟩ => ⟨w.heap.size + 1, (Builtin.zeroCells (Value.int .u64 0).cells (cp - zs.length)).toList, by
        rw [he]; congr 2
        have : (Builtin.zeroCells (Value.int .u64 0).cells (cp - zs.length)).size = (cp - zs.length) * 1 := size_zeroCells _ _
        simp at this; simp [this]; omega, ⟨by omega, by
        have : (Builtin.zeroCells (Value.int .u64 0).cells (cp - zs.length)).size = (cp - zs.length) * 1 := size_zeroCells _ _
        simp at this; simp [this]; omega⟩, by rw [← hw, hC2]; have := Blk.new (w.alloc (.cells #[] 31)) (zs.map (Value.int .u64) ++ (Builtin.zeroCells (Value.int .u64 0).cells (cp - zs.length)).toList) 31; simp only [World.size_alloc] at this; exact this.drew,
        by rw [← hw]; exact ((Upd.refl _ _).alloc _ |>.alloc _).drew⟩)
    clear hC2
    go_enter Try.func116, Try.ntmps116
    go_wp2_with (at_builtin; refine wpList_append_eq rfl _ _ _ _ rfl _ _ _ rfl rfl hr ?_)
    go_ret
    exact ⟨rfl, rfl⟩


end Go.Proofs.Ythfeljongackcaa
set_option linter.unusedSimpArgs false
set_option linter.unusedVariables false
set_option maxRecDepth 100000
namespace Go.Proofs.Ythfeljongackcaa
open Go.RowKit



theorem new_row (n : Nat) (w : World) (hn : 1 ≤ n) (hn2 : n ≤ 65536) :
    Calls Try.prog 10 #[.int .i64 n] w (MadeRow w (List.replicate n 0)) := by
  refine (new_ok n w hn hn2).mono fun e w' ⟨he, hw⟩ => ⟨w.heap.size + 1, w.heap.size, he, ?_, by omega, by omega, by rw [← hw]; exact ((Upd.refl _ _).alloc _).alloc _⟩
  subst hw
  have h0 : Blk (w.alloc (.cells (zeros .u64 n) 31)) w.heap.size ((List.replicate n (0 : Int)).map (Value.int .u64)) 31 := Blk.new w _ _
  have h1 : Blk ((w.alloc (.cells (zeros .u64 n) 31)).alloc (.cells #[.slice (some ⟨w.heap.size, 0, none⟩) n n, .int .u64 0] 111)) (w.heap.size + 1) [.slice (some ⟨w.heap.size, 0, none⟩) n n, .int .u64 0] 111 := by
    have := Blk.new (w.alloc (.cells (zeros .u64 n) 31)) [.slice (some ⟨w.heap.size, 0, none⟩) n n, .int .u64 0] 111
    simpa using this
  exact ⟨⟨n, by simpa using h1, [], by simpa using h0.alloc _, by simp⟩, by simpa using hn, by simpa using hn2, by omega⟩

/-- the same at given values -/
theorem load_is {w : World} {a b : Nat} {ws : List Int} {acc : Int} (h : RowAt w a b ws acc) (i v e0 acc' : Int) (hi : 0 ≤ i) (hv : rLoad ws i = (v, e0)) (ha : up64 acc = acc') :
    Calls Try.prog 50 #[.pointer (some ⟨a, 0, none⟩), .int .u64 i] w fun e w' => e = .returned (.tuple #[.int .u64 v, .int .i64 e0]) ∧ RowAt w' a b ws acc' ∧ Upd [a] w w' := by
  have k := load_any h i hi
  rw [hv, ha] at k
  exact k
theorem store_is {w : World} {a b : Nat} {ws : List Int} {acc : Int} (h : RowAt w a b ws acc) (i x e0 acc' : Int) (ws' : List Int) (hi : 0 ≤ i) (hv : (rLoad ws i).2 = e0) (hs : ws.set i.toNat x = ws') (ha : up64 acc = acc') :
    Calls Try.prog 94 #[.pointer (some ⟨a, 0, none⟩), .int .u64 i, .int .u64 x] w fun e w' => e = .returned (.int .i64 e0) ∧ RowAt w' a b ws' acc' ∧ Upd [a, b] w w' := by
  have k := store_any h i x hi
  rw [hv, hs, ha] at k
  exact k


theorem rLoad_zeros (n : Nat) (i : Int) (h0 : 0 ≤ i) (h1 : i < n) : rLoad (List.replicate n 0) i = (0, 0) := by
  have : i.toNat < n := by omega
  simp [rLoad, wd, List.getElem?_replicate, this, h1]
theorem rLoad_past (ws : List Int) (i : Int) (h1 : ws.length ≤ i) : rLoad ws i = (0, 4) := if_neg (by omega)


end Go.Proofs.Ythfeljongackcaa
set_option linter.unusedSimpArgs false
set_option linter.unusedVariables false
set_option maxRecDepth 100000
namespace Go.Proofs.Ythfeljongackcaa
open Go.RowKit

theorem len_row {w : World} {a b : Nat} {ws : List Int} {acc : Int} (h : RowAt w a b ws acc) :
    Calls Try.prog 41 #[.pointer (some ⟨a, 0, none⟩)] w fun e w' => e = .returned (.int .i64 ws.length) ∧ w = w' := by
  obtain ⟨cap, h0⟩ := h.c0
  have hn := h.len2
  refine calls_all fun K hK => ?_
  go_enter Try.func41, Try.ntmps41
  go_wp2
  all_goals exact ⟨rfl, rfl⟩

theorem has_row {w : World} {a b : Nat} {ws : List Int} {acc : Int} (h : RowAt w a b ws acc) (i : Int) :
    Calls Try.prog 46 #[.pointer (some ⟨a, 0, none⟩), .int .u64 i] w fun e w' => e = .returned (.bool (decide (i < ws.length))) ∧ w = w' := by
  obtain ⟨cap, h0⟩ := h.c0
  have hn := h.len2
  refine calls_all fun K hK => ?_
  go_enter Try.func46, Try.ntmps46
  go_wp2
  all_goals exact ⟨rfl, rfl⟩

/-- what Slice answers where it answers words -/
def SliceOk (w : World) (zs : List Int) (e : Ending) (w' : World) : Prop :=
  ∃ g spare, e = .returned (.tuple #[.slice (some ⟨g, 0, none⟩) zs.length (zs.length + List.length spare), .int .i64 0]) ∧ (w.heap.size ≤ g ∧ zs.length + List.length spare ≤ maxLen) ∧ Blk w' g (zs.map (Value.int .u64) ++ spare) 31 ∧ Upd [] w w'

theorem slice_row_ok {w : World} {a b : Nat} {ws : List Int} {acc : Int} (h : RowAt w a b ws acc) (x y : Nat) (hxy : x ≤ y) (hy : y ≤ ws.length) :
    Calls Try.prog 90 #[.pointer (some ⟨a, 0, none⟩), .int .u64 x, .int .u64 y] w (SliceOk w ((ws.drop x).take (y - x))) := by
  obtain ⟨cap, hb, sp, hb2, hcap⟩ := h.head
  have h0 := hb.cell 0 rfl
  have hn := h.len2
  have d1 : decide (y < x) = false := by simp; omega
  have d2 : decide (ws.length < y) = false := by simp; omega
  have hl : ((ws.drop x).take (y - x)).length = y - x := by simp; omega
  have hx : (0 : Int) ≤ (x : Int) := by omega
  have hy0 : (0 : Int) ≤ (y : Int) := by omega
  have hcy : (y : Int) ≤ (cap : Int) := by omega
  have hsl : ∀ p, SlI w .u64 p ([] : List Int) := fun p => SlI.nil _ _ _
  by_cases hz : x = y
  · subst hz
    rw [Nat.sub_self, List.take_zero]
    refine calls_all fun K hK => ?_
    go_enter Try.func90, Try.ntmps90
    go_wp2_with fail
    refine (made_true h).mono ?_
    rintro e w' ⟨rfl, rfl⟩
    go_wp2_with fail
    refine (clone_ok _ _ [] _ (hsl _) (by simp)).mono ?_
    rintro e w' ⟨g, spare, rfl, hg, hb', hu⟩
    go_wp2
    exact ⟨g, spare, by simp, hg, hb', hu⟩
  · have hs : SlI w .u64 (some ⟨b, x, none⟩) ((ws.drop x).take (y - x)) := by
      refine ⟨fun _ => ⟨b, x, rfl⟩, fun b' o e i hi => ?_⟩
      simp at e
      obtain ⟨rfl, rfl⟩ := e
      rw [hl] at hi
      refine hb2.cell _ ?_
      rw [List.getElem?_append_left (by simp; omega), wd_get (by rw [hl]; exact hi)]
      simp
    have HS := Lib.hid (clone_ok _ (y - x) _ _ hs (by rw [hl]; omega))
    rw [hl] at HS
    have hlt : (x : Int) < (y : Int) := by omega
    refine calls_all fun K hK => ?_
    go_enter Try.func90, Try.ntmps90
    go_wp2_with fail
    refine (made_true h).mono ?_
    rintro e w' ⟨rfl, rfl⟩
    go_wp2_with fail
    refine (HS.out).mono ?_
    rintro e w' ⟨g, spare, rfl, hg, hb', hu⟩
    rw [hl]
    go_wp2
    exact ⟨g, spare, by rw [hl]; rfl, hg, hb', hu⟩

theorem slice_row_arg {w : World} {a b : Nat} {ws : List Int} {acc : Int} (h : RowAt w a b ws acc) (x y : Int) (hxy : y < x) :
    Calls Try.prog 90 #[.pointer (some ⟨a, 0, none⟩), .int .u64 x, .int .u64 y] w fun e w' => e = .returned (.tuple #[.slice none 0 0, .int .i64 2]) ∧ w = w' := by
  have d1 : decide (y < x) = true := by simp; omega
  refine calls_all fun K hK => ?_
  go_enter Try.func90, Try.ntmps90
  go_wp2_with fail
  refine (made_true h).mono ?_
  rintro e w' ⟨rfl, rfl⟩
  go_wp2
  all_goals exact ⟨rfl, rfl⟩

theorem slice_row_range {w : World} {a b : Nat} {ws : List Int} {acc : Int} (h : RowAt w a b ws acc) (x y : Int) (hxy : x ≤ y) (hy : ws.length < y) :
    Calls Try.prog 90 #[.pointer (some ⟨a, 0, none⟩), .int .u64 x, .int .u64 y] w fun e w' => e = .returned (.tuple #[.slice none 0 0, .int .i64 4]) ∧ w = w' := by
  obtain ⟨cap, h0⟩ := h.c0
  have hn := h.len2
  have d1 : decide (y < x) = false := by simp; omega
  have d2 : decide ((ws.length : Int) < y) = true := by simp; omega
  refine calls_all fun K hK => ?_
  go_enter Try.func90, Try.ntmps90
  go_wp2_with fail
  refine (made_true h).mono ?_
  rintro e w' ⟨rfl, rfl⟩
  go_wp2
  all_goals exact ⟨rfl, rfl⟩

theorem words_row {w : World} {a b : Nat} {ws : List Int} {acc : Int} (h : RowAt w a b ws acc) :
    Calls Try.prog 52 #[.pointer (some ⟨a, 0, none⟩)] w (MadeInts w ws) := by
  have HS := Lib.hid (slice_row_ok h 0 ws.length (by omega) (by omega))
  have hn := h.len2
  rw [List.drop_zero, Nat.sub_zero, List.take_length] at HS
  refine calls_all fun K hK => ?_
  go_enter Try.func52, Try.ntmps52
  go_wp2_with fail
  refine (len_row h).mono ?_
  rintro e w' ⟨rfl, rfl⟩
  go_wp2_with fail
  refine (HS.out).mono ?_
  rintro e w' ⟨g, spare, rfl, hg, hb', hu⟩
  go_wp2
  exact ⟨g, spare, rfl, hg, hb', hu⟩

end Go.Proofs.Ythfeljongackcaa
set_option linter.unusedSimpArgs false
set_option linter.unusedVariables false
set_option maxRecDepth 100000
namespace Go.Proofs.Ythfeljongackcaa
open Go.RowKit

/-- a clock: its own block c, its row's blocks a and b -/
structure ClockAt (w : World) (c a b : Nat) (word steps : Int) : Prop where
  head : Blk w c [.pointer (some ⟨a, 0, none⟩), .int .i64 steps] 137
  row : ∃ acc, RowAt w a b [word] acc
  nea : c ≠ a
  neb : c ≠ b

section
variable {w w' : World} {c a b : Nat} {word steps : Int}
theorem ClockAt.upd {S : List Nat} (h : ClockAt w c a b word steps) (k : Upd S w w') (hc : c ∉ S) (ha : a ∉ S) (hb : b ∉ S) : ClockAt w' c a b word steps :=
  ⟨h.head.upd k hc, let ⟨acc, r⟩ := h.row; ⟨acc, r.upd k ha hb⟩, h.nea, h.neb⟩
theorem ClockAt.below {B : Nat} (h : ClockAt w c a b word steps) (k : Below B w w') (hc : c < B) (ha : a < B) (hb : b < B) : ClockAt w' c a b word steps :=
  ⟨h.head.below k hc, let ⟨acc, r⟩ := h.row; ⟨acc, r.below k ha hb⟩, h.nea, h.neb⟩
theorem ClockAt.ltc (h : ClockAt w c a b word steps) : c < w.heap.size := h.head.lt
theorem ClockAt.lta (h : ClockAt w c a b word steps) : a < w.heap.size := let ⟨_, r⟩ := h.row; r.lta
theorem ClockAt.ltb (h : ClockAt w c a b word steps) : b < w.heap.size := let ⟨_, r⟩ := h.row; r.ltb
theorem ClockAt.drew (h : ClockAt w c a b word steps) : ClockAt w.drew c a b word steps := h.upd ((Upd.refl [] _).drew) (by simp) (by simp) (by simp)
end

theorem none_false (c : Nat) (a : Addr) (w : World) (h : w.cell? ⟨c, 0, none⟩ = some (.pointer (some a))) :
    Calls Try.prog 77 #[.pointer (some ⟨c, 0, none⟩)] w fun e w' => e = .returned (.bool false) ∧ w = w' := by
  go_enter Try.func77, Try.ntmps77
  go_wp2
  go_ret
  exact ⟨rfl, rfl⟩

theorem step_d (c : Nat) (n : Int) (u : FrameMode) (w : World) (h : w.cell? ⟨c, 1, none⟩ = some (.int .i64 n)) (hf : w.frozen? ⟨c, 1, none⟩ = false):
    CallsD Try.prog 78 #[.pointer (some ⟨c, 0, none⟩)] u w fun e u' w' => u' = u ∧ e = .returned (.tuple #[]) ∧ w.setCell ⟨c, 1, none⟩ (.int .i64 (wrap64 (n + 1))) = w' := by
  go_enter_d Try.func78, Try.ntmps78
  go_wp2
  go_end0
  exact ⟨rfl, rfl⟩

theorem ClockAt.stepped {w : World} {c a b : Nat} {word steps : Int} (h : ClockAt w c a b word steps) (n : Int) : ClockAt (w.setCell ⟨c, 1, none⟩ (.int .i64 n)) c a b word n :=
  ⟨h.head.set 1 _, let ⟨acc, r⟩ := h.row; ⟨acc, r.upd ((Upd.refl [c] _).setCell (.inl (by simp)) _) (by simpa using h.nea.symm) (by simpa using h.neb.symm)⟩, h.nea, h.neb⟩

/-- is a word even? (as the program asks it) -/
def opn (n : Int) : Bool := bits BinOp.and IntKind.u64 n 1 == 0

theorem opn_eq {n : Int} (h0 : 0 ≤ n) (h1 : n < 18446744073709551616) : opn n = decide (n % 2 = 0) := by
  unfold opn
  rw [u64_and n 1 h0 h1 (by omega) (by omega)]
  have : n.toNat &&& (1 : Int).toNat = n.toNat % 2 := nat_mask1 _
  rw [this, Bool.eq_iff_iff]
  simp
  omega

theorem open_any (n : Int) (w : World) :
    Calls Try.prog 43 #[.int .u64 n] w fun e w' => e = .returned (.bool (opn n)) ∧ w = w' := by
  go_enter Try.func43, Try.ntmps43
  go_wp2
  go_ret
  exact ⟨rfl, rfl⟩

/-- the same clock's block behind a step on its row -/
theorem ClockAt.mid {w w' : World} {c a b : Nat} {word word' steps acc' : Int} (h : ClockAt w c a b word steps) (r : RowAt w' a b [word'] acc') (u : Upd [a, b] w w') : ClockAt w' c a b word' steps :=
  ⟨h.head.upd u (by simp [h.nea, h.neb]), ⟨_, r⟩, h.nea, h.neb⟩

theorem clkLoad {w : World} {c a b : Nat} {word steps : Int} (h : ClockAt w c a b word steps) :
    Calls Try.prog 42 #[.pointer (some ⟨c, 0, none⟩)] w fun e w' => e = .returned (.tuple #[.int .u64 word, .int .i64 0]) ∧ ClockAt w' c a b word (wrap64 (steps + 1)) ∧ Upd [c, a, b] w w' := by
  obtain ⟨acc, r⟩ := h.row
  have h0 := h.head.cell 0 rfl
  refine calls_all fun K hK => ?_
  go_enter_defers Try.func42, Try.ntmps42
  go_wp2_with (first | (go_at_call 77; refine (none_false _ _ _ h0).mono ?_; rintro e w' ⟨rfl, rfl⟩) | (go_at_call 50; refine (load_any r 0 (by omega)).mono ?_; rintro e w' ⟨rfl, r1, u1⟩))
  have u2 : Upd [a, b] w w' := u1.mono (T := [a, b]) (by simp)
  have k := h.mid r1 u2
  refine leaves_cons (f := 78) (args := #[.pointer (some ⟨c, 0, none⟩)]) (by simp) (by simp [go_sem]) ?_
  refine (step_d c steps .returning _ (k.head.cell 1 rfl) (k.head.free 1)).mono ?_
  rintro e u' w'' ⟨rfl, rfl, rfl⟩
  exact ⟨_, results_tmp2 rfl _ _ _, hK _ _ ⟨rfl, k.stepped _, (u2.mono (T := [c, a, b]) (by simp)).setCell (.inl (by simp)) _⟩⟩

/-- what a Leave or Back answers, and leaves -/
def heldRes (b : Bool) : Int := if b then 0 else 160
def heldWord (b : Bool) (x word : Int) : Int := if b then x else word

/-- does a Take take it? -/
def takes (word s : Int) : Bool := opn s && (word == s)

theorem clkTake {w : World} {c a b : Nat} {word steps : Int} (hC : ClockAt w c a b word steps) (s : Int) :
    Calls Try.prog 96 #[.pointer (some ⟨c, 0, none⟩), .int .u64 s] w fun e w' =>
      e = .returned (.tuple #[.bool (takes word s), .int .i64 0]) ∧ ClockAt w' c a b (heldWord (takes word s) (up64 s) word) (wrap64 (steps + 1)) ∧ Upd [c, a, b] w w' := by
  obtain ⟨acc, r⟩ := hC.row
  have h0 := hC.head.cell 0 rfl
  by_cases ho : opn s = true
  · have ht : takes word s = rHit [word] 0 s := by simp [takes, ho, rHit, wd]
    rw [ht]
    refine calls_to (R := fun e w' => e = .returned (.tuple #[.bool (rHit [word] 0 s), .int .i64 (rLoad [word] 0).2]) ∧ ∃ w1, (RowAt w1 a b (if rHit [word] 0 s then [word].set (0 : Int).toNat (up64 s) else [word]) (up64 acc) ∧ Upd [a, b] w w1) ∧ w1.setCell ⟨c, 1, none⟩ (.int .i64 (wrap64 (steps + 1))) = w') ?_
      (fun e w' ⟨he, w1, ⟨r1, u1⟩, hw⟩ => ⟨he, by
        rw [← hw]
        generalize rHit [word] 0 s = hit at *
        cases hit <;> exact (hC.mid r1 u1).stepped _, by rw [← hw]; exact (u1.mono (T := [c, a, b]) (by simp)).setCell (.inl (by simp)) _⟩)
    refine calls_all fun K hK => ?_
    go_enter_defers Try.func96, Try.ntmps96
    go_wp2_with (first | (go_at_call 77; refine (none_false _ _ _ h0).mono ?_; rintro e w' ⟨rfl, rfl⟩) | (go_at_call 43; refine (open_any _ _).mono ?_; rintro e w' ⟨rfl, rfl⟩) | (go_at_call 118; refine (swap_any r 0 _ _ (by omega)).mono ?_; rintro e w' ⟨rfl, r1, u1⟩))
    have k := hC.head.upd u1 (by simp [hC.nea, hC.neb])
    refine leaves_cons (f := 78) (args := #[.pointer (some ⟨c, 0, none⟩)]) (by simp) (by simp [go_sem]) ?_
    refine (step_d c steps .returning _ (k.cell 1 rfl) (k.free 1)).mono ?_
    rintro e u' w'' ⟨rfl, rfl, rfl⟩
    exact ⟨_, results_tmp2 rfl _ _ _, hK _ _ ⟨rfl, w', ⟨r1, u1⟩, rfl⟩⟩
  · have ho' : opn s = false := by simpa using ho
    have ht : takes word s = false := by simp [takes, ho']
    rw [ht]
    show Calls _ _ _ _ fun e w' => e = .returned (.tuple #[.bool false, .int .i64 0]) ∧ ClockAt w' c a b word (wrap64 (steps + 1)) ∧ Upd [c, a, b] w w'
    have hs := hC.head.cell 1 rfl
    have hf := hC.head.free 1
    have k := hC.stepped (wrap64 (steps + 1))
    have ku : Upd [c, a, b] w (w.setCell ⟨c, 1, none⟩ (.int .i64 (wrap64 (steps + 1)))) := (Upd.refl _ _).setCell (.inl (by simp)) _
    refine calls_all fun K hK => ?_
    go_enter_defers Try.func96, Try.ntmps96
    go_wp2_with (first | (go_at_call 77; refine (none_false _ _ _ h0).mono ?_; rintro e w' ⟨rfl, rfl⟩) | (go_at_call 43; refine (open_any _ _).mono ?_; rintro e w' ⟨rfl, rfl⟩))
    refine leaves_cons (f := 78) (args := #[.pointer (some ⟨c, 0, none⟩)]) (by simp) (by simp [go_sem]) ?_
    refine (step_d c steps .returning _ hs hf).mono ?_
    rintro e u' w'' ⟨rfl, rfl, rfl⟩
    exact ⟨_, results_tmp2 rfl _ _ _, hK _ _ ⟨rfl, k, ku⟩⟩

/-- is it held at s? -/
def holds (word s : Int) : Bool := opn s && (word == up64 s)

theorem clkSet {w : World} {c a b : Nat} {word steps : Int} (hC : ClockAt w c a b word steps) (s x : Int) :
    Calls Try.prog 119 #[.pointer (some ⟨c, 0, none⟩), .int .u64 s, .int .u64 x] w fun e w' =>
      e = .returned (.int .i64 (heldRes (holds word s))) ∧ ClockAt w' c a b (heldWord (holds word s) x word) (wrap64 (steps + 1)) ∧ Upd [c, a, b] w w' := by
  obtain ⟨acc, r⟩ := hC.row
  have h0 := hC.head.cell 0 rfl
  by_cases ho : opn s = true
  · have ht : holds word s = rHit [word] 0 (up64 s) := by simp [holds, ho, rHit, wd]
    rw [ht]
    obtain ⟨hit, hh⟩ : ∃ hit, hit = rHit [word] 0 (up64 s) := ⟨_, rfl⟩
    have sw := swap_any r 0 (up64 s) x (by omega)
    rw [← hh] at sw ⊢
    have SW := Lib.hid sw
    clear sw hh ht
    refine calls_to (R := fun e w' => e = .returned (.int .i64 (heldRes hit)) ∧ ∃ w1, (RowAt w1 a b (if hit then [word].set (0 : Int).toNat x else [word]) (up64 acc) ∧ Upd [a, b] w w1) ∧ w1.setCell ⟨c, 1, none⟩ (.int .i64 (wrap64 (steps + 1))) = w') ?_
      (fun e w' ⟨he, w1, ⟨r1, u1⟩, hw⟩ => ⟨he, by
        rw [← hw]
        by_cases hh : hit = true
        · subst hh; exact (hC.mid r1 u1).stepped _
        · simp at hh; subst hh; exact (hC.mid r1 u1).stepped _, by rw [← hw]; exact (u1.mono (T := [c, a, b]) (by simp)).setCell (.inl (by simp)) _⟩)
    cases hit
    all_goals
      refine calls_all fun K hK => ?_
      go_enter_defers Try.func119, Try.ntmps119
      go_wp2_with (first | (go_at_call 77; refine (none_false _ _ _ h0).mono ?_; rintro e w' ⟨rfl, rfl⟩) | (go_at_call 43; refine (open_any _ _).mono ?_; rintro e w' ⟨rfl, rfl⟩) | (go_at_call 118; refine SW.out.mono ?_; rintro e w' ⟨rfl, r1, u1⟩))
      have k := hC.head.upd u1 (by simp [hC.nea, hC.neb])
      refine leaves_cons (f := 78) (args := #[.pointer (some ⟨c, 0, none⟩)]) (by simp) (by simp [go_sem]) ?_
      refine (step_d c steps .returning _ (k.cell 1 rfl) (k.free 1)).mono ?_
      rintro e u' w'' ⟨rfl, rfl, rfl⟩
      exact ⟨_, results_tmp rfl _ _ _, hK _ _ ⟨rfl, w', ⟨r1, u1⟩, rfl⟩⟩
  · have ho' : opn s = false := by simpa using ho
    have ht : holds word s = false := by simp [holds, ho']
    rw [ht]
    show Calls _ _ _ _ fun e w' => e = .returned (.int .i64 160) ∧ ClockAt w' c a b word (wrap64 (steps + 1)) ∧ Upd [c, a, b] w w'
    have hs := hC.head.cell 1 rfl
    have hf := hC.head.free 1
    have k := hC.stepped (wrap64 (steps + 1))
    have ku : Upd [c, a, b] w (w.setCell ⟨c, 1, none⟩ (.int .i64 (wrap64 (steps + 1)))) := (Upd.refl _ _).setCell (.inl (by simp)) _
    refine calls_all fun K hK => ?_
    go_enter_defers Try.func119, Try.ntmps119
    go_wp2_with (first | (go_at_call 77; refine (none_false _ _ _ h0).mono ?_; rintro e w' ⟨rfl, rfl⟩) | (go_at_call 43; refine (open_any _ _).mono ?_; rintro e w' ⟨rfl, rfl⟩))
    refine leaves_cons (f := 78) (args := #[.pointer (some ⟨c, 0, none⟩)]) (by simp) (by simp [go_sem]) ?_
    refine (step_d c steps .returning _ hs hf).mono ?_
    rintro e u' w'' ⟨rfl, rfl, rfl⟩
    exact ⟨_, results_tmp rfl _ _ _, hK _ _ ⟨rfl, k, ku⟩⟩

def up64b (s : Int) : Int := IntKind.u64.wrap (s + 2)

theorem clkLeave {w : World} {c a b : Nat} {word steps : Int} (hC : ClockAt w c a b word steps) (s : Int) :
    Calls Try.prog 97 #[.pointer (some ⟨c, 0, none⟩), .int .u64 s] w fun e w' =>
      e = .returned (.int .i64 (heldRes (holds word s))) ∧ ClockAt w' c a b (heldWord (holds word s) (up64b s) word) (wrap64 (steps + 1)) ∧ Upd [c, a, b] w w' := by
  have SW := Lib.hid (clkSet hC s (up64b s))
  refine calls_all fun K hK => ?_
  go_enter Try.func97, Try.ntmps97
  go_wp2_with (go_at_call 119; refine SW.out.mono ?_; rintro e w' ⟨rfl, h1, h2⟩)
  exact ⟨rfl, h1, h2⟩



/-- what a new clock is -/
def MadeClock (w : World) (word steps : Int) (e : Ending) (w' : World) : Prop :=
  ∃ c a b, e = .returned (.pointer (some ⟨c, 0, none⟩)) ∧ ClockAt w' c a b word steps ∧ w.heap.size ≤ c ∧ w.heap.size ≤ a ∧ w.heap.size ≤ b ∧ Upd [] w w'

theorem clkFrom (x : Int) (w : World) : Calls Try.prog 32 #[.int .u64 x] w (MadeClock w x 0) := by
  have hs : SlI (w.alloc (.cells #[.int .u64 x] 31)) .u64 (some ⟨w.heap.size, 0, none⟩) [x] := SlI.of_blk (sp := []) (t := 31) (Blk.new w [.int .u64 x] 31)
  have HO := Lib.hid (of_ok (some ⟨w.heap.size, 0, none⟩) 1 [x] _ hs (by simp) (by simp))
  go_enter Try.func32, Try.ntmps32
  go_wp2_with (go_at_call 19; refine HO.out.mono ?_; rintro e w' ⟨a, b, rfl, r, ha, hb, hu⟩)
  go_ret
  have hn := Blk.new w' [Value.pointer (some ⟨a, 0, none⟩), .int .i64 0] 137
  simp only [World.size_alloc] at ha hb
  have hu2 : Upd [] w w' := ((Upd.refl [] w).alloc _).trans hu
  exact ⟨w'.heap.size, a, b, rfl, ⟨hn, ⟨_, r.upd ((Upd.refl [] _).alloc _) (by simp) (by simp)⟩, by have := r.lta; omega, by have := r.ltb; omega⟩, hu2.size, by omega, by omega, hu2.alloc _⟩

theorem clkNew (w : World) : Calls Try.prog 11 #[] w (MadeClock w 0 0) := by
  have HO := Lib.hid (clkFrom 0 w)
  go_enter Try.func11, Try.ntmps11
  go_wp2_with (go_at_call 32; refine HO.out.mono ?_; rintro e w' ⟨c, a, b, rfl, r⟩)
  go_ret
  exact ⟨c, a, b, rfl, r⟩

theorem number_any (n : Int) (w : World) (h0 : 0 ≤ n) (h1 : n < 18446744073709551616) :
    Calls Try.prog 88 #[.int .u64 n] w fun e w' => e = .returned (.int .u64 (n / 2)) ∧ w = w' := by
  go_enter Try.func88, Try.ntmps88
  go_wp2
  go_ret
  exact ⟨rfl, rfl⟩

theorem clkTake_yes {w : World} {c a b : Nat} {word steps : Int} (h : ClockAt w c a b word steps) (s x : Int) (ht : takes word s = true) (hx : up64 s = x) :
    Calls Try.prog 96 #[.pointer (some ⟨c, 0, none⟩), .int .u64 s] w fun e w' => e = .returned (.tuple #[.bool true, .int .i64 0]) ∧ ClockAt w' c a b x (wrap64 (steps + 1)) ∧ Upd [c, a, b] w w' := by
  have k := clkTake h s
  rw [ht, hx] at k
  exact k

theorem clkTake_no {w : World} {c a b : Nat} {word steps : Int} (h : ClockAt w c a b word steps) (s : Int) (ht : takes word s = false) :
    Calls Try.prog 96 #[.pointer (some ⟨c, 0, none⟩), .int .u64 s] w fun e w' => e = .returned (.tuple #[.bool false, .int .i64 0]) ∧ ClockAt w' c a b word (wrap64 (steps + 1)) ∧ Upd [c, a, b] w w' := by
  have k := clkTake h s
  rw [ht] at k
  exact k

theorem clkLeave_yes {w : World} {c a b : Nat} {word steps : Int} (h : ClockAt w c a b word steps) (s x : Int) (ht : holds word s = true) (hx : up64b s = x) :
    Calls Try.prog 97 #[.pointer (some ⟨c, 0, none⟩), .int .u64 s] w fun e w' => e = .returned (.int .i64 0) ∧ ClockAt w' c a b x (wrap64 (steps + 1)) ∧ Upd [c, a, b] w w' := by
  have k := clkLeave h s
  rw [ht, hx] at k
  exact k

theorem clkLeave_no {w : World} {c a b : Nat} {word steps : Int} (h : ClockAt w c a b word steps) (s : Int) (ht : holds word s = false) :
    Calls Try.prog 97 #[.pointer (some ⟨c, 0, none⟩), .int .u64 s] w fun e w' => e = .returned (.int .i64 160) ∧ ClockAt w' c a b word (wrap64 (steps + 1)) ∧ Upd [c, a, b] w w' := by
  have k := clkLeave h s
  rw [ht] at k
  exact k



theorem wrap64_1 : wrap64 (0 + 1) = 1 := by unfold wrap64; omega
theorem wrap64_2 : wrap64 (1 + 1) = 2 := by unfold wrap64; omega
theorem wrap64_3 : wrap64 (2 + 1) = 3 := by unfold wrap64; omega
theorem wrap64_4 : wrap64 (3 + 1) = 4 := by unfold wrap64; omega

end Go.Proofs.Ythfeljongackcaa
