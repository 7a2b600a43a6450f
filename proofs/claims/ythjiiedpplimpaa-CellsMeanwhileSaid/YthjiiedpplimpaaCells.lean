/- The contracts of the row of cells, function by function: a row that is there. Each says what comes back, what the row holds then, and that nothing else has turned. -/
import Derived.Test.YthjiiedpplimpaaBase
import Derived.Laws.CopyOwn
set_option linter.unusedSimpArgs false
set_option linter.unusedVariables false
set_option maxRecDepth 100000
namespace Go.Proofs.Ythjiiedpplimpaa
open Go.RowKit

/-- a row: its head's block a, its words' block b -/
structure RowAt (w : World) (a b : Nat) (ws : List Int) (acc : Int) : Prop where
  head : ∃ cap, Blk w a [.slice (some ⟨b, 0, none⟩) ws.length cap, .int .u64 acc] 88 ∧ ∃ spare : List Value, Blk w b (ws.map (Value.int .u64) ++ spare) 27 ∧ ws.length + spare.length = cap
  len1 : 1 ≤ ws.length
  len2 : ws.length ≤ 65536
  ne : a ≠ b

section
variable {w w' : World} {a b : Nat} {ws : List Int} {acc : Int}

theorem RowAt.lta (h : RowAt w a b ws acc) : a < w.heap.size := let ⟨_, h, _⟩ := h.head; h.lt
theorem RowAt.ltb (h : RowAt w a b ws acc) : b < w.heap.size := let ⟨_, _, _, h, _⟩ := h.head; h.lt
theorem RowAt.c1 (h : RowAt w a b ws acc) : w.cell? ⟨a, 1, none⟩ = some (.int .u64 acc) := let ⟨_, h, _⟩ := h.head; h.cell 1 rfl
theorem RowAt.c0 (h : RowAt w a b ws acc) : ∃ cap, w.cell? ⟨a, 0, none⟩ = some (.slice (some ⟨b, 0, none⟩) ws.length cap) := let ⟨cap, h, _⟩ := h.head; ⟨cap, h.cell 0 rfl⟩
theorem RowAt.fa (h : RowAt w a b ws acc) (o : Nat) : w.frozen? ⟨a, o, none⟩ = false := let ⟨_, h, _⟩ := h.head; h.free o
theorem RowAt.fb (h : RowAt w a b ws acc) (o : Nat) : w.frozen? ⟨b, o, none⟩ = false := let ⟨_, _, _, h, _⟩ := h.head; h.free o
theorem RowAt.cw (h : RowAt w a b ws acc) (i : Nat) (hi : i < ws.length) : w.cell? ⟨b, i, none⟩ = some (.int .u64 (wd ws i)) :=
  let ⟨_, _, _, h, _⟩ := h.head; h.cell i (by rw [List.getElem?_append_left (by simpa using hi)]; simp [hi, wd_get])
theorem RowAt.upd {S : List Nat} (h : RowAt w a b ws acc) (k : Upd S w w') (ha : a ∉ S) (hb : b ∉ S) : RowAt w' a b ws acc :=
  let ⟨cap, h1, sp, h2, h3⟩ := h.head; ⟨⟨cap, h1.upd k ha, sp, h2.upd k hb, h3⟩, h.len1, h.len2, h.ne⟩
theorem RowAt.below {B : Nat} (h : RowAt w a b ws acc) (k : Below B w w') (ha : a < B) (hb : b < B) : RowAt w' a b ws acc :=
  let ⟨cap, h1, sp, h2, h3⟩ := h.head; ⟨⟨cap, h1.below k ha, sp, h2.below k hb, h3⟩, h.len1, h.len2, h.ne⟩
theorem RowAt.acc' (h : RowAt w a b ws acc) (x : Int) : RowAt (w.setCell ⟨a, 1, none⟩ (.int .u64 x)) a b ws x :=
  let ⟨cap, h1, sp, h2, h3⟩ := h.head; ⟨⟨cap, h1.set 1 _, sp, h2.other _ _ h.ne.symm, h3⟩, h.len1, h.len2, h.ne⟩
theorem RowAt.put (h : RowAt w a b ws acc) (i : Nat) (hi : i < ws.length) (x : Int) : RowAt (w.setCell ⟨b, i, none⟩ (.int .u64 x)) a b (ws.set i x) acc :=
  let ⟨cap, h1, sp, h2, h3⟩ := h.head; ⟨⟨cap, by simpa using h1.other _ _ h.ne, sp, by have := h2.set i (.int .u64 x); rwa [List.set_append_left _ _ (by simpa using hi), ← List.map_set] at this, by simpa using h3⟩, by simpa using h.len1, by simpa using h.len2, h.ne⟩
theorem RowAt.out {t : TypeId} {c : Nat} {vs : List Value} (h : RowAt w a b ws acc) (k : Blk w c vs t) (h1 : vs.length = 1) (h2 : t ≠ 27 := by decide) : c ≠ a ∧ c ≠ b := by
  obtain ⟨cap, g1, sp, g2, _⟩ := h.head
  exact ⟨fun e => by subst e; have := (g1.inj k).1; subst this; simp at h1, fun e => by subst e; exact h2 (g2.inj k).2.symm⟩
end

def up64 (n : Int) : Int := IntKind.u64.wrap (n + 1)

theorem at_in {w : World} {a b : Nat} {ws : List Int} {acc : Int} (h : RowAt w a b ws acc) (i : Int) (hi : 0 ≤ i) (hi2 : i < ws.length) :
    Calls Try.prog 55 #[.pointer (some ⟨a, 0, none⟩), .int .u64 i] w fun e w' => e = .returned (.tuple #[.pointer (some ⟨b, i.toNat, none⟩), .int .i64 0]) ∧ w.setCell ⟨a, 1, none⟩ (.int .u64 (up64 acc)) = w' := by
  obtain ⟨cap, h0⟩ := h.c0
  have h1 := h.c1
  have hf := h.fa 1
  have hn := h.len2
  go_enter Try.func55, Try.ntmps55
  go_wp2
  go_ret2
  exact ⟨rfl, rfl⟩

theorem at_out {w : World} {a b : Nat} {ws : List Int} {acc : Int} (h : RowAt w a b ws acc) (i : Int) (hi2 : ws.length ≤ i) :
    Calls Try.prog 55 #[.pointer (some ⟨a, 0, none⟩), .int .u64 i] w fun e w' => e = .returned (.tuple #[.pointer none, .int .i64 4]) ∧ w.setCell ⟨a, 1, none⟩ (.int .u64 (up64 acc)) = w' := by
  obtain ⟨cap, h0⟩ := h.c0
  have h1 := h.c1
  have hf := h.fa 1
  have hn := h.len2
  have hd : decide (i < (ws.length : Int)) = false := by simpa using hi2
  go_enter Try.func55, Try.ntmps55
  go_wp2
  go_ret2
  exact ⟨rfl, rfl⟩

/-- what Load answers -/
def rLoad (ws : List Int) (i : Int) : Int × Int := if i < ws.length then (wd ws i.toNat, 0) else (0, 4)

theorem load_any {w : World} {a b : Nat} {ws : List Int} {acc : Int} (h : RowAt w a b ws acc) (i : Int) (hi : 0 ≤ i) :
    Calls Try.prog 14 #[.pointer (some ⟨a, 0, none⟩), .int .u64 i] w fun e w' => e = .returned (.tuple #[.int .u64 (rLoad ws i).1, .int .i64 (rLoad ws i).2]) ∧ RowAt w' a b ws (up64 acc) ∧ Upd [a] w w' := by
  have hu : Upd [a] w (w.setCell ⟨a, 1, none⟩ (.int .u64 (up64 acc))) := (Upd.refl _ _).setCell (.inl (by simp)) _
  have hr := h.acc' (up64 acc)
  by_cases hi2 : i < ws.length
  · have hc := h.cw i.toNat (by omega)
    have hne := h.ne
    have hx : rLoad ws i = (wd ws i.toNat, 0) := if_pos hi2
    have HX := Lib.hid hx
    clear hx
    go_enter Try.func14, Try.ntmps14
    go_wp2_with (go_at_call 55; refine (at_in h i hi hi2).mono ?_; rintro e w' ⟨rfl, rfl⟩)
    go_ret2
    rw [HX.out]
    exact ⟨rfl, hr, hu⟩
  · have hx : rLoad ws i = (0, 4) := if_neg hi2
    rw [hx]
    go_enter Try.func14, Try.ntmps14
    go_wp2_with (go_at_call 55; refine (at_out h i (by omega)).mono ?_; rintro e w' ⟨rfl, rfl⟩)
    go_ret2
    exact ⟨rfl, hr, hu⟩

theorem store_any {w : World} {a b : Nat} {ws : List Int} {acc : Int} (h : RowAt w a b ws acc) (i x : Int) (hi : 0 ≤ i) :
    Calls Try.prog 31 #[.pointer (some ⟨a, 0, none⟩), .int .u64 i, .int .u64 x] w fun e w' => e = .returned (.int .i64 (rLoad ws i).2) ∧ RowAt w' a b (ws.set i.toNat x) (up64 acc) ∧ Upd [a, b] w w' := by
  have hu : Upd [a, b] w (w.setCell ⟨a, 1, none⟩ (.int .u64 (up64 acc))) := (Upd.refl _ _).setCell (.inl (by simp)) _
  have hr := h.acc' (up64 acc)
  by_cases hi2 : i < ws.length
  · have hc := hr.cw i.toNat (by omega)
    have hf := hr.fb i.toNat
    have hx : rLoad ws i = (wd ws i.toNat, 0) := if_pos hi2
    have HX := Lib.hid hx
    clear hx
    go_enter Try.func31, Try.ntmps31
    go_wp2_with (go_at_call 55; refine (at_in h i hi hi2).mono ?_; rintro e w' ⟨rfl, rfl⟩)
    go_ret
    rw [HX.out]
    exact ⟨rfl, hr.put i.toNat (by omega) x, hu.setCell (.inl (by simp)) _⟩
  · have hx : rLoad ws i = (0, 4) := if_neg hi2
    rw [hx, List.set_eq_of_length_le (by omega)]
    go_enter Try.func31, Try.ntmps31
    go_wp2_with (go_at_call 55; refine (at_out h i (by omega)).mono ?_; rintro e w' ⟨rfl, rfl⟩)
    go_ret
    exact ⟨rfl, hr, hu⟩

/-- does a Swap hit? -/
def rHit (ws : List Int) (i old : Int) : Bool := decide (i < ws.length) && (wd ws i.toNat == old)

theorem swap_any {w : World} {a b : Nat} {ws : List Int} {acc : Int} (h : RowAt w a b ws acc) (i old x : Int) (hi : 0 ≤ i) :
    Calls Try.prog 41 #[.pointer (some ⟨a, 0, none⟩), .int .u64 i, .int .u64 old, .int .u64 x] w fun e w' =>
      e = .returned (.tuple #[.bool (rHit ws i old), .int .i64 (rLoad ws i).2]) ∧ RowAt w' a b (if rHit ws i old then ws.set i.toNat x else ws) (up64 acc) ∧ Upd [a, b] w w' := by
  have hu : Upd [a, b] w (w.setCell ⟨a, 1, none⟩ (.int .u64 (up64 acc))) := (Upd.refl _ _).setCell (.inl (by simp)) _
  have hr := h.acc' (up64 acc)
  by_cases hi2 : i < ws.length
  · have hc := hr.cw i.toNat (by omega)
    have hf := hr.fb i.toNat
    have hx : rLoad ws i = (wd ws i.toNat, 0) := if_pos hi2
    have hy : rHit ws i old = (wd ws i.toNat == old) := by simp [rHit, hi2]
    rw [hx, hy]
    clear hx hy
    obtain ⟨v, hv⟩ : ∃ v, v = wd ws i.toNat := ⟨_, rfl⟩
    rw [← hv] at hc ⊢
    clear hv
    by_cases ho : v = old
    · subst ho
      refine calls_to (R := fun e w' => e = .returned (.tuple #[.bool true, .int .i64 0]) ∧ (w.setCell ⟨a, 1, none⟩ (.int .u64 (up64 acc))).setCell ⟨b, i.toNat, none⟩ (.int .u64 x) = w') ?_
        (fun e w' ⟨he, hw⟩ => ⟨by rw [he]; simp, by rw [if_pos (by simp), ← hw]; exact hr.put i.toNat (by omega) x, by rw [← hw]; exact hu.setCell (.inl (by simp)) _⟩)
      have h2 : (v != v) = false := by simp
      go_enter Try.func41, Try.ntmps41
      go_wp2_with (go_at_call 55; refine (at_in h i hi hi2).mono ?_; rintro e w' ⟨rfl, rfl⟩)
      go_ret2
      exact ⟨rfl, rfl⟩
    · have h1 : (v == old) = false := by simp [ho]
      have h2 : (v != old) = true := by simp [ho]
      rw [h1]
      clear h1
      refine calls_to (R := fun e w' => e = .returned (.tuple #[.bool false, .int .i64 0]) ∧ w.setCell ⟨a, 1, none⟩ (.int .u64 (up64 acc)) = w') ?_
        (fun e w' ⟨he, hw⟩ => ⟨he, by rw [if_neg (by simp), ← hw]; exact hr, by rw [← hw]; exact hu⟩)
      go_enter Try.func41, Try.ntmps41
      go_wp2_with (go_at_call 55; refine (at_in h i hi hi2).mono ?_; rintro e w' ⟨rfl, rfl⟩)
      go_ret2
      exact ⟨rfl, rfl⟩
  · have hx : rLoad ws i = (0, 4) := if_neg hi2
    have hy : rHit ws i old = false := by simp [rHit, hi2]
    rw [hx, hy]
    go_enter Try.func41, Try.ntmps41
    go_wp2_with (go_at_call 55; refine (at_out h i (by omega)).mono ?_; rintro e w' ⟨rfl, rfl⟩)
    go_ret2
    exact ⟨rfl, hr, hu⟩

def addU (x y : Int) : Int := IntKind.u64.wrap (x + y)

theorem add_any {w : World} {a b : Nat} {ws : List Int} {acc : Int} (h : RowAt w a b ws acc) (i x : Int) (hi : 0 ≤ i) (hw : ∀ v ∈ ws, 0 ≤ v ∧ v < 18446744073709551616) (hx : 0 ≤ x ∧ x < 18446744073709551616) :
    Calls Try.prog 45 #[.pointer (some ⟨a, 0, none⟩), .int .u64 i, .int .u64 x] w fun e w' =>
      e = .returned (.tuple #[.int .u64 (rLoad ws i).1, .int .i64 (rLoad ws i).2]) ∧ RowAt w' a b (ws.set i.toNat (addU (wd ws i.toNat) x)) (up64 acc) ∧ Upd [a, b] w w' := by
  have hu : Upd [a, b] w (w.setCell ⟨a, 1, none⟩ (.int .u64 (up64 acc))) := (Upd.refl _ _).setCell (.inl (by simp)) _
  have hr := h.acc' (up64 acc)
  by_cases hi2 : i < ws.length
  · have hc := hr.cw i.toNat (by omega)
    have hf := hr.fb i.toNat
    have hx' : rLoad ws i = (wd ws i.toNat, 0) := if_pos hi2
    have hv' := hw (wd ws i.toNat) (by rw [wd_get (by omega)]; exact List.getElem_mem _)
    rw [hx']
    have hp := hr.put i.toNat (by omega) (addU (wd ws i.toNat) x)
    have hk : IntKind.u64.wrap (IntKind.u64.wrap (wd ws i.toNat + x) - x) = wd ws i.toNat := by simp only [IntKind.wrap_u64]; omega
    have HK := Lib.hid hk
    clear hk hx'
    go_enter Try.func45, Try.ntmps45
    go_wp2_with (go_at_call 55; refine (at_in h i hi hi2).mono ?_; rintro e w' ⟨rfl, rfl⟩)
    go_ret2
    exact ⟨by first | rfl | (simp only [HK.out]; rfl) | (simp; exact HK.out), hp, hu.setCell (.inl (by simp)) _⟩
  · have hx' : rLoad ws i = (0, 4) := if_neg hi2
    rw [hx', List.set_eq_of_length_le (by omega)]
    go_enter Try.func45, Try.ntmps45
    go_wp2_with (go_at_call 55; refine (at_out h i (by omega)).mono ?_; rintro e w' ⟨rfl, rfl⟩)
    go_ret2
    exact ⟨rfl, hr, hu⟩

theorem info_u64 : (Try.prog.info? 27).map (fun i => (i.zero, i.size, i.bytes)) = some (some (.int .u64 0), 1, 8) := by kernel_rfl

theorem new_ok (n : Nat) (w : World) (hn : 1 ≤ n) (hn2 : n ≤ 65536) :
    Calls Try.prog 12 #[.int .i64 n] w fun e w' => e = .returned (.tuple #[.pointer (some ⟨w.heap.size + 1, 0, none⟩), .int .i64 0]) ∧
      (w.alloc (.cells (zeros .u64 n) 27)).alloc (.cells #[.slice (some ⟨w.heap.size, 0, none⟩) n n, .int .u64 0] 88) = w' := by
  have hmk : ∀ w, (Instr.makeSlice 31 (.int .i64 n) (.int .i64 n)).run Try.prog w = .ok (.slice (some ⟨w.heap.size, 0, none⟩) n n) (w.alloc (.cells (zeros .u64 n) 27)) := by
    intro w
    obtain ⟨i0, hi, hz0, hz1, hz2⟩ := info_parts info_u64
    have h := run_make (P := Try.prog) w 31 27 i0 (.int .u64 0) Try.underlying31 hi hz0 .i64 .i64 n n (by omega) (by omega) (by rw [hz2]; omega) (by omega)
    rw [hz1] at h
    simp only [Int.toNat_natCast] at h
    rw [h, zeros_made]
  go_enter Try.func12, Try.ntmps12
  go_wp2
  go_ret2
  exact ⟨rfl, rfl⟩

theorem new_bad (n : Int) (w : World) (hn : n < 1 ∨ 65536 < n) :
    Calls Try.prog 12 #[.int .i64 n] w fun e w' => e = .returned (.tuple #[.pointer none, .int .i64 2]) ∧ w = w' := by
  rcases hn with hn | hn
  · have hd : decide (n < 1) = true := by simpa using hn
    go_enter Try.func12, Try.ntmps12
    go_wp2
    go_ret2
    exact ⟨rfl, rfl⟩
  · have hd : decide (n < 1) = false := by simp; omega
    have hd2 : decide (65536 < n) = true := by simpa using hn
    go_enter Try.func12, Try.ntmps12
    go_wp2
    go_ret2
    exact ⟨rfl, rfl⟩

theorem of_bad (p : Option Addr) (n cap : Nat) (w : World) (hn : n < 1 ∨ 65536 < n) (hm : n ≤ maxLen) :
    Calls Try.prog 25 #[.slice p n cap] w fun e w' => e = .returned (.tuple #[.pointer none, .int .i64 2]) ∧ w = w' := by
  unfold maxLen at hm
  go_enter Try.func25, Try.ntmps25
  go_wp2_with (go_at_call 12; refine (new_bad _ _ (by omega)).mono ?_; rintro e w' ⟨rfl, rfl⟩)
  go_ret2
  exact ⟨rfl, rfl⟩

/-- what a new row is -/
def MadeRow (w : World) (ws : List Int) (e : Ending) (w' : World) : Prop :=
  ∃ a b, e = .returned (.tuple #[.pointer (some ⟨a, 0, none⟩), .int .i64 0]) ∧ RowAt w' a b ws 0 ∧ w.heap.size ≤ a ∧ w.heap.size ≤ b ∧ Upd [] w w'

theorem made_row (w : World) (zs : List Int) (hn : 1 ≤ zs.length) (hn2 : zs.length ≤ 65536) :
    RowAt (((w.alloc (.cells (zeros .u64 zs.length) 27)).alloc (.cells #[.slice (some ⟨w.heap.size, 0, none⟩) zs.length zs.length, .int .u64 0] 88)).setRow w.heap.size (zs.map (Value.int .u64)).toArray) (w.heap.size + 1) w.heap.size zs 0 := by
  have h0 : Blk (w.alloc (.cells (zeros .u64 zs.length) 27)) w.heap.size ((List.replicate zs.length (0 : Int)).map (Value.int .u64)) 27 := Blk.new w _ _
  have h1 : Blk ((w.alloc (.cells (zeros .u64 zs.length) 27)).alloc (.cells #[.slice (some ⟨w.heap.size, 0, none⟩) zs.length zs.length, .int .u64 0] 88)) (w.heap.size + 1) [.slice (some ⟨w.heap.size, 0, none⟩) zs.length zs.length, .int .u64 0] 88 := by
    have := Blk.new (w.alloc (.cells (zeros .u64 zs.length) 27)) [.slice (some ⟨w.heap.size, 0, none⟩) zs.length zs.length, .int .u64 0] 88
    simpa using this
  have h2 := (h0.alloc (.cells #[.slice (some ⟨w.heap.size, 0, none⟩) zs.length zs.length, .int .u64 0] 88)).setRow (zs.map (Value.int .u64))
  refine ⟨⟨zs.length, ?_, [], by simpa using h2, by simp⟩, hn, hn2, by omega⟩
  exact h1.same (setRow_other _ _ _ _ (by omega))

theorem of_ok (p : Option Addr) (cap : Nat) (zs : List Int) (w : World) (h : SlI w .u64 p zs) (hn : 1 ≤ zs.length) (hn2 : zs.length ≤ 65536) :
    Calls Try.prog 25 #[.slice p zs.length cap] w (MadeRow w zs) := by
  have hz : zs ≠ [] := fun e => by subst e; simp at hn
  refine calls_to (R := fun e w' => e = .returned (.tuple #[.pointer (some ⟨w.heap.size + 1, 0, none⟩), .int .i64 0]) ∧
    (((w.alloc (.cells (zeros .u64 zs.length) 27)).alloc (.cells #[.slice (some ⟨w.heap.size, 0, none⟩) zs.length zs.length, .int .u64 0] 88)).setRow w.heap.size (zs.map (Value.int .u64)).toArray) = w') ?_
    (fun e w' ⟨he, hw⟩ => ⟨w.heap.size + 1, w.heap.size, he, by rw [← hw]; exact made_row w zs hn hn2, by omega, by omega, by rw [← hw]; exact (((Upd.refl _ _).alloc _).alloc _).setRow (.inr (by omega)) _⟩)
  obtain ⟨ad, hp, hsrc⟩ := h.src hz
  subst hp
  have hcp := run_copy_row (P := Try.prog) ((w.alloc (.cells (zeros .u64 zs.length) 27)).alloc (.cells #[.slice (some ⟨w.heap.size, 0, none⟩) zs.length zs.length, .int .u64 0] 88)) 31 31 3 27 w.heap.size 0 zs.length zs.length ad zs.length cap
    (zeros .u64 zs.length) 27 (zs.map (Value.int .u64)) Try.underlying31 (by obtain ⟨i0, hi, hz0, hz1, hz2⟩ := info_parts info_u64; rw [hi]; simp [hz1])
    (((Blk.new w ((List.replicate zs.length (0 : Int)).map (Value.int .u64)) 27).alloc _)) (by simp)
    (fun j v hj => by
      have hc := hsrc j v hj
      have hb := World.block_lt_of_cell? w _ hc
      rw [World.cell?_alloc_lt _ _ _ (by simp; omega), World.cell?_alloc_lt _ _ _ hb]
      exact hc)
    (by simp [zeros]) (fun v hv => by simp at hv; obtain ⟨x, _, rfl⟩ := hv; rfl)
  go_enter Try.func25, Try.ntmps25
  go_wp2_with (go_at_call 12; refine (new_ok _ _ (by omega) (by omega)).mono ?_; rintro e w' ⟨rfl, rfl⟩)
  go_ret2
  exact ⟨rfl, by simp [zeros]⟩

theorem made_true {w : World} {a b : Nat} {ws : List Int} {acc : Int} (h : RowAt w a b ws acc) :
    Calls Try.prog 62 #[.pointer (some ⟨a, 0, none⟩)] w fun e w' => e = .returned (.bool true) ∧ w = w' := by
  obtain ⟨cap, h0⟩ := h.c0
  go_enter Try.func62, Try.ntmps62
  go_wp2
  go_ret
  exact ⟨rfl, rfl⟩

/-- a slice in new memory that reads so -/
def MadeInts (w : World) (zs : List Int) (e : Ending) (w' : World) : Prop :=
  ∃ g spare, e = .returned (.slice (some ⟨g, 0, none⟩) zs.length (zs.length + List.length spare)) ∧ (w.heap.size ≤ g ∧ zs.length + List.length spare ≤ maxLen) ∧ Blk w' g (zs.map (Value.int .u64) ++ spare) 27 ∧ Upd [] w w'

theorem clone_ok (ad : Addr) (cap : Nat) (zs : List Int) (w : World) (h : SlI w .u64 (some ad) zs) (hn : zs.length * 8 ≤ 140737488355328) :
    Calls Try.prog 71 #[.slice (some ad) zs.length cap] w (MadeInts w zs) := by
  obtain ⟨i0, hi, hz0, hz1, hz2⟩ := info_parts info_u64
  have hnil : ∀ (w : World) (ad : Addr) (n c : Nat), (binOp .eql 31 (.slice (some ad) n c) (.slice none 0 0)).run Try.prog w = .ok (.bool false) w := fun w ad n c => Lib.run_eql_slice_nil w _ _ (some ad) n c 0 0 Try.underlying31
  by_cases hz : zs = []
  · subst hz
    refine calls_to (R := fun e w' => e = .returned (.slice (some ⟨w.heap.size, 0, none⟩) 0 0) ∧ (w.alloc (.cells #[] 27)) = w') ?_
      (fun e w' ⟨he, hw⟩ => ⟨w.heap.size, [], he, ⟨by omega, by simp [maxLen]⟩, by rw [← hw]; exact Blk.new w [] _, by rw [← hw]; exact (Upd.refl _ _).alloc _⟩)
    have hr := run_append_room (P := Try.prog) (w.alloc (.cells #[] 27)) 31 31 27 i0 Try.underlying31 hi w.heap.size 0 0 #[] (heap_alloc_new w _) ad 0 cap [] (by simp) (by simp) (by simp) (by simp) (by simp)
    have hsr : (w.alloc (.cells #[] 27)).setRow w.heap.size #[] = w.alloc (.cells #[] 27) := setRow_self _ _ _ _ _ (heap_alloc_new w _)
    simp only [List.take_nil, List.drop_nil, List.append_nil, Nat.add_zero, Nat.zero_mul, List.length_nil] at hr
    rw [hsr] at hr
    go_enter Try.func71, Try.ntmps71
    go_wp2_with (at_builtin; refine wpList_append_eq rfl _ _ _ _ rfl _ _ _ rfl rfl hr ?_)
    go_ret
    exact ⟨rfl, rfl⟩
  · obtain ⟨ad', e, hsrc⟩ := h.src hz
    cases e
    have hpos : 0 < zs.length := List.length_pos_iff.2 hz
    have hcap : grownCap (w.alloc (.cells #[] 27)) (0 + zs.length) 0 27 ≥ zs.length := by have := grownCap_ge (w.alloc (.cells #[] 27)) (0 + zs.length) 0 27; omega
    have hr := run_append_grow (P := Try.prog) (w.alloc (.cells #[] 27)) 31 31 27 i0 (.int .u64 0) Try.underlying31 hi hz0 ⟨w.heap.size, 0, none⟩ 0 0 [] (by simp) (by simp) ad zs.length cap (zs.map (Value.int .u64)) (by simp [hz1])
      (fun j v hj => by
        have hc := hsrc j v hj
        rw [World.cell?_alloc_lt _ _ _ (World.block_lt_of_cell? w _ hc)]
        exact hc) (by omega) (by omega) (growslice_fits (by omega) (by rw [hz2]; omega))
    have hcapm : grownCap (w.alloc (.cells #[] 27)) (0 + zs.length) 0 27 ≤ maxLen := grownCap_le_maxLen _ _ _ _ (by unfold maxLen; omega)
    obtain ⟨cp, hcp⟩ : ∃ cp, cp = grownCap (w.alloc (.cells #[] 27)) (0 + zs.length) 0 27 := ⟨_, rfl⟩
    rw [← hcp] at hr hcap hcapm
    clear hcp
    obtain ⟨C, hC⟩ : ∃ C : Array Value, C = (List.toArray [] ++ (zs.map (Value.int .u64)).toArray ++ Builtin.zeroCells (Value.int .u64 0).cells (cp - (0 + zs.length))) := ⟨_, rfl⟩
    rw [← hC] at hr
    have hC2 : C = (zs.map (Value.int .u64) ++ (Builtin.zeroCells (Value.int .u64 0).cells (cp - zs.length)).toList).toArray := by rw [hC]; apply Array.ext'; simp
    clear hC
    simp only [Nat.zero_add, World.size_alloc] at hr
    refine calls_to (R := fun e w' => e = .returned (.slice (some ⟨w.heap.size + 1, 0, none⟩) zs.length cp) ∧ (((w.alloc (.cells #[] 27)).alloc (.cells C 27)).drew) = w') ?_
      (fun e w' ⟨he, hw⟩ => ⟨w.heap.size + 1, (Builtin.zeroCells (Value.int .u64 0).cells (cp - zs.length)).toList, by
        rw [he]; congr 2
        have : (Builtin.zeroCells (Value.int .u64 0).cells (cp - zs.length)).size = (cp - zs.length) * 1 := size_zeroCells _ _
        simp at this; simp [this]; omega, ⟨by omega, by
        have : (Builtin.zeroCells (Value.int .u64 0).cells (cp - zs.length)).size = (cp - zs.length) * 1 := size_zeroCells _ _
        simp at this; simp [this]; omega⟩, by rw [← hw, hC2]; have := Blk.new (w.alloc (.cells #[] 27)) (zs.map (Value.int .u64) ++ (Builtin.zeroCells (Value.int .u64 0).cells (cp - zs.length)).toList) 27; simp only [World.size_alloc] at this; exact this.drew,
        by rw [← hw]; exact ((Upd.refl _ _).alloc _ |>.alloc _).drew⟩)
    clear hC2
    go_enter Try.func71, Try.ntmps71
    go_wp2_with (at_builtin; refine wpList_append_eq rfl _ _ _ _ rfl _ _ _ rfl rfl hr ?_)
    go_ret
    exact ⟨rfl, rfl⟩

theorem copy_row {w : World} {a b : Nat} {ws : List Int} {acc : Int} (h : RowAt w a b ws acc) :
    Calls Try.prog 51 #[.pointer (some ⟨a, 0, none⟩)] w (fun e w' => ∃ a' b', e = .returned (.pointer (some ⟨a', 0, none⟩)) ∧ RowAt w' a' b' ws 0 ∧ w.heap.size ≤ a' ∧ w.heap.size ≤ b' ∧ Upd [] w w') := by
  obtain ⟨cap, h0⟩ := h.c0
  have hn := h.len2
  have hs : SlI w .u64 (some ⟨b, 0, none⟩) ws := by obtain ⟨_, _, _, hb, _⟩ := h.head; exact SlI.of_blk hb
  go_enter Try.func51, Try.ntmps51
  go_wp2_with (first | (go_at_call 62; refine (made_true h).mono ?_; rintro e w' ⟨rfl, rfl⟩) | (go_at_call 71; refine (clone_ok _ _ _ _ hs (by omega)).mono ?_; rintro e w' ⟨g, sp, rfl, hg, hb, hu⟩))
  go_ret
  have hnew := Blk.new w' [Value.slice (some { block := g, off := 0 }) ws.length (ws.length + sp.length), Value.int IntKind.u64 0] 88
  exact ⟨w'.heap.size, g, rfl, ⟨⟨_, hnew, sp, hb.alloc _, rfl⟩, h.len1, h.len2, by have := hb.lt; omega⟩, hu.size, hg.1, hu.alloc _⟩

end Go.Proofs.Ythjiiedpplimpaa
