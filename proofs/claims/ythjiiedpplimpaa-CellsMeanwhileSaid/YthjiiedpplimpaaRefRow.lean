/- The contracts of the document's row (parleyref01), function by function: a row that is there, and one that is not. The conditions are sizes. -/
import Derived.Test.YthjiiedpplimpaaCells
import Derived.Deep.QuietTactic
import Derived.BigQuiet
set_option linter.unusedSimpArgs false
set_option linter.unusedVariables false
set_option maxRecDepth 100000
namespace Go.Proofs.Ythjiiedpplimpaa
open Go.RowKit

/-- a row of the document's: its head's block a, its words' block b -/
structure RRow (w : World) (a b : Nat) (ws : List Int) (acc : Int) : Prop where
  head : ∃ cap, Blk w a [.slice (some ⟨b, 0, none⟩) ws.length cap, .int .u64 acc] 54 ∧ ∃ spare : List Value, Blk w b (ws.map (Value.int .u64) ++ spare) 27 ∧ ws.length + spare.length = cap
  len1 : 1 ≤ ws.length
  len2 : ws.length ≤ 65536
  ne : a ≠ b

section
variable {w w' : World} {a b : Nat} {ws : List Int} {acc : Int}

theorem RRow.lta (h : RRow w a b ws acc) : a < w.heap.size := let ⟨_, h, _⟩ := h.head; h.lt
theorem RRow.ltb (h : RRow w a b ws acc) : b < w.heap.size := let ⟨_, _, _, h, _⟩ := h.head; h.lt
theorem RRow.c1 (h : RRow w a b ws acc) : w.cell? ⟨a, 1, none⟩ = some (.int .u64 acc) := let ⟨_, h, _⟩ := h.head; h.cell 1 rfl
theorem RRow.c0 (h : RRow w a b ws acc) : ∃ cap, w.cell? ⟨a, 0, none⟩ = some (.slice (some ⟨b, 0, none⟩) ws.length cap) := let ⟨cap, h, _⟩ := h.head; ⟨cap, h.cell 0 rfl⟩
theorem RRow.fa (h : RRow w a b ws acc) (o : Nat) : w.frozen? ⟨a, o, none⟩ = false := let ⟨_, h, _⟩ := h.head; h.free o
theorem RRow.fb (h : RRow w a b ws acc) (o : Nat) : w.frozen? ⟨b, o, none⟩ = false := let ⟨_, _, _, h, _⟩ := h.head; h.free o
theorem RRow.cw (h : RRow w a b ws acc) (i : Nat) (hi : i < ws.length) : w.cell? ⟨b, i, none⟩ = some (.int .u64 (wd ws i)) :=
  let ⟨_, _, _, h, _⟩ := h.head; h.cell i (by rw [List.getElem?_append_left (by simpa using hi)]; simp [hi, wd_get])
theorem RRow.upd {S : List Nat} (h : RRow w a b ws acc) (k : Upd S w w') (ha : a ∉ S) (hb : b ∉ S) : RRow w' a b ws acc :=
  let ⟨cap, h1, sp, h2, h3⟩ := h.head; ⟨⟨cap, h1.upd k ha, sp, h2.upd k hb, h3⟩, h.len1, h.len2, h.ne⟩
theorem RRow.below {B : Nat} (h : RRow w a b ws acc) (k : Below B w w') (ha : a < B) (hb : b < B) : RRow w' a b ws acc :=
  let ⟨cap, h1, sp, h2, h3⟩ := h.head; ⟨⟨cap, h1.below k ha, sp, h2.below k hb, h3⟩, h.len1, h.len2, h.ne⟩
theorem RRow.acc' (h : RRow w a b ws acc) (x : Int) : RRow (w.setCell ⟨a, 1, none⟩ (.int .u64 x)) a b ws x :=
  let ⟨cap, h1, sp, h2, h3⟩ := h.head; ⟨⟨cap, h1.set 1 _, sp, h2.other _ _ h.ne.symm, h3⟩, h.len1, h.len2, h.ne⟩
theorem RRow.put (h : RRow w a b ws acc) (i : Nat) (hi : i < ws.length) (x : Int) : RRow (w.setCell ⟨b, i, none⟩ (.int .u64 x)) a b (ws.set i x) acc :=
  let ⟨cap, h1, sp, h2, h3⟩ := h.head; ⟨⟨cap, by simpa using h1.other _ _ h.ne, sp, by have := h2.set i (.int .u64 x); rwa [List.set_append_left _ _ (by simpa using hi), ← List.map_set] at this, by simpa using h3⟩, by simpa using h.len1, by simpa using h.len2, h.ne⟩
theorem RRow.drew (h : RRow w a b ws acc) : RRow w.drew a b ws acc := ⟨h.head, h.len1, h.len2, h.ne⟩
theorem RRow.drewN (h : RRow w a b ws acc) (n : Nat) : RRow (w.drewN n) a b ws acc := ⟨h.head, h.len1, h.len2, h.ne⟩
theorem RRow.sli (h : RRow w a b ws acc) : SlI w .u64 (some ⟨b, 0, none⟩) ws := by obtain ⟨_, _, _, hb, _⟩ := h.head; exact SlI.of_blk hb

theorem rlen_any (h : RRow w a b ws acc) : Calls Try.prog 30 #[.pointer (some ⟨a, 0, none⟩)] w fun e w' => e = .returned (.int .i64 ws.length) ∧ w = w' := by
  obtain ⟨cap, h0⟩ := h.c0
  have hn := h.len2
  refine calls_all fun K hK => ?_
  go_enter Try.func30, Try.ntmps30
  go_wp2
  all_goals first | exact ⟨rfl, rfl⟩ | rfl

theorem rlen_no (w : World) : Calls Try.prog 30 #[.pointer none] w fun e w' => e = .returned (.int .i64 0) ∧ w = w' := by
  refine calls_all fun K hK => ?_
  go_enter Try.func30, Try.ntmps30
  go_wp2
  all_goals first | exact ⟨rfl, rfl⟩ | rfl

theorem rhas_any (h : RRow w a b ws acc) (i : Int) : Calls Try.prog 80 #[.pointer (some ⟨a, 0, none⟩), .int .u64 i] w fun e w' => e = .returned (.bool (decide (i < ws.length))) ∧ w = w' := by
  have hn := h.len2
  refine calls_all fun K hK => ?_
  go_enter Try.func80, Try.ntmps80
  go_wp2_with fail
  refine (rlen_any h).mono ?_
  rintro e w' ⟨rfl, rfl⟩
  go_wp2
  all_goals first | exact ⟨rfl, rfl⟩ | rfl

theorem rhas_no (w : World) (i : Int) (hi : 0 ≤ i) : Calls Try.prog 80 #[.pointer none, .int .u64 i] w fun e w' => e = .returned (.bool false) ∧ w = w' := by
  have hd : decide (i < 0) = false := by simp; omega
  refine calls_all fun K hK => ?_
  go_enter Try.func80, Try.ntmps80
  go_wp2_with fail
  refine (rlen_no _).mono ?_
  rintro e w' ⟨rfl, rfl⟩
  go_wp2
  all_goals first | exact ⟨rfl, rfl⟩ | rfl

theorem rasked_any (h : RRow w a b ws acc) (i : Int) : Calls Try.prog 61 #[.pointer (some ⟨a, 0, none⟩), .int .u64 i] w fun e w' => e = .returned (.int .i64 (rLoad ws i).2) ∧ w.setCell ⟨a, 1, none⟩ (.int .u64 (up64 acc)) = w' := by
  have h1 := h.c1
  have hf := h.fa 1
  have hn := h.len2
  have hr := h.acc' (up64 acc)
  by_cases hi : i < ws.length
  · have hd : decide (i < (ws.length : Int)) = true := by simpa using hi
    rw [show (rLoad ws i).2 = 0 by rw [rLoad, if_pos hi]]
    refine calls_all fun K hK => ?_
    go_enter Try.func61, Try.ntmps61
    go_wp2_with fail
    refine (rhas_any hr i).mono ?_
    rintro e w' ⟨rfl, rfl⟩
    go_wp2
    all_goals first | exact ⟨rfl, rfl⟩ | rfl
  · have hd : decide (i < (ws.length : Int)) = false := by simpa using hi
    rw [show (rLoad ws i).2 = 4 by rw [rLoad, if_neg hi]]
    refine calls_all fun K hK => ?_
    go_enter Try.func61, Try.ntmps61
    go_wp2_with fail
    refine (rhas_any hr i).mono ?_
    rintro e w' ⟨rfl, rfl⟩
    go_wp2
    all_goals first | exact ⟨rfl, rfl⟩ | rfl

theorem rasked_no (w : World) (i : Int) : Calls Try.prog 61 #[.pointer none, .int .u64 i] w fun e w' => e = .returned (.int .i64 1) ∧ w = w' := by
  refine calls_all fun K hK => ?_
  go_enter Try.func61, Try.ntmps61
  go_wp2
  all_goals first | exact ⟨rfl, rfl⟩ | rfl

theorem rload_any (h : RRow w a b ws acc) (i : Int) (hi : 0 ≤ i) :
    Calls Try.prog 74 #[.pointer (some ⟨a, 0, none⟩), .int .u64 i] w fun e w' => e = .returned (.tuple #[.int .u64 (rLoad ws i).1, .int .i64 (rLoad ws i).2]) ∧ RRow w' a b ws (up64 acc) ∧ Upd [a] w w' := by
  have hu : Upd [a] w (w.setCell ⟨a, 1, none⟩ (.int .u64 (up64 acc))) := (Upd.refl _ _).setCell (.inl (by simp)) _
  have hr := h.acc' (up64 acc)
  have ha := rasked_any h i
  obtain ⟨cap, k0⟩ := hr.c0
  by_cases hi2 : i < ws.length
  · have hc := hr.cw i.toNat (by omega)
    have hx : rLoad ws i = (wd ws i.toNat, 0) := if_pos hi2
    rw [hx] at ha ⊢
    clear hx
    refine calls_all fun K hK => ?_
    go_enter Try.func74, Try.ntmps74
    go_wp2_with fail
    refine (ha).mono ?_
    rintro e w' ⟨rfl, rfl⟩
    go_wp2
    exact ⟨rfl, hr, hu⟩
  · have hx : rLoad ws i = (0, 4) := if_neg hi2
    rw [hx] at ha ⊢
    clear hx
    refine calls_all fun K hK => ?_
    go_enter Try.func74, Try.ntmps74
    go_wp2_with fail
    refine (ha).mono ?_
    rintro e w' ⟨rfl, rfl⟩
    go_wp2
    exact ⟨rfl, hr, hu⟩

theorem rload_no (w : World) (i : Int) : Calls Try.prog 74 #[.pointer none, .int .u64 i] w fun e w' => e = .returned (.tuple #[.int .u64 0, .int .i64 1]) ∧ w = w' := by
  refine calls_all fun K hK => ?_
  go_enter Try.func74, Try.ntmps74
  go_wp2_with fail
  refine (rasked_no _ i).mono ?_
  rintro e w' ⟨rfl, rfl⟩
  go_wp2
  all_goals first | exact ⟨rfl, rfl⟩ | rfl

theorem rstore_any (h : RRow w a b ws acc) (i x : Int) (hi : 0 ≤ i) :
    Calls Try.prog 32 #[.pointer (some ⟨a, 0, none⟩), .int .u64 i, .int .u64 x] w fun e w' => e = .returned (.int .i64 (rLoad ws i).2) ∧ RRow w' a b (ws.set i.toNat x) (up64 acc) ∧ Upd [a, b] w w' := by
  have hu : Upd [a, b] w (w.setCell ⟨a, 1, none⟩ (.int .u64 (up64 acc))) := (Upd.refl _ _).setCell (.inl (by simp)) _
  have hr := h.acc' (up64 acc)
  have ha := rasked_any h i
  obtain ⟨cap, k0⟩ := hr.c0
  by_cases hi2 : i < ws.length
  · have hc := hr.cw i.toNat (by omega)
    have hf := hr.fb i.toNat
    have hx : rLoad ws i = (wd ws i.toNat, 0) := if_pos hi2
    have hp := hr.put i.toNat (by omega) x
    rw [hx] at ha ⊢
    clear hx
    refine calls_all fun K hK => ?_
    go_enter Try.func32, Try.ntmps32
    go_wp2_with fail
    refine (ha).mono ?_
    rintro e w' ⟨rfl, rfl⟩
    go_wp2
    exact ⟨rfl, hp, hu.setCell (.inl (by simp)) _⟩
  · have hx : rLoad ws i = (0, 4) := if_neg hi2
    rw [hx] at ha ⊢
    rw [List.set_eq_of_length_le (by omega)]
    clear hx
    refine calls_all fun K hK => ?_
    go_enter Try.func32, Try.ntmps32
    go_wp2_with fail
    refine (ha).mono ?_
    rintro e w' ⟨rfl, rfl⟩
    go_wp2
    exact ⟨rfl, hr, hu⟩

theorem rstore_no (w : World) (i x : Int) : Calls Try.prog 32 #[.pointer none, .int .u64 i, .int .u64 x] w fun e w' => e = .returned (.int .i64 1) ∧ w = w' := by
  refine calls_all fun K hK => ?_
  go_enter Try.func32, Try.ntmps32
  go_wp2_with fail
  refine (rasked_no _ i).mono ?_
  rintro e w' ⟨rfl, rfl⟩
  go_wp2
  all_goals first | exact ⟨rfl, rfl⟩ | rfl

theorem rswap_any (h : RRow w a b ws acc) (i old x : Int) (hi : 0 ≤ i) :
    Calls Try.prog 75 #[.pointer (some ⟨a, 0, none⟩), .int .u64 i, .int .u64 old, .int .u64 x] w fun e w' =>
      e = .returned (.tuple #[.bool (rHit ws i old), .int .i64 (rLoad ws i).2]) ∧ RRow w' a b (if rHit ws i old then ws.set i.toNat x else ws) (up64 acc) ∧ Upd [a, b] w w' := by
  have hu : Upd [a, b] w (w.setCell ⟨a, 1, none⟩ (.int .u64 (up64 acc))) := (Upd.refl _ _).setCell (.inl (by simp)) _
  have hr := h.acc' (up64 acc)
  have ha := rasked_any h i
  obtain ⟨cap, k0⟩ := hr.c0
  by_cases hi2 : i < ws.length
  · have hc := hr.cw i.toNat (by omega)
    have hf := hr.fb i.toNat
    have hx : rLoad ws i = (wd ws i.toNat, 0) := if_pos hi2
    have hy : rHit ws i old = (wd ws i.toNat == old) := by simp [rHit, hi2]
    have hp := hr.put i.toNat (by omega) x
    rw [hx] at ha ⊢
    rw [hy]
    clear hx hy
    obtain ⟨v, hv⟩ : ∃ v, v = wd ws i.toNat := ⟨_, rfl⟩
    rw [← hv] at hc ⊢
    clear hv
    by_cases ho : v = old
    · subst ho
      rw [if_pos (by simp)]
      rw [show (v == v) = true by simp]
      have h2 : (v != v) = false := by simp
      refine calls_all fun K hK => ?_
      go_enter Try.func75, Try.ntmps75
      go_wp2_with fail
      refine (ha).mono ?_
      rintro e w' ⟨rfl, rfl⟩
      go_wp2
      exact ⟨rfl, hp, hu.setCell (.inl (by simp)) _⟩
    · have h1 : (v == old) = false := by simp [ho]
      have h2 : (v != old) = true := by simp [ho]
      rw [h1, if_neg (by simp)]
      clear h1
      refine calls_all fun K hK => ?_
      go_enter Try.func75, Try.ntmps75
      go_wp2_with fail
      refine (ha).mono ?_
      rintro e w' ⟨rfl, rfl⟩
      go_wp2
      exact ⟨rfl, hr, hu⟩
  · have hx : rLoad ws i = (0, 4) := if_neg hi2
    have hy : rHit ws i old = false := by simp [rHit, hi2]
    rw [hx] at ha ⊢
    rw [hy, if_neg (by simp)]
    clear hx hy
    refine calls_all fun K hK => ?_
    go_enter Try.func75, Try.ntmps75
    go_wp2_with fail
    refine (ha).mono ?_
    rintro e w' ⟨rfl, rfl⟩
    go_wp2
    exact ⟨rfl, hr, hu⟩

theorem rswap_no (w : World) (i old x : Int) : Calls Try.prog 75 #[.pointer none, .int .u64 i, .int .u64 old, .int .u64 x] w fun e w' => e = .returned (.tuple #[.bool false, .int .i64 1]) ∧ w = w' := by
  refine calls_all fun K hK => ?_
  go_enter Try.func75, Try.ntmps75
  go_wp2_with fail
  refine (rasked_no _ i).mono ?_
  rintro e w' ⟨rfl, rfl⟩
  go_wp2
  all_goals first | exact ⟨rfl, rfl⟩ | rfl

theorem radd_any (h : RRow w a b ws acc) (i x : Int) (hi : 0 ≤ i) :
    Calls Try.prog 76 #[.pointer (some ⟨a, 0, none⟩), .int .u64 i, .int .u64 x] w fun e w' =>
      e = .returned (.tuple #[.int .u64 (rLoad ws i).1, .int .i64 (rLoad ws i).2]) ∧ RRow w' a b (ws.set i.toNat (addU (wd ws i.toNat) x)) (up64 acc) ∧ Upd [a, b] w w' := by
  have hu : Upd [a, b] w (w.setCell ⟨a, 1, none⟩ (.int .u64 (up64 acc))) := (Upd.refl _ _).setCell (.inl (by simp)) _
  have hr := h.acc' (up64 acc)
  have ha := rasked_any h i
  obtain ⟨cap, k0⟩ := hr.c0
  by_cases hi2 : i < ws.length
  · have hc := hr.cw i.toNat (by omega)
    have hf := hr.fb i.toNat
    have hx : rLoad ws i = (wd ws i.toNat, 0) := if_pos hi2
    have hp := hr.put i.toNat (by omega) (addU (wd ws i.toNat) x)
    rw [hx] at ha ⊢
    clear hx
    refine calls_all fun K hK => ?_
    go_enter Try.func76, Try.ntmps76
    go_wp2_with fail
    refine (ha).mono ?_
    rintro e w' ⟨rfl, rfl⟩
    go_wp2
    exact ⟨rfl, hp, hu.setCell (.inl (by simp)) _⟩
  · have hx : rLoad ws i = (0, 4) := if_neg hi2
    rw [hx] at ha ⊢
    rw [List.set_eq_of_length_le (by omega)]
    clear hx
    refine calls_all fun K hK => ?_
    go_enter Try.func76, Try.ntmps76
    go_wp2_with fail
    refine (ha).mono ?_
    rintro e w' ⟨rfl, rfl⟩
    go_wp2
    exact ⟨rfl, hr, hu⟩

theorem radd_no (w : World) (i x : Int) : Calls Try.prog 76 #[.pointer none, .int .u64 i, .int .u64 x] w fun e w' => e = .returned (.tuple #[.int .u64 0, .int .i64 1]) ∧ w = w' := by
  refine calls_all fun K hK => ?_
  go_enter Try.func76, Try.ntmps76
  go_wp2_with fail
  refine (rasked_no _ i).mono ?_
  rintro e w' ⟨rfl, rfl⟩
  go_wp2
  all_goals first | exact ⟨rfl, rfl⟩ | rfl

theorem raccesses_any (h : RRow w a b ws acc) : Calls Try.prog 35 #[.pointer (some ⟨a, 0, none⟩)] w fun e w' => e = .returned (.int .u64 acc) ∧ w = w' := by
  have h1 := h.c1
  refine calls_all fun K hK => ?_
  go_enter Try.func35, Try.ntmps35
  go_wp2
  all_goals first | exact ⟨rfl, rfl⟩ | rfl

theorem raccesses_no (w : World) : Calls Try.prog 35 #[.pointer none] w fun e w' => e = .returned (.int .u64 0) ∧ w = w' := by
  refine calls_all fun K hK => ?_
  go_enter Try.func35, Try.ntmps35
  go_wp2
  all_goals first | exact ⟨rfl, rfl⟩ | rfl

theorem rwords_any (h : RRow w a b ws acc) : Calls Try.prog 78 #[.pointer (some ⟨a, 0, none⟩)] w fun e w' => (∃ cap, e = .returned (.slice (some ⟨b, 0, none⟩) ws.length cap)) ∧ w = w' := by
  obtain ⟨cap, h0⟩ := h.c0
  have hn := h.len2
  have hx : ∃ c, Ending.returned (.slice (some ⟨b, 0, none⟩) ws.length cap) = .returned (.slice (some ⟨b, 0, none⟩) ws.length c) := ⟨cap, rfl⟩
  refine calls_all fun K hK => ?_
  go_enter Try.func78, Try.ntmps78
  go_wp2
  all_goals first | exact ⟨⟨_, rfl⟩, rfl⟩ | rfl

theorem rwords_no (w : World) : Calls Try.prog 78 #[.pointer none] w fun e w' => e = .returned (.slice none 0 0) ∧ w = w' := by
  refine calls_all fun K hK => ?_
  go_enter Try.func78, Try.ntmps78
  go_wp2
  all_goals first | exact ⟨rfl, rfl⟩ | rfl

end

end Go.Proofs.Ythjiiedpplimpaa
