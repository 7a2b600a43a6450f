/- The contracts of the clock, function by function: a clock that is there. -/
import Derived.Test.YthfeljongackcaaCells
set_option linter.unusedSimpArgs false
set_option linter.unusedVariables false
set_option maxRecDepth 100000
namespace Go.Proofs.Ythfeljongackcaa
open Go.RowKit

/-- a clock: its own block c, its row's blocks a and b -/
structure ClockAt (w : World) (c a b : Nat) (word steps : Int) : Prop where
  head : Blk w c [.pointer (some ⟨a, 0, none⟩), .int .i64 steps] 137
  row : ∃ acc, RowAt w a b [word] acc
  nea : c ≠ a
  neb : c ≠ b

section
variable {w w' : World} {c a b : Nat} {word steps : Int}
theorem ClockAt.upd {S : List Nat} (h : ClockAt w c a b word steps) (k : Upd S w w') (hc : c ∉ S) (ha : a ∉ S) (hb : b ∉ S) : ClockAt w' c a b word steps :=
  ⟨h.head.upd k hc, let ⟨acc, r⟩ := h.row; ⟨acc, r.upd k ha hb⟩, h.nea, h.neb⟩
theorem ClockAt.below {B : Nat} (h : ClockAt w c a b word steps) (k : Below B w w') (hc : c < B) (ha : a < B) (hb : b < B) : ClockAt w' c a b word steps :=
  ⟨h.head.below k hc, let ⟨acc, r⟩ := h.row; ⟨acc, r.below k ha hb⟩, h.nea, h.neb⟩
theorem ClockAt.ltc (h : ClockAt w c a b word steps) : c < w.heap.size := h.head.lt
theorem ClockAt.lta (h : ClockAt w c a b word steps) : a < w.heap.size := let ⟨_, r⟩ := h.row; r.lta
theorem ClockAt.ltb (h : ClockAt w c a b word steps) : b < w.heap.size := let ⟨_, r⟩ := h.row; r.ltb
theorem ClockAt.drew (h : ClockAt w c a b word steps) : ClockAt w.drew c a b word steps := h.upd ((Upd.refl [] _).drew) (by simp) (by simp) (by simp)
end

theorem none_false (c : Nat) (a : Addr) (w : World) (h : w.cell? ⟨c, 0, none⟩ = some (.pointer (some a))) :
    Calls Try.prog 77 #[.pointer (some ⟨c, 0, none⟩)] w fun e w' => e = .returned (.bool false) ∧ w = w' := by
  go_enter Try.func77, Try.ntmps77
  go_wp2
  go_ret
  exact ⟨rfl, rfl⟩

theorem step_d (c : Nat) (n : Int) (u : FrameMode) (w : World) (h : w.cell? ⟨c, 1, none⟩ = some (.int .i64 n)) (hf : w.frozen? ⟨c, 1, none⟩ = false):
    CallsD Try.prog 78 #[.pointer (some ⟨c, 0, none⟩)] u w fun e u' w' => u' = u ∧ e = .returned (.tuple #[]) ∧ w.setCell ⟨c, 1, none⟩ (.int .i64 (wrap64 (n + 1))) = w' := by
  go_enter_d Try.func78, Try.ntmps78
  go_wp2
  go_end0
  exact ⟨rfl, rfl⟩

theorem ClockAt.stepped {w : World} {c a b : Nat} {word steps : Int} (h : ClockAt w c a b word steps) (n : Int) : ClockAt (w.setCell ⟨c, 1, none⟩ (.int .i64 n)) c a b word n :=
  ⟨h.head.set 1 _, let ⟨acc, r⟩ := h.row; ⟨acc, r.upd ((Upd.refl [c] _).setCell (.inl (by simp)) _) (by simpa using h.nea.symm) (by simpa using h.neb.symm)⟩, h.nea, h.neb⟩

/-- is a word even? (as the program asks it) -/
def opn (n : Int) : Bool := bits BinOp.and IntKind.u64 n 1 == 0

theorem opn_eq {n : Int} (h0 : 0 ≤ n) (h1 : n < 18446744073709551616) : opn n = decide (n % 2 = 0) := by
  unfold opn
  rw [u64_and n 1 h0 h1 (by omega) (by omega)]
  have : n.toNat &&& (1 : Int).toNat = n.toNat % 2 := nat_mask1 _
  rw [this, Bool.eq_iff_iff]
  simp
  omega

theorem open_any (n : Int) (w : World) :
    Calls Try.prog 43 #[.int .u64 n] w fun e w' => e = .returned (.bool (opn n)) ∧ w = w' := by
  go_enter Try.func43, Try.ntmps43
  go_wp2
  go_ret
  exact ⟨rfl, rfl⟩

/-- the same clock's block behind a step on its row -/
theorem ClockAt.mid {w w' : World} {c a b : Nat} {word word' steps acc' : Int} (h : ClockAt w c a b word steps) (r : RowAt w' a b [word'] acc') (u : Upd [a, b] w w') : ClockAt w' c a b word' steps :=
  ⟨h.head.upd u (by simp [h.nea, h.neb]), ⟨_, r⟩, h.nea, h.neb⟩

theorem clkLoad {w : World} {c a b : Nat} {word steps : Int} (h : ClockAt w c a b word steps) :
    Calls Try.prog 42 #[.pointer (some ⟨c, 0, none⟩)] w fun e w' => e = .returned (.tuple #[.int .u64 word, .int .i64 0]) ∧ ClockAt w' c a b word (wrap64 (steps + 1)) ∧ Upd [c, a, b] w w' := by
  obtain ⟨acc, r⟩ := h.row
  have h0 := h.head.cell 0 rfl
  refine calls_all fun K hK => ?_
  go_enter_defers Try.func42, Try.ntmps42
  go_wp2_with (first | (go_at_call 77; refine (none_false _ _ _ h0).mono ?_; rintro e w' ⟨rfl, rfl⟩) | (go_at_call 50; refine (load_any r 0 (by omega)).mono ?_; rintro e w' ⟨rfl, r1, u1⟩))
  have u2 : Upd [a, b] w w' := u1.mono (T := [a, b]) (by simp)
  have k := h.mid r1 u2
  refine leaves_cons (f := 78) (args := #[.pointer (some ⟨c, 0, none⟩)]) (by simp) (by simp [go_sem]) ?_
  refine (step_d c steps .returning _ (k.head.cell 1 rfl) (k.head.free 1)).mono ?_
  rintro e u' w'' ⟨rfl, rfl, rfl⟩
  exact ⟨_, results_tmp2 rfl _ _ _, hK _ _ ⟨rfl, k.stepped _, (u2.mono (T := [c, a, b]) (by simp)).setCell (.inl (by simp)) _⟩⟩

/-- what a Leave or Back answers, and leaves -/
def heldRes (b : Bool) : Int := if b then 0 else 160
def heldWord (b : Bool) (x word : Int) : Int := if b then x else word

/-- does a Take take it? -/
def takes (word s : Int) : Bool := opn s && (word == s)

theorem clkTake {w : World} {c a b : Nat} {word steps : Int} (hC : ClockAt w c a b word steps) (s : Int) :
    Calls Try.prog 96 #[.pointer (some ⟨c, 0, none⟩), .int .u64 s] w fun e w' =>
      e = .returned (.tuple #[.bool (takes word s), .int .i64 0]) ∧ ClockAt w' c a b (heldWord (takes word s) (up64 s) word) (wrap64 (steps + 1)) ∧ Upd [c, a, b] w w' := by
  obtain ⟨acc, r⟩ := hC.row
  have h0 := hC.head.cell 0 rfl
  by_cases ho : opn s = true
  · have ht : takes word s = rHit [word] 0 s := by simp [takes, ho, rHit, wd]
    rw [ht]
    refine calls_to (R := fun e w' => e = .returned (.tuple #[.bool (rHit [word] 0 s), .int .i64 (rLoad [word] 0).2]) ∧ ∃ w1, (RowAt w1 a b (if rHit [word] 0 s then [word].set (0 : Int).toNat (up64 s) else [word]) (up64 acc) ∧ Upd [a, b] w w1) ∧ w1.setCell ⟨c, 1, none⟩ (.int .i64 (wrap64 (steps + 1))) = w') ?_
      (fun e w' ⟨he, w1, ⟨r1, u1⟩, hw⟩ => ⟨he, by
        rw [← hw]
        generalize rHit [word] 0 s = hit at *
        cases hit <;> exact (hC.mid r1 u1).stepped _, by rw [← hw]; exact (u1.mono (T := [c, a, b]) (by simp)).setCell (.inl (by simp)) _⟩)
    refine calls_all fun K hK => ?_
    go_enter_defers Try.func96, Try.ntmps96
    go_wp2_with (first | (go_at_call 77; refine (none_false _ _ _ h0).mono ?_; rintro e w' ⟨rfl, rfl⟩) | (go_at_call 43; refine (open_any _ _).mono ?_; rintro e w' ⟨rfl, rfl⟩) | (go_at_call 118; refine (swap_any r 0 _ _ (by omega)).mono ?_; rintro e w' ⟨rfl, r1, u1⟩))
    have k := hC.head.upd u1 (by simp [hC.nea, hC.neb])
    refine leaves_cons (f := 78) (args := #[.pointer (some ⟨c, 0, none⟩)]) (by simp) (by simp [go_sem]) ?_
    refine (step_d c steps .returning _ (k.cell 1 rfl) (k.free 1)).mono ?_
    rintro e u' w'' ⟨rfl, rfl, rfl⟩
    exact ⟨_, results_tmp2 rfl _ _ _, hK _ _ ⟨rfl, w', ⟨r1, u1⟩, rfl⟩⟩
  · have ho' : opn s = false := by simpa using ho
    have ht : takes word s = false := by simp [takes, ho']
    rw [ht]
    show Calls _ _ _ _ fun e w' => e = .returned (.tuple #[.bool false, .int .i64 0]) ∧ ClockAt w' c a b word (wrap64 (steps + 1)) ∧ Upd [c, a, b] w w'
    have hs := hC.head.cell 1 rfl
    have hf := hC.head.free 1
    have k := hC.stepped (wrap64 (steps + 1))
    have ku : Upd [c, a, b] w (w.setCell ⟨c, 1, none⟩ (.int .i64 (wrap64 (steps + 1)))) := (Upd.refl _ _).setCell (.inl (by simp)) _
    refine calls_all fun K hK => ?_
    go_enter_defers Try.func96, Try.ntmps96
    go_wp2_with (first | (go_at_call 77; refine (none_false _ _ _ h0).mono ?_; rintro e w' ⟨rfl, rfl⟩) | (go_at_call 43; refine (open_any _ _).mono ?_; rintro e w' ⟨rfl, rfl⟩))
    refine leaves_cons (f := 78) (args := #[.pointer (some ⟨c, 0, none⟩)]) (by simp) (by simp [go_sem]) ?_
    refine (step_d c steps .returning _ hs hf).mono ?_
    rintro e u' w'' ⟨rfl, rfl, rfl⟩
    exact ⟨_, results_tmp2 rfl _ _ _, hK _ _ ⟨rfl, k, ku⟩⟩

/-- is it held at s? -/
def holds (word s : Int) : Bool := opn s && (word == up64 s)

theorem clkSet {w : World} {c a b : Nat} {word steps : Int} (hC : ClockAt w c a b word steps) (s x : Int) :
    Calls Try.prog 119 #[.pointer (some ⟨c, 0, none⟩), .int .u64 s, .int .u64 x] w fun e w' =>
      e = .returned (.int .i64 (heldRes (holds word s))) ∧ ClockAt w' c a b (heldWord (holds word s) x word) (wrap64 (steps + 1)) ∧ Upd [c, a, b] w w' := by
  obtain ⟨acc, r⟩ := hC.row
  have h0 := hC.head.cell 0 rfl
  by_cases ho : opn s = true
  · have ht : holds word s = rHit [word] 0 (up64 s) := by simp [holds, ho, rHit, wd]
    rw [ht]
    obtain ⟨hit, hh⟩ : ∃ hit, hit = rHit [word] 0 (up64 s) := ⟨_, rfl⟩
    have sw := swap_any r 0 (up64 s) x (by omega)
    rw [← hh] at sw ⊢
    have SW := Lib.hid sw
    clear sw hh ht
    refine calls_to (R := fun e w' => e = .returned (.int .i64 (heldRes hit)) ∧ ∃ w1, (RowAt w1 a b (if hit then [word].set (0 : Int).toNat x else [word]) (up64 acc) ∧ Upd [a, b] w w1) ∧ w1.setCell ⟨c, 1, none⟩ (.int .i64 (wrap64 (steps + 1))) = w') ?_
      (fun e w' ⟨he, w1, ⟨r1, u1⟩, hw⟩ => ⟨he, by
        rw [← hw]
        by_cases hh : hit = true
        · subst hh; exact (hC.mid r1 u1).stepped _
        · simp at hh; subst hh; exact (hC.mid r1 u1).stepped _, by rw [← hw]; exact (u1.mono (T := [c, a, b]) (by simp)).setCell (.inl (by simp)) _⟩)
    cases hit
    all_goals
      refine calls_all fun K hK => ?_
      go_enter_defers Try.func119, Try.ntmps119
      go_wp2_with (first | (go_at_call 77; refine (none_false _ _ _ h0).mono ?_; rintro e w' ⟨rfl, rfl⟩) | (go_at_call 43; refine (open_any _ _).mono ?_; rintro e w' ⟨rfl, rfl⟩) | (go_at_call 118; refine SW.out.mono ?_; rintro e w' ⟨rfl, r1, u1⟩))
      have k := hC.head.upd u1 (by simp [hC.nea, hC.neb])
      refine leaves_cons (f := 78) (args := #[.pointer (some ⟨c, 0, none⟩)]) (by simp) (by simp [go_sem]) ?_
      refine (step_d c steps .returning _ (k.cell 1 rfl) (k.free 1)).mono ?_
      rintro e u' w'' ⟨rfl, rfl, rfl⟩
      exact ⟨_, results_tmp rfl _ _ _, hK _ _ ⟨rfl, w', ⟨r1, u1⟩, rfl⟩⟩
  · have ho' : opn s = false := by simpa using ho
    have ht : holds word s = false := by simp [holds, ho']
    rw [ht]
    show Calls _ _ _ _ fun e w' => e = .returned (.int .i64 160) ∧ ClockAt w' c a b word (wrap64 (steps + 1)) ∧ Upd [c, a, b] w w'
    have hs := hC.head.cell 1 rfl
    have hf := hC.head.free 1
    have k := hC.stepped (wrap64 (steps + 1))
    have ku : Upd [c, a, b] w (w.setCell ⟨c, 1, none⟩ (.int .i64 (wrap64 (steps + 1)))) := (Upd.refl _ _).setCell (.inl (by simp)) _
    refine calls_all fun K hK => ?_
    go_enter_defers Try.func119, Try.ntmps119
    go_wp2_with (first | (go_at_call 77; refine (none_false _ _ _ h0).mono ?_; rintro e w' ⟨rfl, rfl⟩) | (go_at_call 43; refine (open_any _ _).mono ?_; rintro e w' ⟨rfl, rfl⟩))
    refine leaves_cons (f := 78) (args := #[.pointer (some ⟨c, 0, none⟩)]) (by simp) (by simp [go_sem]) ?_
    refine (step_d c steps .returning _ hs hf).mono ?_
    rintro e u' w'' ⟨rfl, rfl, rfl⟩
    exact ⟨_, results_tmp rfl _ _ _, hK _ _ ⟨rfl, k, ku⟩⟩

def up64b (s : Int) : Int := IntKind.u64.wrap (s + 2)

theorem clkLeave {w : World} {c a b : Nat} {word steps : Int} (hC : ClockAt w c a b word steps) (s : Int) :
    Calls Try.prog 97 #[.pointer (some ⟨c, 0, none⟩), .int .u64 s] w fun e w' =>
      e = .returned (.int .i64 (heldRes (holds word s))) ∧ ClockAt w' c a b (heldWord (holds word s) (up64b s) word) (wrap64 (steps + 1)) ∧ Upd [c, a, b] w w' := by
  have SW := Lib.hid (clkSet hC s (up64b s))
  refine calls_all fun K hK => ?_
  go_enter Try.func97, Try.ntmps97
  go_wp2_with (go_at_call 119; refine SW.out.mono ?_; rintro e w' ⟨rfl, h1, h2⟩)
  exact ⟨rfl, h1, h2⟩



/-- what a new clock is -/
def MadeClock (w : World) (word steps : Int) (e : Ending) (w' : World) : Prop :=
  ∃ c a b, e = .returned (.pointer (some ⟨c, 0, none⟩)) ∧ ClockAt w' c a b word steps ∧ w.heap.size ≤ c ∧ w.heap.size ≤ a ∧ w.heap.size ≤ b ∧ Upd [] w w'

theorem clkFrom (x : Int) (w : World) : Calls Try.prog 32 #[.int .u64 x] w (MadeClock w x 0) := by
  have hs : SlI (w.alloc (.cells #[.int .u64 x] 31)) .u64 (some ⟨w.heap.size, 0, none⟩) [x] := SlI.of_blk (sp := []) (t := 31) (Blk.new w [.int .u64 x] 31)
  have HO := Lib.hid (of_ok (some ⟨w.heap.size, 0, none⟩) 1 [x] _ hs (by simp) (by simp))
  go_enter Try.func32, Try.ntmps32
  go_wp2_with (go_at_call 19; refine HO.out.mono ?_; rintro e w' ⟨a, b, rfl, r, ha, hb, hu⟩)
  go_ret
  have hn := Blk.new w' [Value.pointer (some ⟨a, 0, none⟩), .int .i64 0] 137
  simp only [World.size_alloc] at ha hb
  have hu2 : Upd [] w w' := ((Upd.refl [] w).alloc _).trans hu
  exact ⟨w'.heap.size, a, b, rfl, ⟨hn, ⟨_, r.upd ((Upd.refl [] _).alloc _) (by simp) (by simp)⟩, by have := r.lta; omega, by have := r.ltb; omega⟩, hu2.size, by omega, by omega, hu2.alloc _⟩

theorem clkNew (w : World) : Calls Try.prog 11 #[] w (MadeClock w 0 0) := by
  have HO := Lib.hid (clkFrom 0 w)
  go_enter Try.func11, Try.ntmps11
  go_wp2_with (go_at_call 32; refine HO.out.mono ?_; rintro e w' ⟨c, a, b, rfl, r⟩)
  go_ret
  exact ⟨c, a, b, rfl, r⟩

theorem number_any (n : Int) (w : World) (h0 : 0 ≤ n) (h1 : n < 18446744073709551616) :
    Calls Try.prog 88 #[.int .u64 n] w fun e w' => e = .returned (.int .u64 (n / 2)) ∧ w = w' := by
  go_enter Try.func88, Try.ntmps88
  go_wp2
  go_ret
  exact ⟨rfl, rfl⟩

theorem clkTake_yes {w : World} {c a b : Nat} {word steps : Int} (h : ClockAt w c a b word steps) (s x : Int) (ht : takes word s = true) (hx : up64 s = x) :
    Calls Try.prog 96 #[.pointer (some ⟨c, 0, none⟩), .int .u64 s] w fun e w' => e = .returned (.tuple #[.bool true, .int .i64 0]) ∧ ClockAt w' c a b x (wrap64 (steps + 1)) ∧ Upd [c, a, b] w w' := by
  have k := clkTake h s
  rw [ht, hx] at k
  exact k

theorem clkTake_no {w : World} {c a b : Nat} {word steps : Int} (h : ClockAt w c a b word steps) (s : Int) (ht : takes word s = false) :
    Calls Try.prog 96 #[.pointer (some ⟨c, 0, none⟩), .int .u64 s] w fun e w' => e = .returned (.tuple #[.bool false, .int .i64 0]) ∧ ClockAt w' c a b word (wrap64 (steps + 1)) ∧ Upd [c, a, b] w w' := by
  have k := clkTake h s
  rw [ht] at k
  exact k

theorem clkLeave_yes {w : World} {c a b : Nat} {word steps : Int} (h : ClockAt w c a b word steps) (s x : Int) (ht : holds word s = true) (hx : up64b s = x) :
    Calls Try.prog 97 #[.pointer (some ⟨c, 0, none⟩), .int .u64 s] w fun e w' => e = .returned (.int .i64 0) ∧ ClockAt w' c a b x (wrap64 (steps + 1)) ∧ Upd [c, a, b] w w' := by
  have k := clkLeave h s
  rw [ht, hx] at k
  exact k

theorem clkLeave_no {w : World} {c a b : Nat} {word steps : Int} (h : ClockAt w c a b word steps) (s : Int) (ht : holds word s = false) :
    Calls Try.prog 97 #[.pointer (some ⟨c, 0, none⟩), .int .u64 s] w fun e w' => e = .returned (.int .i64 160) ∧ ClockAt w' c a b word (wrap64 (steps + 1)) ∧ Upd [c, a, b] w w' := by
  have k := clkLeave h s
  rw [ht] at k
  exact k



theorem wrap64_1 : wrap64 (0 + 1) = 1 := by unfold wrap64; omega
theorem wrap64_2 : wrap64 (1 + 1) = 2 := by unfold wrap64; omega
theorem wrap64_3 : wrap64 (2 + 1) = 3 := by unfold wrap64; omega
theorem wrap64_4 : wrap64 (3 + 1) = 4 := by unfold wrap64; omega

end Go.Proofs.Ythfeljongackcaa
