/- An attempt's calls, said shortly: the counts of accesses left out. No conditions. -/
import Derived.Test.YthfeljongackcaaAStep
import Derived.Test.YthfeljongackcaaABegin
set_option linter.unusedSimpArgs false
set_option linter.unusedVariables false
set_option maxRecDepth 100000
namespace Go.Proofs.Ythfeljongackcaa
open Go.RowKit
open Go.Maps

/-- an attempt that is going on -/
def LX (w : World) (X : SX) (sh : Sh) (a : Nat) (s : AS) (F : List Nat) : Prop := ∃ acc st rv wv mv, Live w X sh acc st a s F rv wv mv
/-- what it may write -/
def own (X : SX) (a : Nat) (F : List Nat) : List Nat := a :: (F ++ X.foot)
/-- what is shared, the counts left out -/
def XAt (w : World) (X : SX) (sh : Sh) : Prop := ∃ acc st, X.At w sh acc st

section
variable {w w' : World} {X : SX} {sh : Sh} {a : Nat} {s : AS} {F : List Nat}
theorem LX.upd {S : List Nat} (h : LX w X sh a s F) (u : Upd S w w') (hS : ∀ g ∈ own X a F, g ∉ S) : LX w' X sh a s F :=
  let ⟨acc, st, rv, wv, mv, h⟩ := h
  ⟨acc, st, rv, wv, mv, h.upd u (hS _ (by simp [own])) (fun g hg => hS g (by simp [own, hg])) (fun g hg => hS g (by simp [own, hg]))⟩
theorem LX.upd0 (h : LX w X sh a s F) (u : Upd [] w w') : LX w' X sh a s F := h.upd u (by simp)
theorem LX.updb {b : Nat} (h : LX w X sh a s F) (u : Upd [b] w w') (hb : b ∉ own X a F) : LX w' X sh a s F := h.upd u (fun g hg hm => by simp at hm; subst hm; exact hb hg)
theorem LX.wide (h : LX w X sh a s F) : Wide s := let ⟨_, _, _, _, _, h⟩ := h; h.wide
theorem LX.wsh (h : LX w X sh a s F) : WideSh sh := let ⟨_, _, _, _, _, h⟩ := h; h.sh.wide
theorem LX.lt (h : LX w X sh a s F) : ∀ g ∈ own X a F, g < w.heap.size := by
  obtain ⟨_, _, _, _, _, h⟩ := h
  intro g hg
  simp only [own, List.mem_cons, List.mem_append] at hg
  rcases hg with rfl | k | k
  · exact h.lt
  · exact (h.sep g k).1
  · exact h.sh.lt g k
theorem LX.xat (h : LX w X sh a s F) : XAt w X sh := let ⟨acc, st, _, _, _, h⟩ := h; ⟨acc, st, h.sh⟩

/-- a call's answer, and what it leaves -/
def XOk (w : World) (X : SX) (a : Nat) (F : List Nat) (T : Trn) (r : Int) (s' : AS) (sh' : Sh) (e : Ending) (w' : World) : Prop :=
  e = .returned (.tuple #[T.val, .int .i64 r]) ∧ ∃ F', LX w' X sh' a s' F' ∧ Upd (own X a F) w w' ∧ ∀ g ∈ F', g ∈ F ∨ w.heap.size ≤ g
theorem CallOk.x {acc st : Int} {T : Trn} {r : Int} {s' : AS} {sh' : Sh} {e : Ending} (h : CallOk w X acc st a F T r s' sh' e w') : XOk w X a F T r s' sh' e w' := by
  obtain ⟨he, _, F', acc', st', rv', wv', mv', hL, hu, hF, _⟩ := h
  exact ⟨he, F', ⟨_, _, _, _, _, hL⟩, hu, hF⟩
theorem get_x (h : LX w X sh a s F) (hM : May s) (x : Int) (hx : 0 ≤ x ∧ x < 18446744073709551616) : Calls Try.prog 14 #[.pointer (some ⟨a, 0, none⟩), .int .u64 x] w (XOk w X a F (getS s sh x).1 (getS s sh x).2.1 (getS s sh x).2.2 sh) := by
  obtain ⟨_, _, _, _, _, h⟩ := h
  exact (get_code h hM x hx).mono fun e w' k => k.x
theorem put_x (h : LX w X sh a s F) (hM : May s) (x v : Int) (hx : 0 ≤ x ∧ x < 18446744073709551616) (hv : 0 ≤ v ∧ v < 18446744073709551616) : Calls Try.prog 16 #[.pointer (some ⟨a, 0, none⟩), .int .u64 x, .int .u64 v] w (XOk w X a F (putS s sh x v).1 (putS s sh x v).2.1 (putS s sh x v).2.2 sh) := by
  obtain ⟨_, _, _, _, _, h⟩ := h
  exact (put_code h hM x v hx hv).mono fun e w' k => k.x
theorem end_x (h : LX w X sh a s F) (hM : May s) : Calls Try.prog 49 #[.pointer (some ⟨a, 0, none⟩)] w (XOk w X a F (endS s sh).1 (endS s sh).2.1 (endS s sh).2.2.1 (endS s sh).2.2.2) := by
  obtain ⟨_, _, _, _, _, h⟩ := h
  exact (end_code h hM).mono fun e w' k => k.x
theorem step_x (h : LX w X sh a s F) (hM : May s) : Calls Try.prog 15 #[.pointer (some ⟨a, 0, none⟩)] w (XOk w X a F (stepS s sh).1 (stepS s sh).2.1 (stepS s sh).2.2.1 (stepS s sh).2.2.2) := by
  obtain ⟨_, _, _, _, _, h⟩ := h
  exact (step_code h hM).mono fun e w' k => k.x
theorem phase_x (h : LX w X sh a s F) : Calls Try.prog 17 #[.pointer (some ⟨a, 0, none⟩)] w fun e w' => e = .returned (.int .i64 s.phase) ∧ w = w' := by
  obtain ⟨_, _, _, _, _, h⟩ := h
  exact phase_code h
theorem locked_x (h : LX w X sh a s F) : Calls Try.prog 56 #[.pointer (some ⟨a, 0, none⟩)] w fun e w' => e = .returned (.bool (s.phase == 8 || s.phase == 9)) ∧ w = w' := by
  obtain ⟨_, _, _, _, _, h⟩ := h
  exact locked_code h
theorem drop_x (h : LX w X sh a s F) : Calls Try.prog 55 #[.pointer (some ⟨a, 0, none⟩)] w fun e w' => e = .returned (.int .i64 (dropS s).1) ∧ LX w' X sh a (dropS s).2 F ∧ Upd (own X a F) w w' := by
  obtain ⟨_, _, _, _, _, h⟩ := h
  exact (drop_code h).mono fun e w' ⟨he, rv', wv', mv', hL, hu⟩ => ⟨he, ⟨_, _, _, _, _, hL⟩, hu.mono (by simp [own]; exact fun x h => .inl (.inr (.inl h)))⟩

/-- an attempt has begun, or not -/
def XBegun (w : World) (X : SX) (sh : Sh) (e : Ending) (w' : World) : Prop :=
  ∃ a F, e = .returned (.tuple #[.pointer (some ⟨a, 0, none⟩), (⟨6, 0, ⟨1, 0, sh.clock, false⟩⟩ : Trn).val, .int .i64 0]) ∧ LX w' X sh a (fresh sh.clock) F ∧ Upd X.foot w w' ∧ w.heap.size ≤ a ∧ ∀ g ∈ F, w.heap.size ≤ g
theorem begin_x (h : XAt w X sh) (hc : sh.clock % 2 = 0) : Calls Try.prog 13 #[.pointer (some ⟨X.ra, 0, none⟩), .pointer (some ⟨X.ca, 0, none⟩)] w (XBegun w X sh) := by
  obtain ⟨acc, st, h⟩ := h
  exact (begin_even h hc).mono fun e w' ⟨a, F, rv, wv, mv, he, hL, hu, ha, hF⟩ => ⟨a, F, he, ⟨_, _, _, _, _, hL⟩, hu, ha, hF⟩
theorem begin_no (h : XAt w X sh) (hc : sh.clock % 2 = 1) : Calls Try.prog 13 #[.pointer (some ⟨X.ra, 0, none⟩), .pointer (some ⟨X.ca, 0, none⟩)] w fun e w' => e = .returned (.tuple #[.pointer none, (⟨7, 0, evNone⟩ : Trn).val, .int .i64 0]) ∧ XAt w' X sh ∧ Upd X.foot w w' := by
  obtain ⟨acc, st, h⟩ := h
  exact (begin_odd h hc).mono fun e w' ⟨he, hX, hu⟩ => ⟨he, ⟨_, _, hX⟩, hu⟩
theorem XAt.load (h : XAt w X sh) (x : Int) (hx : 0 ≤ x) : Calls Try.prog 50 #[.pointer (some ⟨X.ra, 0, none⟩), .int .u64 x] w fun e w' => e = .returned (.tuple #[.int .u64 (loadW sh.row x), .int .i64 (rLoad sh.row x).2]) ∧ XAt w' X sh ∧ Upd X.foot w w' := by
  obtain ⟨acc, st, h⟩ := h
  refine (load_any h.row x hx).mono fun e w' ⟨he, r, u⟩ => ⟨by rw [he, loadW_eq], ⟨_, _, ⟨r, h.clk.upd u (by have := h.a1; simp; omega) (by have := h.a1; simp; omega) (by have := h.a1; simp; omega), h.a1, h.a2, h.wide⟩⟩, u.mono (by simp [SX.foot])⟩
theorem XAt.clk (h : XAt w X sh) : Calls Try.prog 42 #[.pointer (some ⟨X.ca, 0, none⟩)] w fun e w' => e = .returned (.tuple #[.int .u64 sh.clock, .int .i64 0]) ∧ XAt w' X sh ∧ Upd X.foot w w' := by
  obtain ⟨acc, st, h⟩ := h
  exact (clkLoad h.clk).mono fun e w' ⟨he, c, u⟩ => ⟨he, ⟨_, _, h.clkd u c⟩, u.mono (by simp [SX.foot])⟩
theorem XAt.upd {S : List Nat} (h : XAt w X sh) (u : Upd S w w') (hS : ∀ g ∈ X.foot, g ∉ S) : XAt w' X sh := let ⟨_, _, h⟩ := h; ⟨_, _, h.upd u hS⟩
theorem XAt.lt (h : XAt w X sh) : ∀ g ∈ X.foot, g < w.heap.size := let ⟨_, _, h⟩ := h; h.lt
end
/-- a row and a clock that are made -/
theorem XAt.made {w1 w2 : World} {a b c d e : Nat} {ws : List Int} {k : Int} {acc st : Int} (hR : RowAt w1 a b ws acc) (hC : ClockAt w2 c d e k st) (u : Upd [] w1 w2) (h1 : w1.heap.size ≤ c) (h2 : w1.heap.size ≤ d) (h3 : w1.heap.size ≤ e) (hw : WideSh ⟨ws, k⟩) : XAt w2 ⟨a, b, c, d, e⟩ ⟨ws, k⟩ := by
  have := hR.lta
  have := hR.ltb
  exact ⟨acc, st, hR.upd u (by simp) (by simp), hC, ⟨by simp only; omega, by simp only; omega, by simp only; omega⟩, ⟨by simp only; omega, by simp only; omega, by simp only; omega⟩, hw⟩
end Go.Proofs.Ythfeljongackcaa
