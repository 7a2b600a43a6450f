/- Begin: an attempt begins where the clock is open. No conditions. An attempt's calls, said shortly: the counts of accesses left out. No conditions. The block that the document names, alone: known answers true. No conditions. The contracts of the document's row (parleyref01), function by function: a row that is there, and one that is not. The conditions are sizes. -/
import Derived.Test.YthfeljongackcaaM7p07
import Derived.Test.YthfeljongackcaaM7p09
import Derived.Test.YthfeljongackcaaM7p01
import Derived.Deep.QuietTactic
import Derived.BigQuiet
set_option linter.unusedSimpArgs false
set_option linter.unusedVariables false
set_option maxRecDepth 100000
namespace Go.Proofs.Ythfeljongackcaa
open Go.RowKit
open Go.Maps

theorem turn_results3 {fn : Func} (p k m : Nat) (hr : fn.results = #[.tmp p, .cell k 36, .tmp m]) (t : Array Value) (w : World) (rb : Nat) (T : Trn) (u v : Value) (h1 : t.getD p undef = u) (h2 : t.getD k undef = .pointer (some ⟨rb, 0, none⟩)) (h3 : t.getD m undef = v) (hb : Blk w rb T.cells 36) :
    (results fn t).run Try.prog w = .ok (.tuple #[u, T.val, v]) w := by
  have c0 := hb.cell 0 rfl
  have c1 := hb.cell 1 rfl
  have c2 := hb.cell 2 rfl
  have c3 := hb.cell 3 rfl
  have c4 := hb.cell 4 rfl
  have c5 := hb.cell 5 rfl
  have c6 := hb.cell 6 rfl
  have c7 := hb.cell 7 rfl
  have h1' : t[p]?.getD undef = u := by simpa using h1
  have h2' : t[k]?.getD undef = .pointer (some ⟨rb, 0, none⟩) := by simpa using h2
  have h3' : t[m]?.getD undef = v := by simpa using h3
  simp [results, hr, h1', h2', h3', go_sem, c0, c1, c2, c3, c4, c5, c6, c7, Trn.val]

section
variable {w : World} {X : SX} {sh : Sh} {acc st : Int}
/-- an attempt has begun -/
def Begun (w : World) (X : SX) (sh : Sh) (acc st : Int) (e : Ending) (w' : World) : Prop :=
  ∃ a F rv wv mv, e = .returned (.tuple #[.pointer (some ⟨a, 0, none⟩), (⟨6, 0, ⟨1, 0, sh.clock, false⟩⟩ : Trn).val, .int .i64 0]) ∧ Live w' X sh acc (wrap64 (st + 1)) a (fresh sh.clock) F rv wv mv ∧ Upd X.foot w w' ∧ w.heap.size ≤ a ∧ ∀ g ∈ F, w.heap.size ≤ g
def NotBegun (w : World) (X : SX) (sh : Sh) (acc st : Int) (e : Ending) (w' : World) : Prop :=
  e = .returned (.tuple #[.pointer none, (⟨7, 0, evNone⟩ : Trn).val, .int .i64 0]) ∧ X.At w' sh acc (wrap64 (st + 1)) ∧ Upd X.foot w w'

theorem SX.At.clkd {w w1 : World} {st' : Int} (h : X.At w sh acc st) (u : Upd [X.ca, X.cr, X.cb] w w1) (c : ClockAt w1 X.ca X.cr X.cb sh.clock st') : X.At w1 sh acc st' :=
  ⟨h.row.upd u (by have := h.a1; simp; omega) (by have := h.a2; simp; omega), c, h.a1, h.a2, h.wide⟩

set_option maxHeartbeats 1000000 in
theorem begin_odd (h : X.At w sh acc st) (hc : sh.clock % 2 = 1) : Calls Try.prog 13 #[.pointer (some ⟨X.ra, 0, none⟩), .pointer (some ⟨X.ca, 0, none⟩)] w (NotBegun w X sh acc st) := by
  have hl1 : ((sh.row.length : Int) == 0) = false := by have := h.row.len1; rw [beq_eq_false_iff_ne]; omega
  have hop := fun W => open_any sh.clock W
  rw [show opn sh.clock = false by rw [opn_eq h.wide.clock.1 h.wide.clock.2]; simp; omega] at hop
  have HOP := Lib.hid hop
  have l3 := h.clk.ltc
  have l4 := h.clk.lta
  have l5 := h.clk.ltb
  clear hop hc
  refine calls_all fun K hK => ?_
  go_enter Try.func13, Try.ntmps13
  go_wp2_with fail
  obtain ⟨W, hW⟩ : ∃ W, W = w.alloc (.cells turn0.toArray 36) := ⟨_, rfl⟩
  have RB : Blk W w.heap.size turn0 36 := by rw [hW]; exact Blk.new w _ _
  have HU : Upd [] w W := by rw [hW]; exact (Upd.refl _ _).alloc _
  have hWs : W.heap.size = w.heap.size + 1 := by rw [hW]; exact World.size_alloc _ _
  simp only [turn0, trnNone, evNone, Trn.cells] at hW
  rw [← hW]
  clear hW
  have h1 := h.upd HU (by simp)
  refine (len_row h1.row).mono ?_
  rintro e w' ⟨rfl, rfl⟩
  go_wp2_with fail
  refine (clkLoad h1.clk).mono ?_
  rintro e w1 ⟨rfl, c1, u1⟩
  have h2 := h1.clkd u1 c1
  have RB2 := RB.upd u1 (by simp; omega)
  have U2 : Upd X.foot w w1 := (HU.mono (by simp)).trans (u1.mono (by simp [SX.foot]))
  clear RB HU h1 u1 c1
  go_wp2_with fail
  refine (HOP.out w1).mono ?_
  rintro e w' ⟨rfl, rfl⟩
  have q0 := (RB2).cell 0 rfl
  have q1 := (RB2).cell 1 rfl
  have q2 := (RB2).cell 2 rfl
  have q3 := (RB2).cell 3 rfl
  have q4 := (RB2).cell 4 rfl
  have q5 := (RB2).cell 5 rfl
  have q6 := (RB2).cell 6 rfl
  have q7 := (RB2).cell 7 rfl
  have g0 := (RB2).free 0
  have g1 := (RB2).free 1
  have g2 := (RB2).free 2
  have g3 := (RB2).free 3
  have g4 := (RB2).free 4
  have g5 := (RB2).free 5
  have g6 := (RB2).free 6
  have g7 := (RB2).free 7
  go_wp2_with fail
  exact bodyPost_ret (turn_results3 4 5 6 rfl _ _ _ (⟨7, 0, evNone⟩ : Trn) (.pointer none) (.int .i64 0) rfl rfl rfl (turn_set RB2 rfl (⟨7, 0, evNone⟩ : Trn))) rfl (hK _ _ ⟨rfl, h2.upd (at8 _ _ _ _ _ _ _ _) (fun g hg => by have := h.lt g hg; simp; omega), upd8 U2 (Nat.le_refl _) _ _ _ _ _ _ _ _⟩)

set_option maxHeartbeats 1000000 in
theorem begin_even (h : X.At w sh acc st) (hc : sh.clock % 2 = 0) : Calls Try.prog 13 #[.pointer (some ⟨X.ra, 0, none⟩), .pointer (some ⟨X.ca, 0, none⟩)] w (Begun w X sh acc st) := by
  have hl1 : ((sh.row.length : Int) == 0) = false := by have := h.row.len1; rw [beq_eq_false_iff_ne]; omega
  have hop := fun W => open_any sh.clock W
  rw [show opn sh.clock = true by rw [opn_eq h.wide.clock.1 h.wide.clock.2]; simpa using hc] at hop
  have HOP := Lib.hid hop
  have l3 := h.clk.ltc
  have l4 := h.clk.lta
  have l5 := h.clk.ltb
  clear hop hc
  refine calls_all fun K hK => ?_
  go_enter Try.func13, Try.ntmps13
  go_wp2_with fail
  obtain ⟨W, hW⟩ : ∃ W, W = w.alloc (.cells turn0.toArray 36) := ⟨_, rfl⟩
  have RB : Blk W w.heap.size turn0 36 := by rw [hW]; exact Blk.new w _ _
  have HU : Upd [] w W := by rw [hW]; exact (Upd.refl _ _).alloc _
  have hWs : W.heap.size = w.heap.size + 1 := by rw [hW]; exact World.size_alloc _ _
  simp only [turn0, trnNone, evNone, Trn.cells] at hW
  rw [← hW]
  clear hW
  have h1 := h.upd HU (by simp)
  refine (len_row h1.row).mono ?_
  rintro e w' ⟨rfl, rfl⟩
  go_wp2_with fail
  refine (clkLoad h1.clk).mono ?_
  rintro e w1 ⟨rfl, c1, u1⟩
  have h2 := h1.clkd u1 c1
  have RB2 := RB.upd u1 (by simp; omega)
  have U2 : Upd X.foot w w1 := (HU.mono (by simp)).trans (u1.mono (by simp [SX.foot]))
  have hwl := RB2.lt
  clear RB HU h1 u1 c1
  go_wp2_with fail
  refine (HOP.out w1).mono ?_
  rintro e w' ⟨rfl, rfl⟩
  go_wp2_with fail
  have hb := Blk.new w1 (head0 X.ra X.ca (fresh sh.clock) (.slice none 0 0) (.slice none 0 0)) 66
  have u3 : Upd [] w1 (w1.alloc (.cells (head0 X.ra X.ca (fresh sh.clock) (.slice none 0 0) (.slice none 0 0)).toArray 66)) := (Upd.refl [] _).alloc _
  have hs3 : (w1.alloc (.cells (head0 X.ra X.ca (fresh sh.clock) (.slice none 0 0) (.slice none 0 0)).toArray 66)).heap.size = w1.heap.size + 1 := World.size_alloc _ _
  have hn : ∀ W F, OwnP W (.slice none 0 0) [] F := fun W F => ⟨World.ownsRow_nil _ _ _ _, fun _ => rfl, by simp [Value.ownBlock]⟩
  have hmade := made_code (F := []) hb (hn _ _) (hn _ _) (by simp [Value.ownBlock]) (by simp [fresh]) (by simp [fresh]) (by simp [fresh])
  refine hmade.mono ?_
  rintro e w4 ⟨rfl, m, hm1, hm2, hA, u4⟩
  rw [hs3] at hm1
  have u34 : Upd [] w1 w4 := u3.tr u4 (by simp) (fun x hx => by simp at hx; omega)
  have h4 := h2.upd u34 (by simp)
  have RB4 := RB2.upd u34 (by simp)
  have U4 := U2.trans (u34.mono (by simp))
  have HL : Live w4 X sh acc (wrap64 (st + 1)) w1.heap.size (fresh sh.clock) [m] (.slice none 0 0) (.slice none 0 0) (.map (some m)) := by
    have hwf : ∀ g ∈ X.foot, g < w1.heap.size := h2.lt
    refine ⟨hA, h4, fun g hg => ?_, wide_fresh h.wide.clock⟩
    simp at hg
    subst hg
    exact ⟨hm2, fun hm => by have := hwf _ hm; omega, by omega⟩
  clear hA h4 h2 hb u3 hs3 hmade RB2 U2 u4 u34 hn
  have q0 := (RB4).cell 0 rfl
  have q1 := (RB4).cell 1 rfl
  have q2 := (RB4).cell 2 rfl
  have q3 := (RB4).cell 3 rfl
  have q4 := (RB4).cell 4 rfl
  have q5 := (RB4).cell 5 rfl
  have q6 := (RB4).cell 6 rfl
  have q7 := (RB4).cell 7 rfl
  have g0 := (RB4).free 0
  have g1 := (RB4).free 1
  have g2 := (RB4).free 2
  have g3 := (RB4).free 3
  have g4 := (RB4).free 4
  have g5 := (RB4).free 5
  have g6 := (RB4).free 6
  have g7 := (RB4).free 7
  go_wp2_with fail
  exact bodyPost_ret (turn_results3 4 5 6 rfl _ _ _ (⟨6, 0, ⟨1, 0, sh.clock, false⟩⟩ : Trn) (.pointer (some ⟨w1.heap.size, 0, none⟩)) (.int .i64 0) rfl rfl rfl (turn_set RB4 rfl (⟨6, 0, ⟨1, 0, sh.clock, false⟩⟩ : Trn))) rfl
    (hK _ _ ⟨w1.heap.size, [m], _, _, _, rfl, HL.upd (at8 _ _ _ _ _ _ _ _) (by simp; omega) (fun g hg => by simp at hg; subst hg; simp; omega) (fun g hg => by have := h.lt g hg; simp; omega), upd8 U4 (Nat.le_refl _) _ _ _ _ _ _ _ _, by omega, fun g hg => by simp at hg; omega⟩)
end
end Go.Proofs.Ythfeljongackcaa
set_option linter.unusedSimpArgs false
set_option linter.unusedVariables false
set_option maxRecDepth 100000
namespace Go.Proofs.Ythfeljongackcaa
open Go.RowKit
open Go.Maps

/-- an attempt that is going on -/
def LX (w : World) (X : SX) (sh : Sh) (a : Nat) (s : AS) (F : List Nat) : Prop := ∃ acc st rv wv mv, Live w X sh acc st a s F rv wv mv
/-- what it may write -/
def own (X : SX) (a : Nat) (F : List Nat) : List Nat := a :: (F ++ X.foot)
/-- what is shared, the counts left out -/
def XAt (w : World) (X : SX) (sh : Sh) : Prop := ∃ acc st, X.At w sh acc st

section
variable {w w' : World} {X : SX} {sh : Sh} {a : Nat} {s : AS} {F : List Nat}
theorem LX.upd {S : List Nat} (h : LX w X sh a s F) (u : Upd S w w') (hS : ∀ g ∈ own X a F, g ∉ S) : LX w' X sh a s F :=
  let ⟨acc, st, rv, wv, mv, h⟩ := h
  ⟨acc, st, rv, wv, mv, h.upd u (hS _ (by simp [own])) (fun g hg => hS g (by simp [own, hg])) (fun g hg => hS g (by simp [own, hg]))⟩
theorem LX.upd0 (h : LX w X sh a s F) (u : Upd [] w w') : LX w' X sh a s F := h.upd u (by simp)
theorem LX.updb {b : Nat} (h : LX w X sh a s F) (u : Upd [b] w w') (hb : b ∉ own X a F) : LX w' X sh a s F := h.upd u (fun g hg hm => by simp at hm; subst hm; exact hb hg)
theorem LX.wide (h : LX w X sh a s F) : Wide s := let ⟨_, _, _, _, _, h⟩ := h; h.wide
theorem LX.wsh (h : LX w X sh a s F) : WideSh sh := let ⟨_, _, _, _, _, h⟩ := h; h.sh.wide
theorem LX.lt (h : LX w X sh a s F) : ∀ g ∈ own X a F, g < w.heap.size := by
  obtain ⟨_, _, _, _, _, h⟩ := h
  intro g hg
  simp only [own, List.mem_cons, List.mem_append] at hg
  rcases hg with rfl | k | k
  · exact h.lt
  · exact (h.sep g k).1
  · exact h.sh.lt g k
theorem LX.xat (h : LX w X sh a s F) : XAt w X sh := let ⟨acc, st, _, _, _, h⟩ := h; ⟨acc, st, h.sh⟩

/-- a call's answer, and what it leaves -/
def XOk (w : World) (X : SX) (a : Nat) (F : List Nat) (T : Trn) (r : Int) (s' : AS) (sh' : Sh) (e : Ending) (w' : World) : Prop :=
  e = .returned (.tuple #[T.val, .int .i64 r]) ∧ ∃ F', LX w' X sh' a s' F' ∧ Upd (own X a F) w w' ∧ ∀ g ∈ F', g ∈ F ∨ w.heap.size ≤ g
theorem CallOk.x {acc st : Int} {T : Trn} {r : Int} {s' : AS} {sh' : Sh} {e : Ending} (h : CallOk w X acc st a F T r s' sh' e w') : XOk w X a F T r s' sh' e w' := by
  obtain ⟨he, _, F', acc', st', rv', wv', mv', hL, hu, hF, _⟩ := h
  exact ⟨he, F', ⟨_, _, _, _, _, hL⟩, hu, hF⟩
theorem get_x (h : LX w X sh a s F) (hM : May s) (x : Int) (hx : 0 ≤ x ∧ x < 18446744073709551616) : Calls Try.prog 14 #[.pointer (some ⟨a, 0, none⟩), .int .u64 x] w (XOk w X a F (getS s sh x).1 (getS s sh x).2.1 (getS s sh x).2.2 sh) := by
  obtain ⟨_, _, _, _, _, h⟩ := h
  exact (get_code h hM x hx).mono fun e w' k => k.x
theorem put_x (h : LX w X sh a s F) (hM : May s) (x v : Int) (hx : 0 ≤ x ∧ x < 18446744073709551616) (hv : 0 ≤ v ∧ v < 18446744073709551616) : Calls Try.prog 16 #[.pointer (some ⟨a, 0, none⟩), .int .u64 x, .int .u64 v] w (XOk w X a F (putS s sh x v).1 (putS s sh x v).2.1 (putS s sh x v).2.2 sh) := by
  obtain ⟨_, _, _, _, _, h⟩ := h
  exact (put_code h hM x v hx hv).mono fun e w' k => k.x
theorem end_x (h : LX w X sh a s F) (hM : May s) : Calls Try.prog 49 #[.pointer (some ⟨a, 0, none⟩)] w (XOk w X a F (endS s sh).1 (endS s sh).2.1 (endS s sh).2.2.1 (endS s sh).2.2.2) := by
  obtain ⟨_, _, _, _, _, h⟩ := h
  exact (end_code h hM).mono fun e w' k => k.x
theorem step_x (h : LX w X sh a s F) (hM : May s) : Calls Try.prog 15 #[.pointer (some ⟨a, 0, none⟩)] w (XOk w X a F (stepS s sh).1 (stepS s sh).2.1 (stepS s sh).2.2.1 (stepS s sh).2.2.2) := by
  obtain ⟨_, _, _, _, _, h⟩ := h
  exact (step_code h hM).mono fun e w' k => k.x
theorem phase_x (h : LX w X sh a s F) : Calls Try.prog 17 #[.pointer (some ⟨a, 0, none⟩)] w fun e w' => e = .returned (.int .i64 s.phase) ∧ w = w' := by
  obtain ⟨_, _, _, _, _, h⟩ := h
  exact phase_code h
theorem locked_x (h : LX w X sh a s F) : Calls Try.prog 56 #[.pointer (some ⟨a, 0, none⟩)] w fun e w' => e = .returned (.bool (s.phase == 8 || s.phase == 9)) ∧ w = w' := by
  obtain ⟨_, _, _, _, _, h⟩ := h
  exact locked_code h
theorem drop_x (h : LX w X sh a s F) : Calls Try.prog 55 #[.pointer (some ⟨a, 0, none⟩)] w fun e w' => e = .returned (.int .i64 (dropS s).1) ∧ LX w' X sh a (dropS s).2 F ∧ Upd (own X a F) w w' := by
  obtain ⟨_, _, _, _, _, h⟩ := h
  exact (drop_code h).mono fun e w' ⟨he, rv', wv', mv', hL, hu⟩ => ⟨he, ⟨_, _, _, _, _, hL⟩, hu.mono (by simp [own]; exact fun x h => .inl (.inr (.inl h)))⟩

/-- an attempt has begun, or not -/
def XBegun (w : World) (X : SX) (sh : Sh) (e : Ending) (w' : World) : Prop :=
  ∃ a F, e = .returned (.tuple #[.pointer (some ⟨a, 0, none⟩), (⟨6, 0, ⟨1, 0, sh.clock, false⟩⟩ : Trn).val, .int .i64 0]) ∧ LX w' X sh a (fresh sh.clock) F ∧ Upd X.foot w w' ∧ w.heap.size ≤ a ∧ ∀ g ∈ F, w.heap.size ≤ g
theorem begin_x (h : XAt w X sh) (hc : sh.clock % 2 = 0) : Calls Try.prog 13 #[.pointer (some ⟨X.ra, 0, none⟩), .pointer (some ⟨X.ca, 0, none⟩)] w (XBegun w X sh) := by
  obtain ⟨acc, st, h⟩ := h
  exact (begin_even h hc).mono fun e w' ⟨a, F, rv, wv, mv, he, hL, hu, ha, hF⟩ => ⟨a, F, he, ⟨_, _, _, _, _, hL⟩, hu, ha, hF⟩
theorem begin_no (h : XAt w X sh) (hc : sh.clock % 2 = 1) : Calls Try.prog 13 #[.pointer (some ⟨X.ra, 0, none⟩), .pointer (some ⟨X.ca, 0, none⟩)] w fun e w' => e = .returned (.tuple #[.pointer none, (⟨7, 0, evNone⟩ : Trn).val, .int .i64 0]) ∧ XAt w' X sh ∧ Upd X.foot w w' := by
  obtain ⟨acc, st, h⟩ := h
  exact (begin_odd h hc).mono fun e w' ⟨he, hX, hu⟩ => ⟨he, ⟨_, _, hX⟩, hu⟩
theorem XAt.load (h : XAt w X sh) (x : Int) (hx : 0 ≤ x) : Calls Try.prog 50 #[.pointer (some ⟨X.ra, 0, none⟩), .int .u64 x] w fun e w' => e = .returned (.tuple #[.int .u64 (loadW sh.row x), .int .i64 (rLoad sh.row x).2]) ∧ XAt w' X sh ∧ Upd X.foot w w' := by
  obtain ⟨acc, st, h⟩ := h
  refine (load_any h.row x hx).mono fun e w' ⟨he, r, u⟩ => ⟨by rw [he, loadW_eq], ⟨_, _, ⟨r, h.clk.upd u (by have := h.a1; simp; omega) (by have := h.a1; simp; omega) (by have := h.a1; simp; omega), h.a1, h.a2, h.wide⟩⟩, u.mono (by simp [SX.foot])⟩
theorem XAt.clk (h : XAt w X sh) : Calls Try.prog 42 #[.pointer (some ⟨X.ca, 0, none⟩)] w fun e w' => e = .returned (.tuple #[.int .u64 sh.clock, .int .i64 0]) ∧ XAt w' X sh ∧ Upd X.foot w w' := by
  obtain ⟨acc, st, h⟩ := h
  exact (clkLoad h.clk).mono fun e w' ⟨he, c, u⟩ => ⟨he, ⟨_, _, h.clkd u c⟩, u.mono (by simp [SX.foot])⟩
theorem XAt.upd {S : List Nat} (h : XAt w X sh) (u : Upd S w w') (hS : ∀ g ∈ X.foot, g ∉ S) : XAt w' X sh := let ⟨_, _, h⟩ := h; ⟨_, _, h.upd u hS⟩
theorem XAt.lt (h : XAt w X sh) : ∀ g ∈ X.foot, g < w.heap.size := let ⟨_, _, h⟩ := h; h.lt
end
/-- a row and a clock that are made -/
theorem XAt.made {w1 w2 : World} {a b c d e : Nat} {ws : List Int} {k : Int} {acc st : Int} (hR : RowAt w1 a b ws acc) (hC : ClockAt w2 c d e k st) (u : Upd [] w1 w2) (h1 : w1.heap.size ≤ c) (h2 : w1.heap.size ≤ d) (h3 : w1.heap.size ≤ e) (hw : WideSh ⟨ws, k⟩) : XAt w2 ⟨a, b, c, d, e⟩ ⟨ws, k⟩ := by
  have := hR.lta
  have := hR.ltb
  exact ⟨acc, st, hR.upd u (by simp) (by simp), hC, ⟨by simp only; omega, by simp only; omega, by simp only; omega⟩, ⟨by simp only; omega, by simp only; omega, by simp only; omega⟩, hw⟩
end Go.Proofs.Ythfeljongackcaa
set_option linter.unusedSimpArgs false
set_option linter.unusedVariables false
set_option maxRecDepth 100000
namespace Go.Proofs.Ythfeljongackcaa
open Go.RowKit
open Go.Maps
-- the turn of the law
theorem num07 (n : Int) (w : World) : Calls Try.prog 12 #[.int .i64 n] w fun e w' => e = .returned (.int .i64 n) ∧ w = w' := by
  refine calls_all fun K hK => ?_
  go_enter Try.func12, Try.ntmps12
  go_wp2
  all_goals exact ⟨rfl, rfl⟩

def k1 : AS := ⟨0, [], [], 3, 0, 1, 6, 0, 0⟩
def k2 : AS := ⟨0, [(1, 6)], [], 1, 0, 0, 0, 0, 0⟩
def k3 : AS := ⟨0, [(1, 6)], [(1, 9)], 1, 0, 0, 0, 0, 0⟩
def k4 : AS := ⟨0, [(1, 6)], [(1, 9)], 8, 0, 0, 0, 0, 0⟩
def k5 : AS := ⟨0, [(1, 6)], [(1, 9)], 9, 0, 0, 0, 0, 0⟩
theorem ke1 : getS (fresh 0) ⟨[5, 6, 7], 0⟩ 1 = (going, 0, k1) := by rfl
theorem ke2 : stepS k1 ⟨[5, 6, 7], 0⟩ = (⟨2, 6, ⟨2, 1, 6, false⟩⟩, 0, k2, ⟨[5, 6, 7], 0⟩) := by rfl
theorem ke3 : putS k2 ⟨[5, 6, 7], 0⟩ 1 9 = (⟨3, 0, ⟨3, 1, 9, false⟩⟩, 0, k3) := by rfl
theorem ke4 : endS k3 ⟨[5, 6, 7], 0⟩ = (⟨1, 0, ⟨5, 0, 0, false⟩⟩, 0, k4, ⟨[5, 6, 7], 1⟩) := by rfl
theorem ke5 : stepS k4 ⟨[5, 6, 7], 1⟩ = (going, 0, k5, ⟨[5, 9, 7], 1⟩) := by rfl
theorem ke6 : stepS k5 ⟨[5, 9, 7], 1⟩ = (⟨4, 0, ⟨6, 0, 1, false⟩⟩, 0, overS, ⟨[5, 9, 7], 2⟩) := by rfl
theorem km0 : May (fresh 0) := may_fresh rfl
theorem km1 : May k1 := by have := may_get (sh := ⟨[5, 6, 7], 0⟩) km0 1; rw [ke1] at this; exact this
theorem km2 : May k2 := by have := may_step (sh := ⟨[5, 6, 7], 0⟩) km1 (.inl rfl); rw [ke2] at this; exact this
theorem km3 : May k3 := by have := may_put (sh := ⟨[5, 6, 7], 0⟩) km2 1 9; rw [ke3] at this; exact this
theorem km4 : May k4 := by have := may_end (sh := ⟨[5, 6, 7], 0⟩) km3; rw [ke4] at this; exact this
theorem km5 : May k5 := by have := may_step (sh := ⟨[5, 6, 7], 1⟩) km4 (.inr rfl); rw [ke5] at this; exact this

/-- where the law stands: one attempt, one turn's block tb, all in new memory -/
structure St (w0 : World) (tb : Nat) (T : Trn) (X : SX) (sh : Sh) (a : Nat) (s : AS) (F : List Nat) (W : World) : Prop where
  hL : LX W X sh a s F
  out : ∀ g ∈ own X a F, w0.heap.size ≤ g
  blk : Blk W tb T.cells 36
  ntb : tb ∉ own X a F
  tb0 : w0.heap.size ≤ tb
  U : Upd [] w0 W
theorem St.next {w0 W W' : World} {tb : Nat} {T : Trn} {X : SX} {sh sh' : Sh} {a : Nat} {s s' : AS} {F F' : List Nat} (h : St w0 tb T X sh a s F W) (hL : LX W' X sh' a s' F') (u : Upd (own X a F) W W') (hF : ∀ g ∈ F', g ∈ F ∨ W.heap.size ≤ g) : St w0 tb T X sh' a s' F' W' := by
  have hs := h.U.size
  have ht := h.blk.lt
  have ho : ∀ g ∈ own X a F', g ∈ own X a F ∨ W.heap.size ≤ g := fun g hg => by
    simp only [own, List.mem_cons, List.mem_append] at hg ⊢
    rcases hg with k | k | k
    · exact .inl (.inl k)
    · exact (hF g k).imp (fun k => .inr (.inl k)) id
    · exact .inl (.inr (.inr k))
  refine ⟨hL, fun g hg => ?_, h.blk.upd u h.ntb, fun hg => ?_, h.tb0, h.U.tr u (by simp) (fun x hx => .inr (h.out x hx))⟩
  · rcases ho g hg with k | k
    · exact h.out g k
    · omega
  · rcases ho _ hg with k | k
    · exact h.ntb k
    · omega
theorem St.shared {w0 W W' : World} {tb : Nat} {T : Trn} {X : SX} {sh sh' : Sh} {a : Nat} {s : AS} {F : List Nat} (h : St w0 tb T X sh a s F W) (hL : XAt W' X sh') (u : Upd X.foot W W') (hd : a ∉ X.foot) (hF : ∀ g ∈ F, g ∉ X.foot) : St w0 tb T X sh' a s F W' := by
  obtain ⟨acc, st, hX⟩ := hL
  obtain ⟨_, _, rv, wv, mv, k⟩ := h.hL
  have k2 := k.att.upd u hd hF
  have hu : Upd (own X a F) W W' := u.mono (by simp [own]; exact fun x h => .inl (.inr (.inr h)))
  exact h.next ⟨acc, st, rv, wv, mv, k2, hX, fun g hg => ⟨Nat.lt_of_lt_of_le (k.sep g hg).1 u.size, (k.sep g hg).2⟩, k.wide⟩ hu (fun g hg => .inl hg)
theorem St.apart {w0 W : World} {tb : Nat} {T : Trn} {X : SX} {sh : Sh} {a : Nat} {s : AS} {F : List Nat} (h : St w0 tb T X sh a s F W) : a ∉ X.foot ∧ ∀ g ∈ F, g ∉ X.foot := by
  obtain ⟨_, _, rv, wv, mv, k⟩ := h.hL
  exact ⟨k.out, fun g hg => (k.sep g hg).2.1⟩
theorem St.turn {w0 W : World} {tb : Nat} {T : Trn} {X : SX} {sh : Sh} {a : Nat} {s : AS} {F : List Nat} (h : St w0 tb T X sh a s F W) (T' : Trn) :
    St w0 tb T' X sh a s F ((((((((W.setCell ⟨tb, 0, none⟩ (.int .i64 T'.out)).setCell ⟨tb, 1, none⟩ (.int .u64 T'.word)).setCell ⟨tb, 2, none⟩ (.int .i64 0)).setCell ⟨tb, 3, none⟩ (.int .i64 T'.ev.kind)).setCell ⟨tb, 4, none⟩ (.int .u64 T'.ev.addr)).setCell ⟨tb, 5, none⟩ (.int .u64 T'.ev.word)).setCell ⟨tb, 6, none⟩ (.bool T'.ev.own)).setCell ⟨tb, 7, none⟩ (.int .i64 0)) :=
  ⟨h.hL.updb (at8 _ _ _ _ _ _ _ _) h.ntb, h.out, turn_set h.blk rfl T', h.ntb, h.tb0, upd8 h.U h.tb0 _ _ _ _ _ _ _ _⟩

theorem St.turn' {w0 W : World} {tb : Nat} {T : Trn} {X : SX} {sh : Sh} {a : Nat} {s : AS} {F : List Nat} (h : St w0 tb T X sh a s F W) (T' : Trn) :
    ∃ W', W' = (((((((W.setCell ⟨tb, 0, none⟩ (.int .i64 T'.out)).setCell ⟨tb, 1, none⟩ (.int .u64 T'.word)).setCell ⟨tb, 2, none⟩ (.int .i64 0)).setCell ⟨tb, 3, none⟩ (.int .i64 T'.ev.kind)).setCell ⟨tb, 4, none⟩ (.int .u64 T'.ev.addr)).setCell ⟨tb, 5, none⟩ (.int .u64 T'.ev.word)).setCell ⟨tb, 6, none⟩ (.bool T'.ev.own)).setCell ⟨tb, 7, none⟩ (.int .i64 0) ∧ St w0 tb T' X sh a s F W' := ⟨_, rfl, h.turn T'⟩
set_option maxHeartbeats 2000000 in
theorem known07_walk (w : World) : Calls Try.prog 18 #[] w fun e w' => e = .returned (.bool true) ∧ Upd [] w w' := by
  refine calls_all fun K hK => ?_
  go_enter Try.func18, Try.ntmps18
  go_wp2_with fail
  have hs := Blk.new w [.int .u64 5, .int .u64 6, .int .u64 7] 31
  have hsl : SlI (w.alloc (.cells #[.int .u64 5, .int .u64 6, .int .u64 7] 31)) .u64 (some ⟨w.heap.size, 0, none⟩) [5, 6, 7] := SlI.of_blk (sp := []) (t := 31) hs
  refine (of_ok _ _ [5, 6, 7] _ hsl (by simp) (by simp)).mono ?_
  rintro e w1 ⟨ra, rb, rfl, hR, hra, hrb, u1⟩
  have U1 : Upd [] w w1 := ((Upd.refl [] w).alloc _).trans u1
  simp only [World.size_alloc] at hra hrb
  clear hs hsl u1
  go_wp2_with fail
  refine (clkNew w1).mono ?_
  rintro e w2 ⟨ca, cr, cb, rfl, hC, h1, h2, h3, u2⟩
  have hX := XAt.made hR hC u2 h1 h2 h3 ⟨by simp, by simp⟩
  have hs1 := U1.size
  have hX0 : ∀ g ∈ SX.foot ⟨ra, rb, ca, cr, cb⟩, w.heap.size ≤ g := by simp [SX.foot]; omega
  have U2 := U1.trans u2
  clear hR hC u2 h1 h2 h3 hra hrb hs1 U1
  generalize hXe : (⟨ra, rb, ca, cr, cb⟩ : SX) = X at hX hX0
  obtain rfl : ra = X.ra := by rw [← hXe]
  obtain rfl : ca = X.ca := by rw [← hXe]
  clear hXe
  go_wp2_with fail
  refine (num07 0 w2).mono ?_
  rintro e w' ⟨rfl, rfl⟩
  go_wp2_with fail
  refine (begin_x hX rfl).mono ?_
  rintro e w3 ⟨a, F, rfl, hL, u3, ha, hF⟩
  simp only [Trn.val]
  have S : St w w3.heap.size ⟨6, 0, ⟨1, 0, 0, false⟩⟩ X ⟨[5, 6, 7], 0⟩ a (fresh 0) F (w3.alloc (.cells #[.int .i64 6, .int .u64 0, .int .i64 0, .int .i64 1, .int .u64 0, .int .u64 0, .bool false, .int .i64 0] 36)) := by
    have hs2 := U2.size
    have hO : ∀ g ∈ own X a F, w.heap.size ≤ g := fun g hg => by
      simp only [own, List.mem_cons, List.mem_append] at hg
      rcases hg with k | k | k
      · omega
      · have := hF g k; omega
      · exact hX0 g k
    have U3 := U2.tr (U := []) u3 (by simp) (fun x hx => .inr (hX0 x hx))
    exact ⟨hL.upd0 ((Upd.refl [] _).alloc _), hO, Blk.new w3 _ _, fun h => Nat.lt_irrefl _ (hL.lt _ h), U3.size, U3.alloc _⟩
  clear hL u3 ha hF hX hX0 U2
  go_wp2_with fail
  generalize w3.alloc (.cells #[.int .i64 6, .int .u64 0, .int .i64 0, .int .i64 1, .int .u64 0, .int .u64 0, .bool false, .int .i64 0] 36) = w4 at S ⊢
  refine (num07 _ _).mono ?_
  rintro e w' ⟨rfl, rfl⟩
  have q0 := (S.blk).cell 0 rfl
  have q1 := (S.blk).cell 1 rfl
  have q2 := (S.blk).cell 2 rfl
  have q3 := (S.blk).cell 3 rfl
  have q4 := (S.blk).cell 4 rfl
  have q5 := (S.blk).cell 5 rfl
  have q6 := (S.blk).cell 6 rfl
  have q7 := (S.blk).cell 7 rfl
  have g0 := (S.blk).free 0
  have g1 := (S.blk).free 1
  have g2 := (S.blk).free 2
  have g3 := (S.blk).free 3
  have g4 := (S.blk).free 4
  have g5 := (S.blk).free 5
  have g6 := (S.blk).free 6
  have g7 := (S.blk).free 7
  go_wp2_with fail
  clear q0 q1 q2 q3 q4 q5 q6 q7 g0 g1 g2 g3 g4 g5 g6 g7
  have k := (get_x S.hL km0 1 (by omega))
  rw [ke1] at k
  refine k.mono ?_
  clear k
  rintro e W2 ⟨rfl, F2, hL2, u2, hF2⟩
  simp only [Trn.val, going, evNone]
  replace S := S.next hL2 u2 hF2
  clear hL2 u2 hF2
  go_wp2_with fail
  have k := (step_x S.hL km1)
  rw [ke2] at k
  refine k.mono ?_
  clear k
  rintro e W2 ⟨rfl, F2, hL2, u2, hF2⟩
  simp only [Trn.val, going, evNone]
  replace S := S.next hL2 u2 hF2
  clear hL2 u2 hF2
  have q0 := (S.blk).cell 0 rfl
  have q1 := (S.blk).cell 1 rfl
  have q2 := (S.blk).cell 2 rfl
  have q3 := (S.blk).cell 3 rfl
  have q4 := (S.blk).cell 4 rfl
  have q5 := (S.blk).cell 5 rfl
  have q6 := (S.blk).cell 6 rfl
  have q7 := (S.blk).cell 7 rfl
  have g0 := (S.blk).free 0
  have g1 := (S.blk).free 1
  have g2 := (S.blk).free 2
  have g3 := (S.blk).free 3
  have g4 := (S.blk).free 4
  have g5 := (S.blk).free 5
  have g6 := (S.blk).free 6
  have g7 := (S.blk).free 7
  go_wp2_with fail
  obtain ⟨w5, h5, S5⟩ := S.turn' (⟨2, 6, ⟨2, 1, 6, false⟩⟩ : Trn)
  dsimp only at h5
  rw [← h5]
  clear q0 q1 q2 q3 q4 q5 q6 q7 g0 g1 g2 g3 g4 g5 g6 g7 h5
  clear S
  have S := S5
  clear S5
  refine (num07 _ _).mono ?_
  rintro e w' ⟨rfl, rfl⟩
  have q0 := (S.blk).cell 0 rfl
  have q1 := (S.blk).cell 1 rfl
  have q2 := (S.blk).cell 2 rfl
  have q3 := (S.blk).cell 3 rfl
  have q4 := (S.blk).cell 4 rfl
  have q5 := (S.blk).cell 5 rfl
  have q6 := (S.blk).cell 6 rfl
  have q7 := (S.blk).cell 7 rfl
  have g0 := (S.blk).free 0
  have g1 := (S.blk).free 1
  have g2 := (S.blk).free 2
  have g3 := (S.blk).free 3
  have g4 := (S.blk).free 4
  have g5 := (S.blk).free 5
  have g6 := (S.blk).free 6
  have g7 := (S.blk).free 7
  go_wp2_with fail
  clear q0 q1 q2 q3 q4 q5 q6 q7 g0 g1 g2 g3 g4 g5 g6 g7
  have k := (put_x S.hL km2 1 9 (by omega) (by omega))
  rw [ke3] at k
  refine k.mono ?_
  clear k
  rintro e W2 ⟨rfl, F2, hL2, u2, hF2⟩
  simp only [Trn.val, going, evNone]
  replace S := S.next hL2 u2 hF2
  clear hL2 u2 hF2
  go_wp2_with fail
  have k := (end_x S.hL km3)
  rw [ke4] at k
  refine k.mono ?_
  clear k
  rintro e W2 ⟨rfl, F2, hL2, u2, hF2⟩
  simp only [Trn.val, going, evNone]
  replace S := S.next hL2 u2 hF2
  clear hL2 u2 hF2
  go_wp2_with fail
  have k := (step_x S.hL km4)
  rw [ke5] at k
  refine k.mono ?_
  clear k
  rintro e W2 ⟨rfl, F2, hL2, u2, hF2⟩
  simp only [Trn.val, going, evNone]
  replace S := S.next hL2 u2 hF2
  clear hL2 u2 hF2
  go_wp2_with fail
  have k := (step_x S.hL km5)
  rw [ke6] at k
  refine k.mono ?_
  clear k
  rintro e W2 ⟨rfl, F2, hL2, u2, hF2⟩
  simp only [Trn.val, going, evNone]
  replace S := S.next hL2 u2 hF2
  clear hL2 u2 hF2
  have q0 := (S.blk).cell 0 rfl
  have q1 := (S.blk).cell 1 rfl
  have q2 := (S.blk).cell 2 rfl
  have q3 := (S.blk).cell 3 rfl
  have q4 := (S.blk).cell 4 rfl
  have q5 := (S.blk).cell 5 rfl
  have q6 := (S.blk).cell 6 rfl
  have q7 := (S.blk).cell 7 rfl
  have g0 := (S.blk).free 0
  have g1 := (S.blk).free 1
  have g2 := (S.blk).free 2
  have g3 := (S.blk).free 3
  have g4 := (S.blk).free 4
  have g5 := (S.blk).free 5
  have g6 := (S.blk).free 6
  have g7 := (S.blk).free 7
  go_wp2_with fail
  obtain ⟨w5, h5, S5⟩ := S.turn' (⟨4, 0, ⟨6, 0, 1, false⟩⟩ : Trn)
  dsimp only at h5
  rw [← h5]
  clear q0 q1 q2 q3 q4 q5 q6 q7 g0 g1 g2 g3 g4 g5 g6 g7 h5
  clear S
  have S := S5
  clear S5
  refine (S.hL.xat.load 1 (by omega)).mono ?_
  rintro e w6 ⟨rfl, hX6, u6⟩
  replace S := S.shared hX6 u6 S.apart.1 S.apart.2
  clear hX6 u6
  have hl9 : loadW [5, 9, 7] 1 = 9 := by rfl
  rw [hl9]
  go_wp2_with fail
  refine (S.hL.xat.clk).mono ?_
  rintro e w7 ⟨rfl, hX7, u7⟩
  replace S := S.shared hX7 u7 S.apart.1 S.apart.2
  clear hX7 u7
  go_wp2_with fail
  refine (num07 _ _).mono ?_
  rintro e w' ⟨rfl, rfl⟩
  have q0 := (S.blk).cell 0 rfl
  have q1 := (S.blk).cell 1 rfl
  have q2 := (S.blk).cell 2 rfl
  have q3 := (S.blk).cell 3 rfl
  have q4 := (S.blk).cell 4 rfl
  have q5 := (S.blk).cell 5 rfl
  have q6 := (S.blk).cell 6 rfl
  have q7 := (S.blk).cell 7 rfl
  have g0 := (S.blk).free 0
  have g1 := (S.blk).free 1
  have g2 := (S.blk).free 2
  have g3 := (S.blk).free 3
  have g4 := (S.blk).free 4
  have g5 := (S.blk).free 5
  have g6 := (S.blk).free 6
  have g7 := (S.blk).free 7
  go_wp2_with fail
  clear q0 q1 q2 q3 q4 q5 q6 q7 g0 g1 g2 g3 g4 g5 g6 g7
  refine (phase_x S.hL).mono ?_
  rintro e w' ⟨rfl, rfl⟩
  go_wp2_with fail
  all_goals exact ⟨rfl, S.U⟩
end Go.Proofs.Ythfeljongackcaa
set_option linter.unusedSimpArgs false
set_option linter.unusedVariables false
set_option maxRecDepth 100000
namespace Go.Proofs.Ythfeljongackcaa
open Go.RowKit

/-- a row of the document's: its head's block a, its words' block b -/
structure RRow (w : World) (a b : Nat) (ws : List Int) (acc : Int) : Prop where
  head : ∃ cap, Blk w a [.slice (some ⟨b, 0, none⟩) ws.length cap, .int .u64 acc] 159 ∧ ∃ spare : List Value, Blk w b (ws.map (Value.int .u64) ++ spare) 31 ∧ ws.length + spare.length = cap
  len1 : 1 ≤ ws.length
  len2 : ws.length ≤ 65536
  ne : a ≠ b

section
variable {w w' : World} {a b : Nat} {ws : List Int} {acc : Int}

theorem RRow.lta (h : RRow w a b ws acc) : a < w.heap.size := let ⟨_, h, _⟩ := h.head; h.lt
theorem RRow.ltb (h : RRow w a b ws acc) : b < w.heap.size := let ⟨_, _, _, h, _⟩ := h.head; h.lt
theorem RRow.c1 (h : RRow w a b ws acc) : w.cell? ⟨a, 1, none⟩ = some (.int .u64 acc) := let ⟨_, h, _⟩ := h.head; h.cell 1 rfl
theorem RRow.c0 (h : RRow w a b ws acc) : ∃ cap, w.cell? ⟨a, 0, none⟩ = some (.slice (some ⟨b, 0, none⟩) ws.length cap) := let ⟨cap, h, _⟩ := h.head; ⟨cap, h.cell 0 rfl⟩
theorem RRow.fa (h : RRow w a b ws acc) (o : Nat) : w.frozen? ⟨a, o, none⟩ = false := let ⟨_, h, _⟩ := h.head; h.free o
theorem RRow.fb (h : RRow w a b ws acc) (o : Nat) : w.frozen? ⟨b, o, none⟩ = false := let ⟨_, _, _, h, _⟩ := h.head; h.free o
theorem RRow.cw (h : RRow w a b ws acc) (i : Nat) (hi : i < ws.length) : w.cell? ⟨b, i, none⟩ = some (.int .u64 (wd ws i)) :=
  let ⟨_, _, _, h, _⟩ := h.head; h.cell i (by rw [List.getElem?_append_left (by simpa using hi)]; simp [hi, wd_get])
theorem RRow.upd {S : List Nat} (h : RRow w a b ws acc) (k : Upd S w w') (ha : a ∉ S) (hb : b ∉ S) : RRow w' a b ws acc :=
  let ⟨cap, h1, sp, h2, h3⟩ := h.head; ⟨⟨cap, h1.upd k ha, sp, h2.upd k hb, h3⟩, h.len1, h.len2, h.ne⟩
theorem RRow.below {B : Nat} (h : RRow w a b ws acc) (k : Below B w w') (ha : a < B) (hb : b < B) : RRow w' a b ws acc :=
  let ⟨cap, h1, sp, h2, h3⟩ := h.head; ⟨⟨cap, h1.below k ha, sp, h2.below k hb, h3⟩, h.len1, h.len2, h.ne⟩
theorem RRow.acc' (h : RRow w a b ws acc) (x : Int) : RRow (w.setCell ⟨a, 1, none⟩ (.int .u64 x)) a b ws x :=
  let ⟨cap, h1, sp, h2, h3⟩ := h.head; ⟨⟨cap, h1.set 1 _, sp, h2.other _ _ h.ne.symm, h3⟩, h.len1, h.len2, h.ne⟩
theorem RRow.put (h : RRow w a b ws acc) (i : Nat) (hi : i < ws.length) (x : Int) : RRow (w.setCell ⟨b, i, none⟩ (.int .u64 x)) a b (ws.set i x) acc :=
  let ⟨cap, h1, sp, h2, h3⟩ := h.head; ⟨⟨cap, by simpa using h1.other _ _ h.ne, sp, by have := h2.set i (.int .u64 x); rwa [List.set_append_left _ _ (by simpa using hi), ← List.map_set] at this, by simpa using h3⟩, by simpa using h.len1, by simpa using h.len2, h.ne⟩
theorem RRow.drew (h : RRow w a b ws acc) : RRow w.drew a b ws acc := ⟨h.head, h.len1, h.len2, h.ne⟩
theorem RRow.drewN (h : RRow w a b ws acc) (n : Nat) : RRow (w.drewN n) a b ws acc := ⟨h.head, h.len1, h.len2, h.ne⟩
theorem RRow.sli (h : RRow w a b ws acc) : SlI w .u64 (some ⟨b, 0, none⟩) ws := by obtain ⟨_, _, _, hb, _⟩ := h.head; exact SlI.of_blk hb

theorem rlen_any (h : RRow w a b ws acc) : Calls Try.prog 132 #[.pointer (some ⟨a, 0, none⟩)] w fun e w' => e = .returned (.int .i64 ws.length) ∧ w = w' := by
  obtain ⟨cap, h0⟩ := h.c0
  have hn := h.len2
  refine calls_all fun K hK => ?_
  go_enter Try.func132, Try.ntmps132
  go_wp2
  all_goals first | exact ⟨rfl, rfl⟩ | rfl

theorem rlen_no (w : World) : Calls Try.prog 132 #[.pointer none] w fun e w' => e = .returned (.int .i64 0) ∧ w = w' := by
  refine calls_all fun K hK => ?_
  go_enter Try.func132, Try.ntmps132
  go_wp2
  all_goals first | exact ⟨rfl, rfl⟩ | rfl

theorem rhas_any (h : RRow w a b ws acc) (i : Int) : Calls Try.prog 120 #[.pointer (some ⟨a, 0, none⟩), .int .u64 i] w fun e w' => e = .returned (.bool (decide (i < ws.length))) ∧ w = w' := by
  have hn := h.len2
  refine calls_all fun K hK => ?_
  go_enter Try.func120, Try.ntmps120
  go_wp2_with fail
  refine (rlen_any h).mono ?_
  rintro e w' ⟨rfl, rfl⟩
  go_wp2
  all_goals first | exact ⟨rfl, rfl⟩ | rfl

theorem rhas_no (w : World) (i : Int) (hi : 0 ≤ i) : Calls Try.prog 120 #[.pointer none, .int .u64 i] w fun e w' => e = .returned (.bool false) ∧ w = w' := by
  have hd : decide (i < 0) = false := by simp; omega
  refine calls_all fun K hK => ?_
  go_enter Try.func120, Try.ntmps120
  go_wp2_with fail
  refine (rlen_no _).mono ?_
  rintro e w' ⟨rfl, rfl⟩
  go_wp2
  all_goals first | exact ⟨rfl, rfl⟩ | rfl

theorem rasked_any (h : RRow w a b ws acc) (i : Int) : Calls Try.prog 117 #[.pointer (some ⟨a, 0, none⟩), .int .u64 i] w fun e w' => e = .returned (.int .i64 (rLoad ws i).2) ∧ w.setCell ⟨a, 1, none⟩ (.int .u64 (up64 acc)) = w' := by
  have h1 := h.c1
  have hf := h.fa 1
  have hn := h.len2
  have hr := h.acc' (up64 acc)
  by_cases hi : i < ws.length
  · have hd : decide (i < (ws.length : Int)) = true := by simpa using hi
    rw [show (rLoad ws i).2 = 0 by rw [rLoad, if_pos hi]]
    refine calls_all fun K hK => ?_
    go_enter Try.func117, Try.ntmps117
    go_wp2_with fail
    refine (rhas_any hr i).mono ?_
    rintro e w' ⟨rfl, rfl⟩
    go_wp2
    all_goals first | exact ⟨rfl, rfl⟩ | rfl
  · have hd : decide (i < (ws.length : Int)) = false := by simpa using hi
    rw [show (rLoad ws i).2 = 4 by rw [rLoad, if_neg hi]]
    refine calls_all fun K hK => ?_
    go_enter Try.func117, Try.ntmps117
    go_wp2_with fail
    refine (rhas_any hr i).mono ?_
    rintro e w' ⟨rfl, rfl⟩
    go_wp2
    all_goals first | exact ⟨rfl, rfl⟩ | rfl

theorem rasked_no (w : World) (i : Int) : Calls Try.prog 117 #[.pointer none, .int .u64 i] w fun e w' => e = .returned (.int .i64 1) ∧ w = w' := by
  refine calls_all fun K hK => ?_
  go_enter Try.func117, Try.ntmps117
  go_wp2
  all_goals first | exact ⟨rfl, rfl⟩ | rfl

theorem rload_any (h : RRow w a b ws acc) (i : Int) (hi : 0 ≤ i) :
    Calls Try.prog 133 #[.pointer (some ⟨a, 0, none⟩), .int .u64 i] w fun e w' => e = .returned (.tuple #[.int .u64 (rLoad ws i).1, .int .i64 (rLoad ws i).2]) ∧ RRow w' a b ws (up64 acc) ∧ Upd [a] w w' := by
  have hu : Upd [a] w (w.setCell ⟨a, 1, none⟩ (.int .u64 (up64 acc))) := (Upd.refl _ _).setCell (.inl (by simp)) _
  have hr := h.acc' (up64 acc)
  have ha := rasked_any h i
  obtain ⟨cap, k0⟩ := hr.c0
  by_cases hi2 : i < ws.length
  · have hc := hr.cw i.toNat (by omega)
    have hx : rLoad ws i = (wd ws i.toNat, 0) := if_pos hi2
    rw [hx] at ha ⊢
    clear hx
    refine calls_all fun K hK => ?_
    go_enter Try.func133, Try.ntmps133
    go_wp2_with fail
    refine (ha).mono ?_
    rintro e w' ⟨rfl, rfl⟩
    go_wp2
    exact ⟨rfl, hr, hu⟩
  · have hx : rLoad ws i = (0, 4) := if_neg hi2
    rw [hx] at ha ⊢
    clear hx
    refine calls_all fun K hK => ?_
    go_enter Try.func133, Try.ntmps133
    go_wp2_with fail
    refine (ha).mono ?_
    rintro e w' ⟨rfl, rfl⟩
    go_wp2
    exact ⟨rfl, hr, hu⟩

theorem rload_no (w : World) (i : Int) : Calls Try.prog 133 #[.pointer none, .int .u64 i] w fun e w' => e = .returned (.tuple #[.int .u64 0, .int .i64 1]) ∧ w = w' := by
  refine calls_all fun K hK => ?_
  go_enter Try.func133, Try.ntmps133
  go_wp2_with fail
  refine (rasked_no _ i).mono ?_
  rintro e w' ⟨rfl, rfl⟩
  go_wp2
  all_goals first | exact ⟨rfl, rfl⟩ | rfl

theorem rstore_any (h : RRow w a b ws acc) (i x : Int) (hi : 0 ≤ i) :
    Calls Try.prog 95 #[.pointer (some ⟨a, 0, none⟩), .int .u64 i, .int .u64 x] w fun e w' => e = .returned (.int .i64 (rLoad ws i).2) ∧ RRow w' a b (ws.set i.toNat x) (up64 acc) ∧ Upd [a, b] w w' := by
  have hu : Upd [a, b] w (w.setCell ⟨a, 1, none⟩ (.int .u64 (up64 acc))) := (Upd.refl _ _).setCell (.inl (by simp)) _
  have hr := h.acc' (up64 acc)
  have ha := rasked_any h i
  obtain ⟨cap, k0⟩ := hr.c0
  by_cases hi2 : i < ws.length
  · have hc := hr.cw i.toNat (by omega)
    have hf := hr.fb i.toNat
    have hx : rLoad ws i = (wd ws i.toNat, 0) := if_pos hi2
    have hp := hr.put i.toNat (by omega) x
    rw [hx] at ha ⊢
    clear hx
    refine calls_all fun K hK => ?_
    go_enter Try.func95, Try.ntmps95
    go_wp2_with fail
    refine (ha).mono ?_
    rintro e w' ⟨rfl, rfl⟩
    go_wp2
    exact ⟨rfl, hp, hu.setCell (.inl (by simp)) _⟩
  · have hx : rLoad ws i = (0, 4) := if_neg hi2
    rw [hx] at ha ⊢
    rw [List.set_eq_of_length_le (by omega)]
    clear hx
    refine calls_all fun K hK => ?_
    go_enter Try.func95, Try.ntmps95
    go_wp2_with fail
    refine (ha).mono ?_
    rintro e w' ⟨rfl, rfl⟩
    go_wp2
    exact ⟨rfl, hr, hu⟩

theorem rstore_no (w : World) (i x : Int) : Calls Try.prog 95 #[.pointer none, .int .u64 i, .int .u64 x] w fun e w' => e = .returned (.int .i64 1) ∧ w = w' := by
  refine calls_all fun K hK => ?_
  go_enter Try.func95, Try.ntmps95
  go_wp2_with fail
  refine (rasked_no _ i).mono ?_
  rintro e w' ⟨rfl, rfl⟩
  go_wp2
  all_goals first | exact ⟨rfl, rfl⟩ | rfl







theorem rwords_any (h : RRow w a b ws acc) : Calls Try.prog 65 #[.pointer (some ⟨a, 0, none⟩)] w fun e w' => (∃ cap, e = .returned (.slice (some ⟨b, 0, none⟩) ws.length cap)) ∧ w = w' := by
  obtain ⟨cap, h0⟩ := h.c0
  have hn := h.len2
  have hx : ∃ c, Ending.returned (.slice (some ⟨b, 0, none⟩) ws.length cap) = .returned (.slice (some ⟨b, 0, none⟩) ws.length c) := ⟨cap, rfl⟩
  refine calls_all fun K hK => ?_
  go_enter Try.func65, Try.ntmps65
  go_wp2
  all_goals first | exact ⟨⟨_, rfl⟩, rfl⟩ | rfl

theorem rwords_no (w : World) : Calls Try.prog 65 #[.pointer none] w fun e w' => e = .returned (.slice none 0 0) ∧ w = w' := by
  refine calls_all fun K hK => ?_
  go_enter Try.func65, Try.ntmps65
  go_wp2
  all_goals first | exact ⟨rfl, rfl⟩ | rfl

end

end Go.Proofs.Ythfeljongackcaa
