/- Begin: an attempt begins where the clock is open. No conditions. An attempt's calls, said shortly: the counts of accesses left out. No conditions. What an operation is made of, is an instruction formed (the code). No condition. A thread's state, plainly: what each step makes of it. No program in sight. No conditions. A region that draws its order and only reads, in a round of a loop over an iterator: one walk in the order of the text serves every order. The condition: no defer statement stands in it. A region that draws its order, with effects, in a round of a loop over an iterator: walked in the order of the text, as outside (Eff). The condition: no defer statement stands in it. -/
import Derived.Test.YthfeljongackcaaT1p07
import Derived.Test.YthfeljongackcaaT1p09
import Derived.Test.YthfeljongackcaaT1p00
import Derived.Handy
import Derived.Sort.QuietTacIn
import Derived.Sort.BigQuietIn
import Derived.Test.YthfeljongackcaaT1p03
import Derived.OrdersIn
import Derived.RangeFuncCalls
set_option linter.unusedSimpArgs false
set_option linter.unusedVariables false
set_option maxRecDepth 100000
namespace Go.Proofs.Ythfeljongackcaa
open Go.RowKit
open Go.Maps

theorem turn_results3 {fn : Func} (p k m : Nat) (hr : fn.results = #[.tmp p, .cell k 36, .tmp m]) (t : Array Value) (w : World) (rb : Nat) (T : Trn) (u v : Value) (h1 : t.getD p undef = u) (h2 : t.getD k undef = .pointer (some ⟨rb, 0, none⟩)) (h3 : t.getD m undef = v) (hb : Blk w rb T.cells 36) :
    (results fn t).run Try.prog w = .ok (.tuple #[u, T.val, v]) w := by
  have c0 := hb.cell 0 rfl
  have c1 := hb.cell 1 rfl
  have c2 := hb.cell 2 rfl
  have c3 := hb.cell 3 rfl
  have c4 := hb.cell 4 rfl
  have c5 := hb.cell 5 rfl
  have c6 := hb.cell 6 rfl
  have c7 := hb.cell 7 rfl
  have h1' : t[p]?.getD undef = u := by simpa using h1
  have h2' : t[k]?.getD undef = .pointer (some ⟨rb, 0, none⟩) := by simpa using h2
  have h3' : t[m]?.getD undef = v := by simpa using h3
  simp [results, hr, h1', h2', h3', go_sem, c0, c1, c2, c3, c4, c5, c6, c7, Trn.val]

section
variable {w : World} {X : SX} {sh : Sh} {acc st : Int}
/-- an attempt has begun -/
def Begun (w : World) (X : SX) (sh : Sh) (acc st : Int) (e : Ending) (w' : World) : Prop :=
  ∃ a F rv wv mv, e = .returned (.tuple #[.pointer (some ⟨a, 0, none⟩), (⟨6, 0, ⟨1, 0, sh.clock, false⟩⟩ : Trn).val, .int .i64 0]) ∧ Live w' X sh acc (wrap64 (st + 1)) a (fresh sh.clock) F rv wv mv ∧ Upd X.foot w w' ∧ w.heap.size ≤ a ∧ ∀ g ∈ F, w.heap.size ≤ g
def NotBegun (w : World) (X : SX) (sh : Sh) (acc st : Int) (e : Ending) (w' : World) : Prop :=
  e = .returned (.tuple #[.pointer none, (⟨7, 0, evNone⟩ : Trn).val, .int .i64 0]) ∧ X.At w' sh acc (wrap64 (st + 1)) ∧ Upd X.foot w w'

theorem SX.At.clkd {w w1 : World} {st' : Int} (h : X.At w sh acc st) (u : Upd [X.ca, X.cr, X.cb] w w1) (c : ClockAt w1 X.ca X.cr X.cb sh.clock st') : X.At w1 sh acc st' :=
  ⟨h.row.upd u (by have := h.a1; simp; omega) (by have := h.a2; simp; omega), c, h.a1, h.a2, h.wide⟩

set_option maxHeartbeats 1000000 in
theorem begin_odd (h : X.At w sh acc st) (hc : sh.clock % 2 = 1) : Calls Try.prog 13 #[.pointer (some ⟨X.ra, 0, none⟩), .pointer (some ⟨X.ca, 0, none⟩)] w (NotBegun w X sh acc st) := by
  have hl1 : ((sh.row.length : Int) == 0) = false := by have := h.row.len1; rw [beq_eq_false_iff_ne]; omega
  have hop := fun W => open_any sh.clock W
  rw [show opn sh.clock = false by rw [opn_eq h.wide.clock.1 h.wide.clock.2]; simp; omega] at hop
  have HOP := Lib.hid hop
  have l3 := h.clk.ltc
  have l4 := h.clk.lta
  have l5 := h.clk.ltb
  clear hop hc
  refine calls_all fun K hK => ?_
  go_enter Try.func13, Try.ntmps13
  go_wp2_with fail
  obtain ⟨W, hW⟩ : ∃ W, W = w.alloc (.cells turn0.toArray 36) := ⟨_, rfl⟩
  have RB : Blk W w.heap.size turn0 36 := by rw [hW]; exact Blk.new w _ _
  have HU : Upd [] w W := by rw [hW]; exact (Upd.refl _ _).alloc _
  have hWs : W.heap.size = w.heap.size + 1 := by rw [hW]; exact World.size_alloc _ _
  simp only [turn0, trnNone, evNone, Trn.cells] at hW
  rw [← hW]
  clear hW
  have h1 := h.upd HU (by simp)
  refine (len_row h1.row).mono ?_
  rintro e w' ⟨rfl, rfl⟩
  go_wp2_with fail
  refine (clkLoad h1.clk).mono ?_
  rintro e w1 ⟨rfl, c1, u1⟩
  have h2 := h1.clkd u1 c1
  have RB2 := RB.upd u1 (by simp; omega)
  have U2 : Upd X.foot w w1 := (HU.mono (by simp)).trans (u1.mono (by simp [SX.foot]))
  clear RB HU h1 u1 c1
  go_wp2_with fail
  refine (HOP.out w1).mono ?_
  rintro e w' ⟨rfl, rfl⟩
  have q0 := (RB2).cell 0 rfl
  have q1 := (RB2).cell 1 rfl
  have q2 := (RB2).cell 2 rfl
  have q3 := (RB2).cell 3 rfl
  have q4 := (RB2).cell 4 rfl
  have q5 := (RB2).cell 5 rfl
  have q6 := (RB2).cell 6 rfl
  have q7 := (RB2).cell 7 rfl
  have g0 := (RB2).free 0
  have g1 := (RB2).free 1
  have g2 := (RB2).free 2
  have g3 := (RB2).free 3
  have g4 := (RB2).free 4
  have g5 := (RB2).free 5
  have g6 := (RB2).free 6
  have g7 := (RB2).free 7
  go_wp2_with fail
  exact bodyPost_ret (turn_results3 4 5 6 rfl _ _ _ (⟨7, 0, evNone⟩ : Trn) (.pointer none) (.int .i64 0) rfl rfl rfl (turn_set RB2 rfl (⟨7, 0, evNone⟩ : Trn))) rfl (hK _ _ ⟨rfl, h2.upd (at8 _ _ _ _ _ _ _ _) (fun g hg => by have := h.lt g hg; simp; omega), upd8 U2 (Nat.le_refl _) _ _ _ _ _ _ _ _⟩)

set_option maxHeartbeats 1000000 in
theorem begin_even (h : X.At w sh acc st) (hc : sh.clock % 2 = 0) : Calls Try.prog 13 #[.pointer (some ⟨X.ra, 0, none⟩), .pointer (some ⟨X.ca, 0, none⟩)] w (Begun w X sh acc st) := by
  have hl1 : ((sh.row.length : Int) == 0) = false := by have := h.row.len1; rw [beq_eq_false_iff_ne]; omega
  have hop := fun W => open_any sh.clock W
  rw [show opn sh.clock = true by rw [opn_eq h.wide.clock.1 h.wide.clock.2]; simpa using hc] at hop
  have HOP := Lib.hid hop
  have l3 := h.clk.ltc
  have l4 := h.clk.lta
  have l5 := h.clk.ltb
  clear hop hc
  refine calls_all fun K hK => ?_
  go_enter Try.func13, Try.ntmps13
  go_wp2_with fail
  obtain ⟨W, hW⟩ : ∃ W, W = w.alloc (.cells turn0.toArray 36) := ⟨_, rfl⟩
  have RB : Blk W w.heap.size turn0 36 := by rw [hW]; exact Blk.new w _ _
  have HU : Upd [] w W := by rw [hW]; exact (Upd.refl _ _).alloc _
  have hWs : W.heap.size = w.heap.size + 1 := by rw [hW]; exact World.size_alloc _ _
  simp only [turn0, trnNone, evNone, Trn.cells] at hW
  rw [← hW]
  clear hW
  have h1 := h.upd HU (by simp)
  refine (len_row h1.row).mono ?_
  rintro e w' ⟨rfl, rfl⟩
  go_wp2_with fail
  refine (clkLoad h1.clk).mono ?_
  rintro e w1 ⟨rfl, c1, u1⟩
  have h2 := h1.clkd u1 c1
  have RB2 := RB.upd u1 (by simp; omega)
  have U2 : Upd X.foot w w1 := (HU.mono (by simp)).trans (u1.mono (by simp [SX.foot]))
  have hwl := RB2.lt
  clear RB HU h1 u1 c1
  go_wp2_with fail
  refine (HOP.out w1).mono ?_
  rintro e w' ⟨rfl, rfl⟩
  go_wp2_with fail
  have hb := Blk.new w1 (head0 X.ra X.ca (fresh sh.clock) (.slice none 0 0) (.slice none 0 0)) 66
  have u3 : Upd [] w1 (w1.alloc (.cells (head0 X.ra X.ca (fresh sh.clock) (.slice none 0 0) (.slice none 0 0)).toArray 66)) := (Upd.refl [] _).alloc _
  have hs3 : (w1.alloc (.cells (head0 X.ra X.ca (fresh sh.clock) (.slice none 0 0) (.slice none 0 0)).toArray 66)).heap.size = w1.heap.size + 1 := World.size_alloc _ _
  have hn : ∀ W F, OwnP W (.slice none 0 0) [] F := fun W F => ⟨World.ownsRow_nil _ _ _ _, fun _ => rfl, by simp [Value.ownBlock]⟩
  have hmade := made_code (F := []) hb (hn _ _) (hn _ _) (by simp [Value.ownBlock]) (by simp [fresh]) (by simp [fresh]) (by simp [fresh])
  refine hmade.mono ?_
  rintro e w4 ⟨rfl, m, hm1, hm2, hA, u4⟩
  rw [hs3] at hm1
  have u34 : Upd [] w1 w4 := u3.tr u4 (by simp) (fun x hx => by simp at hx; omega)
  have h4 := h2.upd u34 (by simp)
  have RB4 := RB2.upd u34 (by simp)
  have U4 := U2.trans (u34.mono (by simp))
  have HL : Live w4 X sh acc (wrap64 (st + 1)) w1.heap.size (fresh sh.clock) [m] (.slice none 0 0) (.slice none 0 0) (.map (some m)) := by
    have hwf : ∀ g ∈ X.foot, g < w1.heap.size := h2.lt
    refine ⟨hA, h4, fun g hg => ?_, wide_fresh h.wide.clock⟩
    simp at hg
    subst hg
    exact ⟨hm2, fun hm => by have := hwf _ hm; omega, by omega⟩
  clear hA h4 h2 hb u3 hs3 hmade RB2 U2 u4 u34 hn
  have q0 := (RB4).cell 0 rfl
  have q1 := (RB4).cell 1 rfl
  have q2 := (RB4).cell 2 rfl
  have q3 := (RB4).cell 3 rfl
  have q4 := (RB4).cell 4 rfl
  have q5 := (RB4).cell 5 rfl
  have q6 := (RB4).cell 6 rfl
  have q7 := (RB4).cell 7 rfl
  have g0 := (RB4).free 0
  have g1 := (RB4).free 1
  have g2 := (RB4).free 2
  have g3 := (RB4).free 3
  have g4 := (RB4).free 4
  have g5 := (RB4).free 5
  have g6 := (RB4).free 6
  have g7 := (RB4).free 7
  go_wp2_with fail
  exact bodyPost_ret (turn_results3 4 5 6 rfl _ _ _ (⟨6, 0, ⟨1, 0, sh.clock, false⟩⟩ : Trn) (.pointer (some ⟨w1.heap.size, 0, none⟩)) (.int .i64 0) rfl rfl rfl (turn_set RB4 rfl (⟨6, 0, ⟨1, 0, sh.clock, false⟩⟩ : Trn))) rfl
    (hK _ _ ⟨w1.heap.size, [m], _, _, _, rfl, HL.upd (at8 _ _ _ _ _ _ _ _) (by simp; omega) (fun g hg => by simp at hg; subst hg; simp; omega) (fun g hg => by have := h.lt g hg; simp; omega), upd8 U4 (Nat.le_refl _) _ _ _ _ _ _ _ _, by omega, fun g hg => by simp at hg; omega⟩)
end
end Go.Proofs.Ythfeljongackcaa
set_option linter.unusedSimpArgs false
set_option linter.unusedVariables false
set_option maxRecDepth 100000
namespace Go.Proofs.Ythfeljongackcaa
open Go.RowKit
open Go.Maps

/-- an attempt that is going on -/
def LX (w : World) (X : SX) (sh : Sh) (a : Nat) (s : AS) (F : List Nat) : Prop := ∃ acc st rv wv mv, Live w X sh acc st a s F rv wv mv
/-- what it may write -/
def own (X : SX) (a : Nat) (F : List Nat) : List Nat := a :: (F ++ X.foot)
/-- what is shared, the counts left out -/
def XAt (w : World) (X : SX) (sh : Sh) : Prop := ∃ acc st, X.At w sh acc st

section
variable {w w' : World} {X : SX} {sh : Sh} {a : Nat} {s : AS} {F : List Nat}
theorem LX.upd {S : List Nat} (h : LX w X sh a s F) (u : Upd S w w') (hS : ∀ g ∈ own X a F, g ∉ S) : LX w' X sh a s F :=
  let ⟨acc, st, rv, wv, mv, h⟩ := h
  ⟨acc, st, rv, wv, mv, h.upd u (hS _ (by simp [own])) (fun g hg => hS g (by simp [own, hg])) (fun g hg => hS g (by simp [own, hg]))⟩
theorem LX.upd0 (h : LX w X sh a s F) (u : Upd [] w w') : LX w' X sh a s F := h.upd u (by simp)
theorem LX.updb {b : Nat} (h : LX w X sh a s F) (u : Upd [b] w w') (hb : b ∉ own X a F) : LX w' X sh a s F := h.upd u (fun g hg hm => by simp at hm; subst hm; exact hb hg)
theorem LX.wide (h : LX w X sh a s F) : Wide s := let ⟨_, _, _, _, _, h⟩ := h; h.wide
theorem LX.wsh (h : LX w X sh a s F) : WideSh sh := let ⟨_, _, _, _, _, h⟩ := h; h.sh.wide
theorem LX.lt (h : LX w X sh a s F) : ∀ g ∈ own X a F, g < w.heap.size := by
  obtain ⟨_, _, _, _, _, h⟩ := h
  intro g hg
  simp only [own, List.mem_cons, List.mem_append] at hg
  rcases hg with rfl | k | k
  · exact h.lt
  · exact (h.sep g k).1
  · exact h.sh.lt g k
theorem LX.xat (h : LX w X sh a s F) : XAt w X sh := let ⟨acc, st, _, _, _, h⟩ := h; ⟨acc, st, h.sh⟩

/-- a call's answer, and what it leaves -/
def XOk (w : World) (X : SX) (a : Nat) (F : List Nat) (T : Trn) (r : Int) (s' : AS) (sh' : Sh) (e : Ending) (w' : World) : Prop :=
  e = .returned (.tuple #[T.val, .int .i64 r]) ∧ ∃ F', LX w' X sh' a s' F' ∧ Upd (own X a F) w w' ∧ ∀ g ∈ F', g ∈ F ∨ w.heap.size ≤ g
theorem CallOk.x {acc st : Int} {T : Trn} {r : Int} {s' : AS} {sh' : Sh} {e : Ending} (h : CallOk w X acc st a F T r s' sh' e w') : XOk w X a F T r s' sh' e w' := by
  obtain ⟨he, _, F', acc', st', rv', wv', mv', hL, hu, hF, _⟩ := h
  exact ⟨he, F', ⟨_, _, _, _, _, hL⟩, hu, hF⟩
theorem get_x (h : LX w X sh a s F) (hM : May s) (x : Int) (hx : 0 ≤ x ∧ x < 18446744073709551616) : Calls Try.prog 14 #[.pointer (some ⟨a, 0, none⟩), .int .u64 x] w (XOk w X a F (getS s sh x).1 (getS s sh x).2.1 (getS s sh x).2.2 sh) := by
  obtain ⟨_, _, _, _, _, h⟩ := h
  exact (get_code h hM x hx).mono fun e w' k => k.x
theorem put_x (h : LX w X sh a s F) (hM : May s) (x v : Int) (hx : 0 ≤ x ∧ x < 18446744073709551616) (hv : 0 ≤ v ∧ v < 18446744073709551616) : Calls Try.prog 16 #[.pointer (some ⟨a, 0, none⟩), .int .u64 x, .int .u64 v] w (XOk w X a F (putS s sh x v).1 (putS s sh x v).2.1 (putS s sh x v).2.2 sh) := by
  obtain ⟨_, _, _, _, _, h⟩ := h
  exact (put_code h hM x v hx hv).mono fun e w' k => k.x
theorem end_x (h : LX w X sh a s F) (hM : May s) : Calls Try.prog 49 #[.pointer (some ⟨a, 0, none⟩)] w (XOk w X a F (endS s sh).1 (endS s sh).2.1 (endS s sh).2.2.1 (endS s sh).2.2.2) := by
  obtain ⟨_, _, _, _, _, h⟩ := h
  exact (end_code h hM).mono fun e w' k => k.x
theorem step_x (h : LX w X sh a s F) (hM : May s) : Calls Try.prog 15 #[.pointer (some ⟨a, 0, none⟩)] w (XOk w X a F (stepS s sh).1 (stepS s sh).2.1 (stepS s sh).2.2.1 (stepS s sh).2.2.2) := by
  obtain ⟨_, _, _, _, _, h⟩ := h
  exact (step_code h hM).mono fun e w' k => k.x
theorem phase_x (h : LX w X sh a s F) : Calls Try.prog 17 #[.pointer (some ⟨a, 0, none⟩)] w fun e w' => e = .returned (.int .i64 s.phase) ∧ w = w' := by
  obtain ⟨_, _, _, _, _, h⟩ := h
  exact phase_code h
theorem locked_x (h : LX w X sh a s F) : Calls Try.prog 56 #[.pointer (some ⟨a, 0, none⟩)] w fun e w' => e = .returned (.bool (s.phase == 8 || s.phase == 9)) ∧ w = w' := by
  obtain ⟨_, _, _, _, _, h⟩ := h
  exact locked_code h
theorem drop_x (h : LX w X sh a s F) : Calls Try.prog 55 #[.pointer (some ⟨a, 0, none⟩)] w fun e w' => e = .returned (.int .i64 (dropS s).1) ∧ LX w' X sh a (dropS s).2 F ∧ Upd (own X a F) w w' := by
  obtain ⟨_, _, _, _, _, h⟩ := h
  exact (drop_code h).mono fun e w' ⟨he, rv', wv', mv', hL, hu⟩ => ⟨he, ⟨_, _, _, _, _, hL⟩, hu.mono (by simp [own]; exact fun x h => .inl (.inr (.inl h)))⟩

/-- an attempt has begun, or not -/
def XBegun (w : World) (X : SX) (sh : Sh) (e : Ending) (w' : World) : Prop :=
  ∃ a F, e = .returned (.tuple #[.pointer (some ⟨a, 0, none⟩), (⟨6, 0, ⟨1, 0, sh.clock, false⟩⟩ : Trn).val, .int .i64 0]) ∧ LX w' X sh a (fresh sh.clock) F ∧ Upd X.foot w w' ∧ w.heap.size ≤ a ∧ ∀ g ∈ F, w.heap.size ≤ g
theorem begin_x (h : XAt w X sh) (hc : sh.clock % 2 = 0) : Calls Try.prog 13 #[.pointer (some ⟨X.ra, 0, none⟩), .pointer (some ⟨X.ca, 0, none⟩)] w (XBegun w X sh) := by
  obtain ⟨acc, st, h⟩ := h
  exact (begin_even h hc).mono fun e w' ⟨a, F, rv, wv, mv, he, hL, hu, ha, hF⟩ => ⟨a, F, he, ⟨_, _, _, _, _, hL⟩, hu, ha, hF⟩
theorem begin_no (h : XAt w X sh) (hc : sh.clock % 2 = 1) : Calls Try.prog 13 #[.pointer (some ⟨X.ra, 0, none⟩), .pointer (some ⟨X.ca, 0, none⟩)] w fun e w' => e = .returned (.tuple #[.pointer none, (⟨7, 0, evNone⟩ : Trn).val, .int .i64 0]) ∧ XAt w' X sh ∧ Upd X.foot w w' := by
  obtain ⟨acc, st, h⟩ := h
  exact (begin_odd h hc).mono fun e w' ⟨he, hX, hu⟩ => ⟨he, ⟨_, _, hX⟩, hu⟩
theorem XAt.load (h : XAt w X sh) (x : Int) (hx : 0 ≤ x) : Calls Try.prog 50 #[.pointer (some ⟨X.ra, 0, none⟩), .int .u64 x] w fun e w' => e = .returned (.tuple #[.int .u64 (loadW sh.row x), .int .i64 (rLoad sh.row x).2]) ∧ XAt w' X sh ∧ Upd X.foot w w' := by
  obtain ⟨acc, st, h⟩ := h
  refine (load_any h.row x hx).mono fun e w' ⟨he, r, u⟩ => ⟨by rw [he, loadW_eq], ⟨_, _, ⟨r, h.clk.upd u (by have := h.a1; simp; omega) (by have := h.a1; simp; omega) (by have := h.a1; simp; omega), h.a1, h.a2, h.wide⟩⟩, u.mono (by simp [SX.foot])⟩
theorem XAt.clk (h : XAt w X sh) : Calls Try.prog 42 #[.pointer (some ⟨X.ca, 0, none⟩)] w fun e w' => e = .returned (.tuple #[.int .u64 sh.clock, .int .i64 0]) ∧ XAt w' X sh ∧ Upd X.foot w w' := by
  obtain ⟨acc, st, h⟩ := h
  exact (clkLoad h.clk).mono fun e w' ⟨he, c, u⟩ => ⟨he, ⟨_, _, h.clkd u c⟩, u.mono (by simp [SX.foot])⟩
theorem XAt.upd {S : List Nat} (h : XAt w X sh) (u : Upd S w w') (hS : ∀ g ∈ X.foot, g ∉ S) : XAt w' X sh := let ⟨_, _, h⟩ := h; ⟨_, _, h.upd u hS⟩
theorem XAt.lt (h : XAt w X sh) : ∀ g ∈ X.foot, g < w.heap.size := let ⟨_, _, h⟩ := h; h.lt
end
/-- a row and a clock that are made -/
theorem XAt.made {w1 w2 : World} {a b c d e : Nat} {ws : List Int} {k : Int} {acc st : Int} (hR : RowAt w1 a b ws acc) (hC : ClockAt w2 c d e k st) (u : Upd [] w1 w2) (h1 : w1.heap.size ≤ c) (h2 : w1.heap.size ≤ d) (h3 : w1.heap.size ≤ e) (hw : WideSh ⟨ws, k⟩) : XAt w2 ⟨a, b, c, d, e⟩ ⟨ws, k⟩ := by
  have := hR.lta
  have := hR.ltb
  exact ⟨acc, st, hR.upd u (by simp) (by simp), hC, ⟨by simp only; omega, by simp only; omega, by simp only; omega⟩, ⟨by simp only; omega, by simp only; omega, by simp only; omega⟩, hw⟩
end Go.Proofs.Ythfeljongackcaa
set_option linter.unusedSimpArgs false
set_option linter.unusedVariables false
set_option maxRecDepth 100000
namespace Go.Proofs.Ythfeljongackcaa
open Go.RowKit

structure Form where
  regs : Nat
  num : Bool
  target : Bool
  out : Bool
  ins : Bool

def Form.val (f : Form) : Value := .agg #[.int .i64 (f.regs : Int), .bool f.num, .bool f.target, .bool f.out, .bool f.ins]

def formN : Nat → Form
  | 1 => ⟨1, true, false, true, true⟩
  | 2 => ⟨2, false, false, true, true⟩
  | 3 | 4 | 5 | 6 | 7 => ⟨3, false, false, true, true⟩
  | 8 => ⟨0, true, true, true, true⟩
  | 9 => ⟨1, true, true, true, true⟩
  | 10 | 11 => ⟨2, false, false, true, false⟩
  | 12 | 17 => ⟨0, false, false, true, false⟩
  | 13 | 14 => ⟨2, false, false, false, true⟩
  | 15 => ⟨0, false, false, false, true⟩
  | 16 => ⟨0, true, true, false, true⟩
  | _ => ⟨0, false, false, false, false⟩

def isOp (op : Int) : Bool := decide (1 ≤ op ∧ op ≤ 17)

def formI (op : Int) : Form := if 1 ≤ op ∧ op ≤ 17 then formN op.toNat else ⟨0, false, false, false, false⟩

set_option maxHeartbeats 20000000 in
theorem info (op : Int) (w : World) : Calls Try.prog 111 #[.int .i64 op] w fun e w' => e = .returned (.tuple #[(formI op).val, .bool (isOp op)]) ∧ Upd [] w w' := by
  by_cases h : 1 ≤ op ∧ op ≤ 17
  · have hc : op = 1 ∨ op = 2 ∨ op = 3 ∨ op = 4 ∨ op = 5 ∨ op = 6 ∨ op = 7 ∨ op = 8 ∨ op = 9 ∨ op = 10 ∨ op = 11 ∨ op = 12 ∨ op = 13 ∨ op = 14 ∨ op = 15 ∨ op = 16 ∨ op = 17 := by omega
    clear h
    rcases hc with rfl | rfl | rfl | rfl | rfl | rfl | rfl | rfl | rfl | rfl | rfl | rfl | rfl | rfl | rfl | rfl | rfl
    all_goals
      refine calls_all fun K hK => ?_
      go_enter Try.func111, Try.ntmps111
      go_wp2
      go_returns
      exact hK _ _ ⟨rfl, ((Upd.refl _ _).alloc _).alloc _⟩
  · have e1 : (op == 1) = false := beq_eq_false_iff_ne.2 (by omega)
    have e2 : (op == 2) = false := beq_eq_false_iff_ne.2 (by omega)
    have e3 : (op == 3) = false := beq_eq_false_iff_ne.2 (by omega)
    have e4 : (op == 4) = false := beq_eq_false_iff_ne.2 (by omega)
    have e5 : (op == 5) = false := beq_eq_false_iff_ne.2 (by omega)
    have e6 : (op == 6) = false := beq_eq_false_iff_ne.2 (by omega)
    have e7 : (op == 7) = false := beq_eq_false_iff_ne.2 (by omega)
    have e8 : (op == 8) = false := beq_eq_false_iff_ne.2 (by omega)
    have e9 : (op == 9) = false := beq_eq_false_iff_ne.2 (by omega)
    have e10 : (op == 10) = false := beq_eq_false_iff_ne.2 (by omega)
    have e11 : (op == 11) = false := beq_eq_false_iff_ne.2 (by omega)
    have e12 : (op == 12) = false := beq_eq_false_iff_ne.2 (by omega)
    have e13 : (op == 13) = false := beq_eq_false_iff_ne.2 (by omega)
    have e14 : (op == 14) = false := beq_eq_false_iff_ne.2 (by omega)
    have e15 : (op == 15) = false := beq_eq_false_iff_ne.2 (by omega)
    have e16 : (op == 16) = false := beq_eq_false_iff_ne.2 (by omega)
    have e17 : (op == 17) = false := beq_eq_false_iff_ne.2 (by omega)
    have ef : formI op = ⟨0, false, false, false, false⟩ := if_neg h
    have ei : isOp op = false := decide_eq_false h
    rw [ef, ei]
    clear h ef ei
    refine calls_all fun K hK => ?_
    go_enter Try.func111, Try.ntmps111
    go_wp2
    go_returns
    exact hK _ _ ⟨rfl, ((Upd.refl _ _).alloc _).alloc _⟩


structure Ins where
  op : Int
  a : Int
  b : Int
  c : Int
  n : Int

def Ins.cells (i : Ins) : List Value := [.int .i64 i.op, .int .i64 i.a, .int .i64 i.b, .int .i64 i.c, .int .u64 i.n]
def Ins.val (i : Ins) : Value := .agg #[.int .i64 i.op, .int .i64 i.a, .int .i64 i.b, .int .i64 i.c, .int .u64 i.n]
def Ins.reg (i : Ins) (k : Nat) : Int := [i.a, i.b, i.c].getD k 0

def okReg (R : Nat) (reg : Nat → Int) (k : Nat) : Bool := if k < R then decide (0 ≤ reg k ∧ reg k < 8) else decide (reg k = 0)

theorem okReg_neg {R k : Nat} {reg : Nat → Int} (h : reg k < 0) : okReg R reg k = false := by
  unfold okReg
  split
  · exact decide_eq_false (by omega)
  · exact decide_eq_false (by omega)
theorem okReg_big {R k : Nat} {reg : Nat → Int} (h : 8 ≤ reg k) : okReg R reg k = false := by
  unfold okReg
  split
  · exact decide_eq_false (by omega)
  · exact decide_eq_false (by omega)
theorem okReg_more {R k : Nat} {reg : Nat → Int} (h : ¬ k < R) (h0 : reg k ≠ 0) : okReg R reg k = false := by
  unfold okReg
  rw [if_neg h]
  exact decide_eq_false h0
theorem okReg_in {R k : Nat} {reg : Nat → Int} (h : k < R) (h0 : 0 ≤ reg k) (h8 : reg k < 8) : okReg R reg k = true := by
  unfold okReg
  rw [if_pos h]
  exact decide_eq_true ⟨h0, h8⟩
theorem okReg_zero {R k : Nat} {reg : Nat → Int} (h : ¬ k < R) (h0 : reg k = 0) : okReg R reg k = true := by
  unfold okReg
  rw [if_neg h]
  exact decide_eq_true h0

def formedF (R : Nat) (reg : Nat → Int) (x : Bool) : Bool := okReg R reg 0 && okReg R reg 1 && okReg R reg 2 && x
def formed (i : Ins) : Bool := formedF (formI i.op).regs i.reg (isOp i.op && ((formI i.op).num || decide (i.n = 0)))

theorem formedF_no {R k : Nat} {reg : Nat → Int} {x : Bool} (h : okReg R reg k = false) (hk : k < 3) : formedF R reg x = false := by
  have : k = 0 ∨ k = 1 ∨ k = 2 := by omega
  unfold formedF
  rcases this with rfl | rfl | rfl <;> simp [h]
theorem formedF_yes {R : Nat} {reg : Nat → Int} {x : Bool} (h : ∀ j, j < 3 → okReg R reg j = true) : formedF R reg x = x := by
  unfold formedF
  simp [h 0 (by omega), h 1 (by omega), h 2 (by omega)]

theorem regs (i : Ins) (w : World) : Calls Try.prog 135 #[i.val] w fun e w' => ∃ g, e = .returned (.slice (some ⟨g, 0, none⟩) 3 3) ∧ w.heap.size ≤ g ∧ Blk w' g [.int .i64 i.a, .int .i64 i.b, .int .i64 i.c] 3 ∧ Upd [] w w' := by
  obtain ⟨op, a, b, c, n⟩ := i
  simp only [Ins.val]
  refine calls_all fun K hK => ?_
  go_enter Try.func135, Try.ntmps135
  go_wp2
  exact ⟨w.heap.size + 1, rfl, by omega, by simpa using Blk.new (w.alloc (.cells #[.int .i64 op, .int .i64 a, .int .i64 b, .int .i64 c, .int .u64 n] 144)) [.int .i64 a, .int .i64 b, .int .i64 c] 3, ((Upd.refl _ _).alloc _).alloc _⟩

theorem reg_cell (i : Ins) (k : Nat) (hk : k < 3) : [Value.int .i64 i.a, .int .i64 i.b, .int .i64 i.c][k]? = some (.int .i64 (i.reg k)) := by
  have : k = 0 ∨ k = 1 ∨ k = 2 := by omega
  rcases this with rfl | rfl | rfl <;> rfl

def Form.cells (f : Form) : List Value := [.int .i64 (f.regs : Int), .bool f.num, .bool f.target, .bool f.out, .bool f.ins]

set_option maxHeartbeats 8000000 in
theorem formed_code (i : Ins) (w : World) : Calls Try.prog 127 #[i.val] w fun e w' => e = .returned (.bool (formed i)) ∧ Upd [] w w' := by
  obtain ⟨f, hf⟩ : ∃ f, formI i.op = f := ⟨_, rfl⟩
  obtain ⟨ok, hok⟩ : ∃ ok, isOp i.op = ok := ⟨_, rfl⟩
  have HI : ∀ w, Calls Try.prog 111 #[.int .i64 i.op] w fun e w' => e = .returned (.tuple #[f.val, .bool ok]) ∧ Upd [] w w' := fun w => by rw [← hf, ← hok]; exact info i.op w
  have HR := fun w => regs i w
  have hform : formed i = formedF f.regs i.reg (ok && (f.num || decide (i.n = 0))) := by
    unfold formed; rw [hf, hok]
  have hrc := reg_cell i
  have HF := Lib.hid hform
  clear hf hok hform
  obtain ⟨op, a, b, c, n⟩ := i
  simp only [Ins.val] at HR HI ⊢
  obtain ⟨R, nm, tg, ou, is⟩ := f
  simp only [Form.val] at HI
  obtain ⟨reg, hreg⟩ : ∃ reg, Ins.reg ⟨op, a, b, c, n⟩ = reg := ⟨_, rfl⟩
  rw [hreg] at hrc HF
  clear hreg
  obtain ⟨F, hFF⟩ : ∃ F, formed ⟨op, a, b, c, n⟩ = F := ⟨_, rfl⟩
  rw [hFF] at HF ⊢
  clear hFF
  refine calls_all fun K hK => ?_
  go_enter Try.func127, Try.ntmps127
  go_wp2_with fail
  refine (HI _).mono ?_
  rintro e w1 ⟨rfl, u1⟩
  have u0 : Upd [] w w1 := ((Upd.refl _ _).alloc _).trans u1
  have hb : Blk w1 w.heap.size [.int .i64 op, .int .i64 a, .int .i64 b, .int .i64 c, .int .u64 n] 144 := (Blk.new w _ _).upd u1 (by simp)
  clear u1
  have hbA := hb.alloc (.cells #[.int .i64 (R : Int), .bool nm, .bool tg, .bool ou, .bool is] 175)
  have d0 := hbA.cell 0 rfl
  have d1 := hbA.cell 1 rfl
  have d2 := hbA.cell 2 rfl
  have d3 := hbA.cell 3 rfl
  have d4 := hbA.cell 4 rfl
  clear hbA
  have HB := Lib.hid hb
  have U0 := Lib.hid u0
  clear hb u0
  go_wp2_with fail
  refine (HR _).mono ?_
  rintro e w2 ⟨g, rfl, hg, hg2, u2⟩
  have hf2 : Blk w2 w1.heap.size [.int .i64 (R : Int), .bool nm, .bool tg, .bool ou, .bool is] 175 := (Blk.new w1 _ _).upd u2 (by simp)
  have hb2 := (HB.out.alloc (.cells #[.int .i64 (R : Int), .bool nm, .bool tg, .bool ou, .bool is] 175)).upd u2 (by simp)
  have U2 := Lib.hid ((U0.out.alloc (.cells #[.int .i64 (R : Int), .bool nm, .bool tg, .bool ou, .bool is] 175)).trans u2)
  have f0 := hf2.cell 0 rfl
  have f1 := hf2.cell 1 rfl
  have b4 := hb2.cell 4 rfl
  clear d0 d1 d2 d3 d4 u2 HB U0 hf2 hb2
  go_wp2
  go_loop [16] (fun v16 => ∃ k : Nat, k ≤ 3 ∧ v16 = .int .i64 k ∧ ∀ j, j < k → okReg R reg j = true) (fun v16 => 3 - (intOf v16).toNat)
  case atStart => exact ⟨0, by omega, rfl, by omega⟩
  case round =>
    obtain ⟨k, hk, rfl, hall⟩ := hrel
    have HA := Lib.hid hall
    clear hall
    by_cases hlt : k < 3
    · have hc := hg2.cell k (hrc k hlt)
      have hkl : (k : Int) < 3 := by omega
      have HN : Hid (okReg R reg k = false → F = false) := Lib.hid fun h => HF.out.trans (formedF_no h hlt)
      obtain ⟨r, hr⟩ : ∃ r, reg k = r := ⟨_, rfl⟩
      rw [hr] at hc
      have HK := Lib.hid hr
      clear hr hrc
      by_cases hkR : k < R
      · by_cases h0 : r < 0
        · have e0 := HN.out (okReg_neg (by rw [HK.out]; exact h0))
          subst e0
          clear HN HF
          go_wp2
          all_goals first | exact U2.out | exact ⟨rfl, U2.out⟩
        · by_cases h8 : 8 ≤ r
          · have e0 := HN.out (okReg_big (by rw [HK.out]; exact h8))
            subst e0
            clear HN HF
            go_wp2
            all_goals first | exact U2.out | exact ⟨rfl, U2.out⟩
          · have HY := Lib.hid (okReg_in hkR (show 0 ≤ reg k by rw [HK.out]; omega) (show reg k < 8 by rw [HK.out]; omega))
            have hnk : decide (R ≤ k) = false := decide_eq_false (by omega)
            clear HN
            go_wp2
            go_round
            case rel => exact ⟨k + 1, by omega, by go_num, fun j hj => by rcases Nat.lt_succ_iff_lt_or_eq.1 hj with h | rfl; exact HA.out j h; exact HY.out⟩
            case measure => simp [intOf]; omega
      · have hRk : R ≤ k := by omega
        by_cases hz : r = 0
        · have HY := Lib.hid (okReg_zero hkR (show reg k = 0 by rw [HK.out]; exact hz))
          subst hz
          clear HN
          go_wp2
          go_round
          case rel => exact ⟨k + 1, by omega, by go_num, fun j hj => by rcases Nat.lt_succ_iff_lt_or_eq.1 hj with h | rfl; exact HA.out j h; exact HY.out⟩
          case measure => simp [intOf]; omega
        · have e0 := HN.out (okReg_more hkR (by rw [HK.out]; exact hz))
          subst e0
          have hzz : (r != 0) = true := by simpa using hz
          clear HN HF
          go_wp2
          all_goals first | exact U2.out | exact ⟨rfl, U2.out⟩
    · obtain rfl : k = 3 := by omega
      have eF := HF.out.trans (formedF_yes HA.out)
      have HE := Lib.hid eF
      clear eF HF
      by_cases hn : n = 0
      · subst hn
        cases ok <;> cases nm
        all_goals
          go_wp2
          all_goals first | exact ⟨by rw [HE.out]; rfl, U2.out⟩ | (rw [HE.out]; exact ⟨rfl, U2.out⟩) | (rw [HE.out]; exact U2.out)
      · have hnn : (n == 0) = false := beq_eq_false_iff_ne.2 hn
        have hdn : decide (n = 0) = false := decide_eq_false hn
        cases ok <;> cases nm
        all_goals
          go_wp2
          all_goals first | exact ⟨by rw [HE.out, hdn]; rfl, U2.out⟩ | (rw [HE.out]; exact ⟨rfl, U2.out⟩) | (rw [HE.out]; exact U2.out)
end Go.Proofs.Ythfeljongackcaa
set_option linter.unusedSimpArgs false
set_option linter.unusedVariables false
set_option maxRecDepth 100000
namespace Go.Proofs.Ythfeljongackcaa
open Go.RowKit

/-- an event of a thread -/
structure TE where
  kind : Int
  addr : Int
  word : Int
  own : Bool
  err : Int
def TE.val (e : TE) : Value := .agg #[.int .i64 0, .int .i64 e.kind, .int .u64 e.addr, .int .u64 e.word, .bool e.own, .int .i64 e.err]
def teNone : TE := ⟨0, 0, 0, false, 0⟩
def Ev.te (e : Ev) : TE := ⟨e.kind, e.addr, e.word, e.own, 0⟩
/-- what a step tells: an event, is there one -/
abbrev Told := TE × Bool
def quiet : Told := (teNone, false)
def telling (k a w : Int) : Told := (⟨k, a, w, false, 0⟩, true)

structure TS where
  st : Int
  err : Int
  at_ : Int
  regs : List Int
  start : Int
  saved : List Int
  fuel : Int
  att : Option AS
def zero8 : List Int := [0, 0, 0, 0, 0, 0, 0, 0]
def TS.ins (t : TS) : Bool := t.att.isSome
def newT : TS := ⟨1, 0, 0, zero8, 0, zero8, 0, none⟩
def leaveT (t : TS) (k : Int) : TS := ⟨t.st, t.err, k, t.regs, 0, zero8, 0, none⟩
def giveT (t : TS) (k : Int) : TS := leaveT { t with regs := t.saved } k
def failT (t : TS) (e : Int) : Told × TS := ((⟨9, 0, 0, false, e⟩, true), { (if t.ins = true then giveT t t.start else t) with st := 3, err := e })
def targetI (n : Int) : Int := if 9223372036854775807 < n then 9223372036854775807 else n
def insAt (p : List Ins) (k : Int) : Ins := if k < 0 then ⟨0, 0, 0, 0, 0⟩ else p.getD k.toNat ⟨0, 0, 0, 0, 0⟩
def opAt (p : List Ins) (k : Int) : Int := (insAt p k).op
def rg (t : TS) (k : Int) : Int := t.regs.getD k.toNat 0
def setR (t : TS) (k v : Int) : TS := { t with regs := t.regs.set k.toNat v }
def nextT (t : TS) : TS := { t with at_ := t.at_ + 1 }
/-- what a turn of the attempt makes of the thread -/
def turnedT (p : List Ins) (t : TS) (x : Trn) (e : Int) : Told × TS :=
  if e ≠ 0 then failT t e else
  ((x.ev.te, x.ev.kind != 0),
    if x.out = 2 then nextT (setR t (insAt p t.at_).a x.word)
    else if x.out = 3 then nextT t
    else if x.out = 4 then leaveT t (t.at_ + 1)
    else if x.out = 5 then giveT t t.start
    else t)
def attS (t : TS) : AS := t.att.getD overS
def withA (t : TS) (s : AS) : TS := { t with att := some s }
/-- an instruction that is not of registers alone -/
def sharedT (p : List Ins) (t : TS) (sh : Sh) (i : Ins) : Told × TS × Sh :=
  if i.op = 10 then
    if rg t i.b < sh.row.length then (telling 10 (rg t i.b) (wd sh.row (rg t i.b).toNat), nextT (setR t i.a (wd sh.row (rg t i.b).toNat)), sh)
    else ((failT t 4).1, (failT t 4).2, sh)
  else if i.op = 11 then
    if rg t i.b < sh.row.length then (telling 11 (rg t i.b) (rg t i.a), nextT t, { sh with row := sh.row.set (rg t i.b).toNat (rg t i.a) })
    else ((failT t 4).1, (failT t 4).2, sh)
  else if i.op = 17 then (telling 12 0 0, { t with st := 2 }, sh)
  else if i.op = 12 then
    if sh.clock % 2 = 0 then (telling 1 0 sh.clock, nextT { t with start := t.at_, saved := t.regs, att := some (fresh sh.clock) }, sh)
    else (quiet, t, sh)
  else if i.op = 13 then
    let r := getS (attS t) sh (rg t i.b)
    let q := turnedT p (withA t r.2.2) r.1 r.2.1
    (q.1, q.2, sh)
  else if i.op = 14 then
    let r := putS (attS t) sh (rg t i.b) (rg t i.a)
    let q := turnedT p (withA t r.2.2) r.1 r.2.1
    (q.1, q.2, sh)
  else if i.op = 16 then (telling 8 0 0, giveT t (targetI i.n), sh)
  else
    let r := endS (attS t) sh
    let q := turnedT p (withA t r.2.2.1) r.1 r.2.1
    (q.1, q.2, r.2.2.2)
/-- an instruction of registers: the thread behind it; none: it is no such -/
def plainT (t : TS) (i : Ins) : Option TS :=
  if i.op = 1 then some (nextT (setR t i.a i.n))
  else if i.op = 2 then some (nextT (setR t i.a (rg t i.b)))
  else if i.op = 3 then some (nextT (setR t i.a ((rg t i.b + rg t i.c) % 18446744073709551616)))
  else if i.op = 4 then some (nextT (setR t i.a ((rg t i.b - rg t i.c) % 18446744073709551616)))
  else if i.op = 5 then some (nextT (setR t i.a ((rg t i.b * rg t i.c) % 18446744073709551616)))
  else if i.op = 6 then some (nextT (setR t i.a (if rg t i.b < rg t i.c then 1 else 0)))
  else if i.op = 7 then some (nextT (setR t i.a (if rg t i.b = rg t i.c then 1 else 0)))
  else if i.op = 8 then some { t with at_ := targetI i.n }
  else if i.op = 9 then some (if rg t i.a = 0 then { t with at_ := targetI i.n } else nextT t)
  else none
def fuelT (t : TS) : TS := if t.ins = true then { t with fuel := t.fuel + 1 } else t
/-- a step that begins an instruction, or goes on with the attempt -/
def stepT (p : List Ins) (t : TS) (sh : Sh) : Told × TS × Sh :=
  if t.ins = true ∧ (attS t).phase ≠ 1 then
    let r := stepS (attS t) sh
    let q := turnedT p (withA t r.2.2.1) r.1 r.2.1
    (q.1, q.2, r.2.2.2)
  else
    let o := opAt p t.at_
    if isOp o = false ∨ (t.ins = true ∧ (formI o).ins = false) ∨ (t.ins = false ∧ (formI o).out = false) then ((failT t 210).1, (failT t 210).2, sh)
    else if t.ins = true ∧ t.fuel = 4096 then ((failT t 6).1, (failT t 6).2, sh)
    else match plainT (fuelT t) (insAt p t.at_) with
      | some t' => (quiet, t', sh)
      | none => sharedT p (fuelT t) sh (insAt p t.at_)
def StepT (p : List Ins) (t : TS) (sh : Sh) : Told × TS × Sh := if t.st ≠ 1 then (quiet, t, sh) else stepT p t sh
/-- a word -/
def W64 (v : Int) : Prop := 0 ≤ v ∧ v < 18446744073709551616
/-- an attempt that is under way stands at its instruction -/
def placed (p : List Ins) (t : TS) (s : AS) : Prop := s.phase = 1 ∨ (0 < t.fuel ∧ opAt p t.at_ = if getsB s = true then 13 else 15)
/-- may a thread's state be? -/
structure TMay (p : List Ins) (t : TS) : Prop where
  st : 1 ≤ t.st ∧ t.st ≤ 3
  err : t.st = 3 ↔ t.err ≠ 0
  at0 : 0 ≤ t.at_ ∧ t.at_ ≤ 9223372036854775807
  out : t.att = none → t.start = 0 ∧ t.saved = zero8 ∧ t.fuel = 0
  ins : ∀ s, t.att = some s → t.st = 1 ∧ opAt p t.start = 12 ∧ (0 ≤ t.fuel ∧ t.fuel ≤ 4096) ∧ May s ∧ s.phase ≠ 10 ∧ placed p t s
/-- words are words -/
structure TWide (t : TS) : Prop where
  regs : t.regs.length = 8 ∧ ∀ v ∈ t.regs, W64 v
  saved : t.saved.length = 8 ∧ ∀ v ∈ t.saved, W64 v
  att : ∀ s, t.att = some s → Wide s
end Go.Proofs.Ythfeljongackcaa
set_option linter.unusedSimpArgs false
set_option linter.unusedVariables false
set_option maxRecDepth 100000
namespace Go.Proofs.Ythfeljongackcaa
open Go.RowKit
section
variable {F : Fence} {n : Nat} {P : Program} {ops : Array Oper} {C : World → Prop}

/-- no defer statement -/
def plainOp (o : Oper) : Bool := match o.op with | .defer _ => false | _ => true
theorem plainOp_spec {o : Oper} (h : plainOp o = true) : ∀ c, o.op ≠ .defer c := by
  intro c e
  simp [plainOp, e] at h

theorem wpIn_of_quiet_rd {o : Oper} {a : Act} {K : Act → Prop} {K' : Act → World → Prop} {Q' : Exit → Act → World → Prop} {w : World} (hp : plainOp o = true) (hw : C w) (h : ∀ a w', C w' → K a → K' a w')
    (ha : o.askedIn F P a C) (hh : o.quietIn F n P a C K) : o.wpIn F n P a w K' Q' := by
  obtain ⟨v, h1, h2⟩ := hh
  have h3 := h1 w hw
  unfold Oper.quietAtIn at h3
  unfold Oper.wpIn
  refine ⟨ha w hw, ?_⟩
  rw [Oper.semAt_eq _ _ _ (plainOp_spec hp)]
  generalize (execOp a.eval o).run P w = r at *
  cases r with
  | ok x w' =>
    cases x <;> simp only [Oper.quietUponIn] at h3 <;> simp only [Oper.uponIn]
    case value u =>
      obtain ⟨e1, e2⟩ := h3
      rw [e1, e2]
      exact h _ _ hw h2
    case skip =>
      obtain ⟨e1, e2⟩ := h3
      rw [e1, ← e2]
      exact h _ _ hw h2
    case enter f args =>
      obtain ⟨e1, hd, hc⟩ := h3
      rw [e1]
      exact ⟨hd, hc.mono fun e w'' ⟨he, hw''⟩ => by subst he; exact h _ _ hw'' h2⟩
  | halt x w' => simp only [Oper.quietUponIn] at h3

theorem wpOpIn_of_qOpIn_rd {i : Nat} {a : Act} {K : Act → Prop} {K' : Act → World → Prop} {Q' : Exit → Act → World → Prop} {w : World} (hp : ops.all plainOp = true) (hC : C w) (h : ∀ a w', C w' → K a → K' a w')
    (hh : qOpIn F n P ops C i K a) : wpOpIn F n P ops Q' i K' a w := by
  unfold qOpIn at hh
  unfold wpOpIn
  split
  · rename_i ho; simp only [ho] at hh; exact h _ _ hC hh
  · rename_i o ho
    simp only [ho] at hh
    obtain ⟨ha, hh⟩ := hh
    have hpo : plainOp o = true := by
      obtain ⟨hi, he⟩ := Array.getElem?_eq_some_iff.1 ho
      have := Array.all_eq_true.1 hp i hi
      rwa [he] at this
    split
    · rename_i hw; simp only [hw, if_true] at hh; exact wpIn_of_quiet_rd hpo hC h ha hh
    · rename_i hw; simp only [hw] at hh; exact ⟨ha w hC, h _ _ hC hh⟩

theorem wpAnyIn_of_quiet_rd {md : Region.Mode} {Q : Act → Prop} {Q' : Exit → Act → World → Prop} (hp : ops.all plainOp = true) (hQ : ∀ a w, C w → Q a → Q' .normal a w) : ∀ (fuel : Nat) (listed : Array Bool) (a : Act) (w : World), C w →
    wpAnyQIn F n P md ops C Q fuel listed a → wpAnyIn F n P md ops Q' fuel listed a w
  | 0, _, _, _, hw, h => ⟨h.1, hQ _ _ hw h.2⟩
  | fuel + 1, _, _, _, hw, h => ⟨fun h0 => hQ _ _ hw (h.1 h0), fun i hi => wpOpIn_of_qOpIn_rd hp hw (fun a' w' hw' => wpAnyIn_of_quiet_rd hp hQ fuel _ a' w' hw') (h.2 i hi)⟩

theorem wpIn_region_quiet_rd {id : Nat} {Q : Exit → Act → World → Prop} {a : Act} {w : World} {l : List Oper} (hp : l.toArray.all plainOp = true) (hm : P.follows .mixedOrders = true) (hB : Region.lexB .any l.toArray = true)
    (h : wpQuietIn F n P l.toArray (fun w' => ∃ n, w' = w.drewN n) (fun a' => ∀ w', (∃ n, w' = w.drewN n) → Q .normal a' w') l a) : (Code.region id l.toArray true).wpIn F n P Q a w := by
  have hB' := hB
  simp only [Region.lexB, Bool.and_eq_true] at hB
  refine wpIn_region_any hm (wpAnyIn_of_quiet_rd (C := fun w' => ∃ n, w' = w.drewN n) (Q := fun a' => ∀ w', (∃ n, w' = w.drewN n) → Q .normal a' w') hp (fun _ w' hw' h => h w' hw') _ _ _ _ ⟨1, rfl⟩ ?_)
  have := wpAnyQIn_lex (F := F) (n := n) (C := fun w' => ∃ n, w' = w.drewN n) (md := .any) hB.1 l.toArray.toList 0 (Array.replicate l.toArray.size false) a (by simp) (by simpa using hB.2) (by simpa using h)
  simpa using this

end
end Go.Proofs.Ythfeljongackcaa
set_option linter.unusedSimpArgs false
set_option linter.unusedVariables false
set_option maxRecDepth 100000
namespace Go.Proofs.Ythfeljongackcaa
open Go.RowKit
/-- the plain end alone -/
def OnlyN (Q : Exit → Act → World → Prop) : Exit → Act → World → Prop
  | .normal, a, w => Q .normal a w
  | _, _, _ => False
theorem OnlyN.normal {Q : Exit → Act → World → Prop} {a : Act} {w : World} (h : Q .normal a w) : OnlyN Q .normal a w := h
theorem OnlyN.not_out {Q : Exit → Act → World → Prop} (h : LetsOut (OnlyN Q)) : False := let ⟨_, _, h⟩ := h; h
section
variable {n l : Nat} {P : Program} {ops : Array Oper} {Q : Exit → Act → World → Prop} {md : Region.Mode}
theorem wpIn_of_wp {o : Oper} {a : Act} {w : World} {K : Act → World → Prop} (hp : plainOp o = true) (h : o.wp P a w K (OnlyN Q)) : o.wpIn (Fence.wide.inRound l) n P a w K Q := by
  unfold Oper.wp at h
  unfold Oper.wpIn
  refine ⟨fun _ _ => trivial, ?_⟩
  rw [Oper.semAt_eq _ _ _ (plainOp_spec hp)]
  generalize (execOp a.eval o).run P w = r at *
  cases r with
  | ok x w' =>
    cases x <;> simp only [Oper.upon] at h <;> simp only [Oper.uponIn]
    case value u => exact h
    case skip => exact h
    case defer d => exact h
    case enter f args =>
      refine ⟨fun h => by simp [Fence.wide] at h, CallsIn.inRound l (callsIn_wide.2 (h.mono fun e w'' k => ?_))⟩
      cases e with
      | returned v => exact k
      | panicked c => exact (k : False).elim
      | outgrown => exact (OnlyN.not_out k).elim
    case row f args =>
      refine ⟨fun h => by simp [Fence.wide] at h, fun c cs _ => ?_⟩
      obtain ⟨v, w', r, s⟩ := h c cs
      exact ⟨v, w', r, stepsIn_wide.2 s⟩
  | halt x w' =>
    cases x <;> simp only [Oper.upon] at h
    exact (h : False).elim
theorem wpOpIn_of_wpOp {i : Nat} {a : Act} {w : World} {K K' : Act → World → Prop} (hp : ops.all plainOp = true) (hK : ∀ a w, K a w → K' a w) (h : wpOp P ops (OnlyN Q) i K a w) : wpOpIn (Fence.wide.inRound l) n P ops Q i K' a w := by
  unfold wpOp at h
  unfold wpOpIn
  split
  · rename_i ho; simp only [ho] at h; exact hK _ _ h
  · rename_i o ho
    simp only [ho] at h
    have hpo : plainOp o = true := by
      obtain ⟨hi, he⟩ := Array.getElem?_eq_some_iff.1 ho
      have := Array.all_eq_true.1 hp i hi
      rwa [he] at this
    split
    · rename_i hw
      simp only [hw, if_true] at h
      rcases h with h | ⟨_, h⟩
      · exact Oper.wpIn_mono hK (wpIn_of_wp hpo h)
      · exact (OnlyN.not_out h).elim
    · rename_i hw; simp only [hw] at h; exact ⟨fun _ _ => trivial, hK _ _ h⟩
theorem wpAnyIn_of_wpAny (hp : ops.all plainOp = true) : ∀ (fuel : Nat) (listed : Array Bool) (a : Act) (w : World), wpAny P md ops (OnlyN Q) fuel listed a w → wpAnyIn (Fence.wide.inRound l) n P md ops Q fuel listed a w
  | 0, _, _, _, h => h
  | fuel + 1, _, _, _, h => ⟨fun h0 => h.1 h0, fun i hi => wpOpIn_of_wpOp hp (fun a' w' => wpAnyIn_of_wpAny hp fuel _ a' w') (h.2 i hi)⟩

theorem wpIn_region_eff {id : Nat} {a : Act} {w : World} {l' : List Oper} (S : World → Prop) (t : Nat) (hp : l'.toArray.all plainOp = true) (hm : P.follows .mixedOrders = true) (hB : effB .any l'.toArray t = true) (hS : S w.drew)
    (h : wpE P .any l'.toArray (OnlyN Q) S t 0 l' a w.drew) : (Code.region id l'.toArray true).wpIn (Fence.wide.inRound l) n P Q a w := by
  simp only [effB, Bool.and_eq_true, decide_eq_true_eq] at hB
  obtain ⟨⟨⟨hsel, ht⟩, hla⟩, hlex⟩ := hB
  refine wpIn_region_any hm (wpAnyIn_of_wpAny hp _ _ _ _ ?_)
  have inv0 : Shut .any l'.toArray (upB l'.toArray 0) := ⟨by simp [upB, fillB], fun j oj _ hl => (by rw [upB, fillB, getD_replicate_false] at hl; cases hl)⟩
  have := wpAnyE_lex (P := P) (S := S) hsel (Q := OnlyN Q) (fun c d v a w h => h) ht hla (lexFrom_end _ 0 (by simp) hlex) l' 0 a { w with drawn := w.drawn + 1 } (by simp) (by simp) inv0 (.inl (by omega)) (.inl hS) (by simpa [upB, fillB] using hlex) h
  simpa [upB, fillB] using wpAny_of_E _ _ _ _ this
end
end Go.Proofs.Ythfeljongackcaa
