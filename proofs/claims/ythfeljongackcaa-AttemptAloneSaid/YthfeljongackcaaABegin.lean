/- Begin: an attempt begins where the clock is open. No conditions. -/
import Derived.Test.YthfeljongackcaaAMade
set_option linter.unusedSimpArgs false
set_option linter.unusedVariables false
set_option maxRecDepth 100000
namespace Go.Proofs.Ythfeljongackcaa
open Go.RowKit
open Go.Maps

theorem turn_results3 {fn : Func} (p k m : Nat) (hr : fn.results = #[.tmp p, .cell k 36, .tmp m]) (t : Array Value) (w : World) (rb : Nat) (T : Trn) (u v : Value) (h1 : t.getD p undef = u) (h2 : t.getD k undef = .pointer (some ⟨rb, 0, none⟩)) (h3 : t.getD m undef = v) (hb : Blk w rb T.cells 36) :
    (results fn t).run Try.prog w = .ok (.tuple #[u, T.val, v]) w := by
  have c0 := hb.cell 0 rfl
  have c1 := hb.cell 1 rfl
  have c2 := hb.cell 2 rfl
  have c3 := hb.cell 3 rfl
  have c4 := hb.cell 4 rfl
  have c5 := hb.cell 5 rfl
  have c6 := hb.cell 6 rfl
  have c7 := hb.cell 7 rfl
  have h1' : t[p]?.getD undef = u := by simpa using h1
  have h2' : t[k]?.getD undef = .pointer (some ⟨rb, 0, none⟩) := by simpa using h2
  have h3' : t[m]?.getD undef = v := by simpa using h3
  simp [results, hr, h1', h2', h3', go_sem, c0, c1, c2, c3, c4, c5, c6, c7, Trn.val]

section
variable {w : World} {X : SX} {sh : Sh} {acc st : Int}
/-- an attempt has begun -/
def Begun (w : World) (X : SX) (sh : Sh) (acc st : Int) (e : Ending) (w' : World) : Prop :=
  ∃ a F rv wv mv, e = .returned (.tuple #[.pointer (some ⟨a, 0, none⟩), (⟨6, 0, ⟨1, 0, sh.clock, false⟩⟩ : Trn).val, .int .i64 0]) ∧ Live w' X sh acc (wrap64 (st + 1)) a (fresh sh.clock) F rv wv mv ∧ Upd X.foot w w' ∧ w.heap.size ≤ a ∧ ∀ g ∈ F, w.heap.size ≤ g
def NotBegun (w : World) (X : SX) (sh : Sh) (acc st : Int) (e : Ending) (w' : World) : Prop :=
  e = .returned (.tuple #[.pointer none, (⟨7, 0, evNone⟩ : Trn).val, .int .i64 0]) ∧ X.At w' sh acc (wrap64 (st + 1)) ∧ Upd X.foot w w'

theorem SX.At.clkd {w w1 : World} {st' : Int} (h : X.At w sh acc st) (u : Upd [X.ca, X.cr, X.cb] w w1) (c : ClockAt w1 X.ca X.cr X.cb sh.clock st') : X.At w1 sh acc st' :=
  ⟨h.row.upd u (by have := h.a1; simp; omega) (by have := h.a2; simp; omega), c, h.a1, h.a2, h.wide⟩

set_option maxHeartbeats 1000000 in
theorem begin_odd (h : X.At w sh acc st) (hc : sh.clock % 2 = 1) : Calls Try.prog 13 #[.pointer (some ⟨X.ra, 0, none⟩), .pointer (some ⟨X.ca, 0, none⟩)] w (NotBegun w X sh acc st) := by
  have hl1 : ((sh.row.length : Int) == 0) = false := by have := h.row.len1; rw [beq_eq_false_iff_ne]; omega
  have hop := fun W => open_any sh.clock W
  rw [show opn sh.clock = false by rw [opn_eq h.wide.clock.1 h.wide.clock.2]; simp; omega] at hop
  have HOP := Lib.hid hop
  have l3 := h.clk.ltc
  have l4 := h.clk.lta
  have l5 := h.clk.ltb
  clear hop hc
  refine calls_all fun K hK => ?_
  go_enter Try.func13, Try.ntmps13
  go_wp2_with fail
  obtain ⟨W, hW⟩ : ∃ W, W = w.alloc (.cells turn0.toArray 36) := ⟨_, rfl⟩
  have RB : Blk W w.heap.size turn0 36 := by rw [hW]; exact Blk.new w _ _
  have HU : Upd [] w W := by rw [hW]; exact (Upd.refl _ _).alloc _
  have hWs : W.heap.size = w.heap.size + 1 := by rw [hW]; exact World.size_alloc _ _
  simp only [turn0, trnNone, evNone, Trn.cells] at hW
  rw [← hW]
  clear hW
  have h1 := h.upd HU (by simp)
  refine (len_row h1.row).mono ?_
  rintro e w' ⟨rfl, rfl⟩
  go_wp2_with fail
  refine (clkLoad h1.clk).mono ?_
  rintro e w1 ⟨rfl, c1, u1⟩
  have h2 := h1.clkd u1 c1
  have RB2 := RB.upd u1 (by simp; omega)
  have U2 : Upd X.foot w w1 := (HU.mono (by simp)).trans (u1.mono (by simp [SX.foot]))
  clear RB HU h1 u1 c1
  go_wp2_with fail
  refine (HOP.out w1).mono ?_
  rintro e w' ⟨rfl, rfl⟩
  have q0 := (RB2).cell 0 rfl
  have q1 := (RB2).cell 1 rfl
  have q2 := (RB2).cell 2 rfl
  have q3 := (RB2).cell 3 rfl
  have q4 := (RB2).cell 4 rfl
  have q5 := (RB2).cell 5 rfl
  have q6 := (RB2).cell 6 rfl
  have q7 := (RB2).cell 7 rfl
  have g0 := (RB2).free 0
  have g1 := (RB2).free 1
  have g2 := (RB2).free 2
  have g3 := (RB2).free 3
  have g4 := (RB2).free 4
  have g5 := (RB2).free 5
  have g6 := (RB2).free 6
  have g7 := (RB2).free 7
  go_wp2_with fail
  exact bodyPost_ret (turn_results3 4 5 6 rfl _ _ _ (⟨7, 0, evNone⟩ : Trn) (.pointer none) (.int .i64 0) rfl rfl rfl (turn_set RB2 rfl (⟨7, 0, evNone⟩ : Trn))) rfl (hK _ _ ⟨rfl, h2.upd (at8 _ _ _ _ _ _ _ _) (fun g hg => by have := h.lt g hg; simp; omega), upd8 U2 (Nat.le_refl _) _ _ _ _ _ _ _ _⟩)

set_option maxHeartbeats 1000000 in
theorem begin_even (h : X.At w sh acc st) (hc : sh.clock % 2 = 0) : Calls Try.prog 13 #[.pointer (some ⟨X.ra, 0, none⟩), .pointer (some ⟨X.ca, 0, none⟩)] w (Begun w X sh acc st) := by
  have hl1 : ((sh.row.length : Int) == 0) = false := by have := h.row.len1; rw [beq_eq_false_iff_ne]; omega
  have hop := fun W => open_any sh.clock W
  rw [show opn sh.clock = true by rw [opn_eq h.wide.clock.1 h.wide.clock.2]; simpa using hc] at hop
  have HOP := Lib.hid hop
  have l3 := h.clk.ltc
  have l4 := h.clk.lta
  have l5 := h.clk.ltb
  clear hop hc
  refine calls_all fun K hK => ?_
  go_enter Try.func13, Try.ntmps13
  go_wp2_with fail
  obtain ⟨W, hW⟩ : ∃ W, W = w.alloc (.cells turn0.toArray 36) := ⟨_, rfl⟩
  have RB : Blk W w.heap.size turn0 36 := by rw [hW]; exact Blk.new w _ _
  have HU : Upd [] w W := by rw [hW]; exact (Upd.refl _ _).alloc _
  have hWs : W.heap.size = w.heap.size + 1 := by rw [hW]; exact World.size_alloc _ _
  simp only [turn0, trnNone, evNone, Trn.cells] at hW
  rw [← hW]
  clear hW
  have h1 := h.upd HU (by simp)
  refine (len_row h1.row).mono ?_
  rintro e w' ⟨rfl, rfl⟩
  go_wp2_with fail
  refine (clkLoad h1.clk).mono ?_
  rintro e w1 ⟨rfl, c1, u1⟩
  have h2 := h1.clkd u1 c1
  have RB2 := RB.upd u1 (by simp; omega)
  have U2 : Upd X.foot w w1 := (HU.mono (by simp)).trans (u1.mono (by simp [SX.foot]))
  have hwl := RB2.lt
  clear RB HU h1 u1 c1
  go_wp2_with fail
  refine (HOP.out w1).mono ?_
  rintro e w' ⟨rfl, rfl⟩
  go_wp2_with fail
  have hb := Blk.new w1 (head0 X.ra X.ca (fresh sh.clock) (.slice none 0 0) (.slice none 0 0)) 66
  have u3 : Upd [] w1 (w1.alloc (.cells (head0 X.ra X.ca (fresh sh.clock) (.slice none 0 0) (.slice none 0 0)).toArray 66)) := (Upd.refl [] _).alloc _
  have hs3 : (w1.alloc (.cells (head0 X.ra X.ca (fresh sh.clock) (.slice none 0 0) (.slice none 0 0)).toArray 66)).heap.size = w1.heap.size + 1 := World.size_alloc _ _
  have hn : ∀ W F, OwnP W (.slice none 0 0) [] F := fun W F => ⟨World.ownsRow_nil _ _ _ _, fun _ => rfl, by simp [Value.ownBlock]⟩
  have hmade := made_code (F := []) hb (hn _ _) (hn _ _) (by simp [Value.ownBlock]) (by simp [fresh]) (by simp [fresh]) (by simp [fresh])
  refine hmade.mono ?_
  rintro e w4 ⟨rfl, m, hm1, hm2, hA, u4⟩
  rw [hs3] at hm1
  have u34 : Upd [] w1 w4 := u3.tr u4 (by simp) (fun x hx => by simp at hx; omega)
  have h4 := h2.upd u34 (by simp)
  have RB4 := RB2.upd u34 (by simp)
  have U4 := U2.trans (u34.mono (by simp))
  have HL : Live w4 X sh acc (wrap64 (st + 1)) w1.heap.size (fresh sh.clock) [m] (.slice none 0 0) (.slice none 0 0) (.map (some m)) := by
    have hwf : ∀ g ∈ X.foot, g < w1.heap.size := h2.lt
    refine ⟨hA, h4, fun g hg => ?_, wide_fresh h.wide.clock⟩
    simp at hg
    subst hg
    exact ⟨hm2, fun hm => by have := hwf _ hm; omega, by omega⟩
  clear hA h4 h2 hb u3 hs3 hmade RB2 U2 u4 u34 hn
  have q0 := (RB4).cell 0 rfl
  have q1 := (RB4).cell 1 rfl
  have q2 := (RB4).cell 2 rfl
  have q3 := (RB4).cell 3 rfl
  have q4 := (RB4).cell 4 rfl
  have q5 := (RB4).cell 5 rfl
  have q6 := (RB4).cell 6 rfl
  have q7 := (RB4).cell 7 rfl
  have g0 := (RB4).free 0
  have g1 := (RB4).free 1
  have g2 := (RB4).free 2
  have g3 := (RB4).free 3
  have g4 := (RB4).free 4
  have g5 := (RB4).free 5
  have g6 := (RB4).free 6
  have g7 := (RB4).free 7
  go_wp2_with fail
  exact bodyPost_ret (turn_results3 4 5 6 rfl _ _ _ (⟨6, 0, ⟨1, 0, sh.clock, false⟩⟩ : Trn) (.pointer (some ⟨w1.heap.size, 0, none⟩)) (.int .i64 0) rfl rfl rfl (turn_set RB4 rfl (⟨6, 0, ⟨1, 0, sh.clock, false⟩⟩ : Trn))) rfl
    (hK _ _ ⟨w1.heap.size, [m], _, _, _, rfl, HL.upd (at8 _ _ _ _ _ _ _ _) (by simp; omega) (fun g hg => by simp at hg; subst hg; simp; omega) (fun g hg => by have := h.lt g hg; simp; omega), upd8 U4 (Nat.le_refl _) _ _ _ _ _ _ _ _, by omega, fun g hg => by simp at hg; omega⟩)
end
end Go.Proofs.Ythfeljongackcaa
