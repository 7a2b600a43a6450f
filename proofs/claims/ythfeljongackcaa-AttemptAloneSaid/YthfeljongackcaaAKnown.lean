/- The block that the document names, alone: known answers true. No conditions. -/
import Derived.Test.YthfeljongackcaaAX
set_option linter.unusedSimpArgs false
set_option linter.unusedVariables false
set_option maxRecDepth 100000
namespace Go.Proofs.Ythfeljongackcaa
open Go.RowKit
open Go.Maps
-- the turn of the law
theorem num07 (n : Int) (w : World) : Calls Try.prog 12 #[.int .i64 n] w fun e w' => e = .returned (.int .i64 n) ∧ w = w' := by
  refine calls_all fun K hK => ?_
  go_enter Try.func12, Try.ntmps12
  go_wp2
  all_goals exact ⟨rfl, rfl⟩

def k1 : AS := ⟨0, [], [], 3, 0, 1, 6, 0, 0⟩
def k2 : AS := ⟨0, [(1, 6)], [], 1, 0, 0, 0, 0, 0⟩
def k3 : AS := ⟨0, [(1, 6)], [(1, 9)], 1, 0, 0, 0, 0, 0⟩
def k4 : AS := ⟨0, [(1, 6)], [(1, 9)], 8, 0, 0, 0, 0, 0⟩
def k5 : AS := ⟨0, [(1, 6)], [(1, 9)], 9, 0, 0, 0, 0, 0⟩
theorem ke1 : getS (fresh 0) ⟨[5, 6, 7], 0⟩ 1 = (going, 0, k1) := by rfl
theorem ke2 : stepS k1 ⟨[5, 6, 7], 0⟩ = (⟨2, 6, ⟨2, 1, 6, false⟩⟩, 0, k2, ⟨[5, 6, 7], 0⟩) := by rfl
theorem ke3 : putS k2 ⟨[5, 6, 7], 0⟩ 1 9 = (⟨3, 0, ⟨3, 1, 9, false⟩⟩, 0, k3) := by rfl
theorem ke4 : endS k3 ⟨[5, 6, 7], 0⟩ = (⟨1, 0, ⟨5, 0, 0, false⟩⟩, 0, k4, ⟨[5, 6, 7], 1⟩) := by rfl
theorem ke5 : stepS k4 ⟨[5, 6, 7], 1⟩ = (going, 0, k5, ⟨[5, 9, 7], 1⟩) := by rfl
theorem ke6 : stepS k5 ⟨[5, 9, 7], 1⟩ = (⟨4, 0, ⟨6, 0, 1, false⟩⟩, 0, overS, ⟨[5, 9, 7], 2⟩) := by rfl
theorem km0 : May (fresh 0) := may_fresh rfl
theorem km1 : May k1 := by have := may_get (sh := ⟨[5, 6, 7], 0⟩) km0 1; rw [ke1] at this; exact this
theorem km2 : May k2 := by have := may_step (sh := ⟨[5, 6, 7], 0⟩) km1 (.inl rfl); rw [ke2] at this; exact this
theorem km3 : May k3 := by have := may_put (sh := ⟨[5, 6, 7], 0⟩) km2 1 9; rw [ke3] at this; exact this
theorem km4 : May k4 := by have := may_end (sh := ⟨[5, 6, 7], 0⟩) km3; rw [ke4] at this; exact this
theorem km5 : May k5 := by have := may_step (sh := ⟨[5, 6, 7], 1⟩) km4 (.inr rfl); rw [ke5] at this; exact this

/-- where the law stands: one attempt, one turn's block tb, all in new memory -/
structure St (w0 : World) (tb : Nat) (T : Trn) (X : SX) (sh : Sh) (a : Nat) (s : AS) (F : List Nat) (W : World) : Prop where
  hL : LX W X sh a s F
  out : ∀ g ∈ own X a F, w0.heap.size ≤ g
  blk : Blk W tb T.cells 36
  ntb : tb ∉ own X a F
  tb0 : w0.heap.size ≤ tb
  U : Upd [] w0 W
theorem St.next {w0 W W' : World} {tb : Nat} {T : Trn} {X : SX} {sh sh' : Sh} {a : Nat} {s s' : AS} {F F' : List Nat} (h : St w0 tb T X sh a s F W) (hL : LX W' X sh' a s' F') (u : Upd (own X a F) W W') (hF : ∀ g ∈ F', g ∈ F ∨ W.heap.size ≤ g) : St w0 tb T X sh' a s' F' W' := by
  have hs := h.U.size
  have ht := h.blk.lt
  have ho : ∀ g ∈ own X a F', g ∈ own X a F ∨ W.heap.size ≤ g := fun g hg => by
    simp only [own, List.mem_cons, List.mem_append] at hg ⊢
    rcases hg with k | k | k
    · exact .inl (.inl k)
    · exact (hF g k).imp (fun k => .inr (.inl k)) id
    · exact .inl (.inr (.inr k))
  refine ⟨hL, fun g hg => ?_, h.blk.upd u h.ntb, fun hg => ?_, h.tb0, h.U.tr u (by simp) (fun x hx => .inr (h.out x hx))⟩
  · rcases ho g hg with k | k
    · exact h.out g k
    · omega
  · rcases ho _ hg with k | k
    · exact h.ntb k
    · omega
theorem St.shared {w0 W W' : World} {tb : Nat} {T : Trn} {X : SX} {sh sh' : Sh} {a : Nat} {s : AS} {F : List Nat} (h : St w0 tb T X sh a s F W) (hL : XAt W' X sh') (u : Upd X.foot W W') (hd : a ∉ X.foot) (hF : ∀ g ∈ F, g ∉ X.foot) : St w0 tb T X sh' a s F W' := by
  obtain ⟨acc, st, hX⟩ := hL
  obtain ⟨_, _, rv, wv, mv, k⟩ := h.hL
  have k2 := k.att.upd u hd hF
  have hu : Upd (own X a F) W W' := u.mono (by simp [own]; exact fun x h => .inl (.inr (.inr h)))
  exact h.next ⟨acc, st, rv, wv, mv, k2, hX, fun g hg => ⟨Nat.lt_of_lt_of_le (k.sep g hg).1 u.size, (k.sep g hg).2⟩, k.wide⟩ hu (fun g hg => .inl hg)
theorem St.apart {w0 W : World} {tb : Nat} {T : Trn} {X : SX} {sh : Sh} {a : Nat} {s : AS} {F : List Nat} (h : St w0 tb T X sh a s F W) : a ∉ X.foot ∧ ∀ g ∈ F, g ∉ X.foot := by
  obtain ⟨_, _, rv, wv, mv, k⟩ := h.hL
  exact ⟨k.out, fun g hg => (k.sep g hg).2.1⟩
theorem St.turn {w0 W : World} {tb : Nat} {T : Trn} {X : SX} {sh : Sh} {a : Nat} {s : AS} {F : List Nat} (h : St w0 tb T X sh a s F W) (T' : Trn) :
    St w0 tb T' X sh a s F ((((((((W.setCell ⟨tb, 0, none⟩ (.int .i64 T'.out)).setCell ⟨tb, 1, none⟩ (.int .u64 T'.word)).setCell ⟨tb, 2, none⟩ (.int .i64 0)).setCell ⟨tb, 3, none⟩ (.int .i64 T'.ev.kind)).setCell ⟨tb, 4, none⟩ (.int .u64 T'.ev.addr)).setCell ⟨tb, 5, none⟩ (.int .u64 T'.ev.word)).setCell ⟨tb, 6, none⟩ (.bool T'.ev.own)).setCell ⟨tb, 7, none⟩ (.int .i64 0)) :=
  ⟨h.hL.updb (at8 _ _ _ _ _ _ _ _) h.ntb, h.out, turn_set h.blk rfl T', h.ntb, h.tb0, upd8 h.U h.tb0 _ _ _ _ _ _ _ _⟩

theorem St.turn' {w0 W : World} {tb : Nat} {T : Trn} {X : SX} {sh : Sh} {a : Nat} {s : AS} {F : List Nat} (h : St w0 tb T X sh a s F W) (T' : Trn) :
    ∃ W', W' = (((((((W.setCell ⟨tb, 0, none⟩ (.int .i64 T'.out)).setCell ⟨tb, 1, none⟩ (.int .u64 T'.word)).setCell ⟨tb, 2, none⟩ (.int .i64 0)).setCell ⟨tb, 3, none⟩ (.int .i64 T'.ev.kind)).setCell ⟨tb, 4, none⟩ (.int .u64 T'.ev.addr)).setCell ⟨tb, 5, none⟩ (.int .u64 T'.ev.word)).setCell ⟨tb, 6, none⟩ (.bool T'.ev.own)).setCell ⟨tb, 7, none⟩ (.int .i64 0) ∧ St w0 tb T' X sh a s F W' := ⟨_, rfl, h.turn T'⟩
set_option maxHeartbeats 2000000 in
theorem known07_walk (w : World) : Calls Try.prog 18 #[] w fun e w' => e = .returned (.bool true) ∧ Upd [] w w' := by
  refine calls_all fun K hK => ?_
  go_enter Try.func18, Try.ntmps18
  go_wp2_with fail
  have hs := Blk.new w [.int .u64 5, .int .u64 6, .int .u64 7] 31
  have hsl : SlI (w.alloc (.cells #[.int .u64 5, .int .u64 6, .int .u64 7] 31)) .u64 (some ⟨w.heap.size, 0, none⟩) [5, 6, 7] := SlI.of_blk (sp := []) (t := 31) hs
  refine (of_ok _ _ [5, 6, 7] _ hsl (by simp) (by simp)).mono ?_
  rintro e w1 ⟨ra, rb, rfl, hR, hra, hrb, u1⟩
  have U1 : Upd [] w w1 := ((Upd.refl [] w).alloc _).trans u1
  simp only [World.size_alloc] at hra hrb
  clear hs hsl u1
  go_wp2_with fail
  refine (clkNew w1).mono ?_
  rintro e w2 ⟨ca, cr, cb, rfl, hC, h1, h2, h3, u2⟩
  have hX := XAt.made hR hC u2 h1 h2 h3 ⟨by simp, by simp⟩
  have hs1 := U1.size
  have hX0 : ∀ g ∈ SX.foot ⟨ra, rb, ca, cr, cb⟩, w.heap.size ≤ g := by simp [SX.foot]; omega
  have U2 := U1.trans u2
  clear hR hC u2 h1 h2 h3 hra hrb hs1 U1
  generalize hXe : (⟨ra, rb, ca, cr, cb⟩ : SX) = X at hX hX0
  obtain rfl : ra = X.ra := by rw [← hXe]
  obtain rfl : ca = X.ca := by rw [← hXe]
  clear hXe
  go_wp2_with fail
  refine (num07 0 w2).mono ?_
  rintro e w' ⟨rfl, rfl⟩
  go_wp2_with fail
  refine (begin_x hX rfl).mono ?_
  rintro e w3 ⟨a, F, rfl, hL, u3, ha, hF⟩
  simp only [Trn.val]
  have S : St w w3.heap.size ⟨6, 0, ⟨1, 0, 0, false⟩⟩ X ⟨[5, 6, 7], 0⟩ a (fresh 0) F (w3.alloc (.cells #[.int .i64 6, .int .u64 0, .int .i64 0, .int .i64 1, .int .u64 0, .int .u64 0, .bool false, .int .i64 0] 36)) := by
    have hs2 := U2.size
    have hO : ∀ g ∈ own X a F, w.heap.size ≤ g := fun g hg => by
      simp only [own, List.mem_cons, List.mem_append] at hg
      rcases hg with k | k | k
      · omega
      · have := hF g k; omega
      · exact hX0 g k
    have U3 := U2.tr (U := []) u3 (by simp) (fun x hx => .inr (hX0 x hx))
    exact ⟨hL.upd0 ((Upd.refl [] _).alloc _), hO, Blk.new w3 _ _, fun h => Nat.lt_irrefl _ (hL.lt _ h), U3.size, U3.alloc _⟩
  clear hL u3 ha hF hX hX0 U2
  go_wp2_with fail
  generalize w3.alloc (.cells #[.int .i64 6, .int .u64 0, .int .i64 0, .int .i64 1, .int .u64 0, .int .u64 0, .bool false, .int .i64 0] 36) = w4 at S ⊢
  refine (num07 _ _).mono ?_
  rintro e w' ⟨rfl, rfl⟩
  have q0 := (S.blk).cell 0 rfl
  have q1 := (S.blk).cell 1 rfl
  have q2 := (S.blk).cell 2 rfl
  have q3 := (S.blk).cell 3 rfl
  have q4 := (S.blk).cell 4 rfl
  have q5 := (S.blk).cell 5 rfl
  have q6 := (S.blk).cell 6 rfl
  have q7 := (S.blk).cell 7 rfl
  have g0 := (S.blk).free 0
  have g1 := (S.blk).free 1
  have g2 := (S.blk).free 2
  have g3 := (S.blk).free 3
  have g4 := (S.blk).free 4
  have g5 := (S.blk).free 5
  have g6 := (S.blk).free 6
  have g7 := (S.blk).free 7
  go_wp2_with fail
  clear q0 q1 q2 q3 q4 q5 q6 q7 g0 g1 g2 g3 g4 g5 g6 g7
  have k := (get_x S.hL km0 1 (by omega))
  rw [ke1] at k
  refine k.mono ?_
  clear k
  rintro e W2 ⟨rfl, F2, hL2, u2, hF2⟩
  simp only [Trn.val, going, evNone]
  replace S := S.next hL2 u2 hF2
  clear hL2 u2 hF2
  go_wp2_with fail
  have k := (step_x S.hL km1)
  rw [ke2] at k
  refine k.mono ?_
  clear k
  rintro e W2 ⟨rfl, F2, hL2, u2, hF2⟩
  simp only [Trn.val, going, evNone]
  replace S := S.next hL2 u2 hF2
  clear hL2 u2 hF2
  have q0 := (S.blk).cell 0 rfl
  have q1 := (S.blk).cell 1 rfl
  have q2 := (S.blk).cell 2 rfl
  have q3 := (S.blk).cell 3 rfl
  have q4 := (S.blk).cell 4 rfl
  have q5 := (S.blk).cell 5 rfl
  have q6 := (S.blk).cell 6 rfl
  have q7 := (S.blk).cell 7 rfl
  have g0 := (S.blk).free 0
  have g1 := (S.blk).free 1
  have g2 := (S.blk).free 2
  have g3 := (S.blk).free 3
  have g4 := (S.blk).free 4
  have g5 := (S.blk).free 5
  have g6 := (S.blk).free 6
  have g7 := (S.blk).free 7
  go_wp2_with fail
  obtain ⟨w5, h5, S5⟩ := S.turn' (⟨2, 6, ⟨2, 1, 6, false⟩⟩ : Trn)
  dsimp only at h5
  rw [← h5]
  clear q0 q1 q2 q3 q4 q5 q6 q7 g0 g1 g2 g3 g4 g5 g6 g7 h5
  clear S
  have S := S5
  clear S5
  refine (num07 _ _).mono ?_
  rintro e w' ⟨rfl, rfl⟩
  have q0 := (S.blk).cell 0 rfl
  have q1 := (S.blk).cell 1 rfl
  have q2 := (S.blk).cell 2 rfl
  have q3 := (S.blk).cell 3 rfl
  have q4 := (S.blk).cell 4 rfl
  have q5 := (S.blk).cell 5 rfl
  have q6 := (S.blk).cell 6 rfl
  have q7 := (S.blk).cell 7 rfl
  have g0 := (S.blk).free 0
  have g1 := (S.blk).free 1
  have g2 := (S.blk).free 2
  have g3 := (S.blk).free 3
  have g4 := (S.blk).free 4
  have g5 := (S.blk).free 5
  have g6 := (S.blk).free 6
  have g7 := (S.blk).free 7
  go_wp2_with fail
  clear q0 q1 q2 q3 q4 q5 q6 q7 g0 g1 g2 g3 g4 g5 g6 g7
  have k := (put_x S.hL km2 1 9 (by omega) (by omega))
  rw [ke3] at k
  refine k.mono ?_
  clear k
  rintro e W2 ⟨rfl, F2, hL2, u2, hF2⟩
  simp only [Trn.val, going, evNone]
  replace S := S.next hL2 u2 hF2
  clear hL2 u2 hF2
  go_wp2_with fail
  have k := (end_x S.hL km3)
  rw [ke4] at k
  refine k.mono ?_
  clear k
  rintro e W2 ⟨rfl, F2, hL2, u2, hF2⟩
  simp only [Trn.val, going, evNone]
  replace S := S.next hL2 u2 hF2
  clear hL2 u2 hF2
  go_wp2_with fail
  have k := (step_x S.hL km4)
  rw [ke5] at k
  refine k.mono ?_
  clear k
  rintro e W2 ⟨rfl, F2, hL2, u2, hF2⟩
  simp only [Trn.val, going, evNone]
  replace S := S.next hL2 u2 hF2
  clear hL2 u2 hF2
  go_wp2_with fail
  have k := (step_x S.hL km5)
  rw [ke6] at k
  refine k.mono ?_
  clear k
  rintro e W2 ⟨rfl, F2, hL2, u2, hF2⟩
  simp only [Trn.val, going, evNone]
  replace S := S.next hL2 u2 hF2
  clear hL2 u2 hF2
  have q0 := (S.blk).cell 0 rfl
  have q1 := (S.blk).cell 1 rfl
  have q2 := (S.blk).cell 2 rfl
  have q3 := (S.blk).cell 3 rfl
  have q4 := (S.blk).cell 4 rfl
  have q5 := (S.blk).cell 5 rfl
  have q6 := (S.blk).cell 6 rfl
  have q7 := (S.blk).cell 7 rfl
  have g0 := (S.blk).free 0
  have g1 := (S.blk).free 1
  have g2 := (S.blk).free 2
  have g3 := (S.blk).free 3
  have g4 := (S.blk).free 4
  have g5 := (S.blk).free 5
  have g6 := (S.blk).free 6
  have g7 := (S.blk).free 7
  go_wp2_with fail
  obtain ⟨w5, h5, S5⟩ := S.turn' (⟨4, 0, ⟨6, 0, 1, false⟩⟩ : Trn)
  dsimp only at h5
  rw [← h5]
  clear q0 q1 q2 q3 q4 q5 q6 q7 g0 g1 g2 g3 g4 g5 g6 g7 h5
  clear S
  have S := S5
  clear S5
  refine (S.hL.xat.load 1 (by omega)).mono ?_
  rintro e w6 ⟨rfl, hX6, u6⟩
  replace S := S.shared hX6 u6 S.apart.1 S.apart.2
  clear hX6 u6
  have hl9 : loadW [5, 9, 7] 1 = 9 := by rfl
  rw [hl9]
  go_wp2_with fail
  refine (S.hL.xat.clk).mono ?_
  rintro e w7 ⟨rfl, hX7, u7⟩
  replace S := S.shared hX7 u7 S.apart.1 S.apart.2
  clear hX7 u7
  go_wp2_with fail
  refine (num07 _ _).mono ?_
  rintro e w' ⟨rfl, rfl⟩
  have q0 := (S.blk).cell 0 rfl
  have q1 := (S.blk).cell 1 rfl
  have q2 := (S.blk).cell 2 rfl
  have q3 := (S.blk).cell 3 rfl
  have q4 := (S.blk).cell 4 rfl
  have q5 := (S.blk).cell 5 rfl
  have q6 := (S.blk).cell 6 rfl
  have q7 := (S.blk).cell 7 rfl
  have g0 := (S.blk).free 0
  have g1 := (S.blk).free 1
  have g2 := (S.blk).free 2
  have g3 := (S.blk).free 3
  have g4 := (S.blk).free 4
  have g5 := (S.blk).free 5
  have g6 := (S.blk).free 6
  have g7 := (S.blk).free 7
  go_wp2_with fail
  clear q0 q1 q2 q3 q4 q5 q6 q7 g0 g1 g2 g3 g4 g5 g6 g7
  refine (phase_x S.hL).mono ?_
  rintro e w' ⟨rfl, rfl⟩
  go_wp2_with fail
  all_goals exact ⟨rfl, S.U⟩
end Go.Proofs.Ythfeljongackcaa
