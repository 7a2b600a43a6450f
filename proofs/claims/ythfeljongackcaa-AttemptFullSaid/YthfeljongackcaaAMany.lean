/- Several attempts over what is shared: what one does leaves the others. No conditions. -/
import Derived.Test.YthfeljongackcaaAKnown
set_option linter.unusedSimpArgs false
set_option linter.unusedVariables false
set_option maxRecDepth 100000
namespace Go.Proofs.Ythfeljongackcaa
open Go.RowKit

theorem LX.other {w w' : World} {X : SX} {sh sh' : Sh} {b : Nat} {s : AS} {F S : List Nat} (h : LX w X sh b s F) (u : Upd S w w') (hd : ∀ g ∈ b :: F, g ∉ S) (hX : XAt w' X sh') : LX w' X sh' b s F := by
  obtain ⟨_, _, rv, wv, mv, k⟩ := h
  obtain ⟨acc, st, hX⟩ := hX
  exact ⟨acc, st, rv, wv, mv, k.att.upd u (hd b (by simp)) (fun g hg => hd g (by simp [hg])), hX, fun g hg => ⟨Nat.lt_of_lt_of_le (k.sep g hg).1 u.size, (k.sep g hg).2⟩, k.wide⟩
theorem LX.apart {w : World} {X : SX} {sh : Sh} {a : Nat} {s : AS} {F : List Nat} (h : LX w X sh a s F) : ∀ g ∈ a :: F, g ∉ X.foot := by
  obtain ⟨_, _, rv, wv, mv, k⟩ := h
  intro g hg
  rcases List.mem_cons.1 hg with rfl | hg
  · exact k.out
  · exact (k.sep g hg).2.1

abbrev One := Nat × AS × List Nat
/-- attempts over what is shared, all in memory that is new since w0 -/
structure Many (w0 : World) (X : SX) (sh : Sh) (att : Nat → Option One) (W : World) : Prop where
  x : XAt W X sh
  hL : ∀ i a s F, att i = some (a, s, F) → LX W X sh a s F
  ap : ∀ i j a s F b t G, i ≠ j → att i = some (a, s, F) → att j = some (b, t, G) → ∀ g ∈ a :: F, g ∉ b :: G
  out : ∀ i a s F, att i = some (a, s, F) → ∀ g ∈ a :: F, w0.heap.size ≤ g
  outX : ∀ g ∈ X.foot, w0.heap.size ≤ g
  U : Upd [] w0 W

section
variable {w0 W W' : World} {X : SX} {sh sh' : Sh} {att att' : Nat → Option One}
theorem Many.outs (h : Many w0 X sh att W) {i a : Nat} {s : AS} {F : List Nat} (hi : att i = some (a, s, F)) : ∀ g ∈ own X a F, w0.heap.size ≤ g := by
  intro g hg
  simp only [own, List.mem_cons, List.mem_append] at hg
  rcases hg with k | k | k
  · exact h.out i a s F hi g (by simp [k])
  · exact h.out i a s F hi g (by simp [k])
  · exact h.outX g k
/-- a new block, or a write into a block that is nobody's -/
theorem Many.free {S : List Nat} (h : Many w0 X sh att W) (u : Upd S W W') (hS : ∀ g ∈ S, w0.heap.size ≤ g) (hX : ∀ g ∈ X.foot, g ∉ S) (hF : ∀ i a s F, att i = some (a, s, F) → ∀ g ∈ a :: F, g ∉ S) : Many w0 X sh att W' :=
  ⟨h.x.upd u hX, fun i a s F hi => (h.hL i a s F hi).other u (hF i a s F hi) (h.x.upd u hX), h.ap, h.out, h.outX, h.U.tr u (by simp) (fun x hx => .inr (hS x hx))⟩
theorem Many.free0 (h : Many w0 X sh att W) (u : Upd [] W W') : Many w0 X sh att W' := h.free u (by simp) (by simp) (by simp)
/-- one of them has done something -/
theorem Many.next (h : Many w0 X sh att W) (i : Nat) {a : Nat} {s s' : AS} {F F' : List Nat} (hi : att i = some (a, s, F)) (hL : LX W' X sh' a s' F') (u : Upd (own X a F) W W') (hF : ∀ g ∈ F', g ∈ F ∨ W.heap.size ≤ g)
    (hi' : att' i = some (a, s', F')) (hj : ∀ j, j ≠ i → att' j = att j) : Many w0 X sh' att' W' := by
  have hs := h.U.size
  have hn : ∀ g ∈ a :: F', g ∈ a :: F ∨ W.heap.size ≤ g := fun g hg => by
    rcases List.mem_cons.1 hg with k | k
    · exact .inl (by simp [k])
    · exact (hF g k).imp (fun k => by simp [k]) id
  have hlt : ∀ j b t G, att j = some (b, t, G) → ∀ g ∈ b :: G, g < W.heap.size := fun j b t G hj g hg => (h.hL j b t G hj).lt g (by simp only [own, List.mem_cons, List.mem_append]; rcases List.mem_cons.1 hg with k | k; exact .inl k; exact .inr (.inl k))
  have hd : ∀ j b t G, j ≠ i → att j = some (b, t, G) → ∀ g ∈ b :: G, g ∉ own X a F := fun j b t G hji hb g hg hm => by
    have h1 := h.ap j i b t G a s F hji hb hi g hg
    have h2 := (h.hL j b t G hb).apart g hg
    simp only [own, List.mem_cons, List.mem_append] at hm
    rcases hm with k | k | k
    · exact h1 (by simp [k])
    · exact h1 (by simp [k])
    · exact h2 k
  refine ⟨hL.xat, fun j b t G hb => ?_, fun j k b t G c r H hjk hb hc => ?_, fun j b t G hb => ?_, h.outX, h.U.tr u (by simp) (fun x hx => .inr (h.outs hi x hx))⟩
  · by_cases hji : j = i
    · subst hji
      rw [hi'] at hb
      cases hb
      exact hL
    · rw [hj j hji] at hb
      exact (h.hL j b t G hb).other u (hd j b t G hji hb) hL.xat
  · intro g hg hm
    by_cases hji : j = i
    · subst hji
      rw [hi'] at hb
      cases hb
      rw [hj k (Ne.symm hjk)] at hc
      rcases hn g hg with q | q
      · exact h.ap _ _ _ _ _ _ _ _ hjk hi hc g q hm
      · have := hlt k c r H hc g hm; omega
    · rw [hj j hji] at hb
      by_cases hki : k = i
      · subst hki
        rw [hi'] at hc
        cases hc
        rcases hn g hm with q | q
        · exact h.ap _ _ _ _ _ _ _ _ hjk hb hi g hg q
        · have := hlt j b t G hb g hg; omega
      · rw [hj k hki] at hc
        exact h.ap _ _ _ _ _ _ _ _ hjk hb hc g hg hm
  · by_cases hji : j = i
    · subst hji
      rw [hi'] at hb
      cases hb
      intro g hg
      rcases hn g hg with q | q
      · exact h.out _ _ _ _ hi g q
      · omega
    · rw [hj j hji] at hb
      exact h.out j b t G hb
/-- an attempt takes a place -/
theorem Many.set (h : Many w0 X sh att W) (i : Nat) {a : Nat} {s : AS} {F : List Nat} (hL : LX W' X sh' a s F) (u : Upd X.foot W W') (hn : ∀ g ∈ a :: F, W.heap.size ≤ g)
    (hi' : att' i = some (a, s, F)) (hj : ∀ j, j ≠ i → att' j = att j) : Many w0 X sh' att' W' := by
  have hs := h.U.size
  have hlt : ∀ j b t G, att j = some (b, t, G) → ∀ g ∈ b :: G, g < W.heap.size := fun j b t G hj g hg => (h.hL j b t G hj).lt g (by simp only [own, List.mem_cons, List.mem_append]; rcases List.mem_cons.1 hg with k | k; exact .inl k; exact .inr (.inl k))
  refine ⟨hL.xat, fun j b t G hb => ?_, fun j k b t G c r H hjk hb hc => ?_, fun j b t G hb => ?_, h.outX, h.U.tr u (by simp) (fun x hx => .inr (h.outX x hx))⟩
  · by_cases hji : j = i
    · subst hji
      rw [hi'] at hb
      cases hb
      exact hL
    · rw [hj j hji] at hb
      exact (h.hL j b t G hb).other u ((h.hL j b t G hb).apart) hL.xat
  · intro g hg hm
    by_cases hji : j = i
    · subst hji
      rw [hi'] at hb
      cases hb
      rw [hj k (Ne.symm hjk)] at hc
      have := hn g hg
      have := hlt k c r H hc g hm
      omega
    · rw [hj j hji] at hb
      by_cases hki : k = i
      · subst hki
        rw [hi'] at hc
        cases hc
        have := hn g hm
        have := hlt j b t G hb g hg
        omega
      · rw [hj k hki] at hc
        exact h.ap _ _ _ _ _ _ _ _ hjk hb hc g hg hm
  · by_cases hji : j = i
    · subst hji
      rw [hi'] at hb
      cases hb
      intro g hg
      have := hn g hg
      omega
    · rw [hj j hji] at hb
      exact h.out j b t G hb
/-- a place is emptied -/
theorem Many.drop (h : Many w0 X sh att W) (i : Nat) (hX : XAt W' X sh') (u : Upd X.foot W W') (hi' : att' i = none) (hj : ∀ j, j ≠ i → att' j = att j) : Many w0 X sh' att' W' := by
  have hs : ∀ j b t G, att' j = some (b, t, G) → att j = some (b, t, G) := fun j b t G hb => by
    by_cases hji : j = i
    · subst hji; rw [hi'] at hb; cases hb
    · rwa [hj j hji] at hb
  exact ⟨hX, fun j b t G hb => (h.hL j b t G (hs j b t G hb)).other u ((h.hL j b t G (hs j b t G hb)).apart) hX, fun j k b t G c r H hjk hb hc => h.ap j k b t G c r H hjk (hs _ _ _ _ hb) (hs _ _ _ _ hc), fun j b t G hb => h.out j b t G (hs _ _ _ _ hb), h.outX, h.U.tr u (by simp) (fun x hx => .inr (h.outX x hx))⟩
end
end Go.Proofs.Ythfeljongackcaa
