/- Several attempts of the document over what is shared: what one does leaves the others. No conditions. Lists of cells in new memory: slices.Clone, and append to nil. The condition is a size. A region that draws its order and only reads, in a round of a loop over an iterator: one walk in the order of the text serves every order. The condition: no defer statement stands in it. A region that draws its order, with effects, in a round of a loop over an iterator: walked in the order of the text, as outside (Eff). The condition: no defer statement stands in it. A region that draws its order, with effects, walked in any order that is given: what only looks may be taken ahead of its turn; outside a round and inside one. No condition. A region that draws its order, with effects, walked in an order that is given; some effects (the last stores) wait for all that looks, and behind them the held fact need not stand. No condition. -/
import Derived.Test.YthfeljongackcaaM7p16
import Derived.Test.YthfeljongackcaaM7p00
import Derived.Sort.QuietTacIn
import Derived.Sort.BigQuietIn
import Derived.Test.YthfeljongackcaaM7p03
import Derived.OrdersIn
import Derived.RangeFuncCalls
set_option linter.unusedSimpArgs false
set_option linter.unusedVariables false
set_option maxRecDepth 100000
namespace Go.Proofs.Ythfeljongackcaa
open Go.RowKit
/-- what is shared, the count left out -/
def YAt (w : World) (Y : RX) (sh : Sh) : Prop := ∃ acc, Y.At w sh acc
/-- what an attempt of the document may write -/
def rown (Y : RX) (a : Nat) (F : List Nat) : List Nat := a :: (F ++ Y.foot)
section
variable {w w' : World} {Y : RX} {sh sh' : Sh} {a : Nat} {s : AS} {F S : List Nat}
theorem YAt.upd (h : YAt w Y sh) (u : Upd S w w') (hS : ∀ g ∈ Y.foot, g ∉ S) : YAt w' Y sh := let ⟨_, h⟩ := h; ⟨_, h.upd u hS⟩
theorem YAt.lt (h : YAt w Y sh) : ∀ g ∈ Y.foot, g < w.heap.size := let ⟨_, h⟩ := h; h.lt
theorem RL.yat (h : RL w Y sh a s F) : YAt w Y sh := let ⟨acc, _, _, h⟩ := h; ⟨acc, h.sh⟩
theorem RL.lt (h : RL w Y sh a s F) : ∀ g ∈ rown Y a F, g < w.heap.size := by
  obtain ⟨_, _, _, h⟩ := h
  intro g hg
  simp only [rown, List.mem_cons, List.mem_append] at hg
  rcases hg with rfl | k | k
  · exact h.lt
  · exact (h.sep g k).1
  · exact h.sh.lt g k
theorem RL.other {b : Nat} (h : RL w Y sh b s F) (u : Upd S w w') (hd : ∀ g ∈ b :: F, g ∉ S) (hY : YAt w' Y sh') : RL w' Y sh' b s F := by
  obtain ⟨_, rv, wv, k⟩ := h
  obtain ⟨acc, hY⟩ := hY
  exact ⟨acc, rv, wv, k.att.upd u (hd b (by simp)) (fun g hg => hd g (by simp [hg])), hY, fun g hg => ⟨Nat.lt_of_lt_of_le (k.sep g hg).1 u.size, (k.sep g hg).2⟩, k.wide⟩
theorem RL.apart (h : RL w Y sh a s F) : ∀ g ∈ a :: F, g ∉ Y.foot := by
  obtain ⟨_, rv, wv, k⟩ := h
  intro g hg
  rcases List.mem_cons.1 hg with rfl | hg
  · exact k.out
  · exact (k.sep g hg).2.1
theorem RL.upd (h : RL w Y sh a s F) (u : Upd S w w') (hS : ∀ g ∈ rown Y a F, g ∉ S) : RL w' Y sh a s F :=
  let ⟨acc, rv, wv, h⟩ := h
  ⟨acc, rv, wv, h.upd u hS⟩
theorem RL.wide (h : RL w Y sh a s F) : Wide s := let ⟨_, _, _, h⟩ := h; h.wide
end

/-- attempts over what is shared, all in memory that is new since w0 -/
structure RMany (w0 : World) (Y : RX) (sh : Sh) (att : Nat → Option One) (W : World) : Prop where
  x : YAt W Y sh
  hL : ∀ i a s F, att i = some (a, s, F) → RL W Y sh a s F
  ap : ∀ i j a s F b t G, i ≠ j → att i = some (a, s, F) → att j = some (b, t, G) → ∀ g ∈ a :: F, g ∉ b :: G
  out : ∀ i a s F, att i = some (a, s, F) → ∀ g ∈ a :: F, w0.heap.size ≤ g
  outX : ∀ g ∈ Y.foot, w0.heap.size ≤ g
  U : Upd [] w0 W

section
variable {w0 W W' : World} {Y : RX} {sh sh' : Sh} {att att' : Nat → Option One}
theorem RMany.outs (h : RMany w0 Y sh att W) {i a : Nat} {s : AS} {F : List Nat} (hi : att i = some (a, s, F)) : ∀ g ∈ rown Y a F, w0.heap.size ≤ g := by
  intro g hg
  simp only [rown, List.mem_cons, List.mem_append] at hg
  rcases hg with k | k | k
  · exact h.out i a s F hi g (by simp [k])
  · exact h.out i a s F hi g (by simp [k])
  · exact h.outX g k
/-- a new block, or a write into a block that is nobody's -/
theorem RMany.free {S : List Nat} (h : RMany w0 Y sh att W) (u : Upd S W W') (hS : ∀ g ∈ S, w0.heap.size ≤ g) (hX : ∀ g ∈ Y.foot, g ∉ S) (hF : ∀ i a s F, att i = some (a, s, F) → ∀ g ∈ a :: F, g ∉ S) : RMany w0 Y sh att W' :=
  ⟨h.x.upd u hX, fun i a s F hi => (h.hL i a s F hi).other u (hF i a s F hi) (h.x.upd u hX), h.ap, h.out, h.outX, h.U.tr u (by simp) (fun x hx => .inr (hS x hx))⟩
theorem RMany.free0 (h : RMany w0 Y sh att W) (u : Upd [] W W') : RMany w0 Y sh att W' := h.free u (by simp) (by simp) (by simp)
/-- one of them has done something -/
theorem RMany.next (h : RMany w0 Y sh att W) (i : Nat) {a : Nat} {s s' : AS} {F F' : List Nat} (hi : att i = some (a, s, F)) (hL : RL W' Y sh' a s' F') (u : Upd (rown Y a F) W W') (hF : ∀ g ∈ F', g ∈ F ∨ W.heap.size ≤ g)
    (hi' : att' i = some (a, s', F')) (hj : ∀ j, j ≠ i → att' j = att j) : RMany w0 Y sh' att' W' := by
  have hs := h.U.size
  have hn : ∀ g ∈ a :: F', g ∈ a :: F ∨ W.heap.size ≤ g := fun g hg => by
    rcases List.mem_cons.1 hg with k | k
    · exact .inl (by simp [k])
    · exact (hF g k).imp (fun k => by simp [k]) id
  have hlt : ∀ j b t G, att j = some (b, t, G) → ∀ g ∈ b :: G, g < W.heap.size := fun j b t G hj g hg => (h.hL j b t G hj).lt g (by simp only [rown, List.mem_cons, List.mem_append]; rcases List.mem_cons.1 hg with k | k; exact .inl k; exact .inr (.inl k))
  have hd : ∀ j b t G, j ≠ i → att j = some (b, t, G) → ∀ g ∈ b :: G, g ∉ rown Y a F := fun j b t G hji hb g hg hm => by
    have h1 := h.ap j i b t G a s F hji hb hi g hg
    have h2 := (h.hL j b t G hb).apart g hg
    simp only [rown, List.mem_cons, List.mem_append] at hm
    rcases hm with k | k | k
    · exact h1 (by simp [k])
    · exact h1 (by simp [k])
    · exact h2 k
  refine ⟨hL.yat, fun j b t G hb => ?_, fun j k b t G c r H hjk hb hc => ?_, fun j b t G hb => ?_, h.outX, h.U.tr u (by simp) (fun x hx => .inr (h.outs hi x hx))⟩
  · by_cases hji : j = i
    · subst hji
      rw [hi'] at hb
      cases hb
      exact hL
    · rw [hj j hji] at hb
      exact (h.hL j b t G hb).other u (hd j b t G hji hb) hL.yat
  · intro g hg hm
    by_cases hji : j = i
    · subst hji
      rw [hi'] at hb
      cases hb
      rw [hj k (Ne.symm hjk)] at hc
      rcases hn g hg with q | q
      · exact h.ap _ _ _ _ _ _ _ _ hjk hi hc g q hm
      · have := hlt k c r H hc g hm; omega
    · rw [hj j hji] at hb
      by_cases hki : k = i
      · subst hki
        rw [hi'] at hc
        cases hc
        rcases hn g hm with q | q
        · exact h.ap _ _ _ _ _ _ _ _ hjk hb hi g hg q
        · have := hlt j b t G hb g hg; omega
      · rw [hj k hki] at hc
        exact h.ap _ _ _ _ _ _ _ _ hjk hb hc g hg hm
  · by_cases hji : j = i
    · subst hji
      rw [hi'] at hb
      cases hb
      intro g hg
      rcases hn g hg with q | q
      · exact h.out _ _ _ _ hi g q
      · omega
    · rw [hj j hji] at hb
      exact h.out j b t G hb
/-- an attempt takes a place -/
theorem RMany.set (h : RMany w0 Y sh att W) (i : Nat) {a : Nat} {s : AS} {F : List Nat} (hL : RL W' Y sh' a s F) (u : Upd Y.foot W W') (hn : ∀ g ∈ a :: F, W.heap.size ≤ g)
    (hi' : att' i = some (a, s, F)) (hj : ∀ j, j ≠ i → att' j = att j) : RMany w0 Y sh' att' W' := by
  have hs := h.U.size
  have hlt : ∀ j b t G, att j = some (b, t, G) → ∀ g ∈ b :: G, g < W.heap.size := fun j b t G hj g hg => (h.hL j b t G hj).lt g (by simp only [rown, List.mem_cons, List.mem_append]; rcases List.mem_cons.1 hg with k | k; exact .inl k; exact .inr (.inl k))
  refine ⟨hL.yat, fun j b t G hb => ?_, fun j k b t G c r H hjk hb hc => ?_, fun j b t G hb => ?_, h.outX, h.U.tr u (by simp) (fun x hx => .inr (h.outX x hx))⟩
  · by_cases hji : j = i
    · subst hji
      rw [hi'] at hb
      cases hb
      exact hL
    · rw [hj j hji] at hb
      exact (h.hL j b t G hb).other u ((h.hL j b t G hb).apart) hL.yat
  · intro g hg hm
    by_cases hji : j = i
    · subst hji
      rw [hi'] at hb
      cases hb
      rw [hj k (Ne.symm hjk)] at hc
      have := hn g hg
      have := hlt k c r H hc g hm
      omega
    · rw [hj j hji] at hb
      by_cases hki : k = i
      · subst hki
        rw [hi'] at hc
        cases hc
        have := hn g hm
        have := hlt j b t G hb g hg
        omega
      · rw [hj k hki] at hc
        exact h.ap _ _ _ _ _ _ _ _ hjk hb hc g hg hm
  · by_cases hji : j = i
    · subst hji
      rw [hi'] at hb
      cases hb
      intro g hg
      have := hn g hg
      omega
    · rw [hj j hji] at hb
      exact h.out j b t G hb
/-- a place is emptied -/
theorem RMany.drop (h : RMany w0 Y sh att W) (i : Nat) (hX : YAt W' Y sh') (u : Upd Y.foot W W') (hi' : att' i = none) (hj : ∀ j, j ≠ i → att' j = att j) : RMany w0 Y sh' att' W' := by
  have hs : ∀ j b t G, att' j = some (b, t, G) → att j = some (b, t, G) := fun j b t G hb => by
    by_cases hji : j = i
    · subst hji; rw [hi'] at hb; cases hb
    · rwa [hj j hji] at hb
  exact ⟨hX, fun j b t G hb => (h.hL j b t G (hs j b t G hb)).other u ((h.hL j b t G (hs j b t G hb)).apart) hX, fun j k b t G c r H hjk hb hc => h.ap j k b t G c r H hjk (hs _ _ _ _ hb) (hs _ _ _ _ hc), fun j b t G hb => h.out j b t G (hs _ _ _ _ hb), h.outX, h.U.tr u (by simp) (fun x hx => .inr (h.outX x hx))⟩
end
end Go.Proofs.Ythfeljongackcaa
set_option linter.unusedSimpArgs false
set_option linter.unusedVariables false
set_option maxRecDepth 100000
namespace Go.Proofs.Ythfeljongackcaa
open Go.RowKit
open Go.Maps
theorem SlC.srcC {w : World} {l : List (Int × Int)} {p : Option Addr} {cap : Nat} (h : SlC w (.slice p l.length cap) l) (hl : l ≠ []) : ∃ ad, p = some ad ∧ ∀ j u, (pcells l)[j]? = some u → w.cell? (ad.add j) = some u := by
  obtain ⟨p', cap', e, hc⟩ := h
  cases e
  have hpos := List.length_pos_iff.2 hl
  obtain ⟨b, o, rfl, _, _⟩ := hc 0 (l[0]).1 (l[0]).2 (List.getElem?_eq_getElem hpos)
  refine ⟨_, rfl, fun j u hj => ?_⟩
  have hjl : j < 2 * l.length := by
    by_cases h : j < 2 * l.length
    · exact h
    · rw [List.getElem?_eq_none (by rw [pcells_len]; omega)] at hj; cases hj
  rw [addr_add]
  obtain ⟨k, hk⟩ : ∃ k, j = k * 2 ∨ j = k * 2 + 1 := ⟨j / 2, by omega⟩
  have hkl : k < l.length := by omega
  have hxy : l[k]? = some ((l[k]).1, (l[k]).2) := List.getElem?_eq_getElem hkl
  obtain ⟨b', o', e, c0, c1⟩ := hc k _ _ hxy
  cases e
  obtain ⟨h1, h2⟩ := pcells_get l k _ _ hxy
  rcases hk with rfl | rfl
  · rw [h1] at hj; cases hj; exact c0
  · rw [h2] at hj; cases hj; rw [← Nat.add_assoc]; exact c1

/-- a list in new memory -/
structure NewL (w w' : World) (v : Value) (l : List (Int × Int)) : Prop where
  own : OwnP w' v l v.ownBlock.toList
  new : ∀ g, v.ownBlock = some g → w.heap.size ≤ g
  u : Upd [] w w'
def Cloned (w : World) (l : List (Int × Int)) (e : Ending) (w' : World) : Prop := ∃ v, e = .returned v ∧ NewL w w' v l

theorem pcells_one {l : List (Int × Int)} {u : Value} (hu : u ∈ pcells l) : u.oneCell' = true := by
  unfold pcells at hu
  simp only [List.mem_flatMap, List.mem_cons, List.not_mem_nil, or_false] at hu
  obtain ⟨c, _, rfl | rfl⟩ := hu <;> rfl

theorem clone_cells (w : World) (v : Value) (l : List (Int × Int)) (h : SlC w v l) (hn : l = [] → v = .slice none 0 0) (hl : l.length * 16 ≤ 140737488355328) : Calls Try.prog 92 #[v] w (Cloned w l) := by
  obtain ⟨i0, hi, hz0, hz1, hz2⟩ := info_parts info_cell
  by_cases hz : l = []
  · rw [hn hz]
    subst hz
    have hnil : ∀ (w : World), (binOp .eql 49 (.slice none 0 0) (.slice none 0 0)).run Try.prog w = .ok (.bool true) w := fun w => Lib.run_eql_slice_nil w _ _ none 0 0 0 0 Try.underlying49
    refine calls_all fun K hK => ?_
    go_enter Try.func92, Try.ntmps92
    go_wp2
    exact ⟨_, rfl, own_nil w _, by simp [Value.ownBlock], Upd.refl _ _⟩
  · obtain ⟨p, cap, rfl, hc⟩ := id h
    obtain ⟨ad, rfl, hsrc⟩ := h.srcC hz
    clear hc hn
    have hnil : ∀ (w : World), (binOp .eql 49 (.slice (some ad) l.length cap) (.slice none 0 0)).run Try.prog w = .ok (.bool false) w := fun w => Lib.run_eql_slice_nil w _ _ (some ad) l.length cap 0 0 Try.underlying49
    have own0 : (w.alloc (.cells #[] 53)).ownsRow 0 53 2 (.slice (some ⟨w.heap.size, 0, none⟩) 0 0) 0 [] := ⟨rfl, .inr ⟨_, 0, #[], rfl, Nat.zero_le _, heap_alloc_new w _, Nat.le_refl _, Nat.zero_le _, rfl, rfl⟩⟩
    obtain ⟨v', w', hr, ho, hg, _, hor⟩ := run_append_own_at (P := Try.prog) (w := w.alloc (.cells #[] 53)) 0 49 49 53 i0 (.agg #[.int .u64 0, .int .u64 0]) 2 16 Try.underlying49 hi hz0 hz1 hz2 rfl (by omega)
      (.slice (some ⟨w.heap.size, 0, none⟩) 0 0) 0 [] own0 ad l.length cap (pcells l) (by rw [pcells_len]; omega)
      (fun j u hj => by have hc := hsrc j u hj; rw [World.cell?_alloc_lt _ _ _ (World.block_lt_of_cell? w _ hc)]; exact hc) (fun u hu => pcells_one hu) (by unfold maxLen; omega) (by omega) (Nat.zero_le _)
    rw [Nat.zero_add, List.nil_append] at ho
    have hu : Upd [] w w' := ((Upd.refl [] w).alloc (.cells #[] 53)).tr (Upd.of_grown (S := [w.heap.size]) hg (fun k e => by simp [Value.ownBlock] at e; exact .inl (by simp [e]))) (by simp) (by simp)
    have hnew : ∀ g, v'.ownBlock = some g → w.heap.size ≤ g := fun g hg => by
      rcases hor with e | e <;> (rw [hg] at e; simp [Value.ownBlock] at e; omega)
    refine calls_all fun K hK => ?_
    go_enter Try.func92, Try.ntmps92
    go_wp2_with (at_builtin; refine wpList_append_eq rfl _ _ _ _ rfl _ _ _ rfl rfl hr ?_)
    go_wp2
    exact ⟨_, rfl, ⟨ho, fun e => absurd e hz, fun g hg => by simpa using hg⟩, hnew, hu⟩

theorem app_cells (W : World) (v : Value) (l : List (Int × Int)) (h : SlC W v l) (hl : l.length * 16 ≤ 140737488355328) :
    ∃ v' W', (Builtin.append_ #[49, 49] 49 #[.slice none 0 0, v]).run Try.prog W = .ok v' W' ∧ NewL W W' v' l := by
  obtain ⟨i0, hi, hz0, hz1, hz2⟩ := info_parts info_cell
  obtain ⟨p, cap, rfl, hc⟩ := id h
  by_cases hz : l = []
  · subst hz
    refine ⟨.slice none 0 0, W, ?_, own_nil W _, by simp [Value.ownBlock], Upd.refl _ _⟩
    cases p with
    | none => simp [Builtin.append_, run_underlying Try.underlying49, sizeOf, typeInfo, hi, Builtin.lenOf, Builtin.firstCells]
    | some a => simp [Builtin.append_, run_underlying Try.underlying49, sizeOf, typeInfo, hi, Builtin.lenOf, Builtin.firstCells, loadCells, loadCellsFrom]
  · obtain ⟨ad, rfl, hsrc⟩ := h.srcC hz
    have hpos := List.length_pos_iff.2 hz
    obtain ⟨v', w', hr, ho, hg, _, hor⟩ := run_append_own_at (P := Try.prog) (w := W) 0 49 49 53 i0 (.agg #[.int .u64 0, .int .u64 0]) 2 16 Try.underlying49 hi hz0 hz1 hz2 rfl (by omega)
      (.slice none 0 0) 0 [] ⟨rfl, .inl ⟨rfl, rfl⟩⟩ ad l.length cap (pcells l) (by rw [pcells_len]; omega) hsrc (fun u hu => pcells_one hu) (by unfold maxLen; omega) (by omega) (Nat.zero_le _)
    rw [Nat.zero_add, List.nil_append] at ho
    refine ⟨v', w', hr, ⟨ho, fun e => absurd e hz, fun g hg => by simpa using hg⟩, fun g hg => ?_, Upd.of_grown hg (fun k e => by simp [Value.ownBlock] at e)⟩
    rcases hor with e | e <;> (rw [hg] at e; simp [Value.ownBlock] at e)
    omega

/-- a state in new memory -/
structure TwoNew (w w' : World) (s : AS) (rv wv : Value) : Prop where
  rd : OwnP w' rv s.reads rv.ownBlock.toList
  wr : OwnP w' wv s.writes wv.ownBlock.toList
  ap : ∀ g, rv.ownBlock = some g → wv.ownBlock ≠ some g
  nr : ∀ g, rv.ownBlock = some g → w.heap.size ≤ g
  nw : ∀ g, wv.ownBlock = some g → w.heap.size ≤ g
  u : Upd [] w w'
def NewState (w : World) (s : AS) (e : Ending) (w' : World) : Prop := ∃ rv wv, e = .returned (stateV s rv wv) ∧ TwoNew w w' s rv wv
theorem NewL.two {w w1 w2 w' : World} {s : AS} {rv wv : Value} (h : NewL w w1 rv s.reads) (k : NewL w1 w2 wv s.writes) (u : Upd [] w2 w') : TwoNew w w' s rv wv :=
  ⟨(h.own.upd k.u (by simp)).upd u (by simp), k.own.upd u (by simp), fun g hg e => by have h1 := h.own.lt hg; have h2 := k.new g e; omega, h.new, fun g hg => by have h1 := h.u.size; have h2 := k.new g hg; omega, (h.u.trans k.u).trans u⟩
theorem TwoNew.later {w w' w2 : World} {s : AS} {rv wv : Value} {S : List Nat} (h : TwoNew w w' s rv wv) (u : Upd S w' w2) (hS : ∀ g ∈ S, g < w.heap.size ∨ w'.heap.size ≤ g) : OwnP w2 rv s.reads rv.ownBlock.toList ∧ OwnP w2 wv s.writes wv.ownBlock.toList :=
  ⟨h.rd.upd u (fun g hg e => by have h1 := h.nr g e; have h2 := h.rd.lt e; rcases hS g hg with k | k <;> omega), h.wr.upd u (fun g hg e => by have h1 := h.nw g e; have h2 := h.wr.lt e; rcases hS g hg with k | k <;> omega)⟩
end Go.Proofs.Ythfeljongackcaa
set_option linter.unusedSimpArgs false
set_option linter.unusedVariables false
set_option maxRecDepth 100000
namespace Go.Proofs.Ythfeljongackcaa
open Go.RowKit
section
variable {F : Fence} {n : Nat} {P : Program} {ops : Array Oper} {C : World → Prop}

/-- no defer statement -/
def plainOp (o : Oper) : Bool := match o.op with | .defer _ => false | _ => true
theorem plainOp_spec {o : Oper} (h : plainOp o = true) : ∀ c, o.op ≠ .defer c := by
  intro c e
  simp [plainOp, e] at h

theorem wpIn_of_quiet_rd {o : Oper} {a : Act} {K : Act → Prop} {K' : Act → World → Prop} {Q' : Exit → Act → World → Prop} {w : World} (hp : plainOp o = true) (hw : C w) (h : ∀ a w', C w' → K a → K' a w')
    (ha : o.askedIn F P a C) (hh : o.quietIn F n P a C K) : o.wpIn F n P a w K' Q' := by
  obtain ⟨v, h1, h2⟩ := hh
  have h3 := h1 w hw
  unfold Oper.quietAtIn at h3
  unfold Oper.wpIn
  refine ⟨ha w hw, ?_⟩
  rw [Oper.semAt_eq _ _ _ (plainOp_spec hp)]
  generalize (execOp a.eval o).run P w = r at *
  cases r with
  | ok x w' =>
    cases x <;> simp only [Oper.quietUponIn] at h3 <;> simp only [Oper.uponIn]
    case value u =>
      obtain ⟨e1, e2⟩ := h3
      rw [e1, e2]
      exact h _ _ hw h2
    case skip =>
      obtain ⟨e1, e2⟩ := h3
      rw [e1, ← e2]
      exact h _ _ hw h2
    case enter f args =>
      obtain ⟨e1, hd, hc⟩ := h3
      rw [e1]
      exact ⟨hd, hc.mono fun e w'' ⟨he, hw''⟩ => by subst he; exact h _ _ hw'' h2⟩
  | halt x w' => simp only [Oper.quietUponIn] at h3

theorem wpOpIn_of_qOpIn_rd {i : Nat} {a : Act} {K : Act → Prop} {K' : Act → World → Prop} {Q' : Exit → Act → World → Prop} {w : World} (hp : ops.all plainOp = true) (hC : C w) (h : ∀ a w', C w' → K a → K' a w')
    (hh : qOpIn F n P ops C i K a) : wpOpIn F n P ops Q' i K' a w := by
  unfold qOpIn at hh
  unfold wpOpIn
  split
  · rename_i ho; simp only [ho] at hh; exact h _ _ hC hh
  · rename_i o ho
    simp only [ho] at hh
    obtain ⟨ha, hh⟩ := hh
    have hpo : plainOp o = true := by
      obtain ⟨hi, he⟩ := Array.getElem?_eq_some_iff.1 ho
      have := Array.all_eq_true.1 hp i hi
      rwa [he] at this
    split
    · rename_i hw; simp only [hw, if_true] at hh; exact wpIn_of_quiet_rd hpo hC h ha hh
    · rename_i hw; simp only [hw] at hh; exact ⟨ha w hC, h _ _ hC hh⟩

theorem wpAnyIn_of_quiet_rd {md : Region.Mode} {Q : Act → Prop} {Q' : Exit → Act → World → Prop} (hp : ops.all plainOp = true) (hQ : ∀ a w, C w → Q a → Q' .normal a w) : ∀ (fuel : Nat) (listed : Array Bool) (a : Act) (w : World), C w →
    wpAnyQIn F n P md ops C Q fuel listed a → wpAnyIn F n P md ops Q' fuel listed a w
  | 0, _, _, _, hw, h => ⟨h.1, hQ _ _ hw h.2⟩
  | fuel + 1, _, _, _, hw, h => ⟨fun h0 => hQ _ _ hw (h.1 h0), fun i hi => wpOpIn_of_qOpIn_rd hp hw (fun a' w' hw' => wpAnyIn_of_quiet_rd hp hQ fuel _ a' w' hw') (h.2 i hi)⟩

theorem wpIn_region_quiet_rd {id : Nat} {Q : Exit → Act → World → Prop} {a : Act} {w : World} {l : List Oper} (hp : l.toArray.all plainOp = true) (hm : P.follows .mixedOrders = true) (hB : Region.lexB .any l.toArray = true)
    (h : wpQuietIn F n P l.toArray (fun w' => ∃ n, w' = w.drewN n) (fun a' => ∀ w', (∃ n, w' = w.drewN n) → Q .normal a' w') l a) : (Code.region id l.toArray true).wpIn F n P Q a w := by
  have hB' := hB
  simp only [Region.lexB, Bool.and_eq_true] at hB
  refine wpIn_region_any hm (wpAnyIn_of_quiet_rd (C := fun w' => ∃ n, w' = w.drewN n) (Q := fun a' => ∀ w', (∃ n, w' = w.drewN n) → Q .normal a' w') hp (fun _ w' hw' h => h w' hw') _ _ _ _ ⟨1, rfl⟩ ?_)
  have := wpAnyQIn_lex (F := F) (n := n) (C := fun w' => ∃ n, w' = w.drewN n) (md := .any) hB.1 l.toArray.toList 0 (Array.replicate l.toArray.size false) a (by simp) (by simpa using hB.2) (by simpa using h)
  simpa using this

end
end Go.Proofs.Ythfeljongackcaa
set_option linter.unusedSimpArgs false
set_option linter.unusedVariables false
set_option maxRecDepth 100000
namespace Go.Proofs.Ythfeljongackcaa
open Go.RowKit
/-- the plain end alone -/
def OnlyN (Q : Exit → Act → World → Prop) : Exit → Act → World → Prop
  | .normal, a, w => Q .normal a w
  | _, _, _ => False
theorem OnlyN.normal {Q : Exit → Act → World → Prop} {a : Act} {w : World} (h : Q .normal a w) : OnlyN Q .normal a w := h
theorem OnlyN.not_out {Q : Exit → Act → World → Prop} (h : LetsOut (OnlyN Q)) : False := let ⟨_, _, h⟩ := h; h
section
variable {n l : Nat} {P : Program} {ops : Array Oper} {Q : Exit → Act → World → Prop} {md : Region.Mode}
theorem wpIn_of_wp {o : Oper} {a : Act} {w : World} {K : Act → World → Prop} (hp : plainOp o = true) (h : o.wp P a w K (OnlyN Q)) : o.wpIn (Fence.wide.inRound l) n P a w K Q := by
  unfold Oper.wp at h
  unfold Oper.wpIn
  refine ⟨fun _ _ => trivial, ?_⟩
  rw [Oper.semAt_eq _ _ _ (plainOp_spec hp)]
  generalize (execOp a.eval o).run P w = r at *
  cases r with
  | ok x w' =>
    cases x <;> simp only [Oper.upon] at h <;> simp only [Oper.uponIn]
    case value u => exact h
    case skip => exact h
    case defer d => exact h
    case enter f args =>
      refine ⟨fun h => by simp [Fence.wide] at h, CallsIn.inRound l (callsIn_wide.2 (h.mono fun e w'' k => ?_))⟩
      cases e with
      | returned v => exact k
      | panicked c => exact (k : False).elim
      | outgrown => exact (OnlyN.not_out k).elim
    case row f args =>
      refine ⟨fun h => by simp [Fence.wide] at h, fun c cs _ => ?_⟩
      obtain ⟨v, w', r, s⟩ := h c cs
      exact ⟨v, w', r, stepsIn_wide.2 s⟩
  | halt x w' =>
    cases x <;> simp only [Oper.upon] at h
    exact (h : False).elim
theorem wpOpIn_of_wpOp {i : Nat} {a : Act} {w : World} {K K' : Act → World → Prop} (hp : ops.all plainOp = true) (hK : ∀ a w, K a w → K' a w) (h : wpOp P ops (OnlyN Q) i K a w) : wpOpIn (Fence.wide.inRound l) n P ops Q i K' a w := by
  unfold wpOp at h
  unfold wpOpIn
  split
  · rename_i ho; simp only [ho] at h; exact hK _ _ h
  · rename_i o ho
    simp only [ho] at h
    have hpo : plainOp o = true := by
      obtain ⟨hi, he⟩ := Array.getElem?_eq_some_iff.1 ho
      have := Array.all_eq_true.1 hp i hi
      rwa [he] at this
    split
    · rename_i hw
      simp only [hw, if_true] at h
      rcases h with h | ⟨_, h⟩
      · exact Oper.wpIn_mono hK (wpIn_of_wp hpo h)
      · exact (OnlyN.not_out h).elim
    · rename_i hw; simp only [hw] at h; exact ⟨fun _ _ => trivial, hK _ _ h⟩
theorem wpAnyIn_of_wpAny (hp : ops.all plainOp = true) : ∀ (fuel : Nat) (listed : Array Bool) (a : Act) (w : World), wpAny P md ops (OnlyN Q) fuel listed a w → wpAnyIn (Fence.wide.inRound l) n P md ops Q fuel listed a w
  | 0, _, _, _, h => h
  | fuel + 1, _, _, _, h => ⟨fun h0 => h.1 h0, fun i hi => wpOpIn_of_wpOp hp (fun a' w' => wpAnyIn_of_wpAny hp fuel _ a' w') (h.2 i hi)⟩

theorem wpIn_region_eff {id : Nat} {a : Act} {w : World} {l' : List Oper} (S : World → Prop) (t : Nat) (hp : l'.toArray.all plainOp = true) (hm : P.follows .mixedOrders = true) (hB : effB .any l'.toArray t = true) (hS : S w.drew)
    (h : wpE P .any l'.toArray (OnlyN Q) S t 0 l' a w.drew) : (Code.region id l'.toArray true).wpIn (Fence.wide.inRound l) n P Q a w := by
  simp only [effB, Bool.and_eq_true, decide_eq_true_eq] at hB
  obtain ⟨⟨⟨hsel, ht⟩, hla⟩, hlex⟩ := hB
  refine wpIn_region_any hm (wpAnyIn_of_wpAny hp _ _ _ _ ?_)
  have inv0 : Shut .any l'.toArray (upB l'.toArray 0) := ⟨by simp [upB, fillB], fun j oj _ hl => (by rw [upB, fillB, getD_replicate_false] at hl; cases hl)⟩
  have := wpAnyE_lex (P := P) (S := S) hsel (Q := OnlyN Q) (fun c d v a w h => h) ht hla (lexFrom_end _ 0 (by simp) hlex) l' 0 a { w with drawn := w.drawn + 1 } (by simp) (by simp) inv0 (.inl (by omega)) (.inl hS) (by simpa [upB, fillB] using hlex) h
  simpa [upB, fillB] using wpAny_of_E _ _ _ _ this
end
end Go.Proofs.Ythfeljongackcaa
set_option linter.unusedSimpArgs false
set_option linter.unusedVariables false
set_option maxRecDepth 100000
namespace Go.Proofs.Ythfeljongackcaa
open Go.RowKit
section
variable {n lr : Nat} {P : Program} {ops : Array Oper} {Q : Exit → Act → World → Prop} {md : Region.Mode} {S : World → Prop}

/-- the walk in the order that is given -/
def wpO (P : Program) (md : Region.Mode) (ops : Array Oper) (Q : Exit → Act → World → Prop) (S : World → Prop) : List Nat → Array Bool → Act → World → Prop
  | [], _, a, w => Q .normal a w
  | i :: rest, L, a, w => ∃ o, ops[i]? = some o ∧
      ((∃ v, YieldsIf P ops S o v a ∧ wpO P md ops Q S rest (L.setIfInBounds i true) (a.put o.dst v) w) ∨
       (Region.ready md ops L = [i] ∧ wpOp P ops Q i (fun a' w' => S w' ∧ wpO P md ops Q S rest (L.setIfInBounds i true) a' w') a w))
def ordFrom (md : Region.Mode) (ops : Array Oper) : List Nat → Array Bool → Bool
  | [], L => (Region.ready md ops L).isEmpty
  | i :: rest, L => (Region.ready md ops L).contains i && Region.free md ops L i && ordFrom md ops rest (L.setIfInBounds i true)
def ordB (md : Region.Mode) (ops : Array Oper) (order : List Nat) : Bool := Region.noSelect ops && decide (order.length = ops.size) && ordFrom md ops order (Array.replicate ops.size false)

theorem wpAnyE_ord (hsel : Region.noSelect ops = true) (hQ : ∀ c d (v : Value) a w, Q (.panic c) (a.put d v) w → Q (.panic c) a w) :
    ∀ (l : List Nat) (L : Array Bool) (a : Act) (w : World), Shut md ops L → S w → ordFrom md ops l L = true → wpO P md ops Q S l L a w → wpAnyE P md ops Q S ops.size l.length L a w
  | [], L, a, w, _, _, hB, h => ⟨by simpa [ordFrom] using hB, h⟩
  | i :: l, L, a, w, inv, hS, hB, h => by
    simp only [ordFrom, Bool.and_eq_true] at hB
    obtain ⟨⟨hr, hf⟩, hB'⟩ := hB
    have hr' : i ∈ Region.ready md ops L := by simpa using hr
    obtain ⟨o, ho, h⟩ := h
    have hi : i < ops.size := (Array.getElem?_eq_some_iff.1 ho).1
    rcases h with ⟨v, hy, hK⟩ | ⟨honly, hK⟩
    · exact wpAnyE_first ho (Region.noSelect_spec hsel) (fun c a w => hQ c _ _ a w) (fun j i h1 h2 h3 => absurd h3 (by omega)) hi l.length L a w inv (Region.free_spec ho hf) hr' hy hS
        (wpAnyE_ord hsel hQ l _ _ _ (inv.set hr') hS hB' hK)
    · refine ⟨fun h => (by rw [h] at hr'; cases hr'), fun j hj => ?_⟩
      rw [honly] at hj
      obtain rfl : j = i := by simpa using hj
      refine wpOp_mono (fun a' w' h' => ⟨.inr h'.1, ?_⟩) hK
      exact wpAnyE_ord hsel hQ l _ _ _ (inv.set hr') h'.1 hB' h'.2

theorem wpAny_ord {order : List Nat} {a : Act} {w : World} (hQ : ∀ c d (v : Value) a w, Q (.panic c) (a.put d v) w → Q (.panic c) a w) (hB : ordB md ops order = true) (hS : S w)
    (h : wpO P md ops Q S order (Array.replicate ops.size false) a w) : wpAny P md ops Q ops.size (Array.replicate ops.size false) a w := by
  simp only [ordB, Bool.and_eq_true, decide_eq_true_eq] at hB
  obtain ⟨⟨hsel, hl⟩, hB⟩ := hB
  have inv0 : Shut md ops (Array.replicate ops.size false) := ⟨by simp, fun j oj _ hl => (by rw [getD_replicate_false] at hl; cases hl)⟩
  have := wpAnyE_ord (P := P) hsel hQ order _ a w inv0 hS hB h
  rw [hl] at this
  exact wpAny_of_E _ _ _ _ this

theorem wp_region_ord {id : Nat} {a : Act} {w : World} {l : List Oper} (S : World → Prop) (order : List Nat) (hm : P.follows .mixedOrders = true) (hB : ordB .any l.toArray order = true) (hS : S w.drew)
    (h : wpO P .any l.toArray (NoPanic Q) S order (Array.replicate l.toArray.size false) a w.drew) : (Code.region id l.toArray true).wp P Q a w :=
  wp_region_noPanic (wp_region_any hm (wpAny_ord (fun c d v a w h => h) hB hS h))
theorem wpIn_region_ord {id : Nat} {a : Act} {w : World} {l : List Oper} (S : World → Prop) (order : List Nat) (hp : l.toArray.all plainOp = true) (hm : P.follows .mixedOrders = true) (hB : ordB .any l.toArray order = true) (hS : S w.drew)
    (h : wpO P .any l.toArray (OnlyN Q) S order (Array.replicate l.toArray.size false) a w.drew) : (Code.region id l.toArray true).wpIn (Fence.wide.inRound lr) n P Q a w :=
  wpIn_region_any hm (wpAnyIn_of_wpAny hp _ _ _ _ (wpAny_ord (fun c d v a w h => h) hB hS h))

/-- the moves: what only looks -/
theorem wpO_take {i d : Nat} {o : Oper} {rest : List Nat} {v : Value} {L : Array Bool} {a : Act} {w : World} (ho : ops[i]? = some o) (hd : o.dst = some d) (hw : Region.wanted o (yielded ops a.tmps) = true) (hv : ∀ w, S w → (execOp a.eval o).run P w = .ok (.value v) w)
    (h : wpO P md ops Q S rest (L.setIfInBounds i true) (a.put (some d) v) w) : wpO P md ops Q S (i :: rest) L a w :=
  ⟨o, ho, .inl ⟨v, .inl ⟨hw, hv⟩, by rw [hd]; exact h⟩⟩
theorem wpO_skip {i : Nat} {o : Oper} {rest : List Nat} {L : Array Bool} {a : Act} {w : World} (ho : ops[i]? = some o) (hw : Region.wanted o (yielded ops a.tmps) = false)
    (h : wpO P md ops Q S rest (L.setIfInBounds i true) (a.put o.dst undef) w) : wpO P md ops Q S (i :: rest) L a w :=
  ⟨o, ho, .inl ⟨undef, .inr ⟨hw, rfl⟩, h⟩⟩
/-- an effect -/
theorem wpO_eff {i : Nat} {o : Oper} {rest : List Nat} {L : Array Bool} {a : Act} {w : World} (ho : ops[i]? = some o) (hr : Region.ready md ops L = [i]) (hw : Region.wanted o (yielded ops a.tmps) = true)
    (h : ∀ K : Act → World → Prop, Go.Shut (∀ a' w', S w' → wpO P md ops Q S rest (L.setIfInBounds i true) a' w' → K a' w') → Oper.wp P o a w K Q) : wpO P md ops Q S (i :: rest) L a w :=
  ⟨o, ho, .inr ⟨hr, by unfold wpOp; simp only [ho, hw, if_true]; exact .inl (h _ fun a' w' h1 h2 => ⟨h1, h2⟩)⟩⟩
theorem wpO_end {L : Array Bool} {a : Act} {w : World} (h : Q .normal a w) : wpO P md ops Q S [] L a w := h

/-- the same moves, the operation read off the list -/
theorem wpL_take {l : List Oper} {i d : Nat} {o : Oper} {rest : List Nat} {v : Value} {L : Array Bool} {a : Act} {w : World} (ho : l[i]? = some o) (hd : o.dst = some d) (hw : Region.wanted o (yielded l.toArray a.tmps) = true) (hv : ∀ w, S w → (execOp a.eval o).run P w = .ok (.value v) w)
    (h : wpO P md l.toArray Q S rest (L.setIfInBounds i true) (a.put (some d) v) w) : wpO P md l.toArray Q S (i :: rest) L a w :=
  wpO_take (by simpa using ho) hd hw hv h
theorem wpL_skip {l : List Oper} {i : Nat} {o : Oper} {rest : List Nat} {L : Array Bool} {a : Act} {w : World} (ho : l[i]? = some o) (hw : Region.wanted o (yielded l.toArray a.tmps) = false)
    (h : wpO P md l.toArray Q S rest (L.setIfInBounds i true) (a.put o.dst undef) w) : wpO P md l.toArray Q S (i :: rest) L a w :=
  wpO_skip (by simpa using ho) hw h
theorem wpL_eff {l : List Oper} {i : Nat} {o : Oper} {rest : List Nat} {L : Array Bool} {a : Act} {w : World} (ho : l[i]? = some o) (hr : Region.ready md l.toArray L = [i]) (hw : Region.wanted o (yielded l.toArray a.tmps) = true)
    (h : ∀ K : Act → World → Prop, Go.Shut (∀ a' w', S w' → wpO P md l.toArray Q S rest (L.setIfInBounds i true) a' w' → K a' w') → Oper.wp P o a w K Q) : wpO P md l.toArray Q S (i :: rest) L a w :=
  wpO_eff (by simpa using ho) hr hw h
end
end Go.Proofs.Ythfeljongackcaa
set_option linter.unusedSimpArgs false
set_option linter.unusedVariables false
set_option maxRecDepth 100000
namespace Go.Proofs.Ythfeljongackcaa
open Go.RowKit
section
variable {n lr : Nat} {P : Program} {ops : Array Oper} {Q : Exit → Act → World → Prop} {md : Region.Mode} {S : World → Prop} {T : List Nat}

def wpAnyT (P : Program) (md : Region.Mode) (ops : Array Oper) (Q : Exit → Act → World → Prop) (S : World → Prop) (T : List Nat) : Nat → Array Bool → Act → World → Prop
  | 0, listed, a, w => Region.ready md ops listed = [] ∧ Q .normal a w
  | fuel + 1, listed, a, w => Region.ready md ops listed ≠ [] ∧ ∀ i ∈ Region.ready md ops listed, wpOp P ops Q i (fun a' w' => (i ∈ T ∨ S w') ∧ wpAnyT P md ops Q S T fuel (listed.setIfInBounds i true) a' w') a w

theorem wpAny_of_T : ∀ (fuel : Nat) (listed : Array Bool) (a : Act) (w : World), wpAnyT P md ops Q S T fuel listed a w → wpAny P md ops Q fuel listed a w
  | 0, _, _, _, h => h
  | fuel + 1, _, _, _, h => ⟨fun h0 => absurd h0 h.1, fun i hi => wpOp_mono (fun a' w' h' => wpAny_of_T fuel _ a' w' h'.2) (h.2 i hi)⟩

/-- whoever is of the tail waits for all others -/
def TWaits (md : Region.Mode) (ops : Array Oper) (T : List Nat) : Prop := ∀ j i, j ∈ T → i ∉ T → i < ops.size → anchored md ops j (j + 1) i = true

theorem wpAnyT_first {i : Nat} {oi : Oper} {v : Value} (hi : ops[i]? = some oi) (hsel : ∀ (j : Nat) (o : Oper) cs b, ops[j]? = some o → o.op ≠ .select cs b)
    (hQ : ∀ c a w, Q (.panic c) (a.put oi.dst v) w → Q (.panic c) a w) (hl : TWaits md ops T) (hit : i ∉ T) :
    ∀ (fuel : Nat) (listed : Array Bool) (a : Act) (w : World), Shut md ops listed →
      (∀ j oj, ops[j]? = some oj → j ≠ i → listed.getD j true = false → (∀ e ∈ oj.after, Region.binds md e = true → e.on ≠ i) → oi.apart ops oj = true) →
      i ∈ Region.ready md ops listed → YieldsIf P ops S oi v a → S w →
      wpAnyT P md ops Q S T fuel (listed.setIfInBounds i true) (a.put oi.dst v) w → wpAnyT P md ops Q S T (fuel + 1) listed a w := by
  intro fuel
  induction fuel with
  | zero =>
    intro listed a w inv _ hr hy hS H
    refine ⟨fun h => (by rw [h] at hr; cases hr), fun j hj => ?_⟩
    by_cases hji : j = i
    · subst hji; exact hy.wpOp hi hS ⟨.inr hS, H⟩
    · have := ready_mono hj hji
      rw [H.1] at this
      cases this
  | succ fuel ih =>
    intro listed a w inv hfree hr hy hS H
    refine ⟨fun h => (by rw [h] at hr; cases hr), fun j hj => ?_⟩
    by_cases hji : j = i
    · subst hji; exact hy.wpOp hi hS ⟨.inr hS, H⟩
    · have h1 := H.2 j (ready_mono hj hji)
      obtain ⟨hjun, oj, hoj, hall⟩ := mem_ready.1 hj
      have hiun := (mem_ready.1 hr).1
      have hnot : ∀ e ∈ oj.after, Region.binds md e = true → e.on ≠ i := fun e he hb heq => by
        have h1 := hall e he hb
        rw [heq, getD_both hiun] at h1
        cases h1
      have h2 := wpOp_putIf hoj (hfree j oj hoj hji hjun hnot) (fun cs b => hsel i oi cs b hi) (fun cs b => hsel j oj cs b hoj) hQ hy h1
      have hfree' : ∀ k ok, ops[k]? = some ok → k ≠ i → (listed.setIfInBounds j true).getD k true = false →
          (∀ e ∈ ok.after, Region.binds md e = true → e.on ≠ i) → oi.apart ops ok = true := fun k ok hk hki hun hno => by
        refine hfree k ok hk hki ?_ hno
        by_cases hjk : j = k
        · subst hjk; exact hjun
        · rw [getD_set_ne true hjk] at hun; exact hun
      have hjl : ¬ j ∈ T := by
        intro e
        have hsz : j < ops.size := (Array.getElem?_eq_some_iff.1 hoj).1
        have hsi : i < ops.size := (Array.getElem?_eq_some_iff.1 hi).1
        have ha := hl j i e hit hsi
        have hset : (listed.setIfInBounds j true).getD j false = true := by simp [inv.size, hsz]
        have := anchored_listed (inv.set hj) hset _ i ha
        rw [getD_set_ne false hji, getD_both hiun] at this
        cases this
      refine wpOp_mono (fun a' w' h3 => ?_) h2
      have hSw : S w' := h3.2.1.resolve_left hjl
      refine ⟨.inr hSw, ih (listed.setIfInBounds j true) a' w' (inv.set hj) hfree' (ready_mono hr (Ne.symm hji)) h3.1 hSw ?_⟩
      rw [Array.setIfInBounds_comm _ _ hji]
      exact h3.2.2

/-- the walk in the order that is given -/
def wpT (P : Program) (md : Region.Mode) (ops : Array Oper) (Q : Exit → Act → World → Prop) (S : World → Prop) (T : List Nat) : List Nat → Array Bool → Act → World → Prop
  | [], _, a, w => Q .normal a w
  | i :: rest, L, a, w => ∃ o, ops[i]? = some o ∧
      ((∃ v, (i ∉ T) ∧ S w ∧ YieldsIf P ops S o v a ∧ wpT P md ops Q S T rest (L.setIfInBounds i true) (a.put o.dst v) w) ∨
       (Region.ready md ops L = [i] ∧ wpOp P ops Q i (fun a' w' => (i ∈ T ∨ S w') ∧ wpT P md ops Q S T rest (L.setIfInBounds i true) a' w') a w))
def tailsB (md : Region.Mode) (ops : Array Oper) (T : List Nat) : Bool := T.all fun j => (List.range ops.size).all fun i => T.contains i || anchored md ops j (j + 1) i
def ordT (md : Region.Mode) (ops : Array Oper) (order T : List Nat) : Bool := ordB md ops order && tailsB md ops T

theorem wpAnyT_ord (hsel : Region.noSelect ops = true) (hQ : ∀ c d (v : Value) a w, Q (.panic c) (a.put d v) w → Q (.panic c) a w) (hT : TWaits md ops T) :
    ∀ (l : List Nat) (L : Array Bool) (a : Act) (w : World), Shut md ops L → ordFrom md ops l L = true → wpT P md ops Q S T l L a w → wpAnyT P md ops Q S T l.length L a w
  | [], L, a, w, _, hB, h => ⟨by simpa [ordFrom] using hB, h⟩
  | i :: l, L, a, w, inv, hB, h => by
    simp only [ordFrom, Bool.and_eq_true] at hB
    obtain ⟨⟨hr, hf⟩, hB'⟩ := hB
    have hr' : i ∈ Region.ready md ops L := by simpa using hr
    obtain ⟨o, ho, h⟩ := h
    rcases h with ⟨v, hi, hS, hy, hK⟩ | ⟨honly, hK⟩
    · exact wpAnyT_first ho (Region.noSelect_spec hsel) (fun c a w => hQ c _ _ a w) hT hi l.length L a w inv (Region.free_spec ho hf) hr' hy hS
        (wpAnyT_ord hsel hQ hT l _ _ _ (inv.set hr') hB' hK)
    · refine ⟨fun h => (by rw [h] at hr'; cases hr'), fun j hj => ?_⟩
      rw [honly] at hj
      obtain rfl : j = i := by simpa using hj
      refine wpOp_mono (fun a' w' h' => ⟨h'.1, ?_⟩) hK
      exact wpAnyT_ord hsel hQ hT l _ _ _ (inv.set hr') hB' h'.2

theorem wp_region_ordT {id : Nat} {a : Act} {w : World} {l : List Oper} (S : World → Prop) (order T : List Nat) (hm : P.follows .mixedOrders = true) (hB : ordT .any l.toArray order T = true)
    (h : wpT P .any l.toArray (NoPanic Q) S T order (Array.replicate l.toArray.size false) a w.drew) : (Code.region id l.toArray true).wp P Q a w := by
  refine wp_region_noPanic (wp_region_any hm ?_)
  simp only [ordT, ordB, Bool.and_eq_true, decide_eq_true_eq] at hB
  obtain ⟨⟨⟨hsel, hl⟩, hB⟩, hT⟩ := hB
  have hTW : TWaits .any l.toArray T := fun j i hj hi hs => by
    unfold tailsB at hT
    simp only [List.all_eq_true, List.mem_range, Bool.or_eq_true] at hT
    rcases hT j hj i hs with k | k
    · exact absurd (by simpa using k) hi
    · exact k
  have inv0 : Shut .any l.toArray (Array.replicate l.toArray.size false) := ⟨by simp, fun j oj _ hl => (by rw [getD_replicate_false] at hl; cases hl)⟩
  have := wpAnyT_ord (P := P) (S := S) (Q := NoPanic Q) hsel (fun c d v a w h => h) hTW order _ a w.drew inv0 hB h
  rw [hl] at this
  exact wpAny_of_T _ _ _ _ this

/-- the moves -/
theorem wpT_take {l : List Oper} {i d : Nat} {o : Oper} {rest : List Nat} {v : Value} {L : Array Bool} {a : Act} {w : World} (ho : l[i]? = some o) (hi : i ∉ T) (hS : S w) (hd : o.dst = some d) (hw : Region.wanted o (yielded l.toArray a.tmps) = true) (hv : ∀ w, S w → (execOp a.eval o).run P w = .ok (.value v) w)
    (h : wpT P md l.toArray Q S T rest (L.setIfInBounds i true) (a.put (some d) v) w) : wpT P md l.toArray Q S T (i :: rest) L a w :=
  ⟨o, by simpa using ho, .inl ⟨v, hi, hS, .inl ⟨hw, hv⟩, by rw [hd]; exact h⟩⟩
theorem wpT_skip {l : List Oper} {i : Nat} {o : Oper} {rest : List Nat} {L : Array Bool} {a : Act} {w : World} (ho : l[i]? = some o) (hi : i ∉ T) (hS : S w) (hw : Region.wanted o (yielded l.toArray a.tmps) = false)
    (h : wpT P md l.toArray Q S T rest (L.setIfInBounds i true) (a.put o.dst undef) w) : wpT P md l.toArray Q S T (i :: rest) L a w :=
  ⟨o, by simpa using ho, .inl ⟨undef, hi, hS, .inr ⟨hw, rfl⟩, h⟩⟩
theorem wpT_eff {l : List Oper} {i : Nat} {o : Oper} {rest : List Nat} {L : Array Bool} {a : Act} {w : World} (ho : l[i]? = some o) (hr : Region.ready md l.toArray L = [i]) (hw : Region.wanted o (yielded l.toArray a.tmps) = true)
    (h : ∀ K : Act → World → Prop, Go.Shut (∀ a' w', S w' → wpT P md l.toArray Q S T rest (L.setIfInBounds i true) a' w' → K a' w') → Oper.wp P o a w K Q) : wpT P md l.toArray Q S T (i :: rest) L a w :=
  ⟨o, by simpa using ho, .inr ⟨hr, by
    have ho' : l.toArray[i]? = some o := by simpa using ho
    unfold wpOp
    simp only [ho', hw, if_true]
    exact .inl (h _ fun a' w' h1 h2 => ⟨.inr h1, h2⟩)⟩⟩
/-- one of the tail -/
theorem wpT_last {l : List Oper} {i : Nat} {o : Oper} {rest : List Nat} {L : Array Bool} {a : Act} {w : World} (ho : l[i]? = some o) (hi : i ∈ T) (hr : Region.ready md l.toArray L = [i]) (hw : Region.wanted o (yielded l.toArray a.tmps) = true)
    (h : ∀ K : Act → World → Prop, Go.Shut (∀ a' w', wpT P md l.toArray Q S T rest (L.setIfInBounds i true) a' w' → K a' w') → Oper.wp P o a w K Q) : wpT P md l.toArray Q S T (i :: rest) L a w :=
  ⟨o, by simpa using ho, .inr ⟨hr, by
    have ho' : l.toArray[i]? = some o := by simpa using ho
    unfold wpOp
    simp only [ho', hw, if_true]
    exact .inl (h _ fun a' w' h2 => ⟨.inl hi, h2⟩)⟩⟩
theorem wpT_end {L : Array Bool} {a : Act} {w : World} (h : Q .normal a w) : wpT P md ops Q S T [] L a w := h
end
end Go.Proofs.Ythfeljongackcaa
