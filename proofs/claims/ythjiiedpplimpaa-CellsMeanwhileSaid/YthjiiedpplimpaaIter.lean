/- The row's iterator All, as a contract for whatever loop body goes over it. No condition. -/
import Derived.Test.YthjiiedpplimpaaCellsW
import Derived.RangeFuncNested
import Derived.RangeFuncBound
import Derived.RangeFuncCalls
import Derived.RangeFuncLeaves
import Derived.Shelf.Abstract
import Derived.Shelf.RegionOpen
import Derived.WalkKit
import Derived.OwnWalkIn
import Derived.TacticsInMore
import Derived.LoopNIn
import Derived.LoopIn
set_option linter.unusedSimpArgs false
set_option linter.unusedVariables false
set_option maxRecDepth 100000
namespace Go.Proofs.Ythjiiedpplimpaa
open Go.RowKit
open Go.Shelf
attribute [local go_sem] Oper.semAt_some

/-- the blocks of cells but for those in S are as they were -/
structure CUpd (S : List Nat) (w w' : World) : Prop where
  os : w'.os = w.os
  tape : w'.tape = w.tape
  output : w'.output = w.output
  size : w.heap.size ≤ w'.heap.size
  block : ∀ k c t f, k ∉ S → w.heap[k]? = some (.cells c t f) → w'.heap[k]? = some (.cells c t f)

theorem CUpd.refl (S : List Nat) (w : World) : CUpd S w w := ⟨rfl, rfl, rfl, Nat.le_refl _, fun _ _ _ _ _ h => h⟩
theorem CUpd.trans {S : List Nat} {a b c : World} (h : CUpd S a b) (k : CUpd S b c) : CUpd S a c :=
  ⟨k.os.trans h.os, k.tape.trans h.tape, k.output.trans h.output, Nat.le_trans h.size k.size, fun i c t f hn hi => k.block i c t f hn (h.block i c t f hn hi)⟩

theorem lt_of_block {w : World} {k : Nat} {o : Obj} (h : w.heap[k]? = some o) : k < w.heap.size := by
  by_cases hk : k < w.heap.size
  · exact hk
  · rw [Array.getElem?_eq_none (by omega)] at h; cases h

theorem Upd.cupd {S : List Nat} {a b : World} (h : Upd S a b) : CUpd S a b :=
  ⟨h.os, h.tape, h.output, h.size, fun k c t f hn hk => (h.block k (lt_of_block hk) hn).trans hk⟩

theorem CUpd.putObj {S : List Nat} (W : World) (l : Nat) (o o' : Obj) (hl : W.heap[l]? = some o) (ho : o.isCells = false) : CUpd S W (W.putObj l o') := by
  refine ⟨rfl, rfl, rfl, by simp [World.putObj], fun k c t f _ hk => ?_⟩
  rw [World.putObj_heap_other (fun e => by subst e; rw [hl] at hk; injection hk with hk; subst hk; simp [Obj.isCells] at ho)]
  exact hk

theorem Blk.cupd {S : List Nat} {w w' : World} {b : Nat} {vs : List Value} {t : TypeId} (h : Blk w b vs t) (k : CUpd S w w') (hn : b ∉ S) : Blk w' b vs t := k.block b _ _ _ hn h

theorem RowAt.cupd {S : List Nat} {w w' : World} {a b : Nat} {ws : List Int} {acc : Int} (h : RowAt w a b ws acc) (k : CUpd S w w') (ha : a ∉ S) (hb : b ∉ S) : RowAt w' a b ws acc :=
  let ⟨cap, h1, sp, h2, h3⟩ := h.head; ⟨⟨cap, h1.cupd k ha, sp, h2.cupd k hb, h3⟩, h.len1, h.len2, h.ne⟩

/-- what the iterator hands to its loop at place i: address and word -/
def encw (ws : List Int) (i : Nat) : Array Value := #[.int .u64 (i : Int), .int .u64 (wd ws i)]
theorem range_prefix {k n : Nat} (h : k ≤ n) : List.range k <+: List.range n := by
  obtain ⟨m, rfl⟩ := Nat.exists_eq_add_of_le h
  exact ⟨(List.range m).map fun i => k + i, by simp [List.range_add]⟩

theorem all_fn {w : World} (p : Option Addr) : Calls Try.prog 28 #[.pointer p] w fun e w' => e = .returned (.func (.func 59) #[] #[.pointer (some ⟨w.heap.size, 0, none⟩)]) ∧ w.alloc (.cells #[.pointer p] 22) = w' := by
  have hmf : ∀ (fn : Fn) (first cap : Array Value) (w : World), (Instr.makeFunc fn first cap).run Try.prog w = .ok (.func fn first cap) w := fun _ _ _ _ => rfl
  refine calls_all fun K hK => ?_
  go_enter Try.func28, Try.ntmps28
  go_wp2
  all_goals exact ⟨rfl, rfl⟩

theorem all_stops (n : Nat) (hn : 1 ≤ n) (S : List Nat) {w : World} {bx a b : Nat} {ws : List Int} {acc : Int} (hbx : Blk w bx [.pointer (some ⟨a, 0, none⟩)] 22) (hR : RowAt w a b ws acc) (hS : ∀ k ∈ S, k < w.heap.size) :
    SeqStopsK Fence.wide n Try.prog 59 #[.pointer (some ⟨bx, 0, none⟩)] (encw ws) (CUpd S) (fun xs => xs = List.range ws.length) (fun pre => pre <+: List.range ws.length) ws.length w := by
  intro l J Jx W hW hJ hJx hY h0
  have hbx0 := (hbx.below hW hbx.lt).cell 0 rfl
  have hRW := hR.below hW hR.lta hR.ltb
  have hn2 := hR.len2
  refine callsIn_of_wp Try.func59 rfl trivial ?_ rfl
  simp only [Try.ntmps59, List.size_toArray, List.length_cons, List.length_nil, Nat.reduceAdd, Nat.reduceSub, Array.replicate_succ, Array.replicate_zero, List.push_toArray, List.append_toArray, List.nil_append, List.cons_append]
  have hF : ∀ f, Fence.wide.fn f := fun _ => trivial
  gi_wp2_with (gi_at_call 60; refine (callsIn_wide.2 (words_row hRW)).mono ?_; rintro e w' ⟨g, spare, rfl, hg, hB, hu⟩)
  gi_loopw [8] (fun v8 wr => ∃ k : Nat, k ≤ ws.length ∧ v8 = .int .i64 k ∧ J (List.range k) wr ∧ Blk wr g (ws.map (Value.int .u64) ++ spare) 27) (fun v8 _ => ws.length - (intOf v8).toNat)
  case atStart => exact ⟨0, by omega, rfl, hJ _ _ _ none h0 ⟨hu.os, hu.tape, hu.output, hu.size, fun k hk _ => hu.block k hk (by simp)⟩ (fun r e => by cases e), hB⟩
  case round =>
    obtain ⟨k, hk, rfl, hJk, hBk⟩ := hrel
    by_cases hlt : k < ws.length
    · have hc : wr.cell? ⟨g, k, none⟩ = some (.int .u64 (wd ws k)) := hBk.cell k (by rw [List.getElem?_append_left (by simpa using hlt)]; simp [hlt, wd_get])
      obtain ⟨fn, tmps, assign, body, hy, hR2⟩ := hY (List.range k) k wr hJk (by rw [List.length_range]; exact hlt)
      dsimp only [encw] at hy
      have hkl : (k : Int) < (ws.length : Int) := by omega
      have hgS : g ∉ S := fun hm => by have := hS g hm; have := hW.size; omega
      gi_wp2
      refine hR2.mono ?_
      rintro e W3 (⟨rfl, hJ3, hk3⟩ | ⟨rfl, hJx3⟩)
      · have hB3 := hBk.cupd hk3 hgS
        gi_wp2
        go_roundw
        case rel => exact ⟨k + 1, by omega, by go_num, by rw [List.range_succ]; exact hJ3, hB3⟩
        case measure => simp [intOf]; omega
      · gi_wp2
        refine bodyPost_ret (results_none rfl _ _ _) rfl ?_
        exact ⟨⟨_, rfl⟩, .inr ⟨List.range k ++ [k], by rw [← List.range_succ]; exact range_prefix hlt, hJx3⟩⟩
    · gi_wp2
      go_end0
      exact ⟨⟨_, rfl⟩, .inl ⟨List.range ws.length, rfl, by rw [show k = ws.length by omega] at hJk; exact hJk⟩⟩

/-- the law for a range over a function, in the wide fence, with CUpd for what a round keeps; the frame at a round's start is found by the walk of the assignment -/
theorem range_over {α : Type} {n : Nat} {P : Program} {g : Operand} {ps : Array Tmp} {assign body : Code} {Q : Exit → Act → World → Prop} {a : Act} {w : World}
    (h1 : 1 ≤ n) {gf : Nat} {lb : Array Value} (hg : a.eval g = .func (.func gf) #[] lb) (eg : ∀ args w, (callFunc gf args).run P w = .ok (.enter gf args) w)
    {encs : α → Array Value} {U : List Nat} {S Sp : List α → Prop} {N : Nat} (hseq : SeqStopsK Fence.wide (n - 1) P gf lb encs (CUpd U) S Sp N w) (hps : ∀ x, (encs x).size = ps.size)
    (I : List α → World → Prop) (Ix : Code → List α → World → Prop) (hI : OwnFrom w.heap.size I) (hIx : ∀ c, OwnFrom w.heap.size (Ix c)) (h0 : I [] w)
    (hround : ∃ a₁ : α → Act, (∀ (l : Nat) (x : α) (W : World) (K : Act → World → Prop), K (a₁ x) W →
        assign.wpIn (Fence.wide.inRound l) (n - 1 - 1) P (Exit.then K (fun _ _ _ => False)) { tmps := (ps.zip (encs x)).foldl (fun t (p, v) => t.setIfInBounds p v) a.tmps, defers := [] } W) ∧
      (∀ (l : Nat) (pre : List α) (x : α) (W : World), I pre W → pre.length < N → body.wpIn (Fence.wide.inRound l) (n - 1 - 1) P (ownPostK (CUpd U) I Ix (pre ++ [x]) W) (a₁ x) W))
    (hdone : ∀ (D : Nat) (xs : List α) (W : World), w.heap.size ≤ D → S xs → I xs W → W.heap[D]? = some (.deferred (some [])) → Q .normal { a with defers := { target := .collected D, args := #[] } :: a.defers } W)
    (hstop : ∀ (D : Nat) (c : Code) (pre : List α) (W : World), w.heap.size ≤ D → Sp pre → Ix c pre W → W.heap[D]? = some (.deferred (some [])) → c.wpIn Fence.wide n P Q { a with defers := { target := .collected D, args := #[] } :: a.defers } W) :
    (Code.rangeFunc g ps assign body).wpIn Fence.wide n P Q a w := by
  obtain ⟨a₁, ha, hb⟩ := hround
  exact wpIn_rangeFunc_ownF rfl h1 hg trivial eg hseq (fun h k => h.trans k) (fun W l o o' _ hl ho _ => CUpd.putObj W l o o' hl ho) (Below.refl _ _) hps I Ix hI hIx h0 a₁ ha hb hdone hstop

end Go.Proofs.Ythjiiedpplimpaa
