/- Words for loops over an iterator: what a round keeps, said by the blocks that it may write. No condition. -/
import Derived.Test.YthjiiedpplimpaaRefRow2
import Derived.Test.YthjiiedpplimpaaSum
import Derived.Test.YthjiiedpplimpaaQuietRound
set_option linter.unusedSimpArgs false
set_option linter.unusedVariables false
set_option maxRecDepth 100000
namespace Go.Proofs.Ythjiiedpplimpaa
open Go.RowKit
open Go.Shelf
attribute [local go_sem] Oper.semAt_some

theorem eql_fn2 (f : Fn) (a c : Array Value) (w : World) : (binOp .eql 49 (.func f a c) .nilFunc).run Try.prog w = .ok (.bool false) w := by kernel_rfl

theorem keeps_upd {S : List Nat} {w w' : World} (h : Upd S w w') (hS : ∀ k ∈ S, ∃ vs t, Blk w k vs t) : KeepsOthers w w' :=
  ⟨h.size, fun k o hk ho => by
    have hlt := lt_of_block hk
    have hn : k ∉ S := fun hm => by
      obtain ⟨vs, t, hb⟩ := hS k hm
      unfold Blk at hb
      rw [hb] at hk
      injection hk with hk
      subst hk
      simp [Obj.isCells] at ho
    rw [h.block k hlt hn]; exact hk⟩

theorem ownFrom_cupd {β : Type} {B : Nat} {S : List Nat} {w₀ : World} : OwnFrom B (fun (_ : β) W => CUpd S w₀ W) := by
  intro _ W W' row hs hg hr
  refine ⟨hg.os.trans hs.os, hg.tape.trans hs.tape, hg.output.trans hs.output, Nat.le_trans hs.size hg.size, fun k c t f hn hk => ?_⟩
  have hk2 := hs.block k c t f hn hk
  rw [hg.block k (lt_of_block hk2) (fun e => by
    obtain ⟨_, o, ho, hc⟩ := hr k e.symm
    rw [hk2] at ho
    injection ho with ho
    subst ho
    simp [Obj.isCells] at hc)]
  exact hk2

theorem ownFrom_blk {β : Type} {B b : Nat} {t : TypeId} (f : β → List Value) : OwnFrom B (fun (s : β) W => Blk W b (f s) t) := by
  intro s W W' row hs hg hr
  have hk2 : W.heap[b]? = _ := hs
  unfold Blk
  rw [hg.block b (lt_of_block hk2) (fun e => by
    obtain ⟨_, o, ho, hc⟩ := hr b e.symm
    rw [hk2] at ho
    injection ho with ho
    subst ho
    simp [Obj.isCells] at hc)]
  exact hk2

theorem CUpd.mono {S T : List Nat} {a b : World} (h : CUpd S a b) (hS : ∀ x ∈ S, x ∈ T) : CUpd T a b :=
  ⟨h.os, h.tape, h.output, h.size, fun k c t f hn hk => h.block k c t f (fun hm => hn (hS k hm)) hk⟩

theorem RRow.cupd {S : List Nat} {w w' : World} {a b : Nat} {ws : List Int} {acc : Int} (h : RRow w a b ws acc) (k : CUpd S w w') (ha : a ∉ S) (hb : b ∉ S) : RRow w' a b ws acc :=
  let ⟨cap, h1, sp, h2, h3⟩ := h.head; ⟨⟨cap, h1.cupd k ha, sp, h2.cupd k hb, h3⟩, h.len1, h.len2, h.ne⟩



/-- the blocks of cells below n are as they were -/
structure CLow (n : Nat) (w w' : World) : Prop where
  size : w.heap.size ≤ w'.heap.size
  block : ∀ k c t f, k < n → w.heap[k]? = some (.cells c t f) → w'.heap[k]? = some (.cells c t f)

theorem CLow.refl (n : Nat) (w : World) : CLow n w w := ⟨Nat.le_refl _, fun _ _ _ _ _ h => h⟩
theorem CLow.trans {n : Nat} {a b c : World} (h : CLow n a b) (k : CLow n b c) : CLow n a c := ⟨Nat.le_trans h.size k.size, fun i c t f hn hi => k.block i c t f hn (h.block i c t f hn hi)⟩
theorem CUpd.low {n : Nat} {S : List Nat} {a b : World} (h : CUpd S a b) (hS : ∀ x ∈ S, n ≤ x) : CLow n a b :=
  ⟨h.size, fun k c t f hn hk => h.block k c t f (fun hm => by have := hS k hm; omega) hk⟩
theorem Upd.low {n : Nat} {S : List Nat} {a b : World} (h : Upd S a b) (hS : ∀ x ∈ S, n ≤ x) : CLow n a b := h.cupd.low hS
theorem Blk.low {n : Nat} {w w' : World} {b : Nat} {vs : List Value} {t : TypeId} (h : Blk w b vs t) (k : CLow n w w') (hn : b < n) : Blk w' b vs t := k.block b _ _ _ hn h
theorem RowAt.low {n : Nat} {w w' : World} {a b : Nat} {ws : List Int} {acc : Int} (h : RowAt w a b ws acc) (k : CLow n w w') (ha : a < n) (hb : b < n) : RowAt w' a b ws acc :=
  let ⟨cap, h1, sp, h2, h3⟩ := h.head; ⟨⟨cap, h1.low k ha, sp, h2.low k hb, h3⟩, h.len1, h.len2, h.ne⟩
theorem RRow.low {n : Nat} {w w' : World} {a b : Nat} {ws : List Int} {acc : Int} (h : RRow w a b ws acc) (k : CLow n w w') (ha : a < n) (hb : b < n) : RRow w' a b ws acc :=
  let ⟨cap, h1, sp, h2, h3⟩ := h.head; ⟨⟨cap, h1.low k ha, sp, h2.low k hb, h3⟩, h.len1, h.len2, h.ne⟩

end Go.Proofs.Ythjiiedpplimpaa
