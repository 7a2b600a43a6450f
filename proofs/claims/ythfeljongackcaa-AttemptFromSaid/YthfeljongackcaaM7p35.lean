/- The law's does, walked: Copy. No condition. The law's does, all kinds. No condition. The law's play: it begins. The conditions are sizes. What every law's row asks behind its walk, once for all: the call answers true, below the heap's old size nothing has turned, so the arguments read as they did. No condition. Arguments opened to what their cells hold: a slice of integers, of bools, of structs. No condition. Arguments opened with their reach: slices of structs whose fields are slices. No condition. -/
import Derived.Test.YthfeljongackcaaM7p34
import Derived.Test.YthfeljongackcaaM7p17
import Derived.Test.YthfeljongackcaaM7p00
import Derived.ProofKit
import Derived.OpenShut
import Derived.Deep.Grids
import Derived.Deep.Fields
import Derived.SizedLaws
set_option linter.unusedSimpArgs false
set_option linter.unusedVariables false
set_option maxRecDepth 100000
namespace Go.Proofs.Ythfeljongackcaa
open Go.RowKit
open Go.Maps

set_option maxHeartbeats 2000000 in
theorem does_copy {w0 W : World} {p : Nat} {X : SX} {Y : RX} {sh : Sh} {att ratt : Atts} {held : Bool} {tk : Int} (h : PS w0 p X Y sh att ratt held tk W) (hpar : tk % 2 = 0) (who dst addr word : Int) (hwho : -9223372036854775808 ≤ who ∧ who ≤ 9223372036854775807) (hdst : -9223372036854775808 ≤ dst ∧ dst ≤ 9223372036854775807) :
    Calls Try.prog 25 #[.pointer (some ⟨p, 0, none⟩), .agg (stepC 8 who dst addr word).toArray] W (DoesOk w0 p X Y) := by
  obtain ⟨W1, hW1⟩ : ∃ W1, W.alloc (.cells (stepC 8 who dst addr word).toArray 79) = W1 := ⟨_, rfl⟩
  have u1 : Upd [] W W1 := by rw [← hW1]; exact (Upd.refl [] _).alloc _
  have B1 : Blk W1 W.heap.size (stepC 8 who dst addr word) 79 := by rw [← hW1]; exact Blk.new W _ _
  replace h := h.free0 u1
  simp only [stepC] at hW1 ⊢
  clear u1
  refine calls_all fun K hK => ?_
  go_enter Try.func25, Try.ntmps25
  go_wp2_with fail
  clear hW1
  replace h := h.free0 ((Upd.refl [] W1).drew)
  replace B1 := B1.drew
  generalize W.heap.size = sb at *
  refine wp_region_br (fun W' => W'.cell? ⟨sb, 1, none⟩ = some (.int .i64 who) ∧ W'.cell? ⟨sb, 2, none⟩ = some (.int .i64 dst)) [0, 1, 3, 4, 2, 5, 6, 7] (by kernel_rfl) (by kernel_rfl) ⟨B1.cell 1 rfl, B1.cell 2 rfl⟩ ?_
  generalize W1.drew = W2 at h B1 ⊢
  repeat
    first
      | (refine wpB_skip rfl (by kernel_rfl) (by rfl) ?_)
      | ((refine wpB_take (v := ?_) rfl rfl (by kernel_rfl) (by rfl) ?_ ?_); rotate_left 1; (· ((intro w hSw; (try dsimp only at hSw); go_simp); try with_reducible rfl)))
    try simp only [Act.put, List.setIfInBounds_toArray, List.set_cons_zero, List.set_cons_succ]
  refine wpB_eff rfl (by kernel_rfl) (by rfl) (fun K2 hK2 => ?_)
  go_simp
  refine (place7_any who W2 hwho).mono ?_
  rintro e w' ⟨rfl, rfl⟩
  refine hK2.out _ _ ⟨B1.cell 1 rfl, B1.cell 2 rfl⟩ ?_
  clear hK2 K2
  refine wpB_eff rfl (by kernel_rfl) (by rfl) (fun K2 hK2 => ?_)
  go_simp
  refine (place7_any dst W2 hdst).mono ?_
  rintro e w' ⟨rfl, rfl⟩
  refine hK2.out _ _ ⟨B1.cell 1 rfl, B1.cell 2 rfl⟩ ?_
  clear hK2 K2
  repeat
    first
      | (refine wpB_skip rfl (by kernel_rfl) (by rfl) ?_)
      | ((refine wpB_take (v := ?_) rfl rfl (by kernel_rfl) (by rfl) ?_ ?_); rotate_left 1; (· ((intro w hSw; (try dsimp only at hSw); go_simp); try with_reducible rfl)))
    try simp only [Act.put, List.setIfInBounds_toArray, List.set_cons_zero, List.set_cons_succ]
  refine wpB_end (by kernel_rfl) (NoPanic.normal ?_)
  have k0 := B1.cell 0 rfl
  have HPAR := Lib.hid hpar
  have HSM := Lib.hid h.same
  have htk := h.tkw
  have P1 := h.pl
  clear h hpar
  obtain ⟨i, hi, hi0⟩ : ∃ i, pl3 who = i ∧ i < 3 := ⟨_, rfl, pl3_lt who⟩
  obtain ⟨j, hj, hj0⟩ : ∃ j, pl3 dst = j ∧ j < 3 := ⟨_, rfl, pl3_lt dst⟩
  rw [hi, hj]
  clear hi hj
  have hi3 : (i : Int) < 3 := by omega
  have hj3 : (j : Int) < 3 := by omega
  go_wp2_with fail
  replace P1 := P1.free0 ((Upd.refl [] W2).drew)
  refine wp_region_ordT (fun W' => W'.cell? ⟨p, 3 + i, none⟩ = some (.pointer (ptrO (att i))) ∧ W'.cell? ⟨p, 0, none⟩ = some (.pointer (some ⟨X.ra, 0, none⟩)) ∧ W'.cell? ⟨p, 1, none⟩ = some (.pointer (some ⟨X.ca, 0, none⟩))) [0, 1, 2, 3, 4, 5, 6, 7, 8, 9, 10, 11, 12, 13, 14, 15, 17, 18, 16, 19, 20] [20] (by kernel_rfl) (by kernel_rfl) ?_
  have hS := (show W2.drew.cell? ⟨p, 3 + i, none⟩ = some (.pointer (ptrO (att i))) ∧ W2.drew.cell? ⟨p, 0, none⟩ = some (.pointer (some ⟨X.ra, 0, none⟩)) ∧ W2.drew.cell? ⟨p, 1, none⟩ = some (.pointer (some ⟨X.ca, 0, none⟩)) from ⟨P1.head.cell (3 + i) (head_att hi0), P1.head.cell 0 rfl, P1.head.cell 1 rfl⟩)
  clear k0 B1
  generalize W2.drew = W3 at P1 hS ⊢
  repeat
    first
      | (refine wpT_skip rfl (by decide) (by assumption) (by rfl) ?_)
      | ((refine wpT_take (v := ?_) rfl (by decide) (by assumption) rfl (by rfl) ?_ ?_); rotate_left 1; (· ((intro w hSw; (try dsimp only at hSw); go_simp); try with_reducible rfl)))
    try simp only [Act.put, List.setIfInBounds_toArray, List.set_cons_zero, List.set_cons_succ]
  refine wpT_eff rfl (by kernel_rfl) (by rfl) (fun K2 hK2 => ?_)
  go_simp
  refine (pcopyA P1.m i j).mono ?_
  rintro e W4 ⟨o, rfl, m4, mv4, hs4⟩
  have P4 := P1.prog m4 mv4
  have hS4 := (show W4.cell? ⟨p, 3 + i, none⟩ = some (.pointer (ptrO (att i))) ∧ W4.cell? ⟨p, 0, none⟩ = some (.pointer (some ⟨X.ra, 0, none⟩)) ∧ W4.cell? ⟨p, 1, none⟩ = some (.pointer (some ⟨X.ca, 0, none⟩)) from ⟨P4.head.cell (3 + i) (head_att hi0), P4.head.cell 0 rfl, P4.head.cell 1 rfl⟩)
  refine hK2.out _ _ hS4 ?_
  have HS4 := Lib.hid hs4
  clear hK2 K2 hS m4 mv4 hs4 P1
  repeat
    first
      | (refine wpT_skip rfl (by decide) (by assumption) (by rfl) ?_)
      | ((refine wpT_take (v := ?_) rfl (by decide) (by assumption) rfl (by rfl) ?_ ?_); rotate_left 1; (· ((intro w hSw; (try dsimp only at hSw); go_simp); try with_reducible rfl)))
    try simp only [Act.put, List.setIfInBounds_toArray, List.set_cons_zero, List.set_cons_succ]
  have q3 := P4.head.cell (3 + j) (head_att hj0)
  have g3 := P4.head.free (3 + j)
  refine wpT_last rfl (by decide) (by kernel_rfl) (by rfl) (fun K2 hK2 => ?_)
  go_simp
  refine hK2.out _ _ ?_
  clear hK2 K2 q3 g3 hS4
  refine wpT_end (NoPanic.normal ?_)
  replace P4 := P4.put (3 + j) (.pointer (ptrO o))
  rw [head_set_att hj0] at P4
  generalize W4.setCell ⟨p, 3 + j, none⟩ (.pointer (ptrO o)) = W5 at P4 ⊢
  go_wp2_with fail
  replace P4 := P4.free0 ((Upd.refl [] W5).drew)
  refine wp_region_ordT (fun W' => W'.cell? ⟨p, 6 + i, none⟩ = some (.pointer (ptrO (ratt i)))) [0, 1, 2, 3, 4, 5, 6, 7, 9, 10, 8, 11, 12] [12] (by kernel_rfl) (by kernel_rfl) ?_
  have hS : W5.drew.cell? ⟨p, 6 + i, none⟩ = some (.pointer (ptrO (ratt i))) := P4.head.cell (6 + i) (head_ratt hi0)
  generalize W5.drew = W6 at P4 hS ⊢
  repeat
    first
      | (refine wpT_skip rfl (by decide) (by assumption) (by rfl) ?_)
      | ((refine wpT_take (v := ?_) rfl (by decide) (by assumption) rfl (by rfl) ?_ ?_); rotate_left 1; (· ((intro w hSw; (try dsimp only at hSw); go_simp); try with_reducible rfl)))
    try simp only [Act.put, List.setIfInBounds_toArray, List.set_cons_zero, List.set_cons_succ]
  refine wpT_eff rfl (by kernel_rfl) (by rfl) (fun K2 hK2 => ?_)
  go_simp
  refine (rcopyA P4.r i j).mono ?_
  rintro e W7 ⟨o2, rfl, m7, mv7, hs7⟩
  have P7 := P4.doc m7 mv7
  have hS7 : W7.cell? ⟨p, 6 + i, none⟩ = some (.pointer (ptrO (ratt i))) := P7.head.cell (6 + i) (head_ratt hi0)
  refine hK2.out _ _ hS7 ?_
  have HS7 := Lib.hid hs7
  clear hK2 K2 hS m7 mv7 hs7 P4
  repeat
    first
      | (refine wpT_skip rfl (by decide) (by assumption) (by rfl) ?_)
      | ((refine wpT_take (v := ?_) rfl (by decide) (by assumption) rfl (by rfl) ?_ ?_); rotate_left 1; (· ((intro w hSw; (try dsimp only at hSw); go_simp); try with_reducible rfl)))
    try simp only [Act.put, List.setIfInBounds_toArray, List.set_cons_zero, List.set_cons_succ]
  have q3 := P7.head.cell (6 + j) (head_ratt hj0)
  have g3 := P7.head.free (6 + j)
  refine wpT_last rfl (by decide) (by kernel_rfl) (by rfl) (fun K2 hK2 => ?_)
  go_simp
  refine hK2.out _ _ ?_
  clear hK2 K2 q3 g3 hS7
  refine wpT_end (NoPanic.normal ?_)
  replace P7 := P7.put (6 + j) (.pointer (ptrO o2))
  rw [head_set_ratt hj0] at P7
  generalize W7.setCell ⟨p, 6 + j, none⟩ (.pointer (ptrO o2)) = W8 at P7 ⊢
  have hoo : stO o = stO o2 := by rw [HS4.out, HS7.out]; exact HSM.out i
  have hn : (ptrO o).isNone = (ptrO o2).isNone := none_eq hoo
  have H8 : PS w0 p X Y sh (upd1 att j o) (upd1 ratt j o2) held tk W8 := ⟨P7, fun k => by
    by_cases hk : k = j
    · subst hk; rw [upd1_same, upd1_same]; exact hoo
    · rw [upd1_other _ _ hk, upd1_other _ _ hk]; exact HSM.out k, htk⟩
  go_wp2_with fail
  replace H8 := H8.free0 ((Upd.refl [] W8).drew)
  have E1 := eql_attp (ptrO o)
  have E2 := eql_rattp (ptrO o2)
  have c3 := H8.pl.head.cell (3 + j) (head_att hj0)
  have c6 := H8.pl.head.cell (6 + j) (head_ratt hj0)
  rw [upd1_same] at c3 c6
  generalize (ptrO o).isNone = b1 at E1 hn
  generalize (ptrO o2).isNone = b2 at E2 hn
  subst hn
  have hcc : (b1 == b1) = true := by simp
  refine wp_region_br (fun W' => W'.cell? ⟨p, 3 + j, none⟩ = some (.pointer (ptrO o)) ∧ W'.cell? ⟨p, 6 + j, none⟩ = some (.pointer (ptrO o2))) [0, 1, 2, 3, 4, 5, 6, 7, 8, 9, 10, 11, 12, 13, 14, 15, 16, 17, 18, 19, 20] (by kernel_rfl) (by kernel_rfl) ⟨c3, c6⟩ ?_
  have H := Lib.hid H8
  clear H8 P7 hoo c3 c6
  generalize W8.drew = W9 at H ⊢
  repeat
    first
      | (refine wpB_skip rfl (by kernel_rfl) (by rfl) ?_)
      | ((refine wpB_take (v := ?_) rfl rfl (by kernel_rfl) (by rfl) ?_ ?_); rotate_left 1; (· ((intro w hSw; (try dsimp only at hSw); go_simp); try with_reducible rfl)))
    try simp only [Act.put, List.setIfInBounds_toArray, List.set_cons_zero, List.set_cons_succ]
  refine wpB_eff rfl (by kernel_rfl) (by rfl) (fun K2 hK2 => ?_)
  go_simp
  refine (alike_code H.out j hj0).mono ?_
  rintro e Wa ⟨rfl, h4⟩
  have c3 := h4.pl.head.cell (3 + j) (head_att hj0)
  have c6 := h4.pl.head.cell (6 + j) (head_ratt hj0)
  rw [upd1_same] at c3 c6
  have H4 := Lib.hid h4
  clear h4
  refine hK2.out _ _ ⟨c3, c6⟩ ?_
  clear hK2 K2 c3 c6
  repeat
    first
      | (refine wpB_skip rfl (by kernel_rfl) (by rfl) ?_)
      | ((refine wpB_take (v := ?_) rfl rfl (by kernel_rfl) (by rfl) ?_ ?_); rotate_left 1; (· ((intro w hSw; (try dsimp only at hSw); go_simp); try with_reducible rfl)))
    try simp only [Act.put, List.setIfInBounds_toArray, List.set_cons_zero, List.set_cons_succ]
  refine wpB_end (by kernel_rfl) (NoPanic.normal ?_)
  go_wp2_with fail
  exact ⟨rfl, _, _, _, _, _, H4.out, HPAR.out⟩
end Go.Proofs.Ythfeljongackcaa
set_option linter.unusedSimpArgs false
set_option linter.unusedVariables false
set_option maxRecDepth 100000
namespace Go.Proofs.Ythfeljongackcaa
open Go.RowKit
theorem does_any {w0 W : World} {p : Nat} {X : SX} {Y : RX} {sh : Sh} {att ratt : Atts} {held : Bool} {tk : Int} (h : PS w0 p X Y sh att ratt held tk W) (hpar : tk % 2 = 0) (kind who dst addr word : Int) (hwho : -9223372036854775808 ≤ who ∧ who ≤ 9223372036854775807) (hdst : -9223372036854775808 ≤ dst ∧ dst ≤ 9223372036854775807) (ha : 0 ≤ addr ∧ addr < 18446744073709551616) (hv : 0 ≤ word ∧ word < 18446744073709551616) :
    Calls Try.prog 25 #[.pointer (some ⟨p, 0, none⟩), .agg (stepC kind who dst addr word).toArray] W (DoesOk w0 p X Y) := by
  by_cases h1 : kind = 1
  · subst h1; exact does_begin h hpar who dst addr word hwho hdst
  by_cases h7 : kind = 7
  · subst h7; exact does_again h hpar who dst addr word hwho hdst
  by_cases h8 : kind = 8
  · subst h8; exact does_copy h hpar who dst addr word hwho hdst
  by_cases h9 : kind = 9
  · subst h9; exact does_store h hpar who dst addr word hwho hdst ha hv
  by_cases h10 : kind = 10
  · subst h10; exact does_take h hpar who dst addr word hwho hdst
  by_cases h11 : kind = 11
  · subst h11; exact does_leave h hpar who dst addr word hwho hdst
  exact does_own h hpar kind who dst addr word ⟨by simpa using h1, by simpa using h7, by simpa using h8, by omega⟩ hwho hdst ha hv
end Go.Proofs.Ythfeljongackcaa
set_option linter.unusedSimpArgs false
set_option linter.unusedVariables false
set_option maxRecDepth 100000
namespace Go.Proofs.Ythfeljongackcaa
open Go.RowKit
open Go.Maps
/-- what a new row of the document's is -/
def RMade7 (w : World) (ws : List Int) (e : Ending) (w' : World) : Prop :=
  ∃ a b, e = .returned (.tuple #[.pointer (some ⟨a, 0, none⟩), .int .i64 0]) ∧ RRow w' a b ws 0 ∧ w.heap.size ≤ a ∧ w.heap.size ≤ b ∧ Upd [] w w'

theorem own_row7 {w w1 : World} {zs : List Int} {v : Value} (ho : w1.ownsRow w.heap.size 31 1 v zs.length (zs.map (Value.int .u64))) (hg : Upd [] w w1) (h1 : 1 ≤ zs.length) (h2 : zs.length ≤ 65536) :
    RRow (w1.alloc (.cells #[v, .int .u64 0] 159)) w1.heap.size (match v with | .slice (some a) _ _ => a.block | _ => 0) zs 0 ∧ w.heap.size ≤ (match v with | .slice (some a) _ _ => a.block | _ => 0) := by
  obtain ⟨g, c, rfl⟩ := own_some ho (by omega)
  obtain ⟨q1, q2, spare, q3, q4, q5⟩ := own_open ho
  exact ⟨⟨⟨c, Blk.new w1 [Value.slice (some ⟨g, 0, none⟩) zs.length c, .int .u64 0] 159, spare, q3.alloc _, q4⟩, h1, h2, by have := q3.lt; show w1.heap.size ≠ g; omega⟩, q1⟩

theorem rof7_ok (p : Option Addr) (cap : Nat) (zs : List Int) (w : World) (h : SlI w .u64 p zs) (hn : 1 ≤ zs.length) (hn2 : zs.length ≤ 65536) :
    Calls Try.prog 58 #[.slice p zs.length cap] w (RMade7 w zs) := by
  obtain ⟨i0, hi, hz0, hz1, hz2⟩ := info_parts info_u64
  have hz : zs ≠ [] := fun e => by subst e; simp at hn
  obtain ⟨ad, hp, hsrc⟩ := h.src hz
  subst hp
  have hd : decide ((zs.length : Int) < 1) = false := by simp; omega
  have hd2 : decide (65536 < (zs.length : Int)) = false := by simp; omega
  refine calls_all fun K hK => ?_
  go_enter Try.func58, Try.ntmps58
  go_wp2_with (first | (at_builtin; refine wpList_append_own _ rfl (.const (.slice none 0 0)) (.tmp 12) 48 rfl w.heap.size 31 i0 (.int .u64 0) 1 8 Try.underlying48 hi hz0 hz1 hz2 rfl (by decide) _ _ _ rfl (World.ownsRow_nil _ _ _ _) ad zs.length cap (zs.map (Value.int .u64)) rfl (by simp) hsrc (by intro u hu; simp at hu; obtain ⟨x, _, rfl⟩ := hu; rfl) (by unfold maxLen; omega) (by omega) (Nat.le_refl _) ?_; intro v1 w1 ho1 hg1 _; rw [Nat.zero_add, List.nil_append] at ho1; have u1 : Upd [] w w1 := Upd.own hg1; have R1 := own_row7 ho1 u1 hn hn2; obtain ⟨g1, c1, rfl⟩ := own_some ho1 (by omega)))
  exact ⟨_, _, rfl, R1.1, u1.size, R1.2, u1.alloc _⟩

theorem rof7_bad (p : Option Addr) (n cap : Nat) (w : World) (hn : n < 1 ∨ 65536 < n) (hm : n ≤ maxLen) :
    Calls Try.prog 58 #[.slice p n cap] w fun e w' => e = .returned (.tuple #[.pointer none, .int .i64 2]) ∧ w = w' := by
  unfold maxLen at hm
  rcases hn with hn | hn
  · obtain rfl : n = 0 := by omega
    refine calls_all fun K hK => ?_
    go_enter Try.func58, Try.ntmps58
    go_wp2
    all_goals first | exact ⟨rfl, rfl⟩ | rfl
  · have hd : decide ((n : Int) < 1) = false := by simp; omega
    have hd2 : decide (65536 < (n : Int)) = true := by simp; omega
    refine calls_all fun K hK => ?_
    go_enter Try.func58, Try.ntmps58
    go_wp2
    all_goals first | exact ⟨rfl, rfl⟩ | rfl


/-- a play that has begun -/
theorem PS.begun {w W : World} {p : Nat} {X : SX} {Y : RX} {sh : Sh} (hB : Blk W p (headP X Y (fun _ => none) (fun _ => none) false 0) 76) (hX : XAt W X sh) (hY : YAt W Y sh) (hXn : ∀ g ∈ X.foot, w.heap.size ≤ g) (hYn : ∀ g ∈ Y.foot, w.heap.size ≤ g) (hd : ∀ g ∈ X.foot, g ∉ Y.foot) (hpX : p ∉ X.foot) (hpY : p ∉ Y.foot) (hp : w.heap.size ≤ p) (u : Upd [] w W) :
    PS w p X Y sh (fun _ => none) (fun _ => none) false 0 W := by
  have f1 : ∀ g, Foot X.foot (fun _ => none) g → g ∈ X.foot := fun g hg => by rcases hg with k | ⟨_, _, _, _, e, _⟩; exact k; cases e
  have f2 : ∀ g, Foot Y.foot (fun _ => none) g → g ∈ Y.foot := fun g hg => by rcases hg with k | ⟨_, _, _, _, e, _⟩; exact k; cases e
  exact ⟨⟨hB, ⟨⟨hX, fun _ _ _ _ e => by (cases e), fun _ _ _ _ _ _ _ _ _ e => by (cases e), fun _ _ _ _ e => by (cases e), hXn, u⟩, fun _ _ _ _ e => by (cases e)⟩,
    ⟨⟨hY, fun _ _ _ _ e => by (cases e), fun _ _ _ _ _ _ _ _ _ e => by (cases e), fun _ _ _ _ e => by (cases e), hYn, u⟩, fun _ _ _ _ e => by (cases e)⟩, fun g hg hr => hd g (f1 g hg) (f2 g hr), ⟨fun h => hpX (f1 _ h), fun h => hpY (f2 _ h)⟩, hp⟩, fun _ => rfl, by omega⟩
/-- play's answer where there is a row -/
def Begun7 (w : World) (sh : Sh) (e : Ending) (W : World) : Prop := ∃ p X Y, e = .returned (.tuple #[.pointer (some ⟨p, 0, none⟩), .bool true]) ∧ PS w p X Y sh (fun _ => none) (fun _ => none) false 0 W
def Begun7No (w : World) (e : Ending) (W : World) : Prop := ∃ p, e = .returned (.tuple #[.pointer (some ⟨p, 0, none⟩), .bool true]) ∧ W.cell? ⟨p, 0, none⟩ = some (.pointer none) ∧ Upd [] w W
set_option maxHeartbeats 1000000 in
theorem play7_ok (w : World) (p : Option Addr) (zs : List Int) (cap : Nat) (c : Int) (h : SlI w .u64 p zs) (hz : ∀ v ∈ zs, 0 ≤ v ∧ v < 18446744073709551616) (hn : 1 ≤ zs.length) (hn2 : zs.length ≤ 65536) (hc : 0 ≤ c ∧ c < 18446744073709551616) :
    Calls Try.prog 24 #[.slice p zs.length cap, .int .u64 c] w (Begun7 w ⟨zs, c⟩) := by
  refine calls_all fun K hK => ?_
  go_enter Try.func24, Try.ntmps24
  go_wp2_with fail
  refine (of_ok p cap zs w h hn hn2).mono ?_
  rintro e W1 ⟨ra, rb, rfl, hR, hra, hrb, u1⟩
  go_wp2_with fail
  refine (rof7_ok p cap zs W1 (h.upd u1 (by simp)) hn hn2).mono ?_
  rintro e W2 ⟨qa, qb, rfl, hQ, hqa, hqb, u2⟩
  go_wp2_with fail
  refine (clkFrom c W2).mono ?_
  rintro e W3 ⟨ca, cr, cb, rfl, hC, k1, k2, k3, u3⟩
  have hX : XAt W3 ⟨ra, rb, ca, cr, cb⟩ ⟨zs, c⟩ := XAt.made (hR.upd u2 (by simp) (by simp)) hC u3 k1 k2 k3 ⟨hz, hc⟩
  have hQ3 := hQ.upd u3 (by simp) (by simp)
  have l1 := hR.lta
  have l2 := hR.ltb
  have l3 := hQ.lta
  have l4 := hQ.ltb
  have s1 := u1.size
  have s2 := u2.size
  have s3 := u3.size
  have U := (u1.trans u2).trans u3
  have hne := hQ.ne
  clear hR hQ u1 u2 u3
  have HC := Lib.hid hC
  have l5 := hC.ltc
  have l6 := hC.lta
  have l7 := hC.ltb
  clear hC
  go_wp2_with (first | (go_at_call 12; refine (num07 _ _).mono ?_; rintro e w' ⟨rfl, rfl⟩))
  obtain ⟨Y, hYe⟩ : ∃ Y : RX, Y = ⟨W3.heap.size, qa, qb⟩ := ⟨_, rfl⟩
  obtain ⟨X, hXe⟩ : ∃ X : SX, X = ⟨ra, rb, ca, cr, cb⟩ := ⟨_, rfl⟩
  have B1 := (Blk.new W3 [.pointer (some ⟨qa, 0, none⟩), .int .u64 c] 127)
  have B2 := Blk.new (W3.alloc (.cells [Value.pointer (some ⟨qa, 0, none⟩), .int .u64 c].toArray 127)) (headP X Y (fun _ => none) (fun _ => none) false 0) 76
  subst hYe
  subst hXe
  have hs : (W3.alloc (.cells [Value.pointer (some ⟨qa, 0, none⟩), .int .u64 c].toArray 127)).heap.size = W3.heap.size + 1 := by simp
  have hu : Upd [] W3 ((W3.alloc (.cells [Value.pointer (some ⟨qa, 0, none⟩), .int .u64 c].toArray 127)).alloc (.cells (headP ⟨ra, rb, ca, cr, cb⟩ ⟨W3.heap.size, qa, qb⟩ (fun _ => none) (fun _ => none) false 0).toArray 76)) := ((Upd.refl [] _).alloc _).alloc _
  rw [hs] at B2
  refine ⟨_, _, _, rfl, PS.begun B2 (hX.upd hu (by simp)) ⟨0, B1.alloc _, hQ3.upd hu (by simp) (by simp), ⟨hz, hc⟩⟩ ?_ ?_ ?_ ?_ ?_ ?_ (U.trans hu)⟩
  · simp [SX.foot]; first | done | omega
  · simp [RX.foot]; first | done | omega
  · simp [SX.foot, RX.foot]; first | done | omega
  · simp [SX.foot]; first | done | omega
  · simp [RX.foot]; first | done | omega
  · omega
theorem play7_bad (w : World) (p : Option Addr) (n cap : Nat) (c : Int) (hn : n < 1 ∨ 65536 < n) (hm : n ≤ maxLen) :
    Calls Try.prog 24 #[.slice p n cap, .int .u64 c] w (Begun7No w) := by
  refine calls_all fun K hK => ?_
  go_enter Try.func24, Try.ntmps24
  go_wp2_with fail
  refine (of_bad p n cap w hn hm).mono ?_
  rintro e w' ⟨rfl, rfl⟩
  go_wp2_with fail
  refine (rof7_bad p n cap w hn hm).mono ?_
  rintro e w' ⟨rfl, rfl⟩
  go_wp2_with fail
  refine (clkFrom c w).mono ?_
  rintro e W3 ⟨ca, cr, cb, rfl, hC, k1, k2, k3, u3⟩
  clear hC k1 k2 k3
  go_wp2_with (first | (go_at_call 12; refine (num07 _ _).mono ?_; rintro e w' ⟨rfl, rfl⟩))
  have B2 := Blk.new (W3.alloc (.cells [Value.pointer none, .int .u64 c].toArray 127)) [.pointer none, .pointer (some ⟨ca, 0, none⟩), .pointer (some ⟨W3.heap.size, 0, none⟩), .pointer none, .pointer none, .pointer none, .pointer none, .pointer none, .pointer none, .bool false, .int .u64 0] 76
  rw [World.size_alloc] at B2
  exact ⟨_, rfl, B2.cell 0 rfl, (u3.alloc _).alloc _⟩
end Go.Proofs.Ythfeljongackcaa
set_option linter.unusedSimpArgs false
set_option linter.unusedVariables false
set_option maxRecDepth 100000
namespace Go.Proofs.Ythfeljongackcaa
open Go.ChangeShapes Go.WideShapes Go.ChangeAt Go.RowKit

theorem law_own : ownKnob Try.prog.godebug = none := by kernel_rfl
theorem law_laidOut : laidOutB Try.prog = true := by kernel_rfl

theorem trodAll_below {H : Type} {enc : TypeId × Value → H} {P : Program} (hl : laidOutB P = true) {W W' : World} (hB : Below W.heap.size W W') :
    ∀ (ts : List TypeId) (vs : List Value) (ds : List (DataW H)) (ps : List MemPlace), (∀ t ∈ ts, P.readableRec t = true ∧ t < P.types.size) →
      DataW.TrodAll enc P W 0 (fun _ => true) true ts vs ds ps → (∀ x ∈ ps, x.block < W.heap.size) →
      DataW.TrodAll enc P W' 0 (fun b => decide (b < W.heap.size)) true ts vs ds ps := by
  intro ts
  induction ts with
  | nil =>
    intro vs ds ps _ h _
    obtain ⟨rfl, rfl, rfl⟩ := trodAll_nil h
    exact trodAll_mk0
  | cons t ts ih =>
    intro vs ds ps ht h hlt
    obtain ⟨v, vs', d, ds', p, q, rfl, rfl, rfl, hd, hr⟩ := trodAll_cons h
    exact trodAll_cons_mk (Below.trod hl (ht t (by simp)).1 (ht t (by simp)).2 hd hB (fun x hx => hlt x (by simp [hx]))) (ih vs' ds' q (fun t' h' => ht t' (by simp [h'])) hr (fun x hx => hlt x (by simp [hx])))

theorem law_post {H : Type} {enc : TypeId × Value → H} {f : Func} {s : ChangeSpec} {W W' : World} {args : Array Value} {ds gs : List (DataW H)} {before : List MemPlace}
    (hres : f.resultTypes = #[4]) (hpar : ∀ t ∈ f.params.toList, Try.prog.readableRec t = true ∧ t < Try.prog.types.size) (hsv : s.vars = [])
    (hfn : s.fn H (ds ++ gs) = { results := [.lit (.bool true)], args := ds })
    (hW : DataW.Whole enc Try.prog f.params.toList s.vars false W args.toList ds gs before) (hB : Below W.heap.size W W') :
    s.post enc Try.prog f false true false false W args (.bool true) W' := by
  have hW0 := hW
  obtain ⟨p, q, hA, hV, hpq, hfz, hnd⟩ := hW
  have hlt : ∀ x ∈ p, x.block < W.heap.size := fun x hx => by simpa using hW0.lt x (by rw [hpq]; simp [hx])
  refine ⟨ds, gs, before, [], p, [], hW0, ?_, ?_, ?_, hB.frame _, fun h => by cases h⟩
  · rw [hres, hfn]
    exact trodAll_mk1 (shut_bool Try.underlying4 true)
  · rw [hfn]
    exact trodAll_below law_laidOut hB _ _ _ _ hpar hA hlt
  · rw [hsv, hfn]
    rfl

end Go.Proofs.Ythfeljongackcaa
set_option linter.unusedSimpArgs false
set_option linter.unusedVariables false
set_option maxRecDepth 100000
namespace Go.Proofs.Ythfeljongackcaa
open Go.ChangeShapes Go.WideShapes Go.ChangeAt Go.RowKit Go.Deep

section
variable {H : Type} {enc : TypeId × Value → H} {P : Program} {w : World} {base : Nat} {held : Bool}

theorem spot_none {a : Addr} {v : Value} (h : w.cell? a = some v) : a.spot = none := by
  unfold World.cell? at h
  split at h
  · split at h
    · cases h
    · rename_i hs; simpa using hs
  · cases h

theorem addr_eta {a : Addr} (h : a.spot = none) : a = ⟨a.block, a.off, none⟩ := by cases a; simp at h; subst h; rfl

/-- a slice of integers that came in -/
theorem open_sl_ints {t e : TypeId} {k : IntKind} {r : Reach} {b0 : Nat} {v : Value} {d : DataW H} {ps : List MemPlace} (ht : P.underlying t = some (.slice e)) (he : P.underlying e = some (.int k)) (hc : P.cellsOf e = 1)
    (hval : Value.okWide P w r b0 t v) (h : DataW.Trod enc P w base (fun _ => true) held t v d ps) :
    ∃ (p : Option Addr) (cap : Nat) (zs : List Int), v = .slice p zs.length cap ∧ SlI w k p zs ∧ (∀ n ∈ zs, (Lit.int k n).wf = true) ∧ zs.length ≤ cap ∧ cap ≤ maxLen ∧ (∀ b o, p = some ⟨b, o, none⟩ → zs ≠ [] → b < w.heap.size) := by
  obtain ⟨p, len, cap, rfl⟩ := okWide_slice ht hval
  obtain ⟨fuel, hf⟩ := h
  rcases open_ints ht he hc hf with ⟨h0, _⟩ | ⟨a, l, c, zs, hcs, _, hlc, hm, hl, _, hcell, hwf⟩
  · simp [Value.cells] at h0
    obtain ⟨rfl, rfl, rfl⟩ := h0
    exact ⟨none, 0, [], rfl, SlI.nil _ _ _, by simp, by simp, by simp [maxLen], by simp⟩
  · simp [Value.cells] at hcs
    obtain ⟨rfl, rfl, rfl⟩ := hcs
    simp only [if_true] at hl
    have hlen : (zs.take len).length = len := by simp; omega
    have hget : ∀ i, i < len → wd (zs.take len) i = zs.getD i 0 := by intro i hi; simp [wd, hi]
    have hsp : 0 < len → a.spot = none := fun hp => by
      have := hcell 0 (by omega)
      rw [show a.add 0 = a from rfl] at this
      exact spot_none this
    refine ⟨some a, cap, zs.take len, by rw [hlen], ⟨fun hne => ?_, fun b o e i hi => ?_⟩, fun n hn => hwf n (List.mem_of_mem_take hn), by omega, hm, fun b o e hne => ?_⟩
    · have : 0 < len := by rcases Nat.eq_zero_or_pos len with h0 | h0; subst h0; simp at hne; exact h0
      exact ⟨a.block, a.off, by rw [← addr_eta (hsp this)]⟩
    · rw [hlen] at hi
      rw [hget i hi]
      have := hcell i (by omega)
      simp at e
      rw [e, addr_add] at this
      exact this
    · have : 0 < len := by rcases Nat.eq_zero_or_pos len with h0 | h0; subst h0; simp at hne; exact h0
      have hc0 := hcell 0 (by omega)
      simp at e
      rw [show a.add 0 = a from rfl, e] at hc0
      exact World.block_lt_of_cell? w _ hc0

/-- the reach of a slice among the arguments -/
theorem slice_reach {t e : TypeId} {ts : List TypeId} {ds : List (DataW H)} {j : Nat} {p : Option Addr} {len cap : Nat} {d : DataW H} {ps : List MemPlace} (ht : P.underlying t = some (.slice e)) {w' : World}
    (h : DataW.Trod enc P w' base (fun _ => true) held t (.slice p len cap) d ps) (hw : (DataW.weightsEach P ts ds).all (· ≤ reachBytes) = true) (hj : ts[j]? = some t) (hd : ds[j]? = some d) (n : Nat) (hn : P.bytesOf e = n) : cap * n ≤ 140737488351232 := by
  subst hn
  obtain ⟨fuel, hf⟩ := h
  rcases open_slice ht hf with ⟨h0, _⟩ | ⟨a, l, c, m, _, D, Pl, hcs, _, hlc, hm, hmm, hx, _⟩
  · simp [Value.cells] at h0
    obtain ⟨rfl, rfl, rfl⟩ := h0
    simp
  · simp [Value.cells] at hcs
    obtain ⟨rfl, rfl, rfl⟩ := hcs
    simp only [if_true] at hmm
    subst hmm
    have hd' := (Prod.mk.inj hx).1
    rw [hd'] at hd
    have := sized_slice hw hj hd ht
    simp only [List.length_map, List.length_range, reachBytes] at this
    rw [show len + (m - len) = m by omega] at this
    omega

/-- v is a slice that reads as these cells -/
structure SlV (w : World) (p : Option Addr) (n : Nat) (V : Nat → Value) : Prop where
  ne : 0 < n → ∃ b o, p = some ⟨b, o, none⟩
  cells : ∀ b o, p = some ⟨b, o, none⟩ → ∀ i, i < n → w.cell? ⟨b, o + i, none⟩ = some (V i)

theorem SlV.lt {w : World} {p : Option Addr} {n : Nat} {V : Nat → Value} (h : SlV w p n V) (hn : 0 < n) {b o : Nat} (e : p = some ⟨b, o, none⟩) : b < w.heap.size :=
  World.block_lt_of_cell? w _ (h.cells b o e 0 hn)

theorem SlV.below {w w' : World} {p : Option Addr} {n : Nat} {V : Nat → Value} (h : SlV w p n V) (hu : Below w.heap.size w w') : SlV w' p n V :=
  ⟨h.ne, fun b o e i hi => (hu.cell (p := ⟨b, o + i, none⟩) (h.lt (by omega) e)).trans (h.cells b o e i hi)⟩

theorem SlI.slv {k : IntKind} {p : Option Addr} {zs : List Int} (h : SlI w k p zs) : SlV w p zs.length (fun i => .int k (wd zs i)) :=
  ⟨fun hn => h.ne (List.length_pos_iff.1 hn), h.cells⟩

/-- a slice of bools that came in -/
theorem open_sl_bools {t e : TypeId} {r : Reach} {b0 : Nat} {v : Value} {d : DataW H} {ps : List MemPlace} (ht : P.underlying t = some (.slice e)) (he : P.underlying e = some .bool) (hc : P.cellsOf e = 1)
    (hval : Value.okWide P w r b0 t v) (h : DataW.Trod enc P w base (fun _ => true) held t v d ps) :
    ∃ (p : Option Addr) (n cap : Nat) (B : Nat → Bool), v = .slice p n cap ∧ SlV w p n (fun i => .bool (B i)) ∧ n ≤ cap ∧ cap ≤ maxLen := by
  obtain ⟨p, len, cap, rfl⟩ := okWide_slice ht hval
  obtain ⟨fuel, hf⟩ := h
  rcases open_bools ht he hc hf with ⟨h0, _⟩ | ⟨a, l, c, B, hcs, _, hlc, hm, _, hcell⟩
  · simp [Value.cells] at h0
    obtain ⟨rfl, rfl, rfl⟩ := h0
    exact ⟨none, 0, 0, fun _ => false, rfl, ⟨fun h => absurd h (by simp), fun _ _ e => by simp at e⟩, by simp, by simp [maxLen]⟩
  · simp [Value.cells] at hcs
    obtain ⟨rfl, rfl, rfl⟩ := hcs
    refine ⟨some a, len, cap, B, rfl, ⟨fun hp => ?_, fun b o e i hi => ?_⟩, hlc, hm⟩
    · have := hcell 0 (by omega)
      rw [show a.add 0 = a from rfl] at this
      exact ⟨a.block, a.off, by rw [← addr_eta (spot_none this)]⟩
    · have := hcell i (by omega)
      simp at e
      rw [e, addr_add] at this
      exact this

theorem open_slice_fields {spare : Nat → Bool} {t e : TypeId} {fs : Array Field} {fuel : Nat} {cs : List Value} {x : DataW H × List MemPlace} (ht : P.underlying t = some (.slice e)) (he : P.underlying e = some (.struct fs))
    (hone : oneCellFields P fs = true) (hC : P.cellsOf e = fs.size) (h : DataW.trod enc P w base spare held fuel t cs = some x) :
    (cs = [.slice none 0 0] ∧ x = (.nil, [])) ∨
    ∃ (a : Addr) (len cap m : Nat) (D : Nat → DataW H) (Pl : Nat → List MemPlace), cs = [.slice (some a) len cap] ∧ base ≤ a.block ∧ len ≤ cap ∧ cap ≤ maxLen ∧ m = (if spare a.block then cap else len) ∧
      x = (.slice ((List.range len).map D) ((List.range (m - len)).map fun j => D (len + j)), MemPlace.row a (m * fs.size) ++ (List.range m).flatMap Pl) ∧
      ∀ i, i < m → ∃ (ys : List (DataW H × List MemPlace)) (n : Nat), D i = .agg (ys.map (·.1)) ∧ Pl i = ys.flatMap (·.2) ∧ ys.length = fs.size ∧
        ∀ (j : Nat) (f : Field), fs[j]? = some f → ∃ (v : Value) (y : DataW H × List MemPlace), w.cell? (a.add (i * fs.size + j)) = some v ∧ ys[j]? = some y ∧ DataW.trod enc P w base spare held n f.type [v] = some y := by
  rcases open_slice ht h with h0 | ⟨a, len, cap, m, n, D, Pl, hcs, hb, hl, hm, hmm, hx, hi⟩
  · exact .inl h0
  · refine .inr ⟨a, len, cap, m, D, Pl, hcs, hb, hl, hm, hmm, by rw [hC] at hx; exact hx, fun i him => ?_⟩
    obtain ⟨cs', hc, ht'⟩ := hi i him
    rw [hC] at hc
    obtain ⟨ys, n', hn', hy, hlen, hyl, hf⟩ := DataW.trod_struct he ht'
    obtain ⟨_, hcl, hat⟩ := World.cells?_some hc
    simp only [Prod.mk.injEq] at hy
    refine ⟨ys, n', hy.1, hy.2, hyl, fun j f hj => ?_⟩
    obtain ⟨ho, hk⟩ := hone_of hone j f hj
    have hjl : j < fs.size := (Array.getElem?_eq_some_iff.1 hj).1
    have hcell := hat j hjl
    have hv : cs'[j]? = some (cs'[j]'(by omega)) := List.getElem?_eq_getElem (by omega)
    have h1 := hf j f hj
    rw [ho, hk] at h1
    have hone' : (cs'.drop j).take 1 = [cs'[j]'(by omega)] := by
      rw [List.drop_eq_getElem_cons (by omega)]
      rfl
    rw [hone'] at h1
    have hys : ys[j]? = some (ys[j]'(by omega)) := List.getElem?_eq_getElem (by omega)
    refine ⟨_, _, ?_, hys, h1.trans hys⟩
    rw [← Go.Deep.add_add, hcell, hv]

/-- a slice of structs of one-cell fields that came in: each cell's value is one of its field's type -/
theorem open_sl_structs {t e : TypeId} {fs : Array Field} {r : Reach} {b0 : Nat} {v : Value} {d : DataW H} {ps : List MemPlace} (ht : P.underlying t = some (.slice e)) (he : P.underlying e = some (.struct fs))
    (hone : oneCellFields P fs = true) (hC : P.cellsOf e = fs.size) (hpos : 0 < fs.size)
    (hval : Value.okWide P w r b0 t v) (h : DataW.Trod enc P w base (fun _ => true) held t v d ps) :
    ∃ (p : Option Addr) (n cap : Nat) (V : Nat → Value), v = .slice p n cap ∧ SlV w p (n * fs.size) V ∧ n ≤ cap ∧ cap ≤ maxLen ∧
      ∀ i, i < n → ∀ (j : Nat) (f : Field), fs[j]? = some f → ∃ (m : Nat) (y : DataW H × List MemPlace), DataW.trod enc P w base (fun _ => true) held m f.type [V (i * fs.size + j)] = some y := by
  obtain ⟨p, len, cap, rfl⟩ := okWide_slice ht hval
  obtain ⟨fuel, hf⟩ := h
  rcases open_slice_fields ht he hone hC hf with ⟨h0, _⟩ | ⟨a, l, c, m, D, Pl, hcs, _, hlc, hm, hmm, _, hcell⟩
  · simp [Value.cells] at h0
    obtain ⟨rfl, rfl, rfl⟩ := h0
    exact ⟨none, 0, 0, fun _ => undef, rfl, ⟨fun h => absurd h (by simp), fun _ _ e => by simp at e⟩, by simp, by simp [maxLen], fun i hi => by omega⟩
  · simp [Value.cells] at hcs
    obtain ⟨rfl, rfl, rfl⟩ := hcs
    simp only [if_true] at hmm
    subst hmm
    have hall : ∀ q, q < len * fs.size → ∃ v, w.cell? (a.add q) = some v := by
      intro q hq
      have h1 : q / fs.size < len := Nat.div_lt_of_lt_mul (by rw [Nat.mul_comm]; exact hq)
      have h2 : q % fs.size < fs.size := Nat.mod_lt _ hpos
      obtain ⟨ys, n', _, _, _, hj⟩ := hcell (q / fs.size) (by omega)
      obtain ⟨v, y, hv, _, _⟩ := hj (q % fs.size) fs[q % fs.size] (by simp [h2])
      have e : q / fs.size * fs.size + q % fs.size = q := by rw [Nat.mul_comm]; exact Nat.div_add_mod q fs.size
      rw [e] at hv
      exact ⟨v, hv⟩
    have hsp : ∀ q, q < len * fs.size → w.cell? (a.add q) = some ((w.cell? (a.add q)).getD undef) := by
      intro q hq
      obtain ⟨v, hv⟩ := hall q hq
      rw [hv]; rfl
    refine ⟨some a, len, m, fun q => (w.cell? (a.add q)).getD undef, rfl, ⟨fun hp => ?_, fun b o e i hi => ?_⟩, hlc, hm, fun i hi j f hj => ?_⟩
    · have := hsp 0 hp
      rw [show a.add 0 = a from rfl] at this
      exact ⟨a.block, a.off, by rw [← addr_eta (spot_none this)]⟩
    · have := hsp i hi
      simp at e
      rw [e, addr_add] at this
      simp only [e, addr_add]
      exact this
    · obtain ⟨ys, n', _, _, _, hj'⟩ := hcell i (by omega)
      obtain ⟨v, y, hv, _, hy⟩ := hj' j f hj
      exact ⟨n', y, by simp only [hv, Option.getD_some]; exact hy⟩

end
end Go.Proofs.Ythfeljongackcaa
set_option linter.unusedSimpArgs false
set_option linter.unusedVariables false
set_option maxRecDepth 100000
namespace Go.Proofs.Ythfeljongackcaa
open Go.RowKit
open Go.ChangeShapes Go.WideShapes Go.ChangeAt Go.Deep

section
variable {H : Type} {enc : TypeId × Value → H} {P : Program} {w : World} {base : Nat} {held : Bool}

/-- each string, slice and map within is within the reach -/
def Sized (P : Program) (t : TypeId) (d : DataW H) : Prop := ∀ n ∈ d.weights P t, n ≤ reachBytes

theorem weightsAll_mem {e : TypeId} {l : List (DataW H)} {d : DataW H} (hd : d ∈ l) {n : Nat} (hn : n ∈ d.weights P e) : n ∈ DataW.weightsAll P e l := by
  induction l with
  | nil => cases hd
  | cons a r ih =>
    simp only [DataW.weightsAll, List.mem_append]
    rcases List.mem_cons.1 hd with rfl | h
    · exact .inl hn
    · exact .inr (ih h)

theorem Sized.arg {ts : List TypeId} {ds : List (DataW H)} {j : Nat} {t : TypeId} {d : DataW H} (h : (DataW.weightsEach P ts ds).all (· ≤ reachBytes) = true) (ht : ts[j]? = some t) (hd : ds[j]? = some d) : Sized P t d := fun n hn => by
  have := List.all_eq_true.1 h _ (DataW.weights_mem_each ht hd n hn)
  simpa using this

/-- a slice of integers within a datum -/
theorem open_ints_in {t e : TypeId} {k : IntKind} {fuel : Nat} {v : Value} {y : DataW H × List MemPlace} (ht : P.underlying t = some (.slice e)) (he : P.underlying e = some (.int k)) (hc : P.cellsOf e = 1)
    (h : DataW.trod enc P w base (fun _ => true) held fuel t [v] = some y) (hs : Sized P t y.1) (n : Nat) (hn : P.bytesOf e = n) :
    ∃ (p : Option Addr) (cap : Nat) (zs : List Int), v = .slice p zs.length cap ∧ SlI w k p zs ∧ (∀ n ∈ zs, (Lit.int k n).wf = true) ∧ zs.length ≤ cap ∧ cap ≤ maxLen ∧ cap * n ≤ 140737488351232 ∧ (∀ b o, p = some ⟨b, o, none⟩ → zs ≠ [] → b < w.heap.size) := by
  subst hn
  rcases open_ints ht he hc h with ⟨h0, _⟩ | ⟨a, l, c, zs, hcs, _, hlc, hm, hl, hy, hcell, hwf⟩
  · simp at h0
    subst h0
    exact ⟨none, 0, [], rfl, SlI.nil _ _ _, by simp, by simp, by simp [maxLen], by simp, by simp⟩
  · simp at hcs
    subst hcs
    simp only [if_true] at hl
    have hlen : (zs.take l).length = l := by simp; omega
    have hget : ∀ i, i < l → wd (zs.take l) i = zs.getD i 0 := by intro i hi; simp [wd, hi]
    have hsp : 0 < l → a.spot = none := fun hp => by
      have := hcell 0 (by omega)
      rw [show a.add 0 = a from rfl] at this
      exact spot_none this
    have hb : c * P.bytesOf e ≤ 140737488351232 := by
      have h1 := hs ((lits (H := H) k (zs.take l)).length * P.bytesOf e + (lits (H := H) k (zs.drop l)).length * P.bytesOf e) (by rw [hy]; simp only [DataW.weights, ht, ← Nat.add_mul]; exact List.mem_cons_self)
      rw [← Nat.add_mul] at h1
      have h2 : (lits (H := H) k (zs.take l)).length + (lits (H := H) k (zs.drop l)).length = c := by simp [lits]; omega
      rw [h2] at h1
      simpa [reachBytes] using h1
    refine ⟨some a, c, zs.take l, by rw [hlen], ⟨fun hne => ?_, fun b o e i hi => ?_⟩, fun n hn => hwf n (List.mem_of_mem_take hn), by omega, hm, hb, fun b o e hne => ?_⟩
    · have : 0 < l := by rcases Nat.eq_zero_or_pos l with h0 | h0; subst h0; simp at hne; exact h0
      exact ⟨a.block, a.off, by rw [← addr_eta (hsp this)]⟩
    · rw [hlen] at hi
      rw [hget i hi]
      have := hcell i (by omega)
      simp at e
      rw [e, addr_add] at this
      exact this
    · have : 0 < l := by rcases Nat.eq_zero_or_pos l with h0 | h0; subst h0; simp at hne; exact h0
      have hc0 := hcell 0 (by omega)
      simp at e
      rw [show a.add 0 = a from rfl, e] at hc0
      exact World.block_lt_of_cell? w _ hc0

/-- a slice of structs of one-cell fields that came in: each cell's value is one of its field's type, within the reach -/
theorem open_sl_structs2 {t e : TypeId} {fs : Array Field} {fuel : Nat} {v : Value} {y0 : DataW H × List MemPlace} (ht : P.underlying t = some (.slice e)) (he : P.underlying e = some (.struct fs))
    (hone : oneCellFields P fs = true) (hC : P.cellsOf e = fs.size) (hpos : 0 < fs.size) (h : DataW.trod enc P w base (fun _ => true) held fuel t [v] = some y0) (hs : Sized P t y0.1) :
    ∃ (p : Option Addr) (n cap : Nat) (V : Nat → Value), v = .slice p n cap ∧ SlV w p (n * fs.size) V ∧ n ≤ cap ∧ cap ≤ maxLen ∧ cap * P.bytesOf e ≤ 140737488351232 ∧
      ∀ i, i < n → ∀ (j : Nat) (f : Field), fs[j]? = some f → ∃ (m : Nat) (y : DataW H × List MemPlace), DataW.trod enc P w base (fun _ => true) held m f.type [V (i * fs.size + j)] = some y ∧ Sized P f.type y.1 := by
  rcases open_slice_fields ht he hone hC h with ⟨h0, _⟩ | ⟨a, l, c, m, D, Pl, hcs, _, hlc, hm, hmm, hx, hcell⟩
  · simp at h0
    subst h0
    exact ⟨none, 0, 0, fun _ => undef, rfl, ⟨fun h => absurd h (by simp), fun _ _ e => by simp at e⟩, by simp, by simp [maxLen], by simp, fun i hi => by omega⟩
  · simp at hcs
    subst hcs
    simp only [if_true] at hmm
    subst hmm
    have hy1 : y0.1 = .slice ((List.range l).map D) ((List.range (m - l)).map fun j => D (l + j)) := by rw [hx]
    have hb : m * P.bytesOf e ≤ 140737488351232 := by
      have h1 := hs (((List.range l).map D).length * P.bytesOf e + ((List.range (m - l)).map fun j => D (l + j)).length * P.bytesOf e) (by rw [hy1]; simp only [DataW.weights, ht, ← Nat.add_mul]; exact List.mem_cons_self)
      rw [← Nat.add_mul] at h1
      simp only [List.length_map, List.length_range, reachBytes] at h1
      rw [show l + (m - l) = m by omega] at h1
      omega
    have hall : ∀ q, q < l * fs.size → ∃ v, w.cell? (a.add q) = some v := by
      intro q hq
      have h1 : q / fs.size < l := Nat.div_lt_of_lt_mul (by rw [Nat.mul_comm]; exact hq)
      have h2 : q % fs.size < fs.size := Nat.mod_lt _ hpos
      obtain ⟨ys, n', _, _, _, hj⟩ := hcell (q / fs.size) (by omega)
      obtain ⟨v, y, hv, _, _⟩ := hj (q % fs.size) fs[q % fs.size] (by simp [h2])
      have e : q / fs.size * fs.size + q % fs.size = q := by rw [Nat.mul_comm]; exact Nat.div_add_mod q fs.size
      rw [e] at hv
      exact ⟨v, hv⟩
    have hsp : ∀ q, q < l * fs.size → w.cell? (a.add q) = some ((w.cell? (a.add q)).getD undef) := by
      intro q hq
      obtain ⟨v, hv⟩ := hall q hq
      rw [hv]; rfl
    refine ⟨some a, l, m, fun q => (w.cell? (a.add q)).getD undef, rfl, ⟨fun hp => ?_, fun b o e i hi => ?_⟩, hlc, hm, hb, fun i hi j f hj => ?_⟩
    · have := hsp 0 hp
      rw [show a.add 0 = a from rfl] at this
      exact ⟨a.block, a.off, by rw [← addr_eta (spot_none this)]⟩
    · have := hsp i hi
      simp at e
      rw [e, addr_add] at this
      simp only [e, addr_add]
      exact this
    · obtain ⟨ys, n', hD, _, _, hj'⟩ := hcell i (by omega)
      obtain ⟨v, y, hv, hyj, hy⟩ := hj' j f hj
      refine ⟨n', y, by simp only [hv, Option.getD_some]; exact hy, fun n hn => hs n ?_⟩
      rw [hy1]
      simp only [DataW.weights, ht]
      refine List.mem_cons_of_mem _ (List.mem_append_left _ (weightsAll_mem (d := D i) (List.mem_map.2 ⟨i, List.mem_range.2 hi, rfl⟩) ?_))
      rw [hD]
      simp only [DataW.weights, he]
      exact DataW.weights_mem_each (j := j) (t := f.type) (d := y.1) (by simp [hj]) (by simp [hyj]) n hn

end
end Go.Proofs.Ythfeljongackcaa
