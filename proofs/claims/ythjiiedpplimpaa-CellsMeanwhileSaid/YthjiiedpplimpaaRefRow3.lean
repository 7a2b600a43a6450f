/- The contracts of the document's row (parleyref01): New, Of, Copy, Fill, Slice, Sum; and the program's Fill. The conditions are sizes. -/
import Derived.Test.YthjiiedpplimpaaRefRow2
import Derived.Test.YthjiiedpplimpaaNoRow
set_option linter.unusedSimpArgs false
set_option linter.unusedVariables false
set_option maxRecDepth 100000
namespace Go.Proofs.Ythjiiedpplimpaa
open Go.RowKit

/-- what a new row of the document's is -/
def RMade (w : World) (ws : List Int) (e : Ending) (w' : World) : Prop :=
  ∃ a b, e = .returned (.tuple #[.pointer (some ⟨a, 0, none⟩), .int .i64 0]) ∧ RRow w' a b ws 0 ∧ w.heap.size ≤ a ∧ w.heap.size ≤ b ∧ Upd [] w w'

theorem rnew_ok (n : Nat) (w : World) (hn : 1 ≤ n) (hn2 : n ≤ 65536) : Calls Try.prog 48 #[.int .i64 n] w (RMade w (List.replicate n 0)) := by
  have hmk : ∀ w, (Instr.makeSlice 31 (.int .i64 n) (.int .i64 n)).run Try.prog w = .ok (.slice (some ⟨w.heap.size, 0, none⟩) n n) (w.alloc (.cells (zeros .u64 n) 27)) := by
    intro w
    obtain ⟨i0, hi, hz0, hz1, hz2⟩ := info_parts info_u64
    have h := run_make (P := Try.prog) w 31 27 i0 (.int .u64 0) Try.underlying31 hi hz0 .i64 .i64 n n (by omega) (by omega) (by rw [hz2]; omega) (by omega)
    rw [hz1] at h
    simp only [Int.toNat_natCast] at h
    rw [h, zeros_made]
  have h0 : Blk (w.alloc (.cells (zeros .u64 n) 27)) w.heap.size ((List.replicate n (0 : Int)).map (Value.int .u64)) 27 := Blk.new w _ _
  have h1 : Blk ((w.alloc (.cells (zeros .u64 n) 27)).alloc (.cells #[.slice (some ⟨w.heap.size, 0, none⟩) n n, .int .u64 0] 54)) (w.heap.size + 1) [.slice (some ⟨w.heap.size, 0, none⟩) n n, .int .u64 0] 54 := by
    have := Blk.new (w.alloc (.cells (zeros .u64 n) 27)) [.slice (some ⟨w.heap.size, 0, none⟩) n n, .int .u64 0] 54
    simpa using this
  have h2 := h0.alloc (.cells #[.slice (some ⟨w.heap.size, 0, none⟩) n n, .int .u64 0] 54)
  have hu : Upd [] w ((w.alloc (.cells (zeros .u64 n) 27)).alloc (.cells #[.slice (some ⟨w.heap.size, 0, none⟩) n n, .int .u64 0] 54)) := ((Upd.refl _ _).alloc _).alloc _
  have hR : RRow ((w.alloc (.cells (zeros .u64 n) 27)).alloc (.cells #[.slice (some ⟨w.heap.size, 0, none⟩) n n, .int .u64 0] 54)) (w.heap.size + 1) w.heap.size (List.replicate n 0) 0 :=
    ⟨⟨n, by simpa using h1, [], by simpa using h2, by simp⟩, by simpa using hn, by simpa using hn2, by omega⟩
  clear h0 h1 h2
  have hd : decide ((n : Int) < 1) = false := by simp; omega
  have hd2 : decide (65536 < (n : Int)) = false := by simp; omega
  refine calls_all fun K hK => ?_
  go_enter Try.func48, Try.ntmps48
  go_wp2
  exact ⟨w.heap.size + 1, w.heap.size, rfl, hR, by omega, by omega, hu⟩

theorem rnew_bad (n : Int) (w : World) (hn : n < 1 ∨ 65536 < n) : Calls Try.prog 48 #[.int .i64 n] w fun e w' => e = .returned (.tuple #[.pointer none, .int .i64 2]) ∧ w = w' := by
  rcases hn with hn | hn
  · have hd : decide (n < 1) = true := by simpa using hn
    refine calls_all fun K hK => ?_
    go_enter Try.func48, Try.ntmps48
    go_wp2
    all_goals first | exact ⟨rfl, rfl⟩ | rfl
  · have hd : decide (n < 1) = false := by simp; omega
    have hd2 : decide (65536 < n) = true := by simpa using hn
    refine calls_all fun K hK => ?_
    go_enter Try.func48, Try.ntmps48
    go_wp2
    all_goals first | exact ⟨rfl, rfl⟩ | rfl

theorem own_row {w w1 : World} {zs : List Int} {v : Value} (ho : w1.ownsRow w.heap.size 27 1 v zs.length (zs.map (Value.int .u64))) (hg : Upd [] w w1) (h1 : 1 ≤ zs.length) (h2 : zs.length ≤ 65536) :
    RRow (w1.alloc (.cells #[v, .int .u64 0] 54)) w1.heap.size (match v with | .slice (some a) _ _ => a.block | _ => 0) zs 0 ∧ w.heap.size ≤ (match v with | .slice (some a) _ _ => a.block | _ => 0) := by
  obtain ⟨g, c, rfl⟩ := own_some ho (by omega)
  obtain ⟨q1, q2, spare, q3, q4, q5⟩ := own_open ho
  exact ⟨⟨⟨c, Blk.new w1 [Value.slice (some ⟨g, 0, none⟩) zs.length c, .int .u64 0] 54, spare, q3.alloc _, q4⟩, h1, h2, by have := q3.lt; show w1.heap.size ≠ g; omega⟩, q1⟩

theorem rof_ok (p : Option Addr) (cap : Nat) (zs : List Int) (w : World) (h : SlI w .u64 p zs) (hn : 1 ≤ zs.length) (hn2 : zs.length ≤ 65536) :
    Calls Try.prog 27 #[.slice p zs.length cap] w (RMade w zs) := by
  obtain ⟨i0, hi, hz0, hz1, hz2⟩ := info_parts info_u64
  have hz : zs ≠ [] := fun e => by subst e; simp at hn
  obtain ⟨ad, hp, hsrc⟩ := h.src hz
  subst hp
  have hd : decide ((zs.length : Int) < 1) = false := by simp; omega
  have hd2 : decide (65536 < (zs.length : Int)) = false := by simp; omega
  refine calls_all fun K hK => ?_
  go_enter Try.func27, Try.ntmps27
  go_wp2_with (first | (at_builtin; refine wpList_append_own _ rfl (.const (.slice none 0 0)) (.tmp 12) 31 rfl w.heap.size 27 i0 (.int .u64 0) 1 8 Try.underlying31 hi hz0 hz1 hz2 rfl (by decide) _ _ _ rfl (World.ownsRow_nil _ _ _ _) ad zs.length cap (zs.map (Value.int .u64)) rfl (by simp) hsrc (by intro u hu; simp at hu; obtain ⟨x, _, rfl⟩ := hu; rfl) (by unfold maxLen; omega) (by omega) (Nat.le_refl _) ?_; intro v1 w1 ho1 hg1 _; rw [Nat.zero_add, List.nil_append] at ho1; have u1 : Upd [] w w1 := Upd.own hg1; have R1 := own_row ho1 u1 hn hn2; obtain ⟨g1, c1, rfl⟩ := own_some ho1 (by omega)))
  exact ⟨_, _, rfl, R1.1, u1.size, R1.2, u1.alloc _⟩

theorem rof_bad (p : Option Addr) (n cap : Nat) (w : World) (hn : n < 1 ∨ 65536 < n) (hm : n ≤ maxLen) :
    Calls Try.prog 27 #[.slice p n cap] w fun e w' => e = .returned (.tuple #[.pointer none, .int .i64 2]) ∧ w = w' := by
  unfold maxLen at hm
  rcases hn with hn | hn
  · obtain rfl : n = 0 := by omega
    refine calls_all fun K hK => ?_
    go_enter Try.func27, Try.ntmps27
    go_wp2
    all_goals first | exact ⟨rfl, rfl⟩ | rfl
  · have hd : decide ((n : Int) < 1) = false := by simp; omega
    have hd2 : decide (65536 < (n : Int)) = true := by simp; omega
    refine calls_all fun K hK => ?_
    go_enter Try.func27, Try.ntmps27
    go_wp2
    all_goals first | exact ⟨rfl, rfl⟩ | rfl

section
variable {w w' : World} {a b : Nat} {ws : List Int} {acc : Int}

/-- what a copy is -/
def RCopied (w : World) (ws : List Int) (e : Ending) (w' : World) : Prop := ∃ a' b', e = .returned (.pointer (some ⟨a', 0, none⟩)) ∧ RRow w' a' b' ws 0 ∧ w.heap.size ≤ a' ∧ w.heap.size ≤ b' ∧ Upd [] w w'
/-- what Slice answers where it answers words -/
def RSliced (w : World) (zs : List Int) (n : Nat) (e : Ending) (w' : World) : Prop := ∃ p cap, e = .returned (.tuple #[.slice p n cap, .int .i64 0]) ∧ SlI w .u64 p zs ∧ w = w'

theorem rcopy_any (h : RRow w a b ws acc) : Calls Try.prog 29 #[.pointer (some ⟨a, 0, none⟩)] w (RCopied w ws) := by
  obtain ⟨i0, hi, hz0, hz1, hz2⟩ := info_parts info_u64
  obtain ⟨cap, h0⟩ := h.c0
  have hn := h.len1
  have hn2 := h.len2
  have hz : ws ≠ [] := fun e => by subst e; simp at hn
  obtain ⟨ad, hp, hsrc⟩ := h.sli.src hz
  cases hp
  refine calls_all fun K hK => ?_
  go_enter Try.func29, Try.ntmps29
  go_wp2_with (first | (at_builtin; refine wpList_append_own _ rfl (.const (.slice none 0 0)) (.tmp 8) 31 rfl w.heap.size 27 i0 (.int .u64 0) 1 8 Try.underlying31 hi hz0 hz1 hz2 rfl (by decide) _ _ _ rfl (World.ownsRow_nil _ _ _ _) ⟨b, 0, none⟩ ws.length cap (ws.map (Value.int .u64)) rfl (by simp) hsrc (by intro u hu; simp at hu; obtain ⟨x, _, rfl⟩ := hu; rfl) (by unfold maxLen; omega) (by omega) (Nat.le_refl _) ?_; intro v1 w1 ho1 hg1 _; rw [Nat.zero_add, List.nil_append] at ho1; have u1 : Upd [] w w1 := Upd.own hg1; have R1 := own_row ho1 u1 hn hn2; obtain ⟨g1, c1, rfl⟩ := own_some ho1 (by omega)))
  exact ⟨_, _, rfl, R1.1, u1.size, R1.2, u1.alloc _⟩

theorem rcopy_no (w : World) : Calls Try.prog 29 #[.pointer none] w fun e w' => e = .returned (.pointer none) ∧ w = w' := by
  refine calls_all fun K hK => ?_
  go_enter Try.func29, Try.ntmps29
  go_wp2
  all_goals first | exact ⟨rfl, rfl⟩ | rfl

theorem rslice_any (h : RRow w a b ws acc) (x y : Nat) (hxy : x ≤ y) (hy : y ≤ ws.length) :
    Calls Try.prog 85 #[.pointer (some ⟨a, 0, none⟩), .int .u64 x, .int .u64 y] w (RSliced w ((ws.drop x).take (y - x)) (y - x)) := by
  obtain ⟨cap, hb, sp, hb2, hcap⟩ := h.head
  have h0 := hb.cell 0 rfl
  have hn := h.len2
  have d1 : decide (y < x) = false := by simp; omega
  have d2 : decide (ws.length < y) = false := by simp; omega
  have hl : ((ws.drop x).take (y - x)).length = y - x := by simp; omega
  have hx : (0 : Int) ≤ (x : Int) := by omega
  have hy0 : (0 : Int) ≤ (y : Int) := by omega
  have hcy : (y : Int) ≤ (cap : Int) := by omega
  by_cases hz : x = y
  · subst hz
    have HS := Lib.hid (fun p => show SlI w .u64 p ((ws.drop x).take (x - x)) by rw [Nat.sub_self, List.take_zero]; exact SlI.nil _ _ _)
    clear hl
    refine calls_all fun K hK => ?_
    go_enter Try.func85, Try.ntmps85
    go_wp2
    all_goals exact ⟨_, _, rfl, by first | exact HS.out _ | (have := HS.out; rw [Nat.sub_self, List.take_zero] at this; exact this _) | (rw [Nat.sub_self, List.take_zero]; exact SlI.nil _ _ _), rfl⟩
  · have hs : SlI w .u64 (some ⟨b, x, none⟩) ((ws.drop x).take (y - x)) := by
      refine ⟨fun _ => ⟨b, x, rfl⟩, fun b' o e i hi => ?_⟩
      simp at e
      obtain ⟨rfl, rfl⟩ := e
      rw [hl] at hi
      refine hb2.cell _ ?_
      rw [List.getElem?_append_left (by simp; omega), wd_get (by rw [hl]; exact hi)]
      simp
    have hlt : (x : Int) < (y : Int) := by omega
    clear hl
    refine calls_all fun K hK => ?_
    go_enter Try.func85, Try.ntmps85
    go_wp2
    all_goals exact ⟨_, _, rfl, hs, rfl⟩

theorem rslice_arg (h : RRow w a b ws acc) (x y : Int) (hxy : y < x) : Calls Try.prog 85 #[.pointer (some ⟨a, 0, none⟩), .int .u64 x, .int .u64 y] w fun e w' => e = .returned (.tuple #[.slice none 0 0, .int .i64 2]) ∧ w = w' := by
  have d1 : decide (y < x) = true := by simp; omega
  refine calls_all fun K hK => ?_
  go_enter Try.func85, Try.ntmps85
  go_wp2
  all_goals first | exact ⟨rfl, rfl⟩ | rfl

theorem rslice_range (h : RRow w a b ws acc) (x y : Int) (hxy : x ≤ y) (hy : ws.length < y) : Calls Try.prog 85 #[.pointer (some ⟨a, 0, none⟩), .int .u64 x, .int .u64 y] w fun e w' => e = .returned (.tuple #[.slice none 0 0, .int .i64 4]) ∧ w = w' := by
  obtain ⟨cap, h0⟩ := h.c0
  have hn := h.len2
  have d1 : decide (y < x) = false := by simp; omega
  have d2 : decide ((ws.length : Int) < y) = true := by simp; omega
  refine calls_all fun K hK => ?_
  go_enter Try.func85, Try.ntmps85
  go_wp2
  all_goals first | exact ⟨rfl, rfl⟩ | rfl

theorem rslice_no (w : World) (x y : Int) : Calls Try.prog 85 #[.pointer none, .int .u64 x, .int .u64 y] w fun e w' => e = .returned (.tuple #[.slice none 0 0, .int .i64 1]) ∧ w = w' := by
  refine calls_all fun K hK => ?_
  go_enter Try.func85, Try.ntmps85
  go_wp2
  all_goals first | exact ⟨rfl, rfl⟩ | rfl

theorem rsum_no (w : World) : Calls Try.prog 81 #[.pointer none] w fun e w' => e = .returned (.int .u64 0) ∧ w = w' := by
  refine calls_all fun K hK => ?_
  go_enter Try.func81, Try.ntmps81
  go_wp2
  all_goals first | exact ⟨rfl, rfl⟩ | rfl

theorem rfill_no (w : World) (i : Int) (q : Option Addr) (n c : Nat) : Calls Try.prog 84 #[.pointer none, .int .u64 i, .slice q n c] w fun e w' => e = .returned (.int .i64 1) ∧ w = w' := by
  refine calls_all fun K hK => ?_
  go_enter Try.func84, Try.ntmps84
  go_wp2
  all_goals first | exact ⟨rfl, rfl⟩ | rfl
end

end Go.Proofs.Ythjiiedpplimpaa
