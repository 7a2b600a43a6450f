/- A thread in memory; leave, give, fail, target, event, op. No conditions. Is a program formed: the code. The conditions are sizes. A step of a thread leaves a state that may be, and words. No program in sight. No conditions. -/
import Derived.Test.YthfeljongackcaaT1p10
import Derived.Test.YthfeljongackcaaT1p11
import Derived.Deep.MidRow
set_option linter.unusedSimpArgs false
set_option linter.unusedVariables false
set_option maxRecDepth 100000
namespace Go.Proofs.Ythfeljongackcaa
open Go.RowKit
open Go.Maps
/-- some cells of a block are written -/
def rowSet (vs : List Value) (o : Nat) (us : List Value) : List Value := vs.take o ++ us ++ vs.drop (o + us.length)
theorem Blk.rows {t : TypeId} {b : Nat} : ∀ (us : List Value) {W : World} {vs : List Value} (o : Nat), Blk W b vs t → o + us.length ≤ vs.length → Blk (W.setCells b o us) b (rowSet vs o us) t
  | [], W, vs, o, h, _ => by
    have e : rowSet vs o [] = vs := by simp [rowSet]
    rw [e]; exact h
  | u :: us, W, vs, o, h, hl => by
    have h1 := Blk.rows us (o + 1) (h.set o u) (by simp at hl ⊢; omega)
    have e : rowSet (vs.set o u) (o + 1) us = rowSet vs o (u :: us) := by
      have ho : o < vs.length := by simp at hl; omega
      unfold rowSet
      rw [List.take_set, List.drop_set_of_lt (by omega), List.take_add_one, List.getElem?_eq_getElem ho]
      rw [show List.set (vs.take o ++ (some vs[o]).toList) o u = vs.take o ++ [u] by rw [List.set_append_right _ _ (by simp; omega)]; simp [Nat.min_eq_left (Nat.le_of_lt ho)]]
      simp only [List.append_assoc, List.singleton_append, List.length_cons]
      rw [show o + 1 + us.length = o + (us.length + 1) by omega]
    rw [← e]
    exact h1
theorem Upd.rows {S : List Nat} {b : Nat} {w : World} : ∀ (us : List Value) {W : World} (o : Nat), Upd S w W → (b ∈ S ∨ w.heap.size ≤ b) → Upd S w (W.setCells b o us)
  | [], _, _, h, _ => h
  | _ :: us, _, o, h, hb => Upd.rows us (o + 1) (h.setCell (p := ⟨b, o, none⟩) hb _) hb
theorem Blk.there {W : World} {b : Nat} {vs : List Value} {t : TypeId} (h : Blk W b vs t) (o n : Nat) (hl : o + n ≤ vs.length) : W.there b o n := fun j hj => by
  refine ⟨?_, h.free _⟩
  rw [h.at, List.getElem?_eq_getElem (by omega)]
  rfl
/-- the cells of a thread -/
def headTV (t : TS) (pv : Value) (X : SX) (ap : Option Addr) : List Value :=
  [.int .i64 t.st, .int .i64 t.err, .int .i64 t.at_] ++ (t.regs.map (Value.int .u64) ++ ([.bool t.ins, .int .i64 t.start] ++ (t.saved.map (Value.int .u64) ++
  [.int .i64 t.fuel, .int .u64 0, .slice none 0 0, .slice none 0 0, .int .i64 0, .int .i64 0, .int .u64 0, .int .u64 0, .int .u64 0, .int .i64 0, pv, .pointer (some ⟨X.ra, 0, none⟩), .pointer (some ⟨X.ca, 0, none⟩), .pointer ap])))
theorem list8 {l : List Int} (h : l.length = 8) : ∃ a b c d e f g i, l = [a, b, c, d, e, f, g, i] := by
  match l, h with
  | [a, b, c, d, e, f, g, i], _ => exact ⟨a, b, c, d, e, f, g, i, rfl⟩
theorem event_any (k a v : Int) (w : World) : Calls Try.prog 131 #[.int .i64 k, .int .u64 a, .int .u64 v] w fun e w' => e = .returned (.tuple #[(⟨k, a, v, false, 0⟩ : TE).val, .bool true]) ∧ Upd [] w w' := by
  refine calls_all fun K hK => ?_
  go_enter Try.func131, Try.ntmps131
  go_wp2
  go_returns
  exact hK _ _ ⟨rfl, (Upd.refl [] _).alloc _⟩
theorem target_any (n : Int) (w : World) (hn : 0 ≤ n ∧ n < 18446744073709551616) : Calls Try.prog 114 #[.int .u64 n] w fun e w' => e = .returned (.int .i64 (targetI n)) ∧ w = w' := by
  by_cases h : 9223372036854775807 < n
  · have hd : decide (9223372036854775807 < n) = true := by simpa using h
    have ht : targetI n = 9223372036854775807 := if_pos h
    rw [ht]
    refine calls_all fun K hK => ?_
    go_enter Try.func114, Try.ntmps114
    go_wp2
    all_goals exact ⟨rfl, rfl⟩
  · have hd : decide (9223372036854775807 < n) = false := by simpa using h
    have ht : targetI n = n := if_neg h
    have hw : wrap64 n = n := by unfold wrap64; omega
    rw [ht]
    refine calls_all fun K hK => ?_
    go_enter Try.func114, Try.ntmps114
    go_wp2
    all_goals first | exact ⟨rfl, rfl⟩ | exact ⟨by rw [hw], rfl⟩ | skip
/-- the program's instructions -/
def codeV (p : List Ins) : List Value := p.flatMap Ins.cells
/-- an event in memory -/
def TE.cells (e : TE) : List Value := [.int .i64 0, .int .i64 e.kind, .int .u64 e.addr, .int .u64 e.word, .bool e.own, .int .i64 e.err]
theorem ev_set {W : World} {eb : Nat} {e0 : TE} (h : Blk W eb e0.cells 34) (e : TE) : Blk ((((((W.setCell ⟨eb, 0, none⟩ (.int .i64 0)).setCell ⟨eb, 1, none⟩ (.int .i64 e.kind)).setCell ⟨eb, 2, none⟩ (.int .u64 e.addr)).setCell ⟨eb, 3, none⟩ (.int .u64 e.word)).setCell ⟨eb, 4, none⟩ (.bool e.own)).setCell ⟨eb, 5, none⟩ (.int .i64 e.err)) eb e.cells 34 :=
  (((((h.set 0 _).set 1 _).set 2 _).set 3 _).set 4 _).set 5 _
theorem ev_upd {S : List Nat} {w W : World} {eb : Nat} (u : Upd S w W) (hb : eb ∈ S ∨ w.heap.size ≤ eb) (v0 v1 v2 v3 v4 v5 : Value) : Upd S w ((((((W.setCell ⟨eb, 0, none⟩ v0).setCell ⟨eb, 1, none⟩ v1).setCell ⟨eb, 2, none⟩ v2).setCell ⟨eb, 3, none⟩ v3).setCell ⟨eb, 4, none⟩ v4).setCell ⟨eb, 5, none⟩ v5) :=
  (((((u.setCell hb _).setCell hb _).setCell hb _).setCell hb _).setCell hb _).setCell hb _
theorem ev_results2 {fn : Func} (k m : Nat) (hr : fn.results = #[.cell k 34, .tmp m]) (t : Array Value) (w : World) (rb : Nat) (e : TE) (v : Value) (h2 : t.getD k undef = .pointer (some ⟨rb, 0, none⟩)) (h3 : t.getD m undef = v) (hb : Blk w rb e.cells 34) :
    (results fn t).run Try.prog w = .ok (.tuple #[e.val, v]) w := by
  have c0 := hb.cell 0 rfl
  have c1 := hb.cell 1 rfl
  have c2 := hb.cell 2 rfl
  have c3 := hb.cell 3 rfl
  have c4 := hb.cell 4 rfl
  have c5 := hb.cell 5 rfl
  have h2' : t[k]?.getD undef = .pointer (some ⟨rb, 0, none⟩) := by simpa using h2
  have h3' : t[m]?.getD undef = v := by simpa using h3
  simp [results, hr, h2', h3', go_sem, c0, c1, c2, c3, c4, c5, TE.val]
section
variable {w : World} {X : SX} {tb : Nat} {t : TS} {pv : Value} {ap : Option Addr}
theorem leave_code (h : Blk w tb (headTV t pv X ap) 146) (hr : t.regs.length = 8) (hs : t.saved.length = 8) (k : Int) : Calls Try.prog 129 #[.pointer (some ⟨tb, 0, none⟩), .int .i64 k] w fun e w' => e = .returned (.tuple #[]) ∧ Blk w' tb (headTV (leaveT t k) pv X none) 146 ∧ Upd [tb] w w' := by
  obtain ⟨st, er, at_, rs, sta, sv, fu, at2⟩ := t
  obtain ⟨r0, r1, r2, r3, r4, r5, r6, r7, rfl⟩ := list8 hr
  obtain ⟨s0, s1, s2, s3, s4, s5, s6, s7, rfl⟩ := list8 hs
  clear hr hs
  have c34 := h.cell 34 rfl
  have g34 := h.free 34
  refine calls_all fun K hK => ?_
  go_enter Try.func129, Try.ntmps129
  go_wp2_with fail
  have h1 := (h.set 34 (.pointer none)).drew
  have u1 : Upd [tb] w (w.setCell ⟨tb, 34, none⟩ (.pointer none)).drew := ((Upd.refl _ _).setCell (.inl (by simp)) _).drew
  clear c34 g34
  refine wp_region_ordT (fun w' => w'.cell? ⟨tb, 0, none⟩ = some (.int .i64 st) ∧ w'.cell? ⟨tb, 1, none⟩ = some (.int .i64 er) ∧ w'.cell? ⟨tb, 3, none⟩ = some (.int .u64 r0) ∧ w'.cell? ⟨tb, 4, none⟩ = some (.int .u64 r1) ∧ w'.cell? ⟨tb, 5, none⟩ = some (.int .u64 r2) ∧ w'.cell? ⟨tb, 6, none⟩ = some (.int .u64 r3) ∧ w'.cell? ⟨tb, 7, none⟩ = some (.int .u64 r4) ∧ w'.cell? ⟨tb, 8, none⟩ = some (.int .u64 r5) ∧ w'.cell? ⟨tb, 9, none⟩ = some (.int .u64 r6) ∧ w'.cell? ⟨tb, 10, none⟩ = some (.int .u64 r7)) [0, 1, 2, 3, 4, 5, 6, 7, 8, 9, 10, 11, 12, 13, 14, 15, 16, 17, 18, 19, 20] [20] (by kernel_rfl) (by kernel_rfl) ?_
  generalize (w.setCell ⟨tb, 34, none⟩ (.pointer none)).drew = w1 at h1 u1 ⊢
  have hS : w1.cell? ⟨tb, 0, none⟩ = some (.int .i64 st) ∧ w1.cell? ⟨tb, 1, none⟩ = some (.int .i64 er) ∧ w1.cell? ⟨tb, 3, none⟩ = some (.int .u64 r0) ∧ w1.cell? ⟨tb, 4, none⟩ = some (.int .u64 r1) ∧ w1.cell? ⟨tb, 5, none⟩ = some (.int .u64 r2) ∧ w1.cell? ⟨tb, 6, none⟩ = some (.int .u64 r3) ∧ w1.cell? ⟨tb, 7, none⟩ = some (.int .u64 r4) ∧ w1.cell? ⟨tb, 8, none⟩ = some (.int .u64 r5) ∧ w1.cell? ⟨tb, 9, none⟩ = some (.int .u64 r6) ∧ w1.cell? ⟨tb, 10, none⟩ = some (.int .u64 r7) := ⟨h1.cell 0 rfl, h1.cell 1 rfl, h1.cell 3 rfl, h1.cell 4 rfl, h1.cell 5 rfl, h1.cell 6 rfl, h1.cell 7 rfl, h1.cell 8 rfl, h1.cell 9 rfl, h1.cell 10 rfl⟩
  repeat
    first
      | (refine wpT_skip rfl (by decide) (by assumption) (by rfl) ?_)
      | ((refine wpT_take (v := ?_) rfl (by decide) (by assumption) rfl (by rfl) ?_ ?_); rotate_left 1; (· ((intro w hSw; (try dsimp only at hSw); go_simp); try with_reducible rfl)))
    try simp only [Act.put, List.setIfInBounds_toArray, List.set_cons_zero, List.set_cons_succ]
  refine wpT_last rfl (by decide) (by kernel_rfl) (by rfl) (fun K2 hK2 => ?_)
  refine wp_store_mid 103 _ _ rfl tb 0 #[.int .i64 st, .int .i64 er, .int .i64 k, .int .u64 r0, .int .u64 r1, .int .u64 r2, .int .u64 r3, .int .u64 r4, .int .u64 r5, .int .u64 r6, .int .u64 r7, .bool false, .int .i64 0, .int .u64 0, .int .u64 0, .int .u64 0, .int .u64 0, .int .u64 0, .int .u64 0, .int .u64 0, .int .u64 0, .int .i64 0, .int .u64 0, .slice none 0 0, .slice none 0 0, .int .i64 0, .int .i64 0, .int .u64 0, .int .u64 0, .int .u64 0, .int .i64 0] rfl rfl (h1.there 0 31 (by simp [headTV])) (by kernel_rfl) (by kernel_rfl) ?_
  refine hK2.out _ _ ?_
  refine wpT_end (NoPanic.normal ?_)
  have h2 := Blk.rows [.int .i64 st, .int .i64 er, .int .i64 k, .int .u64 r0, .int .u64 r1, .int .u64 r2, .int .u64 r3, .int .u64 r4, .int .u64 r5, .int .u64 r6, .int .u64 r7, .bool false, .int .i64 0, .int .u64 0, .int .u64 0, .int .u64 0, .int .u64 0, .int .u64 0, .int .u64 0, .int .u64 0, .int .u64 0, .int .i64 0, .int .u64 0, .slice none 0 0, .slice none 0 0, .int .i64 0, .int .i64 0, .int .u64 0, .int .u64 0, .int .u64 0, .int .i64 0] 0 h1 (by simp [headTV])
  have u2 := Upd.rows (b := tb) [.int .i64 st, .int .i64 er, .int .i64 k, .int .u64 r0, .int .u64 r1, .int .u64 r2, .int .u64 r3, .int .u64 r4, .int .u64 r5, .int .u64 r6, .int .u64 r7, .bool false, .int .i64 0, .int .u64 0, .int .u64 0, .int .u64 0, .int .u64 0, .int .u64 0, .int .u64 0, .int .u64 0, .int .u64 0, .int .i64 0, .int .u64 0, .slice none 0 0, .slice none 0 0, .int .i64 0, .int .i64 0, .int .u64 0, .int .u64 0, .int .u64 0, .int .i64 0] 0 u1 (.inl (by simp))
  clear h1 hK2
  go_wp2_with fail
  go_returns
  exact hK _ _ ⟨rfl, h2, u2⟩
theorem give_code (h : Blk w tb (headTV t pv X ap) 146) (hr : t.regs.length = 8) (hs : t.saved.length = 8) (k : Int) : Calls Try.prog 130 #[.pointer (some ⟨tb, 0, none⟩), .int .i64 k] w fun e w' => e = .returned (.tuple #[]) ∧ Blk w' tb (headTV (giveT t k) pv X none) 146 ∧ Upd [tb] w w' := by
  obtain ⟨st, er, at_, rs, sta, sv, fu, at2⟩ := t
  obtain ⟨r0, r1, r2, r3, r4, r5, r6, r7, rfl⟩ := list8 hr
  obtain ⟨s0, s1, s2, s3, s4, s5, s6, s7, rfl⟩ := list8 hs
  clear hr hs
  have c3 := h.cell 3 rfl
  have c4 := h.cell 4 rfl
  have c5 := h.cell 5 rfl
  have c6 := h.cell 6 rfl
  have c7 := h.cell 7 rfl
  have c8 := h.cell 8 rfl
  have c9 := h.cell 9 rfl
  have c10 := h.cell 10 rfl
  have c13 := h.cell 13 rfl
  have c14 := h.cell 14 rfl
  have c15 := h.cell 15 rfl
  have c16 := h.cell 16 rfl
  have c17 := h.cell 17 rfl
  have c18 := h.cell 18 rfl
  have c19 := h.cell 19 rfl
  have c20 := h.cell 20 rfl
  have g3 := h.free 3
  have g4 := h.free 4
  have g5 := h.free 5
  have g6 := h.free 6
  have g7 := h.free 7
  have g8 := h.free 8
  have g9 := h.free 9
  have g10 := h.free 10
  refine calls_all fun K hK => ?_
  go_enter Try.func130, Try.ntmps130
  go_wp2_with fail
  clear c3 c4 c5 c6 c7 c8 c9 c10
  clear c13 c14 c15 c16 c17 c18 c19 c20
  clear g3 g4 g5 g6 g7 g8 g9 g10
  have h1 : Blk ((((((((w.setCell ⟨tb, 3, none⟩ (.int .u64 s0)).setCell ⟨tb, 4, none⟩ (.int .u64 s1)).setCell ⟨tb, 5, none⟩ (.int .u64 s2)).setCell ⟨tb, 6, none⟩ (.int .u64 s3)).setCell ⟨tb, 7, none⟩ (.int .u64 s4)).setCell ⟨tb, 8, none⟩ (.int .u64 s5)).setCell ⟨tb, 9, none⟩ (.int .u64 s6)).setCell ⟨tb, 10, none⟩ (.int .u64 s7)) tb (headTV ⟨st, er, at_, [s0, s1, s2, s3, s4, s5, s6, s7], sta, [s0, s1, s2, s3, s4, s5, s6, s7], fu, at2⟩ pv X ap) 146 :=
    (((((((h.set 3 _).set 4 _).set 5 _).set 6 _).set 7 _).set 8 _).set 9 _).set 10 _
  have u1 : Upd [tb] w ((((((((w.setCell ⟨tb, 3, none⟩ (.int .u64 s0)).setCell ⟨tb, 4, none⟩ (.int .u64 s1)).setCell ⟨tb, 5, none⟩ (.int .u64 s2)).setCell ⟨tb, 6, none⟩ (.int .u64 s3)).setCell ⟨tb, 7, none⟩ (.int .u64 s4)).setCell ⟨tb, 8, none⟩ (.int .u64 s5)).setCell ⟨tb, 9, none⟩ (.int .u64 s6)).setCell ⟨tb, 10, none⟩ (.int .u64 s7)) := by
    repeat (refine Upd.setCell ?_ (.inl (by simp)) _)
    exact Upd.refl _ _
  generalize ((((((((w.setCell ⟨tb, 3, none⟩ (.int .u64 s0)).setCell ⟨tb, 4, none⟩ (.int .u64 s1)).setCell ⟨tb, 5, none⟩ (.int .u64 s2)).setCell ⟨tb, 6, none⟩ (.int .u64 s3)).setCell ⟨tb, 7, none⟩ (.int .u64 s4)).setCell ⟨tb, 8, none⟩ (.int .u64 s5)).setCell ⟨tb, 9, none⟩ (.int .u64 s6)).setCell ⟨tb, 10, none⟩ (.int .u64 s7)) = w1 at h1 u1 ⊢
  refine (leave_code h1 rfl rfl k).mono ?_
  rintro e w2 ⟨rfl, h2, u2⟩
  replace u2 := u1.trans u2
  clear h h1 u1
  go_wp2_with fail
  go_returns
  exact hK _ _ ⟨rfl, h2, u2⟩
theorem fail_code (h : Blk w tb (headTV t pv X ap) 146) (hr : t.regs.length = 8) (hs : t.saved.length = 8) (k : Int) : Calls Try.prog 113 #[.pointer (some ⟨tb, 0, none⟩), .int .i64 k] w fun e w' => e = .returned (.tuple #[(failT t k).1.1.val, .bool true]) ∧ Blk w' tb (headTV (failT t k).2 pv X (if t.ins = true then none else ap)) 146 ∧ Upd [tb] w w' := by
  obtain ⟨st, er, at_, rs, sta, sv, fu, at2⟩ := t
  obtain ⟨r0, r1, r2, r3, r4, r5, r6, r7, rfl⟩ := list8 hr
  obtain ⟨s0, s1, s2, s3, s4, s5, s6, s7, rfl⟩ := list8 hs
  clear hr hs
  have hv : (failT ⟨st, er, at_, [r0, r1, r2, r3, r4, r5, r6, r7], sta, [s0, s1, s2, s3, s4, s5, s6, s7], fu, at2⟩ k).1.1.val = .agg #[.int .i64 0, .int .i64 9, .int .u64 0, .int .u64 0, .bool false, .int .i64 k] := rfl
  rw [hv]
  clear hv
  have h0 := h.alloc (.cells #[.int .i64 0, .int .i64 0, .int .u64 0, .int .u64 0, .bool false, .int .i64 0] 34)
  have u0 : Upd [tb] w (w.alloc (.cells #[.int .i64 0, .int .i64 0, .int .u64 0, .int .u64 0, .bool false, .int .i64 0] 34)) := (Upd.refl _ _).alloc _
  have B0 := Blk.new w [.int .i64 0, .int .i64 0, .int .u64 0, .int .u64 0, .bool false, .int .i64 0] 34
  obtain ⟨w1, hw1⟩ : ∃ w1, w.alloc (.cells #[.int .i64 0, .int .i64 0, .int .u64 0, .int .u64 0, .bool false, .int .i64 0] 34) = w1 := ⟨_, rfl⟩
  have hne : w.heap.size ≠ tb := by have := h.lt; omega
  have hne2 : tb ≠ w.heap.size := hne.symm
  have hle : w.heap.size ≤ w.heap.size := Nat.le_refl _
  rw [show (w.alloc (.cells [Value.int .i64 0, .int .i64 0, .int .u64 0, .int .u64 0, .bool false, .int .i64 0].toArray 34)) = w1 from hw1] at B0
  rw [hw1] at h0 u0
  clear h
  cases at2 with
  | none =>
    obtain ⟨eb, heb⟩ : ∃ eb, w.heap.size = eb := ⟨_, rfl⟩
    replace hle : Hid (w.heap.size ≤ eb) := Lib.hid (by omega)
    rw [heb] at hne hne2 B0
    have c0 := h0.cell 0 rfl
    have c1 := h0.cell 1 rfl
    have c2 := h0.cell 2 rfl
    have c3 := h0.cell 3 rfl
    have c4 := h0.cell 4 rfl
    have c5 := h0.cell 5 rfl
    have c6 := h0.cell 6 rfl
    have c7 := h0.cell 7 rfl
    have c8 := h0.cell 8 rfl
    have c9 := h0.cell 9 rfl
    have c10 := h0.cell 10 rfl
    have c11 := h0.cell 11 rfl
    have g0 := h0.free 0
    have g1 := h0.free 1
    have g2 := h0.free 2
    have g3 := h0.free 3
    have g4 := h0.free 4
    have g5 := h0.free 5
    have g6 := h0.free 6
    have g7 := h0.free 7
    have g8 := h0.free 8
    have g9 := h0.free 9
    have g10 := h0.free 10
    have g11 := h0.free 11
    have q0 := B0.cell 0 rfl
    have f0 := B0.free 0
    have q1 := B0.cell 1 rfl
    have f1 := B0.free 1
    have q2 := B0.cell 2 rfl
    have f2 := B0.free 2
    have q3 := B0.cell 3 rfl
    have f3 := B0.free 3
    have q4 := B0.cell 4 rfl
    have f4 := B0.free 4
    have q5 := B0.cell 5 rfl
    have f5 := B0.free 5
    refine calls_all fun K hK => ?_
    go_enter Try.func113, Try.ntmps113
    go_wp2_with fail
    clear hw1 heb q0 q1 q2 q3 q4 q5 f0 f1 f2 f3 f4 f5
    clear c0 c1 c2 c3 c4 c5 c6 c7 c8 c9 c10 c11
    clear g0 g1 g2 g3 g4 g5 g6 g7 g8 g9 g10 g11
    have h1 := ((h0.set 0 (.int .i64 3)).set 1 (.int .i64 k))
    have u1 := (u0.setCell (p := ⟨tb, 0, none⟩) (.inl (by simp)) (.int .i64 3)).setCell (p := ⟨tb, 1, none⟩) (.inl (by simp)) (.int .i64 k)
    have B1 : Blk _ eb teNone.cells 34 := (B0.other ⟨tb, 0, none⟩ (.int .i64 3) hne).other ⟨tb, 1, none⟩ (.int .i64 k) hne
    refine bodyPost_ret (ev_results2 4 5 rfl _ _ eb (⟨9, 0, 0, false, k⟩ : TE) (.bool true) rfl rfl (ev_set B1 (⟨9, 0, 0, false, k⟩ : TE))) rfl (hK _ _ ⟨rfl, ?_, ev_upd u1 (.inr hle.out) _ _ _ _ _ _⟩)
    exact h1.upd (ev_upd (S := [eb]) (Upd.refl _ _) (.inl (by simp)) _ _ _ _ _ _) (by simpa using hne2)
  | some s =>
    have c11 := h0.cell 11 rfl
    have c12 := h0.cell 12 rfl
    clear hle
    refine calls_all fun K hK => ?_
    go_enter Try.func113, Try.ntmps113
    go_wp2_with fail
    refine (give_code h0 rfl rfl sta).mono ?_
    rintro e w2 ⟨rfl, h2, u2⟩
    have B2 := B0.upd u2 (by simpa using hne)
    replace u2 := u0.trans u2
    clear h0 u0 B0 c11 c12 hw1
    obtain ⟨eb, heb⟩ : ∃ eb, w.heap.size = eb := ⟨_, rfl⟩
    have hle : Hid (w.heap.size ≤ eb) := Lib.hid (by omega)
    rw [heb] at hne hne2 B2 ⊢
    clear heb
    have c0 := h2.cell 0 rfl
    have c1 := h2.cell 1 rfl
    have g0 := h2.free 0
    have g1 := h2.free 1
    have q0 := B2.cell 0 rfl
    have f0 := B2.free 0
    have q1 := B2.cell 1 rfl
    have f1 := B2.free 1
    have q2 := B2.cell 2 rfl
    have f2 := B2.free 2
    have q3 := B2.cell 3 rfl
    have f3 := B2.free 3
    have q4 := B2.cell 4 rfl
    have f4 := B2.free 4
    have q5 := B2.cell 5 rfl
    have f5 := B2.free 5
    go_wp2_with fail
    have h1 := ((h2.set 0 (.int .i64 3)).set 1 (.int .i64 k))
    have u1 := (u2.setCell (p := ⟨tb, 0, none⟩) (.inl (by simp)) (.int .i64 3)).setCell (p := ⟨tb, 1, none⟩) (.inl (by simp)) (.int .i64 k)
    have B1 : Blk _ eb teNone.cells 34 := (B2.other ⟨tb, 0, none⟩ (.int .i64 3) hne).other ⟨tb, 1, none⟩ (.int .i64 k) hne
    clear c0 c1 g0 g1 q0 q1 q2 q3 q4 q5 f0 f1 f2 f3 f4 f5 h2 u2
    refine bodyPost_ret (ev_results2 4 5 rfl _ _ eb (⟨9, 0, 0, false, k⟩ : TE) (.bool true) rfl rfl (ev_set B1 (⟨9, 0, 0, false, k⟩ : TE))) rfl (hK _ _ ⟨rfl, ?_, ev_upd u1 (.inr hle.out) _ _ _ _ _ _⟩)
    exact h1.upd (ev_upd (S := [eb]) (Upd.refl _ _) (.inl (by simp)) _ _ _ _ _ _) (by simpa using hne2)
end
theorem codeV_len (p : List Ins) : (codeV p).length = p.length * 5 := by
  induction p with
  | nil => rfl
  | cons c l ih => simp only [codeV, List.flatMap_cons, List.length_append, List.length_cons] at ih ⊢; rw [ih]; simp [Ins.cells]; omega
theorem codeV_get (p : List Ins) : ∀ (i : Nat) (x : Ins), p[i]? = some x → (codeV p)[i * 5]? = some (.int .i64 x.op) ∧ (codeV p)[i * 5 + 1]? = some (.int .i64 x.a) ∧ (codeV p)[i * 5 + 2]? = some (.int .i64 x.b) ∧ (codeV p)[i * 5 + 3]? = some (.int .i64 x.c) ∧ (codeV p)[i * 5 + 4]? = some (.int .u64 x.n) := by
  induction p with
  | nil => intro i x h; simp at h
  | cons c l ih =>
    intro i x h
    cases i with
    | zero => simp at h; subst h; exact ⟨rfl, rfl, rfl, rfl, rfl⟩
    | succ i =>
      have h1 := ih i x (by simpa using h)
      have e : (i + 1) * 5 = i * 5 + 5 := by omega
      simp only [codeV, List.flatMap_cons, Ins.cells] at h1 ⊢
      rw [e]
      simpa using h1
/-- the thread's own program in memory -/
def ProgAt (w : World) (pb cap : Nat) (p : List Ins) : Prop := 1 ≤ p.length ∧ p.length ≤ 256 ∧ ∃ sp, Blk w pb (codeV p ++ sp) 144
def progV (pb cap : Nat) (p : List Ins) : Value := .slice (some ⟨pb, 0, none⟩) p.length cap
section
variable {w w' : World} {pb cap : Nat} {p : List Ins}
theorem ProgAt.upd {S : List Nat} (h : ProgAt w pb cap p) (u : Upd S w w') (hn : pb ∉ S) : ProgAt w' pb cap p := let ⟨h1, h2, sp, hb⟩ := h; ⟨h1, h2, sp, hb.upd u hn⟩
theorem ProgAt.lt (h : ProgAt w pb cap p) : pb < w.heap.size := let ⟨_, _, _, hb⟩ := h; hb.lt
theorem ProgAt.cells (h : ProgAt w pb cap p) {i : Nat} {x : Ins} (hx : p[i]? = some x) : w.cell? ⟨pb, i * 5, none⟩ = some (.int .i64 x.op) ∧ w.cell? ⟨pb, i * 5 + 1, none⟩ = some (.int .i64 x.a) ∧ w.cell? ⟨pb, i * 5 + 2, none⟩ = some (.int .i64 x.b) ∧ w.cell? ⟨pb, i * 5 + 3, none⟩ = some (.int .i64 x.c) ∧ w.cell? ⟨pb, i * 5 + 4, none⟩ = some (.int .u64 x.n) := by
  obtain ⟨_, _, sp, hb⟩ := h
  have hi : i < p.length := (List.getElem?_eq_some_iff.1 hx).1
  have hl := codeV_len p
  obtain ⟨h0, h1, h2, h3, h4⟩ := codeV_get p i x hx
  have hg : ∀ k v, k < p.length * 5 → (codeV p)[k]? = some v → w.cell? ⟨pb, k, none⟩ = some v := fun k v hk hv => hb.cell k (by rw [List.getElem?_append_left (by omega)]; exact hv)
  exact ⟨hg _ _ (by omega) h0, hg _ _ (by omega) h1, hg _ _ (by omega) h2, hg _ _ (by omega) h3, hg _ _ (by omega) h4⟩
theorem insAt_get (p : List Ins) {k : Int} (h0 : 0 ≤ k) (h1 : k < p.length) : p[k.toNat]? = some (insAt p k) := by
  unfold insAt
  rw [if_neg (by omega), List.getD_eq_getElem?_getD, List.getElem?_eq_getElem (by omega)]
  rfl
theorem opAt_out (p : List Ins) {k : Int} (h : k < 0 ∨ (p.length : Int) ≤ k) : opAt p k = 0 := by
  unfold opAt insAt
  by_cases hk : k < 0
  · rw [if_pos hk]
  · rw [if_neg hk, List.getD_eq_getElem?_getD, List.getElem?_eq_none (by omega)]
    rfl
theorem op_code (h : ProgAt w pb cap p) (k : Int) : Calls Try.prog 112 #[progV pb cap p, .int .i64 k] w fun e w' => e = .returned (.int .i64 (opAt p k)) ∧ w = w' := by
  unfold progV
  by_cases h0 : k < 0
  · have hd : decide (k < 0) = true := by simpa using h0
    rw [opAt_out p (.inl h0)]
    clear h h0
    refine calls_all fun K hK => ?_
    go_enter Try.func112, Try.ntmps112
    go_wp2
    all_goals first | exact ⟨rfl, rfl⟩ | skip
  · have hd : decide (k < 0) = false := by simpa using h0
    by_cases h1 : (p.length : Int) ≤ k
    · have hd1 : decide ((p.length : Int) ≤ k) = true := by simpa using h1
      rw [opAt_out p (.inr h1)]
      clear h h0 h1
      refine calls_all fun K hK => ?_
      go_enter Try.func112, Try.ntmps112
      go_wp2
      all_goals first | exact ⟨rfl, rfl⟩ | skip
    · obtain ⟨i, rfl⟩ : ∃ i : Nat, k = i := ⟨k.toNat, by omega⟩
      have hil : (i : Int) < p.length := by omega
      have hx := insAt_get p (k := i) (by omega) hil
      have hc := (h.cells hx).1
      have hd1 : decide ((p.length : Int) ≤ (i : Int)) = false := by simp; omega
      have hi0 : (0 : Int) ≤ i := by omega
      simp only [Int.toNat_natCast] at hc
      rw [show opAt p i = (insAt p i).op from rfl]
      generalize (insAt p i).op = o at hc ⊢
      clear h hx h0 h1
      refine calls_all fun K hK => ?_
      go_enter Try.func112, Try.ntmps112
      go_wp2
      all_goals first | exact ⟨rfl, rfl⟩ | skip
end
end Go.Proofs.Ythfeljongackcaa
set_option linter.unusedSimpArgs false
set_option linter.unusedVariables false
set_option maxRecDepth 100000
namespace Go.Proofs.Ythfeljongackcaa
open Go.RowKit
open Go.Maps
/-- po reads as these instructions -/
def CodeAt (w : World) (po : Option Addr) (p : List Ins) : Prop := ∀ i x, p[i]? = some x → ∃ b o, po = some ⟨b, o, none⟩ ∧ w.cell? ⟨b, o + i * 5, none⟩ = some (.int .i64 x.op) ∧ w.cell? ⟨b, o + i * 5 + 1, none⟩ = some (.int .i64 x.a) ∧ w.cell? ⟨b, o + i * 5 + 2, none⟩ = some (.int .i64 x.b) ∧ w.cell? ⟨b, o + i * 5 + 3, none⟩ = some (.int .i64 x.c) ∧ w.cell? ⟨b, o + i * 5 + 4, none⟩ = some (.int .u64 x.n)
theorem CodeAt.upd {w w' : World} {po : Option Addr} {p : List Ins} {S : List Nat} (h : CodeAt w po p) (u : Upd S w w') (hS : ∀ b o, po = some ⟨b, o, none⟩ → b ∉ S) : CodeAt w' po p := by
  intro i x hx
  obtain ⟨b, o, rfl, h0, h1, h2, h3, h4⟩ := h i x hx
  have hb : b < w.heap.size := World.block_lt_of_cell? w _ h0
  have he := u.block b hb (hS b o rfl)
  exact ⟨b, o, rfl, (World.cell?_of_block (w := w) he).trans h0, (World.cell?_of_block (w := w) he).trans h1, (World.cell?_of_block (w := w) he).trans h2, (World.cell?_of_block (w := w) he).trans h3, (World.cell?_of_block (w := w) he).trans h4⟩
theorem CodeAt.upd0 {w w' : World} {po : Option Addr} {p : List Ins} (h : CodeAt w po p) (u : Upd [] w w') : CodeAt w' po p := h.upd u (by simp)
/-- is the program formed? -/
def formedP (p : List Ins) : Bool := p.all formed && (decide (1 ≤ p.length) && decide (p.length ≤ 256))
theorem formedP_at {p : List Ins} (h : formedP p = true) {i : Nat} {x : Ins} (hx : p[i]? = some x) : formed x = true := by
  unfold formedP at h
  simp only [Bool.and_eq_true] at h
  exact List.all_eq_true.1 h.1 x (List.mem_of_getElem? hx)
theorem formedP_len {p : List Ins} (h : formedP p = true) : 1 ≤ p.length ∧ p.length ≤ 256 := by
  unfold formedP at h
  simp only [Bool.and_eq_true, decide_eq_true_eq] at h
  exact h.2
theorem formedP_no {p : List Ins} {i : Nat} {x : Ins} (hx : p[i]? = some x) (h : formed x = false) : formedP p = false := by
  cases hp : formedP p with
  | false => rfl
  | true => rw [formedP_at hp hx] at h; cases h
set_option maxHeartbeats 1000000 in
theorem formed_prog (w : World) (po : Option Addr) (cap : Nat) (p : List Ins) (h : CodeAt w po p) (hl : p.length ≤ 4611686018427387904) : Calls Try.prog 106 #[.slice po p.length cap] w fun e w' => e = .returned (.bool (formedP p)) ∧ Upd [] w w' := by
  refine calls_all fun K hK => ?_
  go_enter Try.func106, Try.ntmps106
  go_wp2_with fail
  go_loopw [7] (fun v7 wr => ∃ i : Nat, i ≤ p.length ∧ v7 = .int .i64 i ∧ Upd [] w wr ∧ ∀ j x, j < i → p[j]? = some x → formed x = true) (fun v7 _ => p.length - (intOf v7).toNat)
  case atStart => exact ⟨0, by omega, rfl, Upd.refl _ _, fun j x hj => by omega⟩
  case round =>
    obtain ⟨i, hi, rfl, u, hall⟩ := hrel
    have HA := Lib.hid hall
    clear hall
    by_cases hlt : i < p.length
    · have hlt' : (i : Int) < (p.length : Int) := by omega
      obtain ⟨x, hx⟩ : ∃ x, p[i]? = some x := ⟨_, List.getElem?_eq_getElem hlt⟩
      obtain ⟨b, o, rfl, h0, h1, h2, h3, h4⟩ := (h.upd0 u) i x hx
      have HX := Lib.hid hx
      clear hx
      obtain ⟨xo, xa, xb, xc, xn⟩ := x
      dsimp only at h0 h1 h2 h3 h4
      have B1 := Blk.new wr [.int .i64 xo, .int .i64 xa, .int .i64 xb, .int .i64 xc, .int .u64 xn] 144
      have u1 := u.alloc (.cells #[.int .i64 xo, .int .i64 xa, .int .i64 xb, .int .i64 xc, .int .u64 xn] 144)
      have hf := formed_code ⟨xo, xa, xb, xc, xn⟩ (wr.alloc (.cells #[.int .i64 xo, .int .i64 xa, .int .i64 xb, .int .i64 xc, .int .u64 xn] 144))
      simp only [Ins.val] at hf
      obtain ⟨f, hff⟩ : ∃ f, formed ⟨xo, xa, xb, xc, xn⟩ = f := ⟨_, rfl⟩
      rw [hff] at hf
      have HF := Lib.hid hff
      clear hff B1
      go_wp2_with fail
      refine hf.mono ?_
      rintro e w2 ⟨rfl, u2⟩
      have u3 := u1.trans u2
      clear u1 u2 hf h0 h1 h2 h3 h4
      cases f with
      | false =>
        have hp := formedP_no HX.out HF.out
        go_wp2_with fail
        exact ⟨by rw [hp]; rfl, u3⟩
      | true =>
        go_wp2_with fail
        go_roundw
        case rel =>
          refine ⟨i + 1, by omega, by go_num, u3, fun j x hj hx => ?_⟩
          by_cases hji : j = i
          · subst hji
            rw [HX.out] at hx
            cases hx
            exact HF.out
          · exact HA.out j x (by omega) hx
        case measure => simp [intOf]; omega
    · obtain rfl : i = p.length := by omega
      have hall : p.all formed = true := List.all_eq_true.2 fun x hx => by
        obtain ⟨j, hj⟩ := List.getElem?_of_mem hx
        exact HA.out j x (List.getElem?_eq_some_iff.1 hj).1 hj
      have hp : formedP p = (decide (1 ≤ p.length) && decide (p.length ≤ 256)) := by unfold formedP; rw [hall]; rfl
      have HP := Lib.hid hp
      clear h hp hall
      by_cases h1 : 1 ≤ p.length
      · have d1 : decide (0 < (p.length : Int)) = true := by simp; omega
        by_cases h2 : p.length ≤ 256
        · have d2 : decide ((p.length : Int) ≤ 256) = true := by simp; omega
          have hv : formedP p = true := by rw [HP.out, decide_eq_true h1, decide_eq_true h2]; rfl
          go_wp2_with fail
          exact ⟨by rw [hv]; rfl, u⟩
        · have d2 : decide ((p.length : Int) ≤ 256) = false := by simp; omega
          have hv : formedP p = false := by rw [HP.out, decide_eq_false h2]; simp
          go_wp2_with fail
          exact ⟨by rw [hv]; rfl, u⟩
      · have d1 : decide (0 < (p.length : Int)) = false := decide_eq_false (by omega)
        have hv : formedP p = false := by rw [HP.out, decide_eq_false h1]; rfl
        go_wp2_with fail
        exact ⟨by rw [hv]; rfl, u⟩
end Go.Proofs.Ythfeljongackcaa
set_option linter.unusedSimpArgs false
set_option linter.unusedVariables false
set_option maxRecDepth 100000
namespace Go.Proofs.Ythfeljongackcaa
open Go.RowKit
theorem tmay_leave {p : List Ins} {t : TS} {k : Int} (hs : 1 ≤ t.st ∧ t.st ≤ 3) (he : t.st = 3 ↔ t.err ≠ 0) (hk : 0 ≤ k ∧ k ≤ 9223372036854775807) : TMay p (leaveT t k) :=
  ⟨hs, he, hk, fun _ => ⟨rfl, rfl, rfl⟩, fun s h => by cases h⟩
theorem tmay_give {p : List Ins} {t : TS} {k : Int} (h : TMay p t) (hk : 0 ≤ k ∧ k ≤ 9223372036854775807) : TMay p (giveT t k) := tmay_leave (t := { t with regs := t.saved }) h.st h.err hk
theorem opAt_in {p : List Ins} {k : Int} (h : opAt p k ≠ 0) : 0 ≤ k ∧ k < p.length := by
  rcases Int.lt_or_le k 0 with h1 | h1
  · unfold opAt insAt at h; rw [if_pos h1] at h; exact absurd rfl h
  · rcases Int.lt_or_le k p.length with h2 | h2
    · exact ⟨h1, h2⟩
    · unfold opAt insAt at h
      rw [if_neg (by omega), List.getD_eq_getElem?_getD, List.getElem?_eq_none (by omega)] at h
      exact absurd rfl h
theorem TMay.start {p : List Ins} {t : TS} (h : TMay p t) (hp : p.length ≤ 256) : 0 ≤ t.start ∧ t.start ≤ 9223372036854775807 := by
  cases ha : t.att with
  | none => have := (h.out ha).1; omega
  | some s =>
    have h2 := (h.ins s ha).2.1
    have := opAt_in (p := p) (k := t.start) (by omega)
    omega
theorem tmay_fail {p : List Ins} {t : TS} {k : Int} (h : TMay p t) (hp : p.length ≤ 256) (hk : k ≠ 0) : TMay p (failT t k).2 := by
  unfold failT
  split
  · exact ⟨by simp, by simp [hk], by simpa [giveT, leaveT] using h.start hp, fun _ => ⟨rfl, rfl, rfl⟩, fun s h => by cases h⟩
  · rename_i hi
    have ha : t.att = none := by
      unfold TS.ins at hi
      cases ha : t.att with
      | none => rfl
      | some s => rw [ha] at hi; simp at hi
    exact ⟨by simp, by simp [hk], h.at0, fun _ => h.out ha, fun s hs => by rw [show t.att = some s from hs] at ha; cases ha⟩
/-- the thread with its attempt moved on, not yet turned -/
structure Pre (p : List Ins) (t : TS) : Prop where
  st : t.st = 1
  err : t.err = 0
  at0 : 0 ≤ t.at_ ∧ t.at_ < p.length
  len : p.length ≤ 256
  start : opAt p t.start = 12
  fuel : 0 ≤ t.fuel ∧ t.fuel ≤ 4096
theorem Pre.may {p : List Ins} {t : TS} (h : Pre p t) {s : AS} (hM : May s) (h10 : s.phase ≠ 10) (hp : placed p t s) : TMay p (withA t s) :=
  ⟨by have := h.st; simp only [withA]; omega, by have := h.st; have := h.err; simp only [withA]; omega, by have := h.at0; have := h.len; simp only [withA]; omega, fun e => by (cases e), fun s2 e => by
    cases e
    exact ⟨h.st, h.start, h.fuel, hM, h10, hp⟩⟩
/-- a turn is told: the attempt's state s behind it -/
theorem tmay_turned {p : List Ins} {t : TS} (h : Pre p t) {s : AS} {x : Trn} {k : Int} (hM : May s)
    (hg : k = 0 → x.out = 2 ∨ x.out = 3 → s.phase = 1)
    (ho : k = 0 → ¬ (2 ≤ x.out ∧ x.out ≤ 5) → s.phase ≠ 10 ∧ placed p t s) : TMay p (turnedT p (withA t s) x k).2 := by
  have hlen := h.len
  have hat := h.at0
  have hst := h.st
  have her := h.err
  unfold turnedT
  by_cases hk : k = 0
  · rw [if_neg (by simpa using hk)]
    by_cases h2 : x.out = 2
    · have hp := hg hk (.inl h2)
      simp only [h2, if_true]
      refine ⟨by simp only [nextT, setR, withA]; omega, by simp only [nextT, setR, withA]; omega, by simp only [nextT, setR, withA]; omega, fun e => by (cases e), fun s2 e => ?_⟩
      cases e
      exact ⟨h.st, h.start, h.fuel, hM, by omega, .inl hp⟩
    by_cases h3 : x.out = 3
    · have hp := hg hk (.inr h3)
      simp only [h3, if_true]
      refine ⟨by simp only [nextT, setR, withA]; simp; omega, by simp [nextT, withA]; omega, by simp [nextT, withA]; omega, fun e => by simp [nextT, withA] at e, fun s2 e => ?_⟩
      have e2 : s = s2 := by simpa [nextT, withA] using e
      subst e2
      exact ⟨by simpa [nextT, withA] using h.st, by simpa [nextT, withA] using h.start, by simpa [nextT, withA] using h.fuel, hM, by omega, .inl hp⟩
    by_cases h4 : x.out = 4
    · simp only [h4]
      exact tmay_leave (t := withA t s) (by simp only [withA]; omega) (by simp only [withA]; omega) (by simp only [withA]; omega)
    by_cases h5 : x.out = 5
    · simp only [h5]
      have hs := opAt_in (p := p) (k := t.start) (by have := h.start; omega)
      exact tmay_leave (t := { withA t s with regs := t.saved }) (by simp only [withA]; omega) (by simp only [withA]; omega) (by simp only [withA]; omega)
    rw [if_neg h2, if_neg h3, if_neg h4, if_neg h5]
    obtain ⟨a, b⟩ := ho hk (by omega)
    exact h.may hM a b
  · rw [if_pos (by simpa using hk)]
    have hi : (withA t s).ins = true := rfl
    unfold failT
    simp only [hi, if_true]
    have hs := opAt_in (p := p) (k := t.start) (by have := h.start; omega)
    exact ⟨by simp, by simp [hk], by simp only [giveT, leaveT, withA]; omega, fun _ => ⟨rfl, rfl, rfl⟩, fun s e => by cases e⟩
theorem mod_pos {n m : Int} (h : 0 < m) : 0 ≤ n % m ∧ n % m < m := ⟨Int.emod_nonneg _ (by omega), Int.emod_lt_of_pos _ h⟩
theorem target_bound {n : Int} (h : 0 ≤ n) : 0 ≤ targetI n ∧ targetI n ≤ 9223372036854775807 := by unfold targetI; split <;> omega
/-- a turn's tale fits the state that it leaves -/
def Tale (g : Bool) (x : Trn) (s' : AS) : Prop := (x.out = 2 ∨ x.out = 3 → s'.phase = 1) ∧ (¬ (2 ≤ x.out ∧ x.out ≤ 5) → s'.phase ≠ 10 ∧ getsB s' = g)
section
variable {s : AS} {sh : Sh}
theorem tale_look (e : s.phase = 3) : Tale true (lookS s sh).1 (lookS s sh).2 := by
  unfold lookS Tale
  split
  · exact ⟨fun _ => rfl, fun h => absurd ⟨by simp, by simp⟩ h⟩
  · exact ⟨fun h => by simp [going] at h, fun _ => ⟨by simp, rfl⟩⟩
theorem tale_wait (e : s.phase = 4) : Tale (s.thn == 2) (waitS s sh).1 (waitS s sh).2 := by
  unfold waitS Tale
  split
  · refine ⟨fun h => by simp [going] at h, fun _ => ⟨by simp only; omega, ?_⟩⟩
    unfold getsB
    simp [e]
  · refine ⟨fun h => by simp [going] at h, fun _ => ⟨by simp only; split <;> omega, ?_⟩⟩
    unfold getsB
    simp only
    split <;> simp
theorem tale_check (e : s.phase = 5) : Tale (s.thn == 2) (checkS s sh).1 (checkS s sh).2 := by
  unfold checkS Tale
  split
  · refine ⟨fun h => by simp [going] at h, fun _ => ⟨by simp only; omega, ?_⟩⟩
    unfold getsB
    simp [e]
  · split
    · refine ⟨fun h => by simp [going] at h, fun _ => ⟨by simp only; split <;> simp [e], ?_⟩⟩
      unfold getsB
      simp only
      split <;> simp [e]
    · exact ⟨fun h => by simp at h, fun h => absurd ⟨by simp, by simp⟩ h⟩
theorem tale_close (e : s.phase = 6) (ht : s.thn = 2 ∨ s.thn = 7) : Tale (s.thn == 2) (closeS s sh).1 (closeS s sh).2 := by
  unfold closeS Tale
  split
  · refine ⟨fun h => by simp at h, fun _ => ⟨by simp only; omega, ?_⟩⟩
    unfold getsB
    rcases ht with k | k <;> simp [k]
  · refine ⟨fun h => by simp [going] at h, fun _ => ⟨by simp, ?_⟩⟩
    unfold getsB
    simp
theorem tale_lock (ht : s.thn = 0) : Tale false (lockS s sh).1 (lockS s sh).2.1 := by
  unfold lockS Tale
  split
  · exact ⟨fun h => by simp at h, fun _ => ⟨by simp, by unfold getsB; simp [ht]⟩⟩
  · exact ⟨fun h => by simp [going] at h, fun _ => ⟨by simp, by unfold getsB; simp⟩⟩
theorem tale_store (e : s.phase = 8) (ht : s.thn = 0) : Tale false (storeS s sh).1 (storeS s sh).2.1 := by
  unfold storeS Tale
  split
  · exact ⟨fun h => by simp [going] at h, fun _ => ⟨by simp only; omega, by unfold getsB; simp [e, ht]⟩⟩
  · refine ⟨fun h => by simp [going] at h, fun _ => ⟨by simp only; split <;> simp [e], ?_⟩⟩
    unfold getsB
    simp only
    split <;> simp [e, ht]
theorem step2 (e : s.phase = 2) (hx : s.addr < sh.row.length) : stepS s sh = ((loadS s sh).1, 0, (loadS s sh).2, sh) := by unfold stepS; rw [if_pos e, if_pos hx]
theorem step2n (e : s.phase = 2) (hx : ¬ s.addr < sh.row.length) : stepS s sh = (trnNone, 4, s, sh) := by unfold stepS; rw [if_pos e, if_neg hx]
theorem step3 (e : s.phase = 3) : stepS s sh = ((lookS s sh).1, 0, (lookS s sh).2, sh) := by unfold stepS; rw [if_neg (by omega), if_pos e]
theorem step4 (e : s.phase = 4) : stepS s sh = ((waitS s sh).1, 0, (waitS s sh).2, sh) := by unfold stepS; rw [if_neg (by omega), if_neg (by omega), if_pos e]
theorem step5 (e : s.phase = 5) : stepS s sh = ((checkS s sh).1, 0, (checkS s sh).2, sh) := by unfold stepS; rw [if_neg (by omega), if_neg (by omega), if_neg (by omega), if_pos e]
theorem step6 (e : s.phase = 6) : stepS s sh = ((closeS s sh).1, 0, (closeS s sh).2, sh) := by unfold stepS; rw [if_neg (by omega), if_neg (by omega), if_neg (by omega), if_neg (by omega), if_pos e]
theorem step7 (e : s.phase = 7) : stepS s sh = ((lockS s sh).1, 0, (lockS s sh).2.1, (lockS s sh).2.2) := by unfold stepS; rw [if_neg (by omega), if_neg (by omega), if_neg (by omega), if_neg (by omega), if_neg (by omega), if_pos e]
theorem step8 (e : s.phase = 8) : stepS s sh = ((storeS s sh).1, 0, (storeS s sh).2.1, (storeS s sh).2.2) := by unfold stepS; rw [if_neg (by omega), if_neg (by omega), if_neg (by omega), if_neg (by omega), if_neg (by omega), if_neg (by omega), if_pos e]
theorem step9 (e : s.phase = 9) : stepS s sh = ((freeS s sh).1, 0, (freeS s sh).2.1, (freeS s sh).2.2) := by unfold stepS; rw [if_neg (by omega), if_neg (by omega), if_neg (by omega), if_neg (by omega), if_neg (by omega), if_neg (by omega), if_neg (by omega), if_pos e]
end
/-- a step of an attempt that is under way -/
theorem tale_step {s : AS} {sh : Sh} (hM : May s) (h1 : s.phase ≠ 1) (h10 : s.phase ≠ 10) : (stepS s sh).2.1 = 0 → Tale (getsB s) (stepS s sh).1 (stepS s sh).2.2.1 := by
  have hph := hM.ph
  have hthn := hM.thn
  have hv : validB s = (s.phase == 4 || s.phase == 5 || s.phase == 6) := rfl
  have hg : getsB s = (s.phase == 2 || s.phase == 3 || s.thn == 2) := rfl
  have hc : s.phase = 2 ∨ s.phase = 3 ∨ s.phase = 4 ∨ s.phase = 5 ∨ s.phase = 6 ∨ s.phase = 7 ∨ s.phase = 8 ∨ s.phase = 9 := by omega
  intro hk
  rw [hv] at hthn
  rcases hc with e | e | e | e | e | e | e | e
  · have hgt : getsB s = true := by rw [hg, e]; rfl
    rw [hgt]
    by_cases hx : s.addr < sh.row.length
    · rw [step2 e hx]
      exact ⟨fun h => by simp [loadS, going] at h, fun _ => ⟨by simp [loadS], rfl⟩⟩
    · rw [step2n e hx] at hk; simp at hk
  · rw [show getsB s = true by rw [hg, e]; rfl, step3 e]; exact tale_look e
  · rw [show getsB s = (s.thn == 2) by rw [hg, e]; rfl, step4 e]; exact tale_wait e
  · rw [show getsB s = (s.thn == 2) by rw [hg, e]; rfl, step5 e]; exact tale_check e
  · rw [show getsB s = (s.thn == 2) by rw [hg, e]; rfl, step6 e]; exact tale_close e (by rw [e] at hthn; simpa using hthn)
  · have ht : s.thn = 0 := by rw [e] at hthn; simpa using hthn
    rw [show getsB s = false by rw [hg, e, ht]; rfl, step7 e]; exact tale_lock ht
  · have ht : s.thn = 0 := by rw [e] at hthn; simpa using hthn
    rw [show getsB s = false by rw [hg, e, ht]; rfl, step8 e]; exact tale_store e ht
  · rw [step9 e]
    exact ⟨fun h => by simp [freeS] at h, fun h => absurd ⟨by simp [freeS], by simp [freeS]⟩ h⟩
/-- what is under way -/
theorem tmay_turn {p : List Ins} {t : TS} {sh : Sh} (h : TMay p t) (hp : p.length ≤ 256) (hw : WideSh sh) {s : AS} (ha : t.att = some s) (h1 : s.phase ≠ 1) :
    TMay p (turnedT p (withA t (stepS s sh).2.2.1) (stepS s sh).1 (stepS s sh).2.1).2 := by
  obtain ⟨hst, hstart, hfuel, hM, h10, hpl⟩ := h.ins s ha
  have herr : t.err = 0 := by
    by_cases e : t.err = 0
    · exact e
    · have := h.err.2 e; omega
  obtain ⟨hf0, hop⟩ : 0 < t.fuel ∧ opAt p t.at_ = if getsB s = true then 13 else 15 := by
    rcases hpl with k | k
    · exact absurd k h1
    · exact k
  have hat := opAt_in (p := p) (k := t.at_) (by rw [hop]; split <;> omega)
  have hpre : Pre p t := ⟨hst, herr, hat, hp, hstart, hfuel⟩
  have hM2 := may_step (sh := sh) hM hw.par
  exact tmay_turned hpre hM2 (fun hk => (tale_step hM h1 h10 hk).1) (fun hk ho => ⟨((tale_step hM h1 h10 hk).2 ho).1, .inr ⟨hf0, by rw [((tale_step hM h1 h10 hk).2 ho).2]; exact hop⟩⟩)
end Go.Proofs.Ythfeljongackcaa
