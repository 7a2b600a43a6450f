/- table: how a thread is behind an event. No condition. -/
import Derived.Test.YtfldpejifpmapaaDoorETake7
import Derived.Maps.RangeWalk
import Derived.Deep.MidRow
import Derived.Deep.Cut
import Derived.Outline
set_option linter.unusedSimpArgs false
set_option linter.unusedVariables false
set_option maxRecDepth 100000
namespace Go.Proofs.YtfldpejifpmapaaDoor
open Go.RowKit
open Go.Maps
/-- some cells of a block are written -/
def rowSet (vs : List Value) (o : Nat) (us : List Value) : List Value := vs.take o ++ us ++ vs.drop (o + us.length)
theorem Blk.rows {t : TypeId} {b : Nat} : ∀ (us : List Value) {W : World} {vs : List Value} (o : Nat), Blk W b vs t → o + us.length ≤ vs.length → Blk (W.setCells b o us) b (rowSet vs o us) t
  | [], W, vs, o, h, _ => by
    have e : rowSet vs o [] = vs := by simp [rowSet]
    rw [e]; exact h
  | u :: us, W, vs, o, h, hl => by
    have h1 := Blk.rows us (o + 1) (h.set o u) (by simp at hl ⊢; omega)
    have e : rowSet (vs.set o u) (o + 1) us = rowSet vs o (u :: us) := by
      have ho : o < vs.length := by simp at hl; omega
      unfold rowSet
      rw [List.take_set, List.drop_set_of_lt (by omega), List.take_add_one, List.getElem?_eq_getElem ho]
      rw [show List.set (vs.take o ++ (some vs[o]).toList) o u = vs.take o ++ [u] by rw [List.set_append_right _ _ (by simp; omega)]; simp [Nat.min_eq_left (Nat.le_of_lt ho)]]
      simp only [List.append_assoc, List.singleton_append, List.length_cons]
      rw [show o + 1 + us.length = o + (us.length + 1) by omega]
    rw [← e]
    exact h1
theorem Upd.rows {S : List Nat} {b : Nat} {w : World} : ∀ (us : List Value) {W : World} (o : Nat), Upd S w W → (b ∈ S ∨ w.heap.size ≤ b) → Upd S w (W.setCells b o us)
  | [], _, _, h, _ => h
  | _ :: us, _, o, h, hb => Upd.rows us (o + 1) (h.setCell (p := ⟨b, o, none⟩) hb _) hb
theorem Blk.there {W : World} {b : Nat} {vs : List Value} {t : TypeId} (h : Blk W b vs t) (o n : Nat) (hl : o + n ≤ vs.length) : W.there b o n := fun j hj => by
  refine ⟨?_, h.free _⟩
  rw [h.at, List.getElem?_eq_getElem (by omega)]
  rfl
theorem Blk.range {w : World} {b : Nat} {vs : List Value} {t : TypeId} (h : Blk w b vs t) : w.rangeAt b 0 vs := fun j v hj => by rw [Nat.zero_add]; exact h.cell j hj
theorem row_results {T k : Nat} {d : TypeDesc} {fn : Func} (hu : Tryd.prog.underlying T = some d) (hd : d.isRow = true) (hr : fn.results = #[.cell k T]) (t : Array Value) (w : World) (rb : Nat) (cs : List Value) (h2 : t.getD k undef = .pointer (some ⟨rb, 0, none⟩)) (hb : w.rangeAt rb 0 cs) (hl : (Tryd.prog.info? T).map (·.size) = some cs.length) :
    (results fn t).run Tryd.prog w = .ok (.agg cs.toArray) w := by
  have h2' : t[k]?.getD undef = .pointer (some ⟨rb, 0, none⟩) := by simpa using h2
  have h3 := run_loadVar_mid (P := Tryd.prog) w rb 0 T cs _ hb hu hd hl
  simp [results, hr, h2', h3, Sem.run_bind, asAddr]
theorem wpList_insert_eq {P : Program} {ops : Array Oper} {rest : List Oper} {o : Oper} {a : Act} {w w' : World} {Q : Exit → Act → World → Prop} (hg : o.guard = none) (m x v : Operand) (t : TypeId) (hop : o.op = Op.insert t m x v)
    (mv xv vv : Value) (hm : a.eval m = mv) (hx : a.eval x = xv) (hv : a.eval v = vv) (hrun : (Instr.mapUpdate t mv xv vv).run P w = .ok () w') (h : wpList P ops Q rest (a.put o.dst undef) w') : wpList P ops Q (o :: rest) a w := by
  refine wpList_plain hg fun K hK => ?_
  unfold Oper.wp
  simp only [execOp, hop, hm, hx, hv, Sem.run_bind, hrun, Result.andThen_ok, Sem.run_pure]
  exact hK _ _ h
theorem law_kind : Keyed Tryd.prog 23 := int_keyed Tryd.underlying23
theorem kind_store {w : World} {m n : Nat} {D : DataW Unit} (ho : w.ownsMap Tryd.prog 23 (plainElem Tryd.prog 3) m n D) (x c : Int) (hx : (Lit.int .i64 x).wf = true) (hc : (Lit.int .i64 c).wf = true) (hn : n < 9223372036854775807) :
    ∃ w', (Instr.mapUpdate 138 (.map (some m)) (.int .i64 x) (.int .i64 c)).run Tryd.prog w = .ok () w' ∧ w'.ownsMap Tryd.prog 23 (plainElem Tryd.prog 3) m (n + 1) (D.put (.int .i64 x) (.lit (.int .i64 c))) ∧ Upd [m] w w' := by
  obtain ⟨w', hr, ho', hg⟩ := ho.update law_kind Tryd.underlying138 (by unfold maxLen; omega) (keyOf_int_mk Tryd.underlying23 hx) (val := .int .i64 c) (d := .lit (.int .i64 c)) (ps := []) (plainElem_int Tryd.underlying3 hc)
  exact ⟨w', hr, ho', Upd.of_grown hg (fun k hk => by cases hk; exact .inl (by simp))⟩
def z52 : Array Value := #[.int .i64 0, .int .i64 0, .int .i64 0, .int .i64 0, .int .i64 0, .int .i64 0, .int .i64 0, .int .i64 0, .int .i64 0, .int .i64 0, .int .i64 0, .int .i64 0, .int .i64 0, .int .i64 0, .int .i64 0, .int .i64 0, .int .i64 0, .int .i64 0, .int .i64 0, .int .i64 0, .int .i64 0, .int .i64 0, .int .i64 0, .int .i64 0, .int .i64 0, .int .i64 0, .int .i64 0, .int .i64 0, .int .i64 0, .int .i64 0, .int .i64 0, .int .i64 0, .int .i64 0, .int .i64 0, .int .i64 0, .int .i64 0, .int .i64 0, .int .i64 0, .int .i64 0, .int .i64 0, .int .i64 0, .int .i64 0, .int .i64 0, .int .i64 0, .int .i64 0, .int .i64 0, .int .i64 0, .int .i64 0, .int .i64 0, .int .i64 0, .int .i64 0, .int .i64 0]
def tabA (f : Int → Bool) : List Int := [0, (if f 1 then 0 else 2), 0, 0, 0, 0, 0, 0, 0, (if f 9 then 0 else 4), (if f 10 then 0 else 1), (if f 11 then 0 else 1), (if f 12 then 0 else 4), 0, 0, 0, 0, 0, 0, 0, 0, 0, 0, 0, 0, 0, 0, 0, 0, 0, 0, 0, 0, 0, 0, 0, 0, 0, 0, 0, 0, 0, 0, 0, 0, 0, 0, 0, 0, 0, 0, 0]
def tabB (f : Int → Bool) : List Int := [0, 2, 0, 0, 0, 0, 0, 0, 0, 4, 1, 1, 4, 0, 0, (if f 2 then 0 else 2), (if f 3 then 0 else 2), (if f 4 then 0 else 2), (if f 5 then 0 else 3), (if f 6 then 0 else 1), (if f 7 then 0 else 1), (if f 8 then 0 else 1), (if f 9 then 0 else 4), 0, 0, 0, 0, 0, 0, 0, 0, 0, 0, 0, 0, 0, 0, 0, 0, 0, 0, 0, 0, 0, 0, 0, 0, 0, 0, 0, 0, 0]
def tab1 : List Int := [0, 2, 0, 0, 0, 0, 0, 0, 0, 4, 1, 1, 4, 0, 0, 0, 0, 0, 0, 0, 0, 0, 0, 0, 0, 0, 0, 0, 0, 0, 0, 0, 0, 0, 0, 0, 0, 0, 0, 0, 0, 0, 0, 0, 0, 0, 0, 0, 0, 0, 0, 0]
def tabV (l : List Int) : List Value := l.map (Value.int .i64)
def datA : DataW Unit := ((((((DataW.map [] : DataW Unit).put (.int .i64 1) (.lit (.int .i64 1))).put (.int .i64 10) (.lit (.int .i64 0))).put (.int .i64 11) (.lit (.int .i64 0))).put (.int .i64 9) (.lit (.int .i64 3))).put (.int .i64 12) (.lit (.int .i64 3)))
def datB : DataW Unit := (((((((((DataW.map [] : DataW Unit).put (.int .i64 2) (.lit (.int .i64 1))).put (.int .i64 3) (.lit (.int .i64 1))).put (.int .i64 4) (.lit (.int .i64 1))).put (.int .i64 5) (.lit (.int .i64 2))).put (.int .i64 6) (.lit (.int .i64 0))).put (.int .i64 7) (.lit (.int .i64 0))).put (.int .i64 8) (.lit (.int .i64 0))).put (.int .i64 9) (.lit (.int .i64 3)))
theorem datA_has (x : Int) (h : Maps.has datA (.int .i64 x) = true) : x = 1 ∨ x = 9 ∨ x = 10 ∨ x = 11 ∨ x = 12 := by
  have e : datA = .map [(.int .i64 1, .lit (.int .i64 1)), (.int .i64 9, .lit (.int .i64 3)), (.int .i64 10, .lit (.int .i64 0)), (.int .i64 11, .lit (.int .i64 0)), (.int .i64 12, .lit (.int .i64 3))] := by rfl
  rw [e, has_eq] at h
  simp [Lit.sameKey] at h
  omega
theorem datB_has (x : Int) (h : Maps.has datB (.int .i64 x) = true) : x = 2 ∨ x = 3 ∨ x = 4 ∨ x = 5 ∨ x = 6 ∨ x = 7 ∨ x = 8 ∨ x = 9 := by
  have e : datB = .map [(.int .i64 2, .lit (.int .i64 1)), (.int .i64 3, .lit (.int .i64 1)), (.int .i64 4, .lit (.int .i64 1)), (.int .i64 5, .lit (.int .i64 2)), (.int .i64 6, .lit (.int .i64 0)), (.int .i64 7, .lit (.int .i64 0)), (.int .i64 8, .lit (.int .i64 0)), (.int .i64 9, .lit (.int .i64 3))] := by rfl
  rw [e, has_eq] at h
  simp [Lit.sameKey] at h
  omega
theorem datA_1 (c : Int) (h : ∀ zd, datA.atKey (.int .i64 1) zd = .lit (.int .i64 c)) : c = 1 := by
  have h1 := h (.lit (.int .i64 0))
  rw [show datA.atKey (.int .i64 1) (.lit (.int .i64 0)) = .lit (.int .i64 1) by rfl] at h1
  injection h1 with h1
  injection h1 with _ h1
  exact h1.symm
theorem datA_10 (c : Int) (h : ∀ zd, datA.atKey (.int .i64 10) zd = .lit (.int .i64 c)) : c = 0 := by
  have h1 := h (.lit (.int .i64 0))
  rw [show datA.atKey (.int .i64 10) (.lit (.int .i64 0)) = .lit (.int .i64 0) by rfl] at h1
  injection h1 with h1
  injection h1 with _ h1
  exact h1.symm
theorem datA_11 (c : Int) (h : ∀ zd, datA.atKey (.int .i64 11) zd = .lit (.int .i64 c)) : c = 0 := by
  have h1 := h (.lit (.int .i64 0))
  rw [show datA.atKey (.int .i64 11) (.lit (.int .i64 0)) = .lit (.int .i64 0) by rfl] at h1
  injection h1 with h1
  injection h1 with _ h1
  exact h1.symm
theorem datA_9 (c : Int) (h : ∀ zd, datA.atKey (.int .i64 9) zd = .lit (.int .i64 c)) : c = 3 := by
  have h1 := h (.lit (.int .i64 0))
  rw [show datA.atKey (.int .i64 9) (.lit (.int .i64 0)) = .lit (.int .i64 3) by rfl] at h1
  injection h1 with h1
  injection h1 with _ h1
  exact h1.symm
theorem datA_12 (c : Int) (h : ∀ zd, datA.atKey (.int .i64 12) zd = .lit (.int .i64 c)) : c = 3 := by
  have h1 := h (.lit (.int .i64 0))
  rw [show datA.atKey (.int .i64 12) (.lit (.int .i64 0)) = .lit (.int .i64 3) by rfl] at h1
  injection h1 with h1
  injection h1 with _ h1
  exact h1.symm
theorem datB_2 (c : Int) (h : ∀ zd, datB.atKey (.int .i64 2) zd = .lit (.int .i64 c)) : c = 1 := by
  have h1 := h (.lit (.int .i64 0))
  rw [show datB.atKey (.int .i64 2) (.lit (.int .i64 0)) = .lit (.int .i64 1) by rfl] at h1
  injection h1 with h1
  injection h1 with _ h1
  exact h1.symm
theorem datB_3 (c : Int) (h : ∀ zd, datB.atKey (.int .i64 3) zd = .lit (.int .i64 c)) : c = 1 := by
  have h1 := h (.lit (.int .i64 0))
  rw [show datB.atKey (.int .i64 3) (.lit (.int .i64 0)) = .lit (.int .i64 1) by rfl] at h1
  injection h1 with h1
  injection h1 with _ h1
  exact h1.symm
theorem datB_4 (c : Int) (h : ∀ zd, datB.atKey (.int .i64 4) zd = .lit (.int .i64 c)) : c = 1 := by
  have h1 := h (.lit (.int .i64 0))
  rw [show datB.atKey (.int .i64 4) (.lit (.int .i64 0)) = .lit (.int .i64 1) by rfl] at h1
  injection h1 with h1
  injection h1 with _ h1
  exact h1.symm
theorem datB_5 (c : Int) (h : ∀ zd, datB.atKey (.int .i64 5) zd = .lit (.int .i64 c)) : c = 2 := by
  have h1 := h (.lit (.int .i64 0))
  rw [show datB.atKey (.int .i64 5) (.lit (.int .i64 0)) = .lit (.int .i64 2) by rfl] at h1
  injection h1 with h1
  injection h1 with _ h1
  exact h1.symm
theorem datB_6 (c : Int) (h : ∀ zd, datB.atKey (.int .i64 6) zd = .lit (.int .i64 c)) : c = 0 := by
  have h1 := h (.lit (.int .i64 0))
  rw [show datB.atKey (.int .i64 6) (.lit (.int .i64 0)) = .lit (.int .i64 0) by rfl] at h1
  injection h1 with h1
  injection h1 with _ h1
  exact h1.symm
theorem datB_7 (c : Int) (h : ∀ zd, datB.atKey (.int .i64 7) zd = .lit (.int .i64 c)) : c = 0 := by
  have h1 := h (.lit (.int .i64 0))
  rw [show datB.atKey (.int .i64 7) (.lit (.int .i64 0)) = .lit (.int .i64 0) by rfl] at h1
  injection h1 with h1
  injection h1 with _ h1
  exact h1.symm
theorem datB_8 (c : Int) (h : ∀ zd, datB.atKey (.int .i64 8) zd = .lit (.int .i64 c)) : c = 0 := by
  have h1 := h (.lit (.int .i64 0))
  rw [show datB.atKey (.int .i64 8) (.lit (.int .i64 0)) = .lit (.int .i64 0) by rfl] at h1
  injection h1 with h1
  injection h1 with _ h1
  exact h1.symm
theorem datB_9 (c : Int) (h : ∀ zd, datB.atKey (.int .i64 9) zd = .lit (.int .i64 c)) : c = 3 := by
  have h1 := h (.lit (.int .i64 0))
  rw [show datB.atKey (.int .i64 9) (.lit (.int .i64 0)) = .lit (.int .i64 3) by rfl] at h1
  injection h1 with h1
  injection h1 with _ h1
  exact h1.symm
theorem tabA_1 (f : Lit → Bool) : (tabV (tabA fun j => f (.int .i64 j))).set 1 (.int .i64 2) = tabV (tabA fun j => f (.int .i64 j) && !(Lit.int .i64 j).sameKey (.int .i64 1)) := by
  simp [tabV, tabA, Lit.sameKey]
theorem tabA_10 (f : Lit → Bool) : (tabV (tabA fun j => f (.int .i64 j))).set 10 (.int .i64 1) = tabV (tabA fun j => f (.int .i64 j) && !(Lit.int .i64 j).sameKey (.int .i64 10)) := by
  simp [tabV, tabA, Lit.sameKey]
theorem tabA_11 (f : Lit → Bool) : (tabV (tabA fun j => f (.int .i64 j))).set 11 (.int .i64 1) = tabV (tabA fun j => f (.int .i64 j) && !(Lit.int .i64 j).sameKey (.int .i64 11)) := by
  simp [tabV, tabA, Lit.sameKey]
theorem tabA_9 (f : Lit → Bool) : (tabV (tabA fun j => f (.int .i64 j))).set 9 (.int .i64 4) = tabV (tabA fun j => f (.int .i64 j) && !(Lit.int .i64 j).sameKey (.int .i64 9)) := by
  simp [tabV, tabA, Lit.sameKey]
theorem tabA_12 (f : Lit → Bool) : (tabV (tabA fun j => f (.int .i64 j))).set 12 (.int .i64 4) = tabV (tabA fun j => f (.int .i64 j) && !(Lit.int .i64 j).sameKey (.int .i64 12)) := by
  simp [tabV, tabA, Lit.sameKey]
theorem tabB_2 (f : Lit → Bool) : (tabV (tabB fun j => f (.int .i64 j))).set 15 (.int .i64 2) = tabV (tabB fun j => f (.int .i64 j) && !(Lit.int .i64 j).sameKey (.int .i64 2)) := by
  simp [tabV, tabB, Lit.sameKey]
theorem tabB_3 (f : Lit → Bool) : (tabV (tabB fun j => f (.int .i64 j))).set 16 (.int .i64 2) = tabV (tabB fun j => f (.int .i64 j) && !(Lit.int .i64 j).sameKey (.int .i64 3)) := by
  simp [tabV, tabB, Lit.sameKey]
theorem tabB_4 (f : Lit → Bool) : (tabV (tabB fun j => f (.int .i64 j))).set 17 (.int .i64 2) = tabV (tabB fun j => f (.int .i64 j) && !(Lit.int .i64 j).sameKey (.int .i64 4)) := by
  simp [tabV, tabB, Lit.sameKey]
theorem tabB_5 (f : Lit → Bool) : (tabV (tabB fun j => f (.int .i64 j))).set 18 (.int .i64 3) = tabV (tabB fun j => f (.int .i64 j) && !(Lit.int .i64 j).sameKey (.int .i64 5)) := by
  simp [tabV, tabB, Lit.sameKey]
theorem tabB_6 (f : Lit → Bool) : (tabV (tabB fun j => f (.int .i64 j))).set 19 (.int .i64 1) = tabV (tabB fun j => f (.int .i64 j) && !(Lit.int .i64 j).sameKey (.int .i64 6)) := by
  simp [tabV, tabB, Lit.sameKey]
theorem tabB_7 (f : Lit → Bool) : (tabV (tabB fun j => f (.int .i64 j))).set 20 (.int .i64 1) = tabV (tabB fun j => f (.int .i64 j) && !(Lit.int .i64 j).sameKey (.int .i64 7)) := by
  simp [tabV, tabB, Lit.sameKey]
theorem tabB_8 (f : Lit → Bool) : (tabV (tabB fun j => f (.int .i64 j))).set 21 (.int .i64 1) = tabV (tabB fun j => f (.int .i64 j) && !(Lit.int .i64 j).sameKey (.int .i64 8)) := by
  simp [tabV, tabB, Lit.sameKey]
theorem tabB_9 (f : Lit → Bool) : (tabV (tabB fun j => f (.int .i64 j))).set 22 (.int .i64 4) = tabV (tabB fun j => f (.int .i64 j) && !(Lit.int .i64 j).sameKey (.int .i64 9)) := by
  simp [tabV, tabB, Lit.sameKey]
theorem ranges_set {w : World} {m it n : Nat} {D : DataW Unit} {left : Lit → Bool} {cnt : Nat} (h : w.ranges Tryd.prog 23 (plainElem Tryd.prog 3) m it n D left cnt) {tb o : Nat} (v : Value) (h1 : tb ≠ m) (h2 : tb ≠ it) :
    (w.setCell ⟨tb, o, none⟩ v).ranges Tryd.prog 23 (plainElem Tryd.prog 3) m it n D left cnt :=
  h.kept (row := some tb) ⟨rfl, rfl, rfl, by simp, fun k _ hk => Below.heap_setCell _ _ _ _ (fun e => hk (by rw [e]))⟩ (by simp; exact fun e => h1 e.symm) (by simp; exact fun e => h2 e.symm)
theorem tabA_all : tabA (fun _ => true) = List.replicate 52 0 := by decide
theorem tabA_none : tabA (fun _ => false) = tab1 := by decide
theorem tabB_all : tabB (fun _ => true) = tab1 := by decide
theorem tabB_none : (tabB (fun _ => false)).set 32 1 = turnL.map (fun n : Nat => (n : Int)) := by decide
theorem tabA_congr {f g : Int → Bool} (h : ∀ k, (k = 1 ∨ k = 9 ∨ k = 10 ∨ k = 11 ∨ k = 12) → f k = g k) : tabA f = tabA g := by
  unfold tabA
  rw [h 1 (by omega), h 9 (by omega), h 10 (by omega), h 11 (by omega), h 12 (by omega)]
theorem tabB_congr {f g : Int → Bool} (h : ∀ k, (2 ≤ k ∧ k ≤ 9) → f k = g k) : tabB f = tabB g := by
  unfold tabB
  rw [h 2 (by omega), h 3 (by omega), h 4 (by omega), h 5 (by omega), h 6 (by omega), h 7 (by omega), h 8 (by omega), h 9 (by omega)]
theorem startB : tabV (tabB fun k => Maps.has datB (.int .i64 k)) = tabV tab1 := by
  rw [tabB_congr (g := fun _ => true) ?_, tabB_all]
  intro k hk
  have : k = 2 ∨ k = 3 ∨ k = 4 ∨ k = 5 ∨ k = 6 ∨ k = 7 ∨ k = 8 ∨ k = 9 := by omega
  rcases this with rfl | rfl | rfl | rfl | rfl | rfl | rfl | rfl <;> rfl
end Go.Proofs.YtfldpejifpmapaaDoor
