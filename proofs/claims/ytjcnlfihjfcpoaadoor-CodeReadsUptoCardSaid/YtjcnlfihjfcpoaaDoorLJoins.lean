/- CodeJoins' walk: programs put behind one another; they stay; a join of joins is the join of all. The conditions are sizes; the tables are laid. -/
import Derived.Test.YtjcnlfihjfcpoaaDoorCJoin
import Derived.Test.YtjcnlfihjfcpoaaDoorCPlain
import Derived.Test.YtjcnlfihjfcpoaaDoorLNames
import Derived.Test.YtjcnlfihjfcpoaaDoorOpen
set_option linter.unusedSimpArgs false
set_option linter.unusedVariables false
set_option maxRecDepth 100000
namespace Go.Proofs.YtjcnlfihjfcpoaaDoor
open Go.RowKit
open Go.ChangeShapes Go.WideShapes Go.ChangeAt

/-- a slice of instructions that came in, opened -/
theorem sl_instrs {H : Type} {enc : TypeId × Value → H} {w : World} {base : Nat} {held : Bool} {p : Option Addr} {n : Nat} {V : Nat → Value} {fs : Array Field} (hfs : Tryd.prog.underlying 38 = some (.struct fs)) (h : SlV w p (n * fs.size) V)
    (hf : ∀ i, i < n → ∀ (j : Nat) (f : Field), fs[j]? = some f → ∃ (m : Nat) (y : DataW H × List MemPlace), DataW.trod enc Tryd.prog w base (fun _ => true) held m f.type [V (i * fs.size + j)] = some y) :
    ∃ L : List Ins, L.length = n ∧ SlN w p L ∧ words L := by
  have he := Option.some.inj (hfs.symm.trans Tryd.underlying38)
  injection he with he
  subst he
  have key : ∀ i, i < n → ∃ x : Ins, (∀ j v, x.cells[j]? = some v → V (i * 5 + j) = v) ∧ 0 ≤ x.n ∧ x.n < 18446744073709551616 := fun i hi => by
    obtain ⟨_, _, h0⟩ := hf i hi 0 _ rfl
    obtain ⟨_, _, h1⟩ := hf i hi 1 _ rfl
    obtain ⟨_, _, h2⟩ := hf i hi 2 _ rfl
    obtain ⟨_, _, h3⟩ := hf i hi 3 _ rfl
    obtain ⟨_, _, h4⟩ := hf i hi 4 _ rfl
    obtain ⟨z0, g0, _, _⟩ := DataW.trod_int Tryd.underlying22 h0
    obtain ⟨z1, g1, _, _⟩ := DataW.trod_int Tryd.underlying3 h1
    obtain ⟨z2, g2, _, _⟩ := DataW.trod_int Tryd.underlying3 h2
    obtain ⟨z3, g3, _, _⟩ := DataW.trod_int Tryd.underlying3 h3
    obtain ⟨z4, g4, _, wf⟩ := DataW.trod_int Tryd.underlying36 h4
    have hn : 0 ≤ z4 ∧ z4 ≤ 18446744073709551615 := by simpa [Lit.wf, IntKind.min, IntKind.max, IntKind.signed, IntKind.bits] using wf
    refine ⟨⟨z0, z1, z2, z3, z4⟩, fun j v hj => ?_, hn.1, by simp only; omega⟩
    have hj5 : j < 5 := by have := (List.getElem?_eq_some_iff.1 hj).1; simpa [Ins.cells] using this
    have : j = 0 ∨ j = 1 ∨ j = 2 ∨ j = 3 ∨ j = 4 := by omega
    rcases this with rfl | rfl | rfl | rfl | rfl
    · cases hj; exact (List.cons.inj g0).1
    · cases hj; exact (List.cons.inj g1).1
    · cases hj; exact (List.cons.inj g2).1
    · cases hj; exact (List.cons.inj g3).1
    · cases hj; exact (List.cons.inj g4).1
  have key2 : ∃ F : Nat → Ins, ∀ i, i < n → (∀ j v, (F i).cells[j]? = some v → V (i * 5 + j) = v) ∧ 0 ≤ (F i).n ∧ (F i).n < 18446744073709551616 :=
    ⟨fun i => if hi : i < n then (key i hi).choose else zeroIns, fun i hi => by simp only [hi, dif_pos]; exact (key i hi).choose_spec⟩
  obtain ⟨F, hF⟩ := key2
  refine ⟨(List.range n).map F, by simp, ⟨fun hne => ?_, fun b o e i x hi j v hj => ?_⟩, fun x hx => ?_⟩
  · have : 0 < n := by
      rcases Nat.eq_zero_or_pos n with h0 | h0
      · subst h0; simp at hne
      · exact h0
    exact h.ne (by show 0 < n * 5; omega)
  · have hin : i < n := by have := (List.getElem?_eq_some_iff.1 hi).1; simpa using this
    rw [List.getElem?_map, List.getElem?_range hin] at hi
    simp only [Option.map_some, Option.some.injEq] at hi
    subst hi
    have hj5 : j < 5 := by have := (List.getElem?_eq_some_iff.1 hj).1; simpa [Ins.cells] using this
    rw [← (hF i hin).1 j v hj]
    exact h.cells b o e (i * 5 + j) (by show i * 5 + j < n * 5; omega)
  · obtain ⟨i, hi, rfl⟩ := List.mem_map.1 hx
    exact (hF i (List.mem_range.1 hi)).2

/-- what a join answers, both ways under one form -/
theorem join_ans {base : World} {okv badv : Value} {X : Option (List Ins)} {e : Ending} {w' : World} (h : joinOk base okv badv X e w') :
    ∃ p c, e = .returned (.tuple #[.slice p (X.getD []).length c, if X.isSome then okv else badv]) ∧ OwnI w' base.heap.size (.slice p (X.getD []).length c) (X.getD []) ∧ Upd [] base w' := by
  rcases h with ⟨out, v, rfl, rfl, ho, hu⟩ | ⟨rfl, rfl, hu⟩
  · obtain ⟨p, c, rfl⟩ := own_form ho
    exact ⟨p, c, rfl, ho, hu⟩
  · exact ⟨none, 0, rfl, World.ownsRow_nil _ _ _ _, hu⟩
theorem OwnI.sl {w : World} {base : Nat} {p : Option Addr} {c : Nat} {l : List Ins} (h : OwnI w base (.slice p l.length c) l) : SlN w p l := by
  have h0 := h
  obtain ⟨h1, h2⟩ := h
  rcases h2 with ⟨e, hn⟩ | ⟨g, cap, cur, e, _⟩
  · cases l with
    | nil => exact ⟨fun h => absurd rfl h, fun _ _ _ i x hi => by simp at hi⟩
    | cons a b => simp at hn
  · simp only [Value.slice.injEq] at e
    obtain ⟨rfl, _, rfl⟩ := e
    obtain ⟨_, _, spare, hB, _⟩ := own_openS h0
    exact SlN.blk hB

theorem shift_formed (a : Nat) (i : Ins) (h : formed i = true) : formed (shift a i) = true := by
  unfold shift
  split
  · rename_i ht
    have hnum : (formI i.op).num = true := by
      have h1 := formed_isOp h
      revert ht
      generalize i.op = op at *
      have hc : op = 1 ∨ op = 2 ∨ op = 3 ∨ op = 4 ∨ op = 5 ∨ op = 6 ∨ op = 7 ∨ op = 8 ∨ op = 9 ∨ op = 10 ∨ op = 11 ∨ op = 12 ∨ op = 13 ∨ op = 14 ∨ op = 15 ∨ op = 16 ∨ op = 17 := by omega
      rcases hc with rfl | rfl | rfl | rfl | rfl | rfl | rfl | rfl | rfl | rfl | rfl | rfl | rfl | rfl | rfl | rfl | rfl <;> decide
    have hr : Ins.reg ⟨i.op, i.a, i.b, i.c, (i.n + a) % 18446744073709551616⟩ = i.reg := rfl
    unfold formed at h ⊢
    rw [hr]
    simp only [hnum, Bool.true_or] at h ⊢
    exact h
  · exact h
theorem shift_word (a : Nat) (i : Ins) (h : 0 ≤ i.n ∧ i.n < 18446744073709551616) : 0 ≤ (shift a i).n ∧ (shift a i).n < 18446744073709551616 := by
  unfold shift
  split
  · simp only; omega
  · exact h
theorem shift_zero (i : Ins) (h : 0 ≤ i.n ∧ i.n < 18446744073709551616) : shift 0 i = i := by
  unfold shift
  split
  · have : (i.n + ((0 : Nat) : Int)) % 18446744073709551616 = i.n := by omega
    rw [this]
  · rfl
theorem map_formed {P : List Ins} (a : Nat) (h : allFormed P = true) : allFormed (P.map (shift a)) = true := by
  unfold allFormed at *
  rw [List.all_eq_true] at *
  intro x hx
  obtain ⟨y, hy, rfl⟩ := List.mem_map.1 hx
  exact shift_formed a y (h y hy)
theorem map_words {P : List Ins} (a : Nat) (h : words P) : words (P.map (shift a)) := fun x hx => by
  obtain ⟨y, hy, rfl⟩ := List.mem_map.1 hx
  exact shift_word a y (h y hy)
theorem map_zero {P : List Ins} (h : words P) : P.map (shift 0) = P := by
  have : P.map (shift 0) = P.map id := List.map_congr_left fun x hx => shift_zero x (h x hx)
  rw [this, List.map_id]

/-- a join of joins is the join of all -/
theorem join_assoc {A B C M : List Ins} (hA : words A) (hB : words B) (h : joinL [A, B] [] = some M) : joinL [M, C] [] = joinL [A, B, C] [] ∧ words M ∧ M.length = A.length + B.length := by
  simp only [joinL, List.nil_append, List.length_nil] at h ⊢
  by_cases fA : allFormed A = true
  · rw [if_pos fA] at h ⊢
    by_cases fB : allFormed B = true
    · rw [if_pos fB] at h ⊢
      obtain rfl := (Option.some.inj h).symm
      have hM : words (A.map (shift 0) ++ B.map (shift (A.map (shift 0)).length)) := fun x hx => by
        rcases List.mem_append.1 hx with hx | hx
        · exact map_words 0 hA x hx
        · exact map_words _ hB x hx
      have fM : allFormed (A.map (shift 0) ++ B.map (shift (A.map (shift 0)).length)) = true := by
        have h1 := map_formed 0 fA
        have h2 := map_formed (A.map (shift 0)).length fB
        unfold allFormed at *
        rw [List.all_append, h1, h2]
        rfl
      rw [if_pos fM, map_zero hM]
      exact ⟨rfl, hM, by simp⟩
    · rw [if_neg fB] at h; cases h
  · rw [if_neg fA] at h; cases h
theorem join_len {A B C out : List Ins} (h : joinL [A, B, C] [] = some out) : out.length = A.length + B.length + C.length := by
  simp only [joinL, List.nil_append, List.length_nil] at h
  by_cases fA : allFormed A = true
  · rw [if_pos fA] at h
    by_cases fB : allFormed B = true
    · rw [if_pos fB] at h
      by_cases fC : allFormed C = true
      · rw [if_pos fC] at h
        obtain rfl := (Option.some.inj h).symm
        simp; omega
      · rw [if_neg fC] at h; cases h
    · rw [if_neg fB] at h; cases h
  · rw [if_neg fA] at h; cases h

theorem sll3 {w : World} {b : Nat} {p1 p2 p3 : Option Addr} {c1 c2 c3 : Nat} {A B C : List Ins} {t : TypeId} (h : Blk w b [.slice p1 A.length c1, .slice p2 B.length c2, .slice p3 C.length c3] t) (hA : SlN w p1 A) (hB : SlN w p2 B) (hC : SlN w p3 C) : SlL w (some ⟨b, 0, none⟩) [A, B, C] := by
  refine ⟨fun _ => ⟨_, _, rfl⟩, fun b' o e k P hP => ?_⟩
  simp only [Option.some.injEq, Addr.mk.injEq, and_true] at e
  obtain ⟨rfl, rfl⟩ := e
  rw [Nat.zero_add]
  match k, hP with
  | 0, hP => cases hP; exact ⟨p1, c1, h.cell 0 rfl, hA⟩
  | 1, hP => cases hP; exact ⟨p2, c2, h.cell 1 rfl, hB⟩
  | 2, hP => cases hP; exact ⟨p3, c3, h.cell 2 rfl, hC⟩
  | k + 3, hP => simp at hP
theorem sll2 {w : World} {b : Nat} {p1 p2 : Option Addr} {c1 c2 : Nat} {A B : List Ins} {t : TypeId} (h : Blk w b [.slice p1 A.length c1, .slice p2 B.length c2] t) (hA : SlN w p1 A) (hB : SlN w p2 B) : SlL w (some ⟨b, 0, none⟩) [A, B] := by
  refine ⟨fun _ => ⟨_, _, rfl⟩, fun b' o e k P hP => ?_⟩
  simp only [Option.some.injEq, Addr.mk.injEq, and_true] at e
  obtain ⟨rfl, rfl⟩ := e
  rw [Nat.zero_add]
  match k, hP with
  | 0, hP => cases hP; exact ⟨p1, c1, h.cell 0 rfl, hA⟩
  | 1, hP => cases hP; exact ⟨p2, c2, h.cell 1 rfl, hB⟩
  | k + 2, hP => simp at hP

/-- one join's answer -/
def Joins (f : FuncId) (Ls : List (List Ins)) (XL : List Ins) (er : Value) : Prop := ∀ (w : World) (p : Option Addr) (c : Nat), SlL w p Ls → Calls Tryd.prog f #[.slice p Ls.length c] w fun e w' => ∃ p c, e = .returned (.tuple #[.slice p XL.length c, er]) ∧ OwnI w' w.heap.size (.slice p XL.length c) XL ∧ Upd [] w w'

theorem lent_lt {w : World} {g c : Nat} {L : List Ins} (h : LentAt w g c L) : g < w.heap.size := by
  obtain ⟨_, _, hB⟩ := h
  exact hB.lt

theorem own_writable {w : World} {base : Nat} {p : Option Addr} {c : Nat} {l : List Ins} (h : OwnI w base (.slice p l.length c) l) : (0 < l.length → ∃ g, p = some ⟨g, 0, none⟩) ∧ ∀ g, p = some ⟨g, 0, none⟩ → base ≤ g ∧ ∃ cs, Blk w g cs 38 ∧ l.length * 5 ≤ cs.length := by
  refine ⟨fun hl => ?_, fun g e => ?_⟩
  · obtain ⟨g, c', e⟩ := own_some h hl
    simp only [Value.slice.injEq] at e
    exact ⟨g, e.1⟩
  · subst e
    obtain ⟨h1, h2, spare, hB, _⟩ := own_openS h
    exact ⟨h1, _, hB, by rw [List.length_append, icells_len]; omega⟩


set_option maxHeartbeats 8000000 in
theorem joins_core (A B C XL YL : List Ins) (er er2 : Int) (okb : Bool) (p q r : Option Addr) (ca cb cc : Nat) (w : World) (hA : SlN w p A) (hB : SlN w q B) (hC : SlN w r C)
    (hn : A.length + B.length + C.length ≤ 1048576) (hXn : XL.length ≤ 1048576) (hP : Pre w) (H0 : (er = 0 ∧ okb = true) ∨ (er = 180 ∧ okb = false)) (H2 : er2 = 0 ∨ er2 = 180)
    (HJ : Joins 25 [A, B, C] XL (.int .i64 er)) (HR : Joins 26 [A, B, C] XL (.bool okb)) (HJ2 : Joins 25 [A, B] YL (.int .i64 er2)) (HJ3 : er2 = 0 → Joins 25 [YL, C] XL (.int .i64 er)) (HJ0 : Joins 25 [] [] (.int .i64 0)) :
    Calls Tryd.prog 7 #[.slice p A.length ca, .slice q B.length cb, .slice r C.length cc] w fun e w' => e = .returned (.bool true) ∧ Upd [] w w' := by
  unfold Joins at HJ HR HJ2 HJ3 HJ0
  simp only [List.length_cons, List.length_nil, Nat.zero_add, Nat.reduceAdd] at HJ HR HJ2 HJ3 HJ0
  have hbA : A.length < 4611686018427387904 := by omega
  have hbB : B.length < 4611686018427387904 := by omega
  have hbC : C.length < 4611686018427387904 := by omega
  have hbX : XL.length < 4611686018427387904 := by omega
  refine calls_all fun K hK => ?_
  go_enter Tryd.func7, Tryd.ntmps7
  go_wp2_with fail
  refine (lend_any A p ca _ hA (by omega)).mono ?_
  rintro e w1 ⟨g1, c1, rfl, l1, hg1, u1⟩
  go_wp2_with fail
  refine (lend_any B q cb _ (hB.upd u1 (by simp)) (by omega)).mono ?_
  rintro e w2 ⟨g2, c2, rfl, l2, hg2, u2⟩
  go_wp2_with fail
  refine (lend_any C r cc _ (hC.upd (u1.trans u2) (by simp)) (by omega)).mono ?_
  rintro e w3 ⟨g3, c3, rfl, l3, hg3, u3⟩
  have L1 := Lib.hid (l1.upd (u2.trans u3) (by simp))
  have L2 := Lib.hid (l2.upd u3 (by simp))
  have L3 := Lib.hid l3
  have U3 := Lib.hid ((u1.trans u2).trans u3)
  have hgl : g1 < w3.heap.size ∧ g2 < w3.heap.size ∧ g3 < w3.heap.size := ⟨lent_lt L1.out, lent_lt L2.out, lent_lt l3⟩
  clear l1 l2 l3 u1 u2 u3
  have hb3 := Blk.new w3 [.slice (some ⟨g1, 0, none⟩) A.length c1, .slice (some ⟨g2, 0, none⟩) B.length c2, .slice (some ⟨g3, 0, none⟩) C.length c3] 50
  have hs3 := Lib.hid (sll3 hb3 (L1.out.upd ((Upd.refl [] _).alloc _) (by simp)).sl (L2.out.upd ((Upd.refl [] _).alloc _) (by simp)).sl (L3.out.upd ((Upd.refl [] _).alloc _) (by simp)).sl)
  clear hb3
  go_wp2_with fail
  refine (HJ _ _ _ hs3.out).mono ?_
  rintro e w4 ⟨pl, cl, rfl, ol, u4⟩
  have L1b := Lib.hid (L1.out.upd (((Upd.refl [] _).alloc _).trans u4) (by simp))
  have L2b := Lib.hid (L2.out.upd (((Upd.refl [] _).alloc _).trans u4) (by simp))
  have L3b := Lib.hid (L3.out.upd (((Upd.refl [] _).alloc _).trans u4) (by simp))
  have U4 := Lib.hid ((U3.out.alloc _).trans u4)
  have OL := Lib.hid ol
  clear u4 ol hs3 L1 L2 L3 U3
  have hb4 := Blk.new w4 [.slice p A.length ca, .slice q B.length cb, .slice r C.length cc] 50
  have hs4 := Lib.hid (sll3 hb4 (hA.upd (U4.out.alloc _) (by simp)) (hB.upd (U4.out.alloc _) (by simp)) (hC.upd (U4.out.alloc _) (by simp)))
  clear hb4
  go_wp2_with fail
  refine (HR _ _ _ hs4.out).mono ?_
  rintro e w5 ⟨pw, cw, rfl, ow, u5⟩
  have L1c := Lib.hid (L1b.out.upd (((Upd.refl [] _).alloc _).trans u5) (by simp))
  have L2c := Lib.hid (L2b.out.upd (((Upd.refl [] _).alloc _).trans u5) (by simp))
  have L3c := Lib.hid (L3b.out.upd (((Upd.refl [] _).alloc _).trans u5) (by simp))
  have OL5 := Lib.hid (show OwnI w5 _ _ _ from own_upd (World.ownsRow.alloc OL.out _) u5 (by simp))
  have OW5 := Lib.hid ow
  have U5 := Lib.hid ((U4.out.alloc _).trans u5)
  clear u5 ow hs4 L1b L2b L3b U4 OL
  go_wp2_with fail
  refine (same_any XL pl pw cl cw _ hbX OL5.out.sl OW5.out.sl).mono ?_
  rintro e w6 ⟨rfl, u6⟩
  have HAE : Hid (∀ a, pl = some a → ∃ g', pl = some ⟨g', 0, none⟩) := Lib.hid (fun a e => by
    subst e
    obtain ⟨_, h2⟩ := OL5.out
    rcases h2 with ⟨e, _⟩ | ⟨g', _, _, e, _⟩
    · cases e
    · simp only [Value.slice.injEq] at e
      exact ⟨g', e.1⟩)
  have hB0 := Lib.hid hB
  rcases H0 with ⟨rfl, rfl⟩ | ⟨rfl, rfl⟩
  all_goals
    go_wp2_with ((go_at_call 20; refine (num_any _ _).mono ?_; rintro e w' ⟨rfl, hw⟩; have hw2 := hw.symm; clear hw; subst hw2))
    refine (kept_any A g1 c1 p ca _ hbA (L1c.out.upd u6 (by simp)) (hA.upd (U5.out.trans u6) (by simp))).mono ?_
    rintro e w7 ⟨rfl, u7⟩
    go_wp2_with ((go_at_call 20; refine (num_any _ _).mono ?_; rintro e w' ⟨rfl, hw⟩; have hw2 := hw.symm; clear hw; subst hw2))
    refine (kept_any B g2 c2 q cb _ hbB (L2c.out.upd (u6.trans u7) (by simp)) (hB0.out.upd (U5.out.trans (u6.trans u7)) (by simp))).mono ?_
    rintro e w8 ⟨rfl, u8⟩
    go_wp2_with ((go_at_call 20; refine (num_any _ _).mono ?_; rintro e w' ⟨rfl, hw⟩; have hw2 := hw.symm; clear hw; subst hw2))
    refine (kept_any C g3 c3 r cc _ hbC (L3c.out.upd (u6.trans (u7.trans u8)) (by simp)) (hC.upd (U5.out.trans (u6.trans (u7.trans u8))) (by simp))).mono ?_
    rintro e w9 ⟨rfl, u9⟩
    have u69 := u6.trans (u7.trans (u8.trans u9))
    have L1d := Lib.hid (L1c.out.upd u69 (by simp))
    have L2d := Lib.hid (L2c.out.upd u69 (by simp))
    have L3d := Lib.hid (L3c.out.upd u69 (by simp))
    have OL9 := Lib.hid (show OwnI w9 _ _ _ from own_upd OL5.out u69 (by simp))
    have OW9 := Lib.hid (show OwnI w9 _ _ _ from own_upd OW5.out u69 (by simp))
    have U9 := Lib.hid (U5.out.trans u69)
    clear u6 u7 u8 u9 u69 L1c L2c L3c OL5 OW5 U5
    have hb2 := Blk.new w9 [.slice (some ⟨g1, 0, none⟩) A.length c1, .slice (some ⟨g2, 0, none⟩) B.length c2] 50
    have hs2 := Lib.hid (sll2 hb2 (L1d.out.upd ((Upd.refl [] _).alloc _) (by simp)).sl (L2d.out.upd ((Upd.refl [] _).alloc _) (by simp)).sl)
    clear hb2
    go_wp2_with ((go_at_call 20; refine (num_any _ _).mono ?_; rintro e w' ⟨rfl, hw⟩; have hw2 := hw.symm; clear hw; subst hw2))
    refine (HJ2 _ _ _ hs2.out).mono ?_
    rintro e w10 ⟨p2, cm, rfl, o2, u10⟩
    have v10 := ((Upd.refl [] w9).alloc (.cells #[.slice (some ⟨g1, 0, none⟩) A.length c1, .slice (some ⟨g2, 0, none⟩) B.length c2] 50)).trans u10
    have L1e := Lib.hid (L1d.out.upd v10 (by simp))
    have L2e := Lib.hid (L2d.out.upd v10 (by simp))
    have L3e := Lib.hid (L3d.out.upd v10 (by simp))
    have OL10 := Lib.hid (show OwnI w10 _ _ _ from own_upd OL9.out v10 (by simp))
    have OW10 := Lib.hid (show OwnI w10 _ _ _ from own_upd OW9.out v10 (by simp))
    have U10 := Lib.hid (U9.out.trans v10)
    have O2 := Lib.hid o2
    clear u10 v10 o2 hs2 L1d L2d L3d OL9 OW9 U9
    rcases H2 with rfl | rfl
    · have HJ3' := HJ3 rfl
      have hb5 := Blk.new w10 [.slice p2 YL.length cm, .slice (some ⟨g3, 0, none⟩) C.length c3] 50
      have hs5 := Lib.hid (sll2 hb5 (O2.out.sl.upd ((Upd.refl [] _).alloc _) (by simp)) (L3e.out.upd ((Upd.refl [] _).alloc _) (by simp)).sl)
      clear hb5
      go_wp2_with ((go_at_call 20; refine (num_any _ _).mono ?_; rintro e w' ⟨rfl, hw⟩; have hw2 := hw.symm; clear hw; subst hw2))
      refine (HJ3' _ _ _ hs5.out).mono ?_
      rintro e w11 ⟨p3, cn, rfl, o3, u11⟩
      have v11 := ((Upd.refl [] w10).alloc (.cells #[.slice p2 YL.length cm, .slice (some ⟨g3, 0, none⟩) C.length c3] 50)).trans u11
      go_wp2_with ((go_at_call 20; refine (num_any _ _).mono ?_; rintro e w' ⟨rfl, hw⟩; have hw2 := hw.symm; clear hw; subst hw2))
      refine (same_any XL p3 pw cn cw _ hbX (OwnI.sl o3) (OW10.out.sl.upd v11 (by simp))).mono ?_
      rintro e w12 ⟨rfl, u12⟩
      have v12 := v11.trans u12
      have L1f := Lib.hid (L1e.out.upd v12 (by simp))
      have L2f := Lib.hid (L2e.out.upd v12 (by simp))
      have L3f := Lib.hid (L3e.out.upd v12 (by simp))
      have OL12 := Lib.hid (show OwnI w12 _ _ _ from own_upd OL10.out v12 (by simp))
      have U12 := Lib.hid (U10.out.trans v12)
      clear u11 v11 u12 v12 o3 hs5 L1e L2e L3e OL10 OW10 U10 O2
      obtain ⟨hne, hwr⟩ := own_writable (OL12).out
      have HWR := Lib.hid hwr
      have hgg : ∀ g, pl = some ⟨g, 0, none⟩ → g ≠ g1 ∧ g ≠ g2 ∧ g ≠ g3 ∧ w.heap.size ≤ g := fun g e => by
        have := (HWR.out g e).1
        simp only [World.size_alloc] at this
        omega
      have HGG := Lib.hid hgg
      have HNE := Lib.hid hne
      clear hwr hgg hne
      go_wp2_with ((go_at_call 20; refine (num_any _ _).mono ?_; rintro e w' ⟨rfl, hw⟩; have hw2 := hw.symm; clear hw; subst hw2))
      go_loopw [18] (fun v18 wr => ∃ i : Nat, i ≤ XL.length ∧ v18 = .int .i64 i ∧ Upd (pl.toList.map (·.block)) w12 wr ∧ ∀ g, pl = some ⟨g, 0, none⟩ → ∃ cs, Blk wr g cs 38 ∧ XL.length * 5 ≤ cs.length) (fun v18 _ => XL.length - (intOf v18).toNat)
      case atStart => exact ⟨0, by omega, rfl, Upd.refl _ _, fun g e => (HWR.out g e).2⟩
      case round =>
        obtain ⟨i, hi, rfl, hu, hb⟩ := hrel
        have HUi := Lib.hid hu
        have HBi := Lib.hid hb
        clear hu hb
        by_cases hlt : i < XL.length
        · obtain ⟨gl, hgle⟩ := HNE.out (by omega)
          obtain ⟨cs, hB, hcs⟩ := HBi.out gl hgle
          have hgw := (HGG.out gl hgle).2.2.2
          subst hgle
          obtain ⟨z, hz⟩ : ∃ z, cs[i * 5 + 4]? = some z := ⟨_, List.getElem?_eq_getElem (by omega)⟩
          have ci := hB.cell (i * 5 + 4) hz
          have cf := hB.free (i * 5 + 4)
          have hil : (i : Int) < (XL.length : Int) := by omega
          have HBS := Lib.hid (hB.set (i * 5 + 4) (.int .u64 77))
          have HCS := Lib.hid hcs
          clear hB hz hcs
          go_wp2_with fail
          go_roundw
          case rel => exact ⟨i + 1, by omega, by go_num, HUi.out.setCell (.inl (by simp)) _, fun g e => by
            simp only [Option.some.injEq, Addr.mk.injEq, and_true] at e
            subst e
            exact ⟨_, HBS.out, by rw [List.length_set]; exact HCS.out⟩⟩
          case measure => simp [intOf]; omega
        · obtain rfl : i = XL.length := by omega
          have hnS : ∀ g, (g = g1 ∨ g = g2 ∨ g = g3 ∨ g < w.heap.size) → g ∉ pl.toList.map (·.block) := fun g hg hm => by
            cases pl with
            | none => simp at hm
            | some a =>
              simp only [Option.toList_some, List.map_cons, List.map_nil, List.mem_singleton] at hm
              have h0 : 0 < XL.length ∨ XL.length = 0 := by omega
              have hae : (∃ g', (some a : Option Addr) = some ⟨g', 0, none⟩) := HAE.out a rfl
              obtain ⟨g', e⟩ := hae
              have := HGG.out g' e
              simp only [Option.some.injEq] at e
              subst e
              simp only at hm
              omega
          have hU := Lib.hid ((U12).out.tr HUi.out (U := []) (by simp) (fun x hx => .inr (by
            rcases Nat.lt_or_ge x w.heap.size with h | h
            · exact absurd hx (hnS x (.inr (.inr (.inr h))))
            · exact h)))
          have M1 := Lib.hid ((L1f).out.upd HUi.out (hnS g1 (.inl rfl)))
          have M2 := Lib.hid ((L2f).out.upd HUi.out (hnS g2 (.inr (.inl rfl))))
          have M3 := Lib.hid ((L3f).out.upd HUi.out (hnS g3 (.inr (.inr (.inl rfl)))))
          clear hnS
          go_wp2_with ((go_at_call 20; refine (num_any _ _).mono ?_; rintro e w' ⟨rfl, hw⟩; have hw2 := hw.symm; clear hw; subst hw2))
          refine (HJ0 _ none 0 ⟨fun h => absurd rfl h, fun _ _ _ k P hP => by simp at hP⟩).mono ?_
          rintro e wa ⟨pz, cz, rfl, oz, ua⟩
          go_wp2_with ((go_at_call 20; refine (num_any _ _).mono ?_; rintro e w' ⟨rfl, hw⟩; have hw2 := hw.symm; clear hw; subst hw2))
          refine (kept_any A g1 c1 p ca _ hbA (M1.out.upd ua (by simp)) (hA.upd (hU.out.trans ua) (by simp))).mono ?_
          rintro e wb ⟨rfl, ub⟩
          go_wp2_with ((go_at_call 20; refine (num_any _ _).mono ?_; rintro e w' ⟨rfl, hw⟩; have hw2 := hw.symm; clear hw; subst hw2))
          refine (kept_any B g2 c2 q cb _ hbB (M2.out.upd (ua.trans ub) (by simp)) (hB0.out.upd (hU.out.trans (ua.trans ub)) (by simp))).mono ?_
          rintro e wc ⟨rfl, uc⟩
          go_wp2_with ((go_at_call 20; refine (num_any _ _).mono ?_; rintro e w' ⟨rfl, hw⟩; have hw2 := hw.symm; clear hw; subst hw2))
          refine (kept_any C g3 c3 r cc _ hbC (M3.out.upd (ua.trans (ub.trans uc)) (by simp)) (hC.upd (hU.out.trans (ua.trans (ub.trans uc))) (by simp))).mono ?_
          rintro e wd ⟨rfl, ud⟩
          go_wp2_with ((go_at_call 20; refine (num_any _ _).mono ?_; rintro e w' ⟨rfl, hw⟩; have hw2 := hw.symm; clear hw; subst hw2))
          refine (works _ (hP.upd (hU.out.trans (ua.trans (ub.trans (uc.trans ud)))))).mono ?_
          rintro e we ⟨rfl, ue⟩
          go_wp2_with ((go_at_call 20; refine (num_any _ _).mono ?_; rintro e w' ⟨rfl, hw⟩; have hw2 := hw.symm; clear hw; subst hw2))
          all_goals exact ⟨rfl, hU.out.trans (ua.trans (ub.trans (uc.trans (ud.trans ue))))⟩
    · obtain ⟨hne, hwr⟩ := own_writable (OL10).out
      have HWR := Lib.hid hwr
      have hgg : ∀ g, pl = some ⟨g, 0, none⟩ → g ≠ g1 ∧ g ≠ g2 ∧ g ≠ g3 ∧ w.heap.size ≤ g := fun g e => by
        have := (HWR.out g e).1
        simp only [World.size_alloc] at this
        omega
      have HGG := Lib.hid hgg
      have HNE := Lib.hid hne
      clear hwr hgg hne
      go_wp2_with ((go_at_call 20; refine (num_any _ _).mono ?_; rintro e w' ⟨rfl, hw⟩; have hw2 := hw.symm; clear hw; subst hw2))
      go_loopw [18] (fun v18 wr => ∃ i : Nat, i ≤ XL.length ∧ v18 = .int .i64 i ∧ Upd (pl.toList.map (·.block)) w10 wr ∧ ∀ g, pl = some ⟨g, 0, none⟩ → ∃ cs, Blk wr g cs 38 ∧ XL.length * 5 ≤ cs.length) (fun v18 _ => XL.length - (intOf v18).toNat)
      case atStart => exact ⟨0, by omega, rfl, Upd.refl _ _, fun g e => (HWR.out g e).2⟩
      case round =>
        obtain ⟨i, hi, rfl, hu, hb⟩ := hrel
        have HUi := Lib.hid hu
        have HBi := Lib.hid hb
        clear hu hb
        by_cases hlt : i < XL.length
        · obtain ⟨gl, hgle⟩ := HNE.out (by omega)
          obtain ⟨cs, hB, hcs⟩ := HBi.out gl hgle
          have hgw := (HGG.out gl hgle).2.2.2
          subst hgle
          obtain ⟨z, hz⟩ : ∃ z, cs[i * 5 + 4]? = some z := ⟨_, List.getElem?_eq_getElem (by omega)⟩
          have ci := hB.cell (i * 5 + 4) hz
          have cf := hB.free (i * 5 + 4)
          have hil : (i : Int) < (XL.length : Int) := by omega
          have HBS := Lib.hid (hB.set (i * 5 + 4) (.int .u64 77))
          have HCS := Lib.hid hcs
          clear hB hz hcs
          go_wp2_with fail
          go_roundw
          case rel => exact ⟨i + 1, by omega, by go_num, HUi.out.setCell (.inl (by simp)) _, fun g e => by
            simp only [Option.some.injEq, Addr.mk.injEq, and_true] at e
            subst e
            exact ⟨_, HBS.out, by rw [List.length_set]; exact HCS.out⟩⟩
          case measure => simp [intOf]; omega
        · obtain rfl : i = XL.length := by omega
          have hnS : ∀ g, (g = g1 ∨ g = g2 ∨ g = g3 ∨ g < w.heap.size) → g ∉ pl.toList.map (·.block) := fun g hg hm => by
            cases pl with
            | none => simp at hm
            | some a =>
              simp only [Option.toList_some, List.map_cons, List.map_nil, List.mem_singleton] at hm
              have h0 : 0 < XL.length ∨ XL.length = 0 := by omega
              have hae : (∃ g', (some a : Option Addr) = some ⟨g', 0, none⟩) := HAE.out a rfl
              obtain ⟨g', e⟩ := hae
              have := HGG.out g' e
              simp only [Option.some.injEq] at e
              subst e
              simp only at hm
              omega
          have hU := Lib.hid ((U10).out.tr HUi.out (U := []) (by simp) (fun x hx => .inr (by
            rcases Nat.lt_or_ge x w.heap.size with h | h
            · exact absurd hx (hnS x (.inr (.inr (.inr h))))
            · exact h)))
          have M1 := Lib.hid ((L1e).out.upd HUi.out (hnS g1 (.inl rfl)))
          have M2 := Lib.hid ((L2e).out.upd HUi.out (hnS g2 (.inr (.inl rfl))))
          have M3 := Lib.hid ((L3e).out.upd HUi.out (hnS g3 (.inr (.inr (.inl rfl)))))
          clear hnS
          go_wp2_with ((go_at_call 20; refine (num_any _ _).mono ?_; rintro e w' ⟨rfl, hw⟩; have hw2 := hw.symm; clear hw; subst hw2))
          refine (HJ0 _ none 0 ⟨fun h => absurd rfl h, fun _ _ _ k P hP => by simp at hP⟩).mono ?_
          rintro e wa ⟨pz, cz, rfl, oz, ua⟩
          go_wp2_with ((go_at_call 20; refine (num_any _ _).mono ?_; rintro e w' ⟨rfl, hw⟩; have hw2 := hw.symm; clear hw; subst hw2))
          refine (kept_any A g1 c1 p ca _ hbA (M1.out.upd ua (by simp)) (hA.upd (hU.out.trans ua) (by simp))).mono ?_
          rintro e wb ⟨rfl, ub⟩
          go_wp2_with ((go_at_call 20; refine (num_any _ _).mono ?_; rintro e w' ⟨rfl, hw⟩; have hw2 := hw.symm; clear hw; subst hw2))
          refine (kept_any B g2 c2 q cb _ hbB (M2.out.upd (ua.trans ub) (by simp)) (hB0.out.upd (hU.out.trans (ua.trans ub)) (by simp))).mono ?_
          rintro e wc ⟨rfl, uc⟩
          go_wp2_with ((go_at_call 20; refine (num_any _ _).mono ?_; rintro e w' ⟨rfl, hw⟩; have hw2 := hw.symm; clear hw; subst hw2))
          refine (kept_any C g3 c3 r cc _ hbC (M3.out.upd (ua.trans (ub.trans uc)) (by simp)) (hC.upd (hU.out.trans (ua.trans (ub.trans uc))) (by simp))).mono ?_
          rintro e wd ⟨rfl, ud⟩
          go_wp2_with ((go_at_call 20; refine (num_any _ _).mono ?_; rintro e w' ⟨rfl, hw⟩; have hw2 := hw.symm; clear hw; subst hw2))
          refine (works _ (hP.upd (hU.out.trans (ua.trans (ub.trans (uc.trans ud)))))).mono ?_
          rintro e we ⟨rfl, ue⟩
          go_wp2_with ((go_at_call 20; refine (num_any _ _).mono ?_; rintro e w' ⟨rfl, hw⟩; have hw2 := hw.symm; clear hw; subst hw2))
          all_goals exact ⟨rfl, hU.out.trans (ua.trans (ub.trans (uc.trans (ud.trans ue))))⟩

theorem joins_of {f : FuncId} {okv badv : Value} {Ls : List (List Ins)} (H : ∀ w p c, SlL w p Ls → Calls Tryd.prog f #[.slice p Ls.length c] w (joinOk w okv badv (joinL Ls []))) : Joins f Ls ((joinL Ls []).getD []) (if (joinL Ls []).isSome then okv else badv) :=
  fun w p c h => (H w p c h).mono fun _ _ h' => join_ans h'

theorem codeJoins_walk (A B C : List Ins) (p q r : Option Addr) (ca cb cc : Nat) (w : World) (hA : SlN w p A) (hB : SlN w q B) (hC : SlN w r C) (wA : words A) (wB : words B) (wC : words C)
    (hn : A.length + B.length + C.length ≤ 1048576) (hP : Pre w) : Calls Tryd.prog 7 #[.slice p A.length ca, .slice q B.length cb, .slice r C.length cc] w fun e w' => e = .returned (.bool true) ∧ Upd [] w w' := by
  have hw3 : ∀ P ∈ [A, B, C], words P := fun P h => by
    simp only [List.mem_cons, List.not_mem_nil, or_false] at h
    rcases h with rfl | rfl | rfl <;> assumption
  have hw2 : ∀ P ∈ [A, B], words P := fun P h => by
    simp only [List.mem_cons, List.not_mem_nil, or_false] at h
    rcases h with rfl | rfl <;> assumption
  have HJ := joins_of (f := 25) (fun w p c h => join_code [A, B, C] p c w h hw3 (by simp [total]; omega) (by simp))
  have HR := joins_of (f := 26) (fun w p c h => rjoin_ref [A, B, C] p c w h hw3 (by simp [total]; omega) (by simp))
  have HJ2 := joins_of (f := 25) (fun w p c h => join_code [A, B] p c w h hw2 (by simp [total]; omega) (by simp))
  have HJ0 := joins_of (f := 25) (fun w p c h => join_code [] p c w h (by simp) (by simp [total]) (by simp))
  have HJ3 : ∀ M, joinL [A, B] [] = some M → Joins 25 [M, C] ((joinL [A, B, C] []).getD []) (if (joinL [A, B, C] []).isSome then .int .i64 0 else .int .i64 180) := fun M hM => by
    obtain ⟨h1, h2, h3⟩ := join_assoc (C := C) wA wB hM
    rw [← h1]
    exact joins_of (fun w p c h => join_code [M, C] p c w h (fun P hP => by
      simp only [List.mem_cons, List.not_mem_nil, or_false] at hP
      rcases hP with rfl | rfl <;> assumption) (by simp [total]; omega) (by simp))
  have hlen : ∀ out, joinL [A, B, C] [] = some out → out.length ≤ 1048576 := fun out h => by have := join_len h; omega
  cases hX : joinL [A, B, C] [] with
  | none =>
    rw [hX] at HJ HR HJ3
    cases hY : joinL [A, B] [] with
    | none =>
      rw [hY] at HJ2
      exact joins_core A B C [] [] 180 180 false p q r ca cb cc w hA hB hC hn (by simp) hP (.inr ⟨rfl, rfl⟩) (.inr rfl) HJ HR HJ2 (fun e => by cases e) HJ0
    | some M =>
      rw [hY] at HJ2
      exact joins_core A B C [] M 180 0 false p q r ca cb cc w hA hB hC hn (by simp) hP (.inr ⟨rfl, rfl⟩) (.inl rfl) HJ HR HJ2 (fun _ => HJ3 M hY) HJ0
  | some out =>
    have ho := hlen out hX
    rw [hX] at HJ HR HJ3
    cases hY : joinL [A, B] [] with
    | none =>
      rw [hY] at HJ2
      exact joins_core A B C out [] 0 180 true p q r ca cb cc w hA hB hC hn ho hP (.inl ⟨rfl, rfl⟩) (.inr rfl) HJ HR HJ2 (fun e => by cases e) HJ0
    | some M =>
      rw [hY] at HJ2
      exact joins_core A B C out M 0 0 true p q r ca cb cc w hA hB hC hn ho hP (.inl ⟨rfl, rfl⟩) (.inl rfl) HJ HR HJ2 (fun _ => HJ3 M hY) HJ0
end Go.Proofs.YtjcnlfihjfcpoaaDoor
