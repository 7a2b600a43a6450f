/- CodeTexts' walk: is an instruction formed; its text, and that read again. The conditions: the tables are laid; N is a word. -/
import Derived.Test.YtjcnlfihjfcpoaaDoorCRText
import Derived.Test.YtjcnlfihjfcpoaaDoorCPlain
import Derived.Test.YtjcnlfihjfcpoaaDoorLNames
import Derived.Test.YtjcnlfihjfcpoaaDoorOpen
set_option linter.unusedSimpArgs false
set_option linter.unusedVariables false
set_option maxRecDepth 100000
namespace Go.Proofs.YtjcnlfihjfcpoaaDoor
open Go.RowKit
open Go.ChangeShapes Go.WideShapes Go.ChangeAt

section
variable {H : Type} {enc : TypeId × Value → H} {w : World} {base : Nat} {held : Bool}
/-- an instruction that came in -/
theorem open_instr {r : Reach} {b0 : Nat} {v : Value} {d : DataW H} {ps : List MemPlace} (hval : Value.okWide Tryd.prog w r b0 38 v) (h : DataW.Trod enc Tryd.prog w base (fun _ => true) held 38 v d ps) :
    ∃ i : Ins, v = i.val ∧ 0 ≤ i.n ∧ i.n < 18446744073709551616 := by
  obtain ⟨cs, rfl, hsz⟩ := okWide_struct Tryd.underlying38 hval
  obtain ⟨fuel, hf⟩ := h
  have hc : Tryd.prog.cellsOf 38 = 5 := by kernel_rfl
  have c22 : Tryd.prog.cellsOf 22 = 1 := by kernel_rfl
  have c3 : Tryd.prog.cellsOf 3 = 1 := by kernel_rfl
  have c36 : Tryd.prog.cellsOf 36 = 1 := by kernel_rfl
  obtain ⟨xs, n, _, _, _, hl, hel⟩ := DataW.trod_struct Tryd.underlying38 hf
  have hl5 : xs.length = 5 := hl
  have e0 : DataW.trod enc Tryd.prog w base (fun _ => true) held n 22 (((Value.agg cs).cells.toList.drop 0).take (Tryd.prog.cellsOf 22)) = xs[0]? := hel 0 _ rfl
  have e1 : DataW.trod enc Tryd.prog w base (fun _ => true) held n 3 (((Value.agg cs).cells.toList.drop 1).take (Tryd.prog.cellsOf 3)) = xs[1]? := hel 1 _ rfl
  have e2 : DataW.trod enc Tryd.prog w base (fun _ => true) held n 3 (((Value.agg cs).cells.toList.drop 2).take (Tryd.prog.cellsOf 3)) = xs[2]? := hel 2 _ rfl
  have e3 : DataW.trod enc Tryd.prog w base (fun _ => true) held n 3 (((Value.agg cs).cells.toList.drop 3).take (Tryd.prog.cellsOf 3)) = xs[3]? := hel 3 _ rfl
  have e4 : DataW.trod enc Tryd.prog w base (fun _ => true) held n 36 (((Value.agg cs).cells.toList.drop 4).take (Tryd.prog.cellsOf 36)) = xs[4]? := hel 4 _ rfl
  rw [List.getElem?_eq_getElem (by omega)] at e0 e1 e2 e3 e4
  rw [c22] at e0
  rw [c3] at e1 e2 e3
  rw [c36] at e4
  obtain ⟨z0, g0, _, _⟩ := DataW.trod_int Tryd.underlying22 e0
  obtain ⟨z1, g1, _, _⟩ := DataW.trod_int Tryd.underlying3 e1
  obtain ⟨z2, g2, _, _⟩ := DataW.trod_int Tryd.underlying3 e2
  obtain ⟨z3, g3, _, _⟩ := DataW.trod_int Tryd.underlying3 e3
  obtain ⟨z4, g4, _, wf⟩ := DataW.trod_int Tryd.underlying36 e4
  have hcs : cs.toList.length = 5 := by simpa [hc] using hsz
  have hn : 0 ≤ z4 ∧ z4 ≤ 18446744073709551615 := by simpa [Lit.wf, IntKind.min, IntKind.max, IntKind.signed, IntKind.bits] using wf
  refine ⟨⟨z0, z1, z2, z3, z4⟩, ?_, hn.1, by simp only; omega⟩
  unfold Ins.val
  congr 1
  apply Array.ext'
  have hcl : (Value.agg cs).cells.toList = cs.toList := rfl
  rw [hcl] at g0 g1 g2 g3 g4
  generalize cs.toList = l at *
  match l, hcs with
  | [a0, a1, a2, a3, a4], _ =>
    have k0 : a0 = .int .i64 z0 := (List.cons.inj g0).1
    have k1 : a1 = .int .i64 z1 := (List.cons.inj g1).1
    have k2 : a2 = .int .i64 z2 := (List.cons.inj g2).1
    have k3 : a3 = .int .i64 z3 := (List.cons.inj g3).1
    have k4 : a4 = .int .u64 z4 := (List.cons.inj g4).1
    rw [k0, k1, k2, k3, k4]
end

set_option maxHeartbeats 4000000 in
theorem codeTexts_walk (i : Ins) (w : World) (hn : 0 ≤ i.n ∧ i.n < 18446744073709551616) (hP : Pre w) : Calls Tryd.prog 4 #[i.val] w fun e w' => e = .returned (.bool true) ∧ Upd [] w w' := by
  cases hfo : formed i with
  | false =>
    have HT := fun w => text_bad i w hfo
    have HR := fun w => rformed i w
    have HF := fun w => formed_code i w
    rw [hfo] at HR HF
    obtain ⟨op, a, b, c, n⟩ := i
    simp only [Ins.val] at HT HR HF ⊢
    refine calls_all fun K hK => ?_
    go_enter Tryd.func4, Tryd.ntmps4
    go_wp2_with fail
    refine (HT _).mono ?_
    rintro e w1 ⟨rfl, u1⟩
    have B1 := Lib.hid ((Blk.new w [.int .i64 op, .int .i64 a, .int .i64 b, .int .i64 c, .int .u64 n] 38).upd u1 (by simp))
    have U1 := Lib.hid (((Upd.refl [] w).alloc _).trans u1)
    have d0 := B1.out.cell 0 rfl
    have d1 := B1.out.cell 1 rfl
    have d2 := B1.out.cell 2 rfl
    have d3 := B1.out.cell 3 rfl
    have d4 := B1.out.cell 4 rfl
    clear u1
    go_wp2_with fail
    refine (HR _).mono ?_
    rintro e w2 ⟨rfl, u2⟩
    have B2 := Lib.hid (B1.out.upd u2 (by simp))
    have U2 := Lib.hid (U1.out.trans u2)
    clear d0 d1 d2 d3 d4 u2 B1 U1
    have d0 := B2.out.cell 0 rfl
    have d1 := B2.out.cell 1 rfl
    have d2 := B2.out.cell 2 rfl
    have d3 := B2.out.cell 3 rfl
    have d4 := B2.out.cell 4 rfl
    go_wp2_with (first | (go_at_call 20; refine (num_any _ _).mono ?_; rintro e w' ⟨rfl, rfl⟩) | (go_at_call 19; refine (HF _).mono ?_; rintro e w3 ⟨rfl, u3⟩) | (go_at_call 16; refine (works _ (hP.upd (U2.out.trans u3))).mono ?_; rintro e w9 ⟨rfl, u9⟩))
    all_goals exact ⟨rfl, (U2.out.trans u3).trans u9⟩
  | true =>
    have HT := fun w h1 h2 => text_formed i w hfo hn h1 h2
    have HRT := fun w h2 => rtext i w hfo hn h2
    have HR := fun w => rformed i w
    have HF := fun w => formed_code i w
    have hlen : (textOf i).length < 4294967281 := by
      have h1 := regsText_len (formed_reg hfo) (formI i.op).regs (Nat.le_refl _)
      have h2 := nameI_len i.op
      have h3 := regs_le i.op
      have h4 := Lib.nDigits_le20 i.n.toNat (by omega)
      rw [← Lib.decDigits_length] at h4
      unfold textOf
      simp only [List.length_append]
      split
      · simp only [List.length_cons]; omega
      · simp; omega
    have HQ := fun w h => parse_any ⟨(textOf i).toArray⟩ w (by simpa [ByteArray.size] using hlen) h
    have hp := parse_text hfo hn (namedL_name i.op)
    simp only [List.toList_toArray] at HQ
    rw [hp] at HQ
    rw [hfo] at HR HF
    simp only [insO, errO] at HQ
    generalize textOf i = T at *
    have hTT : (T == T) = true := by simp
    clear hp hlen hfo
    obtain ⟨op, a, b, c, n⟩ := i
    simp only [Ins.val] at HT HR HF HQ HRT ⊢
    refine calls_all fun K hK => ?_
    go_enter Tryd.func4, Tryd.ntmps4
    go_wp2_with fail
    refine (HT _ (hP.names.upd ((Upd.refl [] w).alloc _) (by simp)) (hP.tab.upd ((Upd.refl [] w).alloc _))).mono ?_
    rintro e w1 ⟨rfl, u1⟩
    have B1 := Lib.hid ((Blk.new w [.int .i64 op, .int .i64 a, .int .i64 b, .int .i64 c, .int .u64 n] 38).upd u1 (by simp))
    have U1 := Lib.hid (((Upd.refl [] w).alloc _).trans u1)
    have d0 := B1.out.cell 0 rfl
    have d1 := B1.out.cell 1 rfl
    have d2 := B1.out.cell 2 rfl
    have d3 := B1.out.cell 3 rfl
    have d4 := B1.out.cell 4 rfl
    clear u1
    go_wp2_with fail
    refine (HR _).mono ?_
    rintro e w2 ⟨rfl, u2⟩
    have B2 := Lib.hid (B1.out.upd u2 (by simp))
    have U2 := Lib.hid (U1.out.trans u2)
    clear d0 d1 d2 d3 d4 u2 B1 U1
    go_wp2_with fail
    refine (HQ _ (hP.upd U2.out)).mono ?_
    rintro e w3 ⟨rfl, u3⟩
    have B3 := Lib.hid ((B2.out.upd u3 (by simp)).alloc (.cells #[.int .i64 op, .int .i64 a, .int .i64 b, .int .i64 c, .int .u64 n] 38))
    have U3 := Lib.hid ((U2.out.trans u3).alloc (.cells #[.int .i64 op, .int .i64 a, .int .i64 b, .int .i64 c, .int .u64 n] 38))
    have BJ := Lib.hid (Blk.new w3 [.int .i64 op, .int .i64 a, .int .i64 b, .int .i64 c, .int .u64 n] 38)
    have d0 := B3.out.cell 0 rfl
    have d1 := B3.out.cell 1 rfl
    have d2 := B3.out.cell 2 rfl
    have d3 := B3.out.cell 3 rfl
    have d4 := B3.out.cell 4 rfl
    clear u3 B2 U2
    go_wp2_with fail
    refine (HF _).mono ?_
    rintro e w4 ⟨rfl, u4⟩
    have B4 := Lib.hid (B3.out.upd u4 (by simp))
    have J4 := Lib.hid (BJ.out.upd u4 (by simp))
    have U4 := Lib.hid (U3.out.trans u4)
    clear d0 d1 d2 d3 d4 u4 B3 U3 BJ
    have d0 := B4.out.cell 0 rfl
    have d1 := B4.out.cell 1 rfl
    have d2 := B4.out.cell 2 rfl
    have d3 := B4.out.cell 3 rfl
    have d4 := B4.out.cell 4 rfl
    go_wp2_with fail
    refine (HRT _ (hP.tab.upd U4.out)).mono ?_
    rintro e w5 ⟨rfl, u5⟩
    have b5 := B4.out.upd u5 (by simp)
    have j5 := J4.out.upd u5 (by simp)
    have U5 := Lib.hid (U4.out.trans u5)
    clear d0 d1 d2 d3 d4 u5
    have d0 := b5.cell 0 rfl
    have d1 := b5.cell 1 rfl
    have d2 := b5.cell 2 rfl
    have d3 := b5.cell 3 rfl
    have d4 := b5.cell 4 rfl
    have j0 := j5.cell 0 rfl
    have j1 := j5.cell 1 rfl
    have j2 := j5.cell 2 rfl
    have j3 := j5.cell 3 rfl
    have j4 := j5.cell 4 rfl
    clear b5 j5 B4 J4 U4
    go_wp2_with (first | (go_at_call 20; refine (num_any _ _).mono ?_; rintro e w' ⟨rfl, rfl⟩) | (go_at_call 16; refine (works _ (hP.upd U5.out)).mono ?_; rintro e w9 ⟨rfl, u9⟩))
    all_goals exact ⟨rfl, U5.out.trans u9⟩
end Go.Proofs.YtjcnlfihjfcpoaaDoor
