/- The reference: is an instruction formed, its text; the code's refusal of one that is not formed. The conditions: the library's table is laid; N is a word. -/
import Derived.Test.YtjcnlfihjfcpoaaDoorCRForm
import Derived.Test.YtjcnlfihjfcpoaaDoorCText
import Derived.Test.YtjcnlfihjfcpoaaDoorCPre
set_option linter.unusedSimpArgs false
set_option linter.unusedVariables false
set_option maxRecDepth 100000
namespace Go.Proofs.YtjcnlfihjfcpoaaDoor
open Go.RowKit

theorem rregs (i : Ins) (w : World) : Calls Tryd.prog 36 #[i.val] w fun e w' => e = .returned (.agg #[.int .i64 i.a, .int .i64 i.b, .int .i64 i.c]) ∧ Upd [] w w' := by
  obtain ⟨op, a, b, c, n⟩ := i
  simp only [Ins.val]
  refine calls_all fun K hK => ?_
  go_enter Tryd.func36, Tryd.ntmps36
  go_wp2
  go_returns
  exact hK _ _ ⟨rfl, ((Upd.refl _ _).alloc _).alloc _⟩

set_option maxHeartbeats 8000000 in
theorem rformed (i : Ins) (w : World) : Calls Tryd.prog 18 #[i.val] w fun e w' => e = .returned (.bool (formed i)) ∧ Upd [] w w' := by
  obtain ⟨f, hf⟩ : ∃ f, formI i.op = f := ⟨_, rfl⟩
  obtain ⟨ok, hok⟩ : ∃ ok, isOp i.op = ok := ⟨_, rfl⟩
  have HI : ∀ w, Calls Tryd.prog 11 #[.int .i64 i.op] w fun e w' => e = .returned (.tuple #[f.val, .bool ok]) ∧ Upd [] w w' := fun w => by rw [← hf, ← hok]; exact rinfo i.op w
  have HR := fun w => rregs i w
  have hform : formed i = formedF f.regs i.reg (ok && (f.num || decide (i.n = 0))) := by
    unfold formed; rw [hf, hok]
  have hrc := reg_cell i
  have HF := Lib.hid hform
  clear hf hok hform
  obtain ⟨op, a, b, c, n⟩ := i
  simp only [Ins.val] at HR HI ⊢
  obtain ⟨R, nm, tg, ou, is⟩ := f
  simp only [Form.val] at HI
  obtain ⟨reg, hreg⟩ : ∃ reg, Ins.reg ⟨op, a, b, c, n⟩ = reg := ⟨_, rfl⟩
  rw [hreg] at hrc HF
  clear hreg
  obtain ⟨F, hFF⟩ : ∃ F, formed ⟨op, a, b, c, n⟩ = F := ⟨_, rfl⟩
  rw [hFF] at HF ⊢
  clear hFF
  refine calls_all fun K hK => ?_
  go_enter Tryd.func18, Tryd.ntmps18
  go_wp2_with fail
  refine (HI _).mono ?_
  rintro e w1 ⟨rfl, u1⟩
  have u0 : Upd [] w w1 := ((Upd.refl _ _).alloc _).trans u1
  have hb : Blk w1 w.heap.size [.int .i64 op, .int .i64 a, .int .i64 b, .int .i64 c, .int .u64 n] 38 := (Blk.new w _ _).upd u1 (by simp)
  clear u1
  have hbA := hb.alloc (.cells #[.int .i64 (R : Int), .bool nm, .bool tg, .bool ou, .bool is] 24)
  have d0 := hbA.cell 0 rfl
  have d1 := hbA.cell 1 rfl
  have d2 := hbA.cell 2 rfl
  have d3 := hbA.cell 3 rfl
  have d4 := hbA.cell 4 rfl
  clear hbA
  have HB := Lib.hid hb
  have U0 := Lib.hid u0
  clear hb u0
  go_wp2_with fail
  refine (HR _).mono ?_
  rintro e w2 ⟨rfl, u2⟩
  have hf2 := ((Blk.new w1 [.int .i64 (R : Int), .bool nm, .bool tg, .bool ou, .bool is] 24).upd u2 (by simp)).alloc (.cells #[.int .i64 a, .int .i64 b, .int .i64 c] 74)
  have hb2 := ((HB.out.alloc (.cells #[.int .i64 (R : Int), .bool nm, .bool tg, .bool ou, .bool is] 24)).upd u2 (by simp)).alloc (.cells #[.int .i64 a, .int .i64 b, .int .i64 c] 74)
  have hg2 := Blk.new w2 [.int .i64 a, .int .i64 b, .int .i64 c] 74
  have U2 := Lib.hid (((U0.out.alloc (.cells #[.int .i64 (R : Int), .bool nm, .bool tg, .bool ou, .bool is] 24)).trans u2).alloc (.cells #[.int .i64 a, .int .i64 b, .int .i64 c] 74))
  clear d0 d1 d2 d3 d4 u2 HB U0
  go_wp2_with fail
  obtain ⟨W, hW⟩ : ∃ W, w2.alloc (.cells #[.int .i64 a, .int .i64 b, .int .i64 c] 74) = W := ⟨_, rfl⟩
  rw [hW] at hf2 hb2 hg2 U2 ⊢
  clear hW
  have f0 := hf2.cell 0 rfl
  have f1 := hf2.cell 1 rfl
  have b4 := hb2.cell 4 rfl
  clear hf2 hb2
  go_loop [6] (fun v16 => ∃ k : Nat, k ≤ 3 ∧ v16 = .int .i64 k ∧ ∀ j, j < k → okReg R reg j = true) (fun v16 => 3 - (intOf v16).toNat)
  case atStart => exact ⟨0, by omega, rfl, by omega⟩
  case round =>
    obtain ⟨k, hk, rfl, hall⟩ := hrel
    have HA := Lib.hid hall
    clear hall
    by_cases hlt : k < 3
    · have hc := hg2.cell k (hrc k hlt)
      have hkl : (k : Int) < 3 := by omega
      have HN : Hid (okReg R reg k = false → F = false) := Lib.hid fun h => HF.out.trans (formedF_no h hlt)
      obtain ⟨r, hr⟩ : ∃ r, reg k = r := ⟨_, rfl⟩
      rw [hr] at hc
      have HK := Lib.hid hr
      clear hr hrc
      by_cases hkR : k < R
      · by_cases h0 : r < 0
        · have e0 := HN.out (okReg_neg (by rw [HK.out]; exact h0))
          subst e0
          clear HN HF
          go_wp2
          all_goals first | exact U2.out | exact ⟨rfl, U2.out⟩
        · by_cases h8 : 8 ≤ r
          · have e0 := HN.out (okReg_big (by rw [HK.out]; exact h8))
            subst e0
            clear HN HF
            go_wp2
            all_goals first | exact U2.out | exact ⟨rfl, U2.out⟩
          · have HY := Lib.hid (okReg_in hkR (show 0 ≤ reg k by rw [HK.out]; omega) (show reg k < 8 by rw [HK.out]; omega))
            have hnk : decide (R ≤ k) = false := decide_eq_false (by omega)
            clear HN
            go_wp2
            go_round
            case rel => exact ⟨k + 1, by omega, by go_num, fun j hj => by rcases Nat.lt_succ_iff_lt_or_eq.1 hj with h | rfl; exact HA.out j h; exact HY.out⟩
            case measure => simp [intOf]; omega
      · have hRk : R ≤ k := by omega
        by_cases hz : r = 0
        · have HY := Lib.hid (okReg_zero hkR (show reg k = 0 by rw [HK.out]; exact hz))
          subst hz
          clear HN
          go_wp2
          go_round
          case rel => exact ⟨k + 1, by omega, by go_num, fun j hj => by rcases Nat.lt_succ_iff_lt_or_eq.1 hj with h | rfl; exact HA.out j h; exact HY.out⟩
          case measure => simp [intOf]; omega
        · have e0 := HN.out (okReg_more hkR (by rw [HK.out]; exact hz))
          subst e0
          have hzz : (r != 0) = true := by simpa using hz
          clear HN HF
          go_wp2
          all_goals first | exact U2.out | exact ⟨rfl, U2.out⟩
    · obtain rfl : k = 3 := by omega
      have eF := HF.out.trans (formedF_yes HA.out)
      have HE := Lib.hid eF
      clear eF HF
      by_cases hn : n = 0
      · subst hn
        cases ok <;> cases nm
        all_goals
          go_wp2
          all_goals first | exact ⟨by rw [HE.out]; rfl, U2.out⟩ | (rw [HE.out]; exact ⟨rfl, U2.out⟩) | (rw [HE.out]; exact U2.out)
      · have hnn : (n == 0) = false := beq_eq_false_iff_ne.2 hn
        have hdn : decide (n = 0) = false := decide_eq_false hn
        cases ok <;> cases nm
        all_goals
          go_wp2
          all_goals first | exact ⟨by rw [HE.out, hdn]; rfl, U2.out⟩ | (rw [HE.out]; exact ⟨rfl, U2.out⟩) | (rw [HE.out]; exact U2.out)

theorem text_bad (i : Ins) (w : World) (h : formed i = false) :
    Calls Tryd.prog 17 #[i.val] w fun e w' => e = .returned (.tuple #[.string ⟨#[]⟩, .int .i64 180]) ∧ Upd [] w w' := by
  have HFo : ∀ w, Calls Tryd.prog 19 #[i.val] w fun e w' => e = .returned (.bool false) ∧ Upd [] w w' := fun w => by rw [← h]; exact formed_code i w
  obtain ⟨op, a, b, c, n⟩ := i
  simp only [Ins.val] at HFo ⊢
  refine calls_all fun K hK => ?_
  go_enter Tryd.func17, Tryd.ntmps17
  go_wp2_with fail
  refine (HFo _).mono ?_
  rintro e w1 ⟨rfl, u1⟩
  have U1 := Lib.hid (((Upd.refl [] w).alloc _).trans u1)
  clear u1
  go_wp2
  all_goals exact ⟨rfl, U1.out⟩

set_option maxHeartbeats 8000000 in
theorem rtext (i : Ins) (w : World) (h : formed i = true) (hn : 0 ≤ i.n ∧ i.n < 18446744073709551616) (hT : Tab w) :
    Calls Tryd.prog 22 #[i.val] w fun e w' => e = .returned (.string ⟨(textOf i).toArray⟩) ∧ Upd [] w w' := by
  obtain ⟨f, hf⟩ : ∃ f, formI i.op = f := ⟨_, rfl⟩
  obtain ⟨ok, hok⟩ : ∃ ok, isOp i.op = ok := ⟨_, rfl⟩
  obtain ⟨nm, hnm⟩ : ∃ nm, nameI i.op = nm := ⟨_, rfl⟩
  have HI : ∀ w, Calls Tryd.prog 11 #[.int .i64 i.op] w fun e w' => e = .returned (.tuple #[f.val, .bool ok]) ∧ Upd [] w w' := fun w => by rw [← hf, ← hok]; exact rinfo i.op w
  have HM : ∀ w, Calls Tryd.prog 15 #[.int .i64 i.op] w fun e w' => e = .returned (strV nm) ∧ Upd [] w w' := fun w => by rw [← hnm]; exact rname i.op w
  have HR := fun w => rregs i w
  have hreg := formed_reg h
  have hle := regs_le i.op
  have hrc := reg_cell i
  have hRL := regsText_len hreg
  have hNL := nameI_len i.op
  rw [hf] at hreg hle hRL
  rw [hnm] at hNL
  have HX : textOf i = nm ++ regsText i f.regs ++ if f.num then 32 :: Lib.decDigits i.n.toNat else [] := by unfold textOf; rw [hf, hnm]
  have HS := Lib.hid (regsText_succ i)
  have H0 : regsText i 0 = [] := rfl
  generalize textOf i = TX at *
  generalize regsText i = RT at *
  clear hf hok hnm h
  obtain ⟨op, a, b, c, n⟩ := i
  simp only [Ins.val] at HR HI HM ⊢
  obtain ⟨R, num, tg, ou, ins⟩ := f
  simp only [Form.val, strV] at HI HM
  simp only at hn hreg hle HX hRL
  obtain ⟨reg, hrg⟩ : ∃ reg, Ins.reg ⟨op, a, b, c, n⟩ = reg := ⟨_, rfl⟩
  rw [hrg] at hrc HS hreg
  clear hrg
  have HX' := Lib.hid HX
  have H0' := Lib.hid H0
  clear HX H0
  refine calls_all fun K hK => ?_
  go_enter Tryd.func22, Tryd.ntmps22
  go_wp2_with fail
  refine (HI _).mono ?_
  rintro e w1 ⟨rfl, u1⟩
  have HB := Lib.hid (((Blk.new w [.int .i64 op, .int .i64 a, .int .i64 b, .int .i64 c, .int .u64 n] 38).upd u1 (by simp)).alloc (.cells #[.int .i64 (R : Int), .bool num, .bool tg, .bool ou, .bool ins] 24))
  have HFb := Lib.hid (Blk.new w1 [.int .i64 (R : Int), .bool num, .bool tg, .bool ou, .bool ins] 24)
  have U1 := Lib.hid ((((Upd.refl [] w).alloc (.cells #[.int .i64 op, .int .i64 a, .int .i64 b, .int .i64 c, .int .u64 n] 38)).trans u1).alloc (.cells #[.int .i64 (R : Int), .bool num, .bool tg, .bool ou, .bool ins] 24))
  have d0 := HB.out.cell 0 rfl
  have d1 := HB.out.cell 1 rfl
  have d2 := HB.out.cell 2 rfl
  have d3 := HB.out.cell 3 rfl
  have d4 := HB.out.cell 4 rfl
  clear u1
  go_wp2_with fail
  refine (HR _).mono ?_
  rintro e w2 ⟨rfl, u2⟩
  have HB2 := Lib.hid ((HB.out.upd u2 (by simp)).alloc (.cells #[.int .i64 a, .int .i64 b, .int .i64 c] 74))
  have HF2 := Lib.hid ((HFb.out.upd u2 (by simp)).alloc (.cells #[.int .i64 a, .int .i64 b, .int .i64 c] 74))
  have HG2 := Lib.hid (Blk.new w2 [.int .i64 a, .int .i64 b, .int .i64 c] 74)
  have U2 := Lib.hid ((U1.out.trans u2).alloc (.cells #[.int .i64 a, .int .i64 b, .int .i64 c] 74))
  have k0 := HB2.out.cell 0 rfl
  clear d0 d1 d2 d3 d4 u2 HB HFb U1
  go_wp2_with fail
  refine (HM _).mono ?_
  rintro e w3 ⟨rfl, u3⟩
  have hf3 := HF2.out.upd u3 (by simp)
  have hb3 := HB2.out.upd u3 (by simp)
  have hg2 := HG2.out.upd u3 (by simp)
  have U5 := Lib.hid (U2.out.trans u3)
  have hT5 := hT.upd U5.out
  have f0 := hf3.cell 0 rfl
  have f1 := hf3.cell 1 rfl
  have d4 := hb3.cell 4 rfl
  clear k0 u3 hf3 hb3 HB2 HF2 HG2 U2
  go_wp2_with fail
  go_loopw [6, 7] (fun v6 v7 wr => ∃ k : Nat, k ≤ R ∧ v7 = .int .i64 k ∧ v6 = .string ⟨(nm ++ RT k).toArray⟩ ∧ wr = w3) (fun _ v7 _ => R - (intOf v7).toNat)
  case atStart => exact ⟨0, by omega, rfl, by rw [H0'.out, List.append_nil], rfl⟩
  case round =>
    obtain ⟨k, hk, rfl, rfl, rfl⟩ := hrel
    by_cases hlt : k < R
    · have hc := hg2.cell k (hrc k (by omega))
      have hkl : (k : Int) < (R : Int) := by omega
      obtain ⟨r0, r8⟩ := hreg k hlt
      have hs := HS.out k
      obtain ⟨r, hr⟩ : ∃ r : Nat, reg k = r := ⟨(reg k).toNat, by omega⟩
      rw [hr] at hc hs r0 r8
      rw [Int.toNat_natCast] at hs
      have HSK := Lib.hid hs
      clear hs hr hrc
      have hl1 := hRL k hk
      have hl3 := digits_small r (by omega)
      have hb1 : ¬ 9223372036854775807 < nm.length + (RT k).length + 1 := by omega
      have hb2 : ¬ 9223372036854775807 < nm.length + (RT k).length + 1 + (Lib.decDigits r).length := by omega
      have hk3 : (k : Int) < 3 := by omega
      clear hl1 hl3 hRL
      go_wp2_with fail
      refine (Tryd.strconv_Itoa_small r (by omega) _).mono ?_
      rintro e w6 ⟨rfl, rfl⟩
      go_wp2
      go_round
      case rel => exact ⟨k + 1, by omega, by go_num, by rw [HSK.out]; simp [ByteArray.ext_iff], by first | trivial | rfl⟩
      case measure => simp [intOf]; omega
    · obtain rfl : k = R := by omega
      have hl1 := hRL k (Nat.le_refl _)
      cases num with
      | false =>
        have hX := HX'.out
        have HE := Lib.hid (hX.trans (List.append_nil _))
        clear hX HX' hl1 hRL
        go_wp2
        all_goals first | exact ⟨by rw [HE.out]; rfl, U5.out⟩ | (rw [HE.out]; exact ⟨rfl, U5.out⟩)
      | true =>
        have hX := HX'.out
        rw [if_pos rfl] at hX
        obtain ⟨u, rfl⟩ : ∃ u : Nat, n = u := ⟨n.toNat, by omega⟩
        rw [Int.toNat_natCast] at hX
        have hu64 : u < 18446744073709551616 := by omega
        have hdl := Lib.nDigits_le20 u hu64
        rw [← Lib.decDigits_length] at hdl
        have hb1 : ¬ 9223372036854775807 < nm.length + (RT k).length + 1 := by omega
        have hb2 : ¬ 9223372036854775807 < nm.length + (RT k).length + 1 + (Lib.decDigits u).length := by omega
        have HE := Lib.hid hX
        clear hX HX' hl1 hRL hdl hn
        go_wp2_with fail
        refine (fmtu u hu64 _ hT5).mono ?_
        rintro e w7 ⟨rfl, u7⟩
        have U7 := Lib.hid (U5.out.trans u7)
        clear u7 U5
        go_wp2
        all_goals first | exact ⟨by rw [HE.out]; simp [ByteArray.ext_iff], U7.out⟩ | (rw [HE.out]; exact ⟨by simp [ByteArray.ext_iff], U7.out⟩)
end Go.Proofs.YtjcnlfihjfcpoaaDoor
