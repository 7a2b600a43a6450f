/- The reference's Bytes of an instruction that is formed. The condition: N is a word. -/
import Derived.Test.YtjcnlfihjfcpoaaDoorCBytes
import Derived.Test.YtjcnlfihjfcpoaaDoorCRText
set_option linter.unusedSimpArgs false
set_option linter.unusedVariables false
set_option maxRecDepth 100000
namespace Go.Proofs.YtjcnlfihjfcpoaaDoor
open Go.RowKit

set_option maxHeartbeats 4000000 in
theorem rbytes (x : Ins) (w : World) (hfo : formed x = true) (hxw : 0 ≤ x.n ∧ x.n < 18446744073709551616) : Calls Tryd.prog 30 #[x.val] w fun e w' => ∃ v, e = .returned v ∧ OwnB w' w.heap.size v (bytesOf x) ∧ Upd [] w w' := by
  obtain ⟨i5, hi5, hz5, hs5, hy5⟩ := info_parts info_u8
  have HIn := fun w => rinfo x.op w
  have HRe := fun w => rregs x w
  have hR3 := regs_le x.op
  have hrc := reg_cell x
  have hop := formed_isOp hfo
  have hrg := formed_reg hfo
  have hopw : IntKind.u8.wrap x.op = x.op := by rw [IntKind.wrap_u8]; omega
  have hform : Hid (bytesOf x = _) := Lib.hid (by unfold bytesOf; exact rfl)
  have HRS := Lib.hid (regBytes_succ x)
  have HR0 := Lib.hid (show regBytes x 0 = [] from rfl)
  have HRBl := Lib.hid (fun k => show (regBytes x k).length = k by simp [regBytes])
  have hbl := bytesOf_len x hxw
  have HBL := Lib.hid hbl
  clear hfo hbl
  obtain ⟨BX, hBX⟩ : ∃ BX, bytesOf x = BX := ⟨_, rfl⟩
  rw [hBX] at HBL hform ⊢
  clear hBX
  generalize regBytes x = RB at *
  generalize formI x.op = f at *
  generalize isOp x.op = iso at *
  obtain ⟨R, num, tg, ou, ins⟩ := f
  simp only [Form.val] at HIn hR3 hrg
  simp only [Ins.val] at HRe ⊢
  refine calls_all fun K hK => ?_
  go_enter Tryd.func30, Tryd.ntmps30
  go_wp2_with fail
  refine (HIn _).mono ?_
  rintro e w1 ⟨rfl, u1⟩
  have B1 := Lib.hid (((Blk.new w [.int .i64 x.op, .int .i64 x.a, .int .i64 x.b, .int .i64 x.c, .int .u64 x.n] 38).upd u1 (by simp)).alloc (.cells #[.int .i64 (R : Int), .bool num, .bool tg, .bool ou, .bool ins] 24))
  have F1 := Lib.hid (Blk.new w1 [.int .i64 (R : Int), .bool num, .bool tg, .bool ou, .bool ins] 24)
  have U1 := Lib.hid ((((Upd.refl [] w).alloc (.cells #[.int .i64 x.op, .int .i64 x.a, .int .i64 x.b, .int .i64 x.c, .int .u64 x.n] 38)).trans u1).alloc (.cells #[.int .i64 (R : Int), .bool num, .bool tg, .bool ou, .bool ins] 24))
  have d0 := B1.out.cell 0 rfl
  have d1 := B1.out.cell 1 rfl
  have d2 := B1.out.cell 2 rfl
  have d3 := B1.out.cell 3 rfl
  have d4 := B1.out.cell 4 rfl
  clear u1
  go_wp2_with fail
  refine (HRe _).mono ?_
  rintro e w2 ⟨rfl, u2⟩
  have B2 := Lib.hid ((B1.out.upd u2 (by simp)).alloc (.cells #[.int .i64 x.a, .int .i64 x.b, .int .i64 x.c] 74))
  have F2 := Lib.hid ((F1.out.upd u2 (by simp)).alloc (.cells #[.int .i64 x.a, .int .i64 x.b, .int .i64 x.c] 74))
  have G2 := Lib.hid (Blk.new w2 [.int .i64 x.a, .int .i64 x.b, .int .i64 x.c] 74)
  have U2 := Lib.hid ((U1.out.trans u2).alloc (.cells #[.int .i64 x.a, .int .i64 x.b, .int .i64 x.c] 74))
  have k0 := B2.out.cell 0 rfl
  have O2 : Hid (OwnB ((w2.alloc (.cells #[.int .i64 x.a, .int .i64 x.b, .int .i64 x.c] 74)).alloc (.cells #[.int .u8 x.op] 5)) w.heap.size (.slice (some ⟨w2.heap.size + 1, 0, none⟩) 1 1) [UInt8.ofNat x.op.toNat]) := Lib.hid (by
    have h := World.ownsRow_lit (base := w.heap.size) (size := 1) (e := 5) (w2.alloc (.cells #[.int .i64 x.a, .int .i64 x.b, .int .i64 x.c] 74)) #[.int .u8 x.op] 1 (by have := U2.out.size; omega) (by simp [maxLen]) (by simp)
    unfold OwnB bcells
    simp only [World.size_alloc] at h
    have e1 : (((UInt8.ofNat x.op.toNat).toNat : Nat) : Int) = x.op := ofNat_toNat (by omega) (by omega)
    simp only [List.length_cons, List.length_nil, List.map_cons, List.map_nil, e1]
    exact h)
  have B3 := Lib.hid (B2.out.alloc (.cells #[.int .u8 x.op] 5))
  have F3 := Lib.hid (F2.out.alloc (.cells #[.int .u8 x.op] 5))
  have G3 := Lib.hid (G2.out.alloc (.cells #[.int .u8 x.op] 5))
  have U3 := Lib.hid (U2.out.alloc (.cells #[.int .u8 x.op] 5))
  clear d0 d1 d2 d3 d4 u2 B1 F1 U1
  go_wp2_with fail
  go_loopw [6, 7] (fun v6 v7 wr => ∃ k : Nat, k ≤ R ∧ v7 = .int .i64 k ∧ OwnB wr w.heap.size v6 ([UInt8.ofNat x.op.toNat] ++ RB k) ∧ Upd [] w wr ∧ Blk wr w2.heap.size [.int .i64 x.a, .int .i64 x.b, .int .i64 x.c] 74 ∧ Blk wr w1.heap.size [.int .i64 (R : Int), .bool num, .bool tg, .bool ou, .bool ins] 24 ∧ Blk wr w.heap.size [.int .i64 x.op, .int .i64 x.a, .int .i64 x.b, .int .i64 x.c, .int .u64 x.n] 38) (fun _ v7 _ => R - (intOf v7).toNat)
  case atStart => exact ⟨0, by omega, rfl, by rw [HR0.out, List.append_nil]; exact O2.out, U3.out, G3.out, F3.out, B3.out⟩
  case round =>
    obtain ⟨k, hk, rfl, ho, hu, hg', hf', hb'⟩ := hrel
    have HOk := Lib.hid ho
    have HUk := Lib.hid hu
    have HGk := Lib.hid hg'
    have HFk := Lib.hid hf'
    have HBk := Lib.hid hb'
    have hwsk := hu.size
    have f0 := hf'.cell 0 rfl
    clear ho hu hg' hf' hb' O2 U3 G3 F3 B3
    by_cases hkR : k < R
    · have hkl : (k : Int) < (R : Int) := by omega
      have hk3 : (k : Int) < 3 := by omega
      obtain ⟨r0, r8⟩ := hrg k hkR
      have hc := HGk.out.cell k (hrc k (by omega))
      have hs := HRS.out k
      obtain ⟨r, hr⟩ : ∃ r, x.reg k = r := ⟨_, rfl⟩
      rw [hr] at hc r0 r8 hs
      have HRk := Lib.hid hr
      have HSk := Lib.hid hs
      clear hr hs hrc
      have hrw : IntKind.u8.wrap r = r := by rw [IntKind.wrap_u8]; omega
      have hlb := Lib.hid (show ([UInt8.ofNat x.op.toNat] ++ RB k).length ≤ 4 by have := HRBl.out k; simp only [List.length_append, List.length_cons, List.length_nil]; omega)
      obtain ⟨lk, hlk⟩ : ∃ lk, [UInt8.ofNat x.op.toNat] ++ RB k = lk := ⟨_, rfl⟩
      rw [hlk] at HOk hlb
      have HLK := Lib.hid hlk
      clear hlk
      go_wp2_with (at_builtin; refine wpList_append_own _ rfl (.tmp 27) (.tmp 32) 59 rfl w.heap.size 5 i5 (.int .u8 0) 1 1 Tryd.underlying59 hi5 hz5 hs5 hy5 rfl (by decide) _ _ _ rfl (World.ownsRow.alloc HOk.out _) ⟨_, 0, none⟩ 1 1 _ rfl rfl (news_new _ 5 (by simp)) (by simp [Value.oneCell']) (by unfold maxLen; have := hlb.out; omega) (by have := hlb.out; omega) (by simp; omega) ?_; intro v6 w6 ho6 hg6 _)
      have hu6 : Upd _ _ w6 := Upd.own hg6
      have HU6 := Lib.hid ((HUk.out.alloc _).tr (U := []) hu6 (by simp) (fun g hg => .inr (own_blocks HOk.out g hg).1))
      have HG6 := Lib.hid ((HGk.out.alloc _).upd hu6 (own_ne_blk HOk.out HGk.out (by decide)))
      have HF6 := Lib.hid ((HFk.out.alloc _).upd hu6 (own_ne_blk HOk.out HFk.out (by decide)))
      have HB6 := Lib.hid ((HBk.out.alloc _).upd hu6 (own_ne_blk HOk.out HBk.out (by decide)))
      have HO6 := Lib.hid (own_push (UInt8.ofNat r.toNat) ho6 (ofNat_toNat (by omega) (by omega)))
      clear hu6 hg6 ho6
      go_roundw
      case rel => exact ⟨k + 1, by omega, by go_num, by rw [HSk.out, ← List.append_assoc, HLK.out]; exact HO6.out, HU6.out, HG6.out, HF6.out, HB6.out⟩
      case measure => simp [intOf]; omega
    · obtain rfl : k = R := by omega
      have hfo1 := HFk.out.cell 1 rfl
      clear hrc
      cases num with
      | false =>
        have HE : Hid (BX = [UInt8.ofNat x.op.toNat] ++ RB k) := Lib.hid (by rw [hform.out]; simp)
        go_wp2
        all_goals exact ⟨_, rfl, by rw [HE.out]; exact HOk.out, HUk.out⟩
      | true =>
        have hbn := HBk.out.cell 4 rfl
        have hlb : Hid (([UInt8.ofNat x.op.toNat] ++ RB k).length ≤ 4) := Lib.hid (by have := HRBl.out k; simp only [List.length_append, List.length_cons, List.length_nil]; omega)
        have HNX' : Hid (BX = ([UInt8.ofNat x.op.toNat] ++ RB k) ++ vint x.n.toNat) := Lib.hid (by rw [hform.out]; simp)
        obtain ⟨lk, hlk⟩ : ∃ lk, [UInt8.ofNat x.op.toNat] ++ RB k = lk := ⟨_, rfl⟩
        rw [hlk] at HOk hlb HNX'
        clear hlk HGk HFk hform
        obtain ⟨N, hN⟩ : ∃ N : Nat, x.n = N := ⟨x.n.toNat, by omega⟩
        rw [hN] at hbn HNX'
        have hNl : N < 18446744073709551616 := by omega
        have HNN := Lib.hid hN
        clear hN
        rw [Int.toNat_natCast] at HNX'
        have hvl := Lib.hid (show (lk ++ vint N).length ≤ 14 by have := vint_len 9 N (by omega); have := hlb.out; rw [List.length_append]; omega)
        obtain ⟨LT, hLT⟩ : ∃ LT, lk ++ vint N = LT := ⟨_, rfl⟩
        rw [hLT] at HNX' hvl
        have HLT := Lib.hid hLT
        clear hLT
        go_wp2_with fail
        go_loopw [6, 8] (fun v6 v8 wr => ∃ (m : Nat) (l2 : List UInt8), m < 18446744073709551616 ∧ v8 = .int .u64 m ∧ OwnB wr w.heap.size v6 l2 ∧ Upd [] w wr ∧ l2 ++ vint m = LT) (fun _ v8 _ => (intOf v8).toNat)
        case atStart => exact ⟨N, lk, hNl, rfl, HOk.out, HUk.out, HLT.out⟩
        case round =>
          obtain ⟨m, l2, hm, rfl, ho, hu, hv⟩ := hrel
          have HO2 := Lib.hid ho
          have HU2 := Lib.hid hu
          have hws2 := hu.size
          by_cases hm7 : m < 128
          · have hm1 : ¬ 127 < m := by omega
            have hm3 : (m : Int) % 256 = m := by omega
            have hlb2 : Hid (l2.length + 1 ≤ 14) := Lib.hid (by have := hvl.out; rw [← hv, vint_lt hm7] at this; simp at this; omega)
            have HV : Hid (l2 ++ [UInt8.ofNat m] = LT) := Lib.hid (by rw [← hv, vint_lt hm7])
            clear ho hu hv HOk HUk HLT
            go_wp2_with (at_builtin; refine wpList_append_own _ rfl (.tmp 49) (.tmp 52) 59 rfl w.heap.size 5 i5 (.int .u8 0) 1 1 Tryd.underlying59 hi5 hz5 hs5 hy5 rfl (by decide) _ _ _ rfl (World.ownsRow.alloc HO2.out _) ⟨_, 0, none⟩ 1 1 _ rfl rfl (news_new _ 5 (by simp)) (by simp [Value.oneCell']) (by unfold maxLen; have := hlb2.out; omega) (by have := hlb2.out; omega) (by simp; omega) ?_; intro v6 w6 ho6 hg6 _)
            have HU6 := Lib.hid ((HU2.out.alloc _).tr (U := []) (Upd.own hg6) (by simp) (fun g hg => .inr (own_blocks HO2.out g hg).1))
            have HO6 := Lib.hid (own_push (UInt8.ofNat m) ho6 (by simp; omega))
            rw [HV.out] at HO6
            all_goals exact ⟨_, rfl, by rw [HNX'.out]; exact HO6.out, HU6.out⟩
          · have hm1 : 127 < m := by omega
            have hlb2 : Hid (l2.length + 1 ≤ 14) := Lib.hid (by have := hvl.out; rw [← hv, vint_ge hm7] at this; simp at this; omega)
            have HV : Hid (l2 ++ [UInt8.ofNat (m % 128 + 128)] ++ vint (m / 128) = LT) := Lib.hid (by rw [← hv, vint_ge hm7]; simp)
            clear ho hu hv HOk HUk HLT
            go_wp2_with (at_builtin; refine wpList_append_own _ rfl (.tmp 40) (.tmp 45) 59 rfl w.heap.size 5 i5 (.int .u8 0) 1 1 Tryd.underlying59 hi5 hz5 hs5 hy5 rfl (by decide) _ _ _ rfl (World.ownsRow.alloc HO2.out _) ⟨_, 0, none⟩ 1 1 _ rfl rfl (news_new _ 5 (by simp)) (by simp [Value.oneCell']) (by unfold maxLen; have := hlb2.out; omega) (by have := hlb2.out; omega) (by simp; omega) ?_; intro v6 w6 ho6 hg6 _)
            have HU6 := Lib.hid ((HU2.out.alloc _).tr (U := []) (Upd.own hg6) (by simp) (fun g hg => .inr (own_blocks HO2.out g hg).1))
            have HO6 := Lib.hid (own_push (UInt8.ofNat (m % 128 + 128)) ho6 (by simp; omega))
            clear ho6 hg6
            go_roundw
            case rel =>
              first
                | exact ⟨m / 128, _, by omega, by simp, HO6.out, HU6.out, HV.out⟩
                | ((repeat apply Exists.intro); refine ⟨⟨m / 128, _, by omega, rfl, HO6.out, HU6.out, HV.out⟩, ?_⟩; first | rfl | simp)
            case measure => simp [intOf]; omega
end Go.Proofs.YtjcnlfihjfcpoaaDoor
