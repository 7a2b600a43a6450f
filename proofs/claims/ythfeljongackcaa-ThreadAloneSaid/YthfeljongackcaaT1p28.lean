/- ThreadAlone, walked: the loop. The conditions are sizes. What every law's row asks behind its walk, once for all: the call answers true, below the heap's old size nothing has turned, so the arguments read as they did. No condition. -/
import Derived.Test.YthfeljongackcaaT1p27
import Derived.Test.YthfeljongackcaaT1p00
import Derived.ProofKit
import Derived.OpenShut
set_option linter.unusedSimpArgs false
set_option linter.unusedVariables false
set_option maxRecDepth 100000
namespace Go.Proofs.Ythfeljongackcaa
open Go.RowKit
open Go.Maps
theorem wpList_load_mid_w {P : Program} {ops : Array Oper} {rest : List Oper} {op : Oper} {a : Act} {w : World} {Q : Exit → Act → World → Prop} (hw : Region.wanted op (yielded ops a.tmps) = true) (ty : TypeId) (x : Operand) (ho : op.op = .load ty x)
    (b o : Nat) (hx : a.eval x = .pointer (some ⟨b, o, none⟩)) (cs : List Value) (d : TypeDesc) (hc : w.rangeAt b o cs)
    (hu : P.underlying ty = some d) (hd : d.isRow = true) (hi : (P.info? ty).map (·.size) = some cs.length)
    (h : wpList P ops Q rest (a.put op.dst (.agg cs.toArray)) w) : wpList P ops Q (op :: rest) a w :=
  wpList_step fun K hK => by rw [if_pos hw]; exact wp_load_mid ty x ho b o hx cs d hc hu hd hi (hK _ _ h)
section
variable (w : World) (p0 : Option Addr) (zs : List Int) (c0 : Nat) (c : Int) (pp : Option Addr) (l : List PD) (cp : Nat) (pk : Value) (steps : Int)
set_option maxHeartbeats 4000000 in
theorem alone_good (hZ : SlI w .u64 p0 zs) (HZ : RowKit.Hid (∀ v ∈ zs, 0 ≤ v ∧ v < 18446744073709551616)) (hz1 : 1 ≤ zs.length) (hz2 : zs.length ≤ 65536) (hP : Progs w pp l) (hlm : l.length ≤ maxLen) (hc : 0 ≤ c ∧ c < 18446744073709551616) (h0 : l ≠ []) (hst : steps ≤ 20000) (d : PD) (hd : l[0]? = some d) (hf : formedP d.p = true) :
    Calls Try.prog 9 #[.agg #[.slice p0 zs.length c0, .int .u64 c, .slice pp l.length cp, pk], .int .i64 steps] w fun e w' => e = .returned (.bool true) ∧ Upd [] w w' := by
  obtain ⟨W1, hW1⟩ : ∃ W, w.alloc (.cells #[.slice p0 zs.length c0, .int .u64 c, .slice pp l.length cp, pk] 92) = W := ⟨_, rfl⟩
  have u1 : Upd [] w W1 := by rw [← hW1]; exact (Upd.refl [] _).alloc _
  have B1 : Blk W1 w.heap.size [.slice p0 zs.length c0, .int .u64 c, .slice pp l.length cp, pk] 92 := by rw [← hW1]; exact Blk.new w _ _
  have q0 := B1.cell 0 rfl
  have q1 := B1.cell 1 rfl
  have q2 := B1.cell 2 rfl
  have U1 := Lib.hid u1
  have HB := Lib.hid B1
  have hZ1 := hZ.upd u1 (by simp)
  have HP := Lib.hid (hP.upd u1)
  clear u1 B1 hZ hP
  have hb1 := HB.out.lt
  unfold maxLen at hlm
  refine calls_all fun K hK => ?_
  go_enter Try.func9, Try.ntmps9
  go_wp2_with fail
  refine (of_ok p0 c0 zs W1 hZ1 hz1 hz2).mono ?_
  rintro e W2 ⟨ra, rb, rfl, hR, hra, hrb, u2⟩
  have q0' := (HB.out.upd u2 (by simp)).cell 0 rfl
  have q1' := (HB.out.upd u2 (by simp)).cell 1 rfl
  have q2' := (HB.out.upd u2 (by simp)).cell 2 rfl
  go_wp2_with fail
  refine (clkFrom (c - c % 2) W2).mono ?_
  rintro e W3 ⟨ca, cr, cb, rfl, hC, k1, k2, k3, u3⟩
  have hX : XAt W3 ⟨ra, rb, ca, cr, cb⟩ ⟨zs, c - c % 2⟩ := XAt.made hR hC u3 k1 k2 k3 ⟨HZ.out, by simp only; omega⟩
  have hs1 := U1.out.size
  have hs2 := u2.size
  have U2 := Lib.hid (U1.out.trans (u2.trans u3))
  have HB3 := Lib.hid (HB.out.upd (u2.trans u3) (by simp))
  have HP3 := Lib.hid (HP.out.upd (u2.trans u3))
  have hX0 : ∀ g ∈ SX.foot ⟨ra, rb, ca, cr, cb⟩, w.heap.size < g := by simp [SX.foot]; omega
  clear hR hC u2 u3 k1 k2 k3 hra hrb hs1 hs2 U1 HB HP q0 q1 q2 q0' q1' q2' hZ1 hW1
  generalize hXe : (⟨ra, rb, ca, cr, cb⟩ : SX) = X at hX hX0
  obtain rfl : X.ra = ra := by rw [← hXe]
  obtain rfl : X.ca = ca := by rw [← hXe]
  clear hXe
  have r0 := HB3.out.cell 0 rfl
  have r2 := HB3.out.cell 2 rfl
  have E1 : ∀ w, (binOp .eql 22 (.pointer (some ⟨X.ra, 0, none⟩)) (.pointer none)).run Try.prog w = .ok (.bool false) w := fun w => by kernel_rfl
  have E2 : ∀ w, (binOp .eql 26 (.pointer (some ⟨X.ca, 0, none⟩)) (.pointer none)).run Try.prog w = .ok (.bool false) w := fun w => by kernel_rfl
  have hl0 : 0 < l.length := List.length_pos_iff.2 h0
  have d0 : ((l.length : Int) == 0) = false := beq_eq_false_iff_ne.2 (by omega)
  have ds : decide (20000 < steps) = false := decide_eq_false (by omega)
  have hl0' : (0 : Int) < (l.length : Int) := by omega
  obtain ⟨b, o, rfl, hcell⟩ := HP3.out.cell 0 d hd
  rw [Nat.add_zero] at hcell
  have hD := HP3.out.at_ d (List.mem_of_getElem? hd)
  have hlen := hD.len
  have HN := Lib.hid (tl_new (w0 := w) (cap := d.cap) hX (fun g hg => Nat.le_of_lt (hX0 g hg)) U2.out hD.code (by omega))
  have HF := Lib.hid hf
  have HD := Lib.hid hD
  clear hD hf hX hX0 h0 hlen
  go_wp2_with (first | (go_at_call 33; refine (num11_code _ _).mono ?_; rintro e w' ⟨rfl, rfl⟩))
  refine HN.out.mono ?_
  rintro e W4 ⟨h1, _⟩
  obtain ⟨tb, pb, cap', rfl, hT, u4⟩ := h1 HF.out
  have r2' := (HB3.out.upd u4 (by simp)).cell 2 rfl
  have hcell' := (World.cell?_of_block (w := W3) (u4.block b (World.block_lt_of_cell? W3 _ hcell) (by simp))).trans hcell
  have HRF := Lib.hid (rformed_prog W4 d.po d.cap d.p (HD.out.code.upd0 u4) (by have := HD.out.len; omega))
  rw [HF.out] at HRF
  have HNUM := Lib.hid HD.out.num
  have HT := Lib.hid hT
  clear h1 HN HD hT U2 HP3
  have E3 : ∀ w, (binOp .eql 94 (.pointer (some ⟨tb, 0, none⟩)) (.pointer none)).run Try.prog w = .ok (.bool false) w := fun w => by kernel_rfl
  go_wp2_with fail
  refine HRF.out.mono ?_
  rintro e W5 ⟨rfl, u5⟩
  have HT5 := Lib.hid (HT.out.upd0 u5)
  clear HT HRF u4 u5 r2' hcell' r0 r2 hcell HB3 hd E1 E2
  go_wp2_with fail
  have HAI := Lib.hid (show AI newT ⟨zs, c - c % 2⟩ [] 0 from ⟨fun _ => by simp only; omega, fun s h => by cases h⟩)
  go_loopw [10, 11, 12] (fun v10 v11 v12 wr => ∃ (i : Nat) (n : Int) (bl : List TE) (t : TS) (sh : Sh) (q : AO), v12 = .int .i64 (i : Int) ∧ v11 = .int .i64 n ∧ (i : Int) ≤ 20000 ∧ (0 ≤ n ∧ n ≤ i) ∧ bl.length ≤ i ∧ ((i : Int) ≤ steps ∨ i = 0)
      ∧ EvL wr w.heap.size v10 bl ∧ (∀ g, v10.ownBlock = some g → ¬ inTh X pb tb q g) ∧ TL w X d.p pb cap' tb t sh q wr ∧ AI t sh bl n) (fun _ _ v12 _ => (steps - intOf v12).toNat)
  case atStart => exact ⟨0, 0, [], newT, _, none, rfl, rfl, by omega, ⟨by omega, by omega⟩, by simp, .inr rfl, EvL.nil, fun g hg => by simp [Value.ownBlock] at hg, HT5.out, HAI.out⟩
  case round =>
    clear HT5 HAI
    obtain ⟨i, n, bl, t, sh, q, rfl, rfl, hi2, hn, hbl, his, hE, hEn, hT, hA⟩ := hrel
    have HT := Lib.hid hT
    by_cases hlt : (i : Int) < steps
    · have hsz := hT.u.size
      have hS := Lib.hid (tl_state hT)
      have hvalid := hA.valid
      have hgood := ai_step (p := d.p) hA hT.may
      have hr8 : t.regs.length = 8 := by obtain ⟨acc, st, hv⟩ := hT.tv; exact hv.r8
      have hs8 : t.saved.length = 8 := by obtain ⟨acc, st, hv⟩ := hT.tv; exact hv.s8
      have HG := Lib.hid hgood
      have HV := Lib.hid hvalid
      have HE := Lib.hid hE
      have HEN := Lib.hid hEn
      have HR8 := Lib.hid hr8
      have HS8 := Lib.hid hs8
      have HM := Lib.hid hT.may
      clear hgood hvalid hE hEn hT hA hr8 hs8
      go_wp2_with fail
      refine hS.out.mono ?_
      rintro e W6 ⟨rv, wv, rfl, hTN⟩
      obtain ⟨p1, c1, rfl⟩ := hTN.rd.form
      obtain ⟨p2, c2, rfl⟩ := hTN.wr.form
      obtain ⟨A, hAe⟩ : ∃ A, t.rt.a = A := ⟨_, rfl⟩
      rw [hAe] at hTN
      have HAE := Lib.hid hAe
      rw [hAe]
      have hT6 := HT.out.upd0 hTN.u
      have hE6 := HE.out.upd hTN.u (by simp)
      have hs6 := hTN.u.size
      obtain ⟨vs, hvs⟩ : ∃ vs, t.rt.fore ++ rheadV A (.slice p1 A.reads.length c1) (.slice p2 A.writes.length c2) = vs := ⟨_, rfl⟩
      have hcs : t.rt.cells (.slice p1 A.reads.length c1) (.slice p2 A.writes.length c2) = vs := by rw [← hvs, ← hAe]; rfl
      have hvl : vs.length = 31 := by rw [← hcs]; exact rt_len HR8.out HS8.out
      have hv1 : vs.toArray.all (·.oneCell') = true := by rw [← hcs]; exact rt_one rfl rfl
      have hval : t.rt.val (.slice p1 A.reads.length c1) (.slice p2 A.writes.length c2) = .agg vs.toArray := by unfold RT.val; rw [hcs]
      have HCS := Lib.hid hcs
      rw [hval]
      obtain ⟨W7, hW7⟩ : ∃ W, W6.alloc (.cells zero31 103) = W := ⟨_, rfl⟩
      obtain ⟨hth, hbox, hub⟩ := tst_box vs hvl hW7
      obtain ⟨W8, hW8⟩ : ∃ W, W7.setCells W6.heap.size 0 vs = W := ⟨_, rfl⟩
      rw [hW8] at hbox hub
      simp only [zero31] at hW7
      have HVS := Lib.hid hvs
      have HTH := Lib.hid hth
      have HB8 := Lib.hid hbox
      have HT8 := Lib.hid (hT6.upd0 hub)
      have HE8 := Lib.hid (hE6.upd hub (by simp))
      have hs8' := hub.size
      have hlt6 : ∀ {g : Nat}, inTh X pb tb q g → g < W6.heap.size := fun h => hT6.lt h
      clear hval hvs hcs hAe hth hbox hT6 hE6 hub hTN HT HE hS
      go_upto_region 16 with (first
        | ((with_reducible refine wpList_store_mid (op := ⟨none, .store 103 (.tmp 13) (.tmp 103), _, _, _, _⟩) rfl 103 _ _ rfl W6.heap.size 0 vs.toArray ?_ ?_ (by simpa [hvl] using HTH.out) (by simp only [List.size_toArray, hvl]; kernel_rfl) hv1 ?_); (· rfl); (· rfl)))
      rw [hW8]
      clear hW8
      obtain ⟨R, hR⟩ : ∃ R, StepT d.p t sh = R := ⟨_, rfl⟩
      have hg := HG.out
      have hS := tl_step HT8.out HF.out HNUM.out
      rw [hR] at hg hS
      obtain ⟨⟨⟨ek, ea, ew, eo, ee⟩, tl⟩, t2, sh2⟩ := R
      have HS := Lib.hid hS
      obtain ⟨⟨k7, k4, kc⟩, hA2⟩ := hg
      dsimp only at k7 k4 kc hA2
      have HA2 := Lib.hid hA2
      have HKC := Lib.hid kc
      have HNB := Lib.hid (show ¬ inTh X pb tb q W6.heap.size from fun h => by have := hlt6 h; omega)
      clear hR hS kc hA2 HG
      have b7 : (ek == 7) = false := beq_eq_false_iff_ne.2 k7
      have b4 : (ek == 4) = false := beq_eq_false_iff_ne.2 k4
      go_wp2_with fail
      refine HS.out.mono ?_
      rintro e W9 ⟨rfl, q', hT9, u9, hf9⟩
      dsimp only at hT9
      obtain ⟨hE9, hEN9⟩ := EvL.step HE8.out HEN.out u9 hf9
      have hB9 := HB8.out.upd u9 (fun h => HNB.out (foot_in h))
      simp only [TE.val]
      obtain ⟨W10, hW10⟩ : ∃ W, W9.alloc (.cells #[.int .i64 0, .int .i64 ek, .int .u64 ea, .int .u64 ew, .bool eo, .int .i64 ee] 34) = W := ⟨_, rfl⟩
      have ue : Upd [] W9 W10 := by rw [← hW10]; exact (Upd.refl [] _).alloc _
      have eb : Blk W10 W9.heap.size (TE.cells ⟨ek, ea, ew, eo, ee⟩) 34 := by rw [← hW10]; exact Blk.new W9 _ _
      have e0 := eb.cell 0 rfl
      have e1 := eb.cell 1 rfl
      have e2 := eb.cell 2 rfl
      have e3 := eb.cell 3 rfl
      have e4 := eb.cell 4 rfl
      have e5 := eb.cell 5 rfl
      dsimp only at e1 e2 e3 e4 e5
      have hB10 := hB9.upd ue (by simp)
      have HEB := Lib.hid eb
      have HT10 := Lib.hid (hT9.upd0 ue)
      have HE10 := Lib.hid (hE9.upd ue (by simp))
      have HEN10 := Lib.hid hEN9
      have HLT9 := Lib.hid (fun g hg => (hE9.lt (g := g) hg).2)
      obtain ⟨g11, g21, gk⟩ := rt_get (rv := .slice p1 A.reads.length c1) (wv := .slice p2 A.writes.length c2) HR8.out HS8.out
      rw [HCS.out] at g11 g21 gk
      rw [HAE.out] at gk
      have hph : vs[25]? = some (.int .i64 A.phase) := (gk 3 (by decide)).trans rfl
      have x11 := hB10.cell 11 g11
      have HVC0 := Lib.hid (validates_code W10 vs A.phase hvl hph)
      have HG21 := Lib.hid g21
      have HGK := Lib.hid gk
      have HRNG := Lib.hid hB10.range
      have HVV := Lib.hid (show t.ins = true → (decide (4 ≤ A.phase) && decide (A.phase ≤ 6)) = false from fun hi => by
        have h := HV.out
        have ha : (t.att.getD zeroS) = A := HAE.out
        rw [ha] at h
        by_cases h4 : 4 ≤ A.phase
        · have h6 : ¬ A.phase ≤ 6 := fun k => h ⟨hi, h4, k⟩
          simp [h6]
        · simp [h4])
      have HB10 := Lib.hid hB10
      have s9 := u9.size
      have s10 := ue.size
      have HFU := Lib.hid (show 0 ≤ t.fuel ∧ t.fuel ≤ 4096 from by
        cases ha : t.att with
        | none => have := (HM.out.out ha).2.2; omega
        | some s => exact (HM.out.ins s ha).2.2.1)
      have HWL := Lib.hid (show A.writes.length ≤ 1024 from by
        have h : (t.att.getD zeroS) = A := HAE.out
        rw [← h]
        cases ha : t.att with
        | none => simp [zeroS]
        | some s => exact (HM.out.ins s ha).2.2.2.1.lenW)
      clear hT9 hE9 hB9 hEN9 u9 ue eb hB10 g11 g21 gk hph HS HT8 HE8 HB8 hf9
      cases hins : t.ins with
      | false =>
        rw [hins] at x11
        clear hins HVC0 HVV
        go_upto_region 20 with (fail)
        clear hW10
        have uN := Lib.hid (Upd.refl [] W10)
        have HTN := Lib.hid (HT10.out.upd0 uN.out)
        have hEV := HE10.out.upd uN.out (by simp)
        obtain ⟨pq, cq, hq⟩ := hEV.form
        subst hq
        have HEV := Lib.hid hEV
        clear hEV
        cases tl with
        | false =>
          clear HB10 HEB HRNG HE10 HT10 uN
          go_wp2_with fail
          go_roundw
          case rel => exact ⟨i + 1, n + 1, bl, t2, sh2, q', by simp, rfl, by omega, by omega, by omega, .inl (by omega), HEV.out, HEN10.out, HTN.out, HA2.out⟩
          case measure => simp [intOf]; omega
        | true =>
          have y0 := (HEB.out.upd uN.out (by simp)).cell 0 rfl
          have y1 := (HEB.out.upd uN.out (by simp)).cell 1 rfl
          have y2 := (HEB.out.upd uN.out (by simp)).cell 2 rfl
          have y3 := (HEB.out.upd uN.out (by simp)).cell 3 rfl
          have y4 := (HEB.out.upd uN.out (by simp)).cell 4 rfl
          have y5 := (HEB.out.upd uN.out (by simp)).cell 5 rfl
          dsimp only at y1 y2 y3 y4 y5
          have HNB2 := Lib.hid (own_ne_blk HEV.out.own (HB10.out.upd uN.out (by simp)) (by decide))
          clear HRNG HE10 HT10
          have hsW := HTN.out.u.size
          by_cases h1 : ek = 1
          · subst h1
            obtain ⟨v', Wn, hr, hE', hu', hat⟩ := app_ev (W := W10) (base := w.heap.size) (v := .slice none 0 0) EvL.nil ⟨1, ea, ew, eo, ee⟩ (by simp) hsW
            have huA : Upd (Value.slice none 0 0).ownBlock.toList W10 Wn := ((Upd.refl _ _).alloc _).trans hu'
            have HEA := Lib.hid hE'
            have HTA := Lib.hid (HTN.out.upd huA (by simp [Value.ownBlock]) (by simp [Value.ownBlock]))
            have HNA := Lib.hid (show ∀ g, v'.ownBlock = some g → ¬ inTh X pb tb q' g from fun g hg hi => by
              rcases hat with e | e
              · rw [e] at hg; simp [Value.ownBlock] at hg
              · rw [e] at hg; cases hg; have := HTN.out.lt hi; omega)
            dsimp only at hr
            obtain ⟨pn, cn, hpn⟩ := HEA.out.form
            subst hpn
            have HNE := Lib.hid (show W9.heap.size ∉ (Value.slice none 0 0).ownBlock.toList from by simp [Value.ownBlock])
            have HNB3 := Lib.hid (show W6.heap.size ∉ (Value.slice none 0 0).ownBlock.toList from by simp [Value.ownBlock])
            have yk := ((HEB.out.upd uN.out (by simp)).upd huA HNE.out).cell 1 rfl
            dsimp only at yk
            have z21 := ((HB10.out.upd uN.out (by simp)).upd huA HNB3.out).cell 21 HG21.out
            have z22 := ((HB10.out.upd uN.out (by simp)).upd huA HNB3.out).cell 22 ((HGK.out 0 (by decide)).trans rfl)
            have z23 := ((HB10.out.upd uN.out (by simp)).upd huA HNB3.out).cell 23 ((HGK.out 1 (by decide)).trans rfl)
            have z24 := ((HB10.out.upd uN.out (by simp)).upd huA HNB3.out).cell 24 ((HGK.out 2 (by decide)).trans rfl)
            have z25 := ((HB10.out.upd uN.out (by simp)).upd huA HNB3.out).cell 25 ((HGK.out 3 (by decide)).trans rfl)
            have z26 := ((HB10.out.upd uN.out (by simp)).upd huA HNB3.out).cell 26 ((HGK.out 4 (by decide)).trans rfl)
            have z27 := ((HB10.out.upd uN.out (by simp)).upd huA HNB3.out).cell 27 ((HGK.out 5 (by decide)).trans rfl)
            have z28 := ((HB10.out.upd uN.out (by simp)).upd huA HNB3.out).cell 28 ((HGK.out 6 (by decide)).trans rfl)
            have z29 := ((HB10.out.upd uN.out (by simp)).upd huA HNB3.out).cell 29 ((HGK.out 7 (by decide)).trans rfl)
            have z30 := ((HB10.out.upd uN.out (by simp)).upd huA HNB3.out).cell 30 ((HGK.out 8 (by decide)).trans rfl)
            clear hE' hu' hat huA b7 b4 k7 k4 HB10 HEB uN HNB2
            go_wp2_with (at_builtin; refine wpList_append_eq rfl _ _ _ _ rfl _ _ _ rfl rfl hr ?_)
            go_roundw
            case rel => exact ⟨i + 1, 1, [⟨1, ea, ew, eo, ee⟩], t2, sh2, q', by simp, rfl, by omega, by omega, by simp, .inl (by omega), HEA.out, HNA.out, HTA.out, HA2.out⟩
            case measure => simp [intOf]; omega
          · have b1 : (ek == 1) = false := beq_eq_false_iff_ne.2 h1
            obtain ⟨v', Wn, hr, hE', hu', hat⟩ := app_ev (W := W10) HEV.out ⟨ek, ea, ew, eo, ee⟩ (by omega) hsW
            have huA : Upd (Value.slice pq bl.length cq).ownBlock.toList W10 Wn := ((Upd.refl _ _).alloc _).trans hu'
            have hTA := HTN.out.upd huA (fun g hg => HEN10.out g (by simpa using hg)) (fun g hg => (HEV.out.lt (by simpa using hg)).1)
            have HNA := Lib.hid (show ∀ g, v'.ownBlock = some g → ¬ inTh X pb tb q' g from fun g hg hi => by
              rcases hat with e | e
              · rw [e] at hg; exact HEN10.out g hg hi
              · rw [e] at hg; cases hg; have := HTN.out.lt hi; omega)
            have hnB : nextB bl (⟨ek, ea, ew, eo, ee⟩, true) = bl ++ [⟨ek, ea, ew, eo, ee⟩] := nextB_app h1
            have hnN : nextN n (⟨ek, ea, ew, eo, ee⟩, true) = n + 1 := nextN_app h1
            have hA3 := HA2.out
            have hkc := HKC.out rfl
            rw [hnB, hnN] at hA3 hkc
            obtain ⟨nb, hnb⟩ : ∃ nb, bl ++ [(⟨ek, ea, ew, eo, ee⟩ : TE)] = nb := ⟨_, rfl⟩
            have hnl : nb.length = bl.length + 1 := by rw [← hnb]; simp
            rw [hnb] at hA3 hkc hE'
            obtain ⟨pn, cn, hpn⟩ := hE'.form
            rw [hnl] at hpn
            subst hpn
            have HEA := Lib.hid hE'
            have HTA := Lib.hid hTA
            have HA3 := Lib.hid hA3
            dsimp only at hr
            have HNE := Lib.hid (show W9.heap.size ∉ (Value.slice pq bl.length cq).ownBlock.toList from fun hg => by have := HLT9.out _ (by simpa using hg); omega)
            have yk := ((HEB.out.upd uN.out (by simp)).upd huA HNE.out).cell 1 rfl
            dsimp only at yk
            have z21 := ((HB10.out.upd uN.out (by simp)).upd huA HNB2.out).cell 21 HG21.out
            have z22 := ((HB10.out.upd uN.out (by simp)).upd huA HNB2.out).cell 22 ((HGK.out 0 (by decide)).trans rfl)
            have z23 := ((HB10.out.upd uN.out (by simp)).upd huA HNB2.out).cell 23 ((HGK.out 1 (by decide)).trans rfl)
            have z24 := ((HB10.out.upd uN.out (by simp)).upd huA HNB2.out).cell 24 ((HGK.out 2 (by decide)).trans rfl)
            have z25 := ((HB10.out.upd uN.out (by simp)).upd huA HNB2.out).cell 25 ((HGK.out 3 (by decide)).trans rfl)
            have z26 := ((HB10.out.upd uN.out (by simp)).upd huA HNB2.out).cell 26 ((HGK.out 4 (by decide)).trans rfl)
            have z27 := ((HB10.out.upd uN.out (by simp)).upd huA HNB2.out).cell 27 ((HGK.out 5 (by decide)).trans rfl)
            have z28 := ((HB10.out.upd uN.out (by simp)).upd huA HNB2.out).cell 28 ((HGK.out 6 (by decide)).trans rfl)
            have z29 := ((HB10.out.upd uN.out (by simp)).upd huA HNB2.out).cell 29 ((HGK.out 7 (by decide)).trans rfl)
            have z30 := ((HB10.out.upd uN.out (by simp)).upd huA HNB2.out).cell 30 ((HGK.out 8 (by decide)).trans rfl)
            clear HB10 HEB uN HNB2
            by_cases h6 : ek = 6
            · subst h6
              have hcp := hkc rfl
              have HCP := Lib.hid (counted_code Wn w.heap.size (.slice pn (bl.length + 1) cn) nb (n + 1) t.fuel A (.slice p1 A.reads.length c1) p2 c2 hE' (by omega) HFU.out HWL.out)
              have ha : (t.att.getD zeroS) = A := HAE.out
              rw [ha] at hcp
              rw [hcp] at HCP
              simp only [stateV] at HCP
              clear hE' hu' hat huA hTA hnB hnN hA3 hkc hnb hcp ha b7 b4 k7 k4 b1 h1
              go_wp2_with (at_builtin; refine wpList_append_eq rfl _ _ _ _ rfl _ _ _ rfl rfl hr ?_)
              refine HCP.out.mono ?_
              rintro e W12 ⟨rfl, u12⟩
              have HEB2 := Lib.hid (HEA.out.upd u12 (by simp))
              have HTB := Lib.hid (HTA.out.upd0 u12)
              clear hr HCP
              go_wp2_with fail
              go_roundw
              case rel => exact ⟨i + 1, n + 1, nb, t2, sh2, q', by simp, rfl, by omega, by omega, by omega, .inl (by omega), HEB2.out, HNA.out, HTB.out, HA3.out⟩
              case measure => simp [intOf]; omega
            · have b6 : (ek == 6) = false := beq_eq_false_iff_ne.2 h6
              clear hE' hu' hat huA hTA hnB hnN hA3 hkc hnb b7 b4 k7 k4 h1 h6
              go_wp2_with (at_builtin; refine wpList_append_eq rfl _ _ _ _ rfl _ _ _ rfl rfl hr ?_)
              go_roundw
              case rel => exact ⟨i + 1, n + 1, nb, t2, sh2, q', by simp, rfl, by omega, by omega, by omega, .inl (by omega), HEA.out, HNA.out, HTA.out, HA3.out⟩
              case measure => simp [intOf]; omega
      | true =>
        rw [hins] at x11
        have HVC := Lib.hid HVC0.out
        rw [HVV.out hins] at HVC
        clear hins HVC0 HVV
        go_wp2_with ((with_reducible refine wpList_load_mid_w (op := ⟨some 124, .load 103 (.tmp 13), _, _, _, _⟩) ?_ 103 _ rfl W6.heap.size 0 ?_ vs _ HRNG.out Try.underlying103 (by rfl) (by rw [hvl]; kernel_rfl) ?_); (· rfl); (· rfl))
        clear hW10
        refine HVC.out.mono ?_
        rintro e W11 ⟨rfl, u11⟩
        have uN := Lib.hid u11
        clear HVC u11 e0 e1 e2 e3 e4 e5 x11
        go_upto_region 20 with (fail)
        have HTN := Lib.hid (HT10.out.upd0 uN.out)
        have hEV := HE10.out.upd uN.out (by simp)
        obtain ⟨pq, cq, hq⟩ := hEV.form
        subst hq
        have HEV := Lib.hid hEV
        clear hEV
        cases tl with
        | false =>
          clear HB10 HEB HRNG HE10 HT10 uN
          go_wp2_with fail
          go_roundw
          case rel => exact ⟨i + 1, n + 1, bl, t2, sh2, q', by simp, rfl, by omega, by omega, by omega, .inl (by omega), HEV.out, HEN10.out, HTN.out, HA2.out⟩
          case measure => simp [intOf]; omega
        | true =>
          have y0 := (HEB.out.upd uN.out (by simp)).cell 0 rfl
          have y1 := (HEB.out.upd uN.out (by simp)).cell 1 rfl
          have y2 := (HEB.out.upd uN.out (by simp)).cell 2 rfl
          have y3 := (HEB.out.upd uN.out (by simp)).cell 3 rfl
          have y4 := (HEB.out.upd uN.out (by simp)).cell 4 rfl
          have y5 := (HEB.out.upd uN.out (by simp)).cell 5 rfl
          dsimp only at y1 y2 y3 y4 y5
          have HNB2 := Lib.hid (own_ne_blk HEV.out.own (HB10.out.upd uN.out (by simp)) (by decide))
          clear HRNG HE10 HT10
          have hsW := HTN.out.u.size
          by_cases h1 : ek = 1
          · subst h1
            obtain ⟨v', Wn, hr, hE', hu', hat⟩ := app_ev (W := W11) (base := w.heap.size) (v := .slice none 0 0) EvL.nil ⟨1, ea, ew, eo, ee⟩ (by simp) hsW
            have huA : Upd (Value.slice none 0 0).ownBlock.toList W11 Wn := ((Upd.refl _ _).alloc _).trans hu'
            have HEA := Lib.hid hE'
            have HTA := Lib.hid (HTN.out.upd huA (by simp [Value.ownBlock]) (by simp [Value.ownBlock]))
            have HNA := Lib.hid (show ∀ g, v'.ownBlock = some g → ¬ inTh X pb tb q' g from fun g hg hi => by
              rcases hat with e | e
              · rw [e] at hg; simp [Value.ownBlock] at hg
              · rw [e] at hg; cases hg; have := HTN.out.lt hi; omega)
            dsimp only at hr
            obtain ⟨pn, cn, hpn⟩ := HEA.out.form
            subst hpn
            have HNE := Lib.hid (show W9.heap.size ∉ (Value.slice none 0 0).ownBlock.toList from by simp [Value.ownBlock])
            have HNB3 := Lib.hid (show W6.heap.size ∉ (Value.slice none 0 0).ownBlock.toList from by simp [Value.ownBlock])
            have yk := ((HEB.out.upd uN.out (by simp)).upd huA HNE.out).cell 1 rfl
            dsimp only at yk
            have z21 := ((HB10.out.upd uN.out (by simp)).upd huA HNB3.out).cell 21 HG21.out
            have z22 := ((HB10.out.upd uN.out (by simp)).upd huA HNB3.out).cell 22 ((HGK.out 0 (by decide)).trans rfl)
            have z23 := ((HB10.out.upd uN.out (by simp)).upd huA HNB3.out).cell 23 ((HGK.out 1 (by decide)).trans rfl)
            have z24 := ((HB10.out.upd uN.out (by simp)).upd huA HNB3.out).cell 24 ((HGK.out 2 (by decide)).trans rfl)
            have z25 := ((HB10.out.upd uN.out (by simp)).upd huA HNB3.out).cell 25 ((HGK.out 3 (by decide)).trans rfl)
            have z26 := ((HB10.out.upd uN.out (by simp)).upd huA HNB3.out).cell 26 ((HGK.out 4 (by decide)).trans rfl)
            have z27 := ((HB10.out.upd uN.out (by simp)).upd huA HNB3.out).cell 27 ((HGK.out 5 (by decide)).trans rfl)
            have z28 := ((HB10.out.upd uN.out (by simp)).upd huA HNB3.out).cell 28 ((HGK.out 6 (by decide)).trans rfl)
            have z29 := ((HB10.out.upd uN.out (by simp)).upd huA HNB3.out).cell 29 ((HGK.out 7 (by decide)).trans rfl)
            have z30 := ((HB10.out.upd uN.out (by simp)).upd huA HNB3.out).cell 30 ((HGK.out 8 (by decide)).trans rfl)
            clear hE' hu' hat huA b7 b4 k7 k4 HB10 HEB uN HNB2
            go_wp2_with (at_builtin; refine wpList_append_eq rfl _ _ _ _ rfl _ _ _ rfl rfl hr ?_)
            go_roundw
            case rel => exact ⟨i + 1, 1, [⟨1, ea, ew, eo, ee⟩], t2, sh2, q', by simp, rfl, by omega, by omega, by simp, .inl (by omega), HEA.out, HNA.out, HTA.out, HA2.out⟩
            case measure => simp [intOf]; omega
          · have b1 : (ek == 1) = false := beq_eq_false_iff_ne.2 h1
            obtain ⟨v', Wn, hr, hE', hu', hat⟩ := app_ev (W := W11) HEV.out ⟨ek, ea, ew, eo, ee⟩ (by omega) hsW
            have huA : Upd (Value.slice pq bl.length cq).ownBlock.toList W11 Wn := ((Upd.refl _ _).alloc _).trans hu'
            have hTA := HTN.out.upd huA (fun g hg => HEN10.out g (by simpa using hg)) (fun g hg => (HEV.out.lt (by simpa using hg)).1)
            have HNA := Lib.hid (show ∀ g, v'.ownBlock = some g → ¬ inTh X pb tb q' g from fun g hg hi => by
              rcases hat with e | e
              · rw [e] at hg; exact HEN10.out g hg hi
              · rw [e] at hg; cases hg; have := HTN.out.lt hi; omega)
            have hnB : nextB bl (⟨ek, ea, ew, eo, ee⟩, true) = bl ++ [⟨ek, ea, ew, eo, ee⟩] := nextB_app h1
            have hnN : nextN n (⟨ek, ea, ew, eo, ee⟩, true) = n + 1 := nextN_app h1
            have hA3 := HA2.out
            have hkc := HKC.out rfl
            rw [hnB, hnN] at hA3 hkc
            obtain ⟨nb, hnb⟩ : ∃ nb, bl ++ [(⟨ek, ea, ew, eo, ee⟩ : TE)] = nb := ⟨_, rfl⟩
            have hnl : nb.length = bl.length + 1 := by rw [← hnb]; simp
            rw [hnb] at hA3 hkc hE'
            obtain ⟨pn, cn, hpn⟩ := hE'.form
            rw [hnl] at hpn
            subst hpn
            have HEA := Lib.hid hE'
            have HTA := Lib.hid hTA
            have HA3 := Lib.hid hA3
            dsimp only at hr
            have HNE := Lib.hid (show W9.heap.size ∉ (Value.slice pq bl.length cq).ownBlock.toList from fun hg => by have := HLT9.out _ (by simpa using hg); omega)
            have yk := ((HEB.out.upd uN.out (by simp)).upd huA HNE.out).cell 1 rfl
            dsimp only at yk
            have z21 := ((HB10.out.upd uN.out (by simp)).upd huA HNB2.out).cell 21 HG21.out
            have z22 := ((HB10.out.upd uN.out (by simp)).upd huA HNB2.out).cell 22 ((HGK.out 0 (by decide)).trans rfl)
            have z23 := ((HB10.out.upd uN.out (by simp)).upd huA HNB2.out).cell 23 ((HGK.out 1 (by decide)).trans rfl)
            have z24 := ((HB10.out.upd uN.out (by simp)).upd huA HNB2.out).cell 24 ((HGK.out 2 (by decide)).trans rfl)
            have z25 := ((HB10.out.upd uN.out (by simp)).upd huA HNB2.out).cell 25 ((HGK.out 3 (by decide)).trans rfl)
            have z26 := ((HB10.out.upd uN.out (by simp)).upd huA HNB2.out).cell 26 ((HGK.out 4 (by decide)).trans rfl)
            have z27 := ((HB10.out.upd uN.out (by simp)).upd huA HNB2.out).cell 27 ((HGK.out 5 (by decide)).trans rfl)
            have z28 := ((HB10.out.upd uN.out (by simp)).upd huA HNB2.out).cell 28 ((HGK.out 6 (by decide)).trans rfl)
            have z29 := ((HB10.out.upd uN.out (by simp)).upd huA HNB2.out).cell 29 ((HGK.out 7 (by decide)).trans rfl)
            have z30 := ((HB10.out.upd uN.out (by simp)).upd huA HNB2.out).cell 30 ((HGK.out 8 (by decide)).trans rfl)
            clear HB10 HEB uN HNB2
            by_cases h6 : ek = 6
            · subst h6
              have hcp := hkc rfl
              have HCP := Lib.hid (counted_code Wn w.heap.size (.slice pn (bl.length + 1) cn) nb (n + 1) t.fuel A (.slice p1 A.reads.length c1) p2 c2 hE' (by omega) HFU.out HWL.out)
              have ha : (t.att.getD zeroS) = A := HAE.out
              rw [ha] at hcp
              rw [hcp] at HCP
              simp only [stateV] at HCP
              clear hE' hu' hat huA hTA hnB hnN hA3 hkc hnb hcp ha b7 b4 k7 k4 b1 h1
              go_wp2_with (at_builtin; refine wpList_append_eq rfl _ _ _ _ rfl _ _ _ rfl rfl hr ?_)
              refine HCP.out.mono ?_
              rintro e W12 ⟨rfl, u12⟩
              have HEB2 := Lib.hid (HEA.out.upd u12 (by simp))
              have HTB := Lib.hid (HTA.out.upd0 u12)
              clear hr HCP
              go_wp2_with fail
              go_roundw
              case rel => exact ⟨i + 1, n + 1, nb, t2, sh2, q', by simp, rfl, by omega, by omega, by omega, .inl (by omega), HEB2.out, HNA.out, HTB.out, HA3.out⟩
              case measure => simp [intOf]; omega
            · have b6 : (ek == 6) = false := beq_eq_false_iff_ne.2 h6
              clear hE' hu' hat huA hTA hnB hnN hA3 hkc hnb b7 b4 k7 k4 h1 h6
              go_wp2_with (at_builtin; refine wpList_append_eq rfl _ _ _ _ rfl _ _ _ rfl rfl hr ?_)
              go_roundw
              case rel => exact ⟨i + 1, n + 1, nb, t2, sh2, q', by simp, rfl, by omega, by omega, by omega, .inl (by omega), HEA.out, HNA.out, HTA.out, HA3.out⟩
              case measure => simp [intOf]; omega
    · have his2 : decide ((i : Int) < steps) = false := decide_eq_false hlt
      have HU := Lib.hid hT.u
      clear hT HT hE hEn hA
      go_wp2_with (go_at_call 34; refine (works11_code _).mono ?_; rintro e W6 ⟨rfl, u6⟩)
      exact ⟨rfl, HU.out.trans u6⟩
theorem threadAlone_walk (hZ : SlI w .u64 p0 zs) (HZ : ∀ v ∈ zs, 0 ≤ v ∧ v < 18446744073709551616) (hzm : zs.length ≤ maxLen) (hP : Progs w pp l) (hlm : l.length ≤ maxLen) (hc : 0 ≤ c ∧ c < 18446744073709551616) :
    Calls Try.prog 9 #[.agg #[.slice p0 zs.length c0, .int .u64 c, .slice pp l.length cp, pk], .int .i64 steps] w fun e w' => e = .returned (.bool true) ∧ Upd [] w w' := by
  by_cases hz : 1 ≤ zs.length ∧ zs.length ≤ 65536
  · by_cases h0 : l = [] ∨ 20000 < steps
    · exact alone_none w p0 zs c0 c pp l cp pk steps hZ HZ hz.1 hz.2 hP hlm hc h0
    · have h1 : l ≠ [] := fun e => h0 (.inl e)
      have h2 : steps ≤ 20000 := by
        have : ¬ 20000 < steps := fun e => h0 (.inr e)
        omega
      obtain ⟨d, hd⟩ : ∃ d, l[0]? = some d := ⟨_, List.getElem?_eq_getElem (List.length_pos_iff.2 h1)⟩
      cases hf : formedP d.p with
      | false => exact alone_bad w p0 zs c0 c pp l cp pk steps hZ HZ hz.1 hz.2 hP hlm hc h1 h2 d hd hf
      | true => exact alone_good w p0 zs c0 c pp l cp pk steps hZ HZ hz.1 hz.2 hP hlm hc h1 h2 d hd hf
  · exact alone_no_row w p0 c0 c pp cp pk steps zs.length (by omega) hzm l.length hlm hc
end
end Go.Proofs.Ythfeljongackcaa
set_option linter.unusedSimpArgs false
set_option linter.unusedVariables false
set_option maxRecDepth 100000
namespace Go.Proofs.Ythfeljongackcaa
open Go.ChangeShapes Go.WideShapes Go.ChangeAt Go.RowKit

theorem law_own : ownKnob Try.prog.godebug = none := by kernel_rfl
theorem law_laidOut : laidOutB Try.prog = true := by kernel_rfl

theorem trodAll_below {H : Type} {enc : TypeId × Value → H} {P : Program} (hl : laidOutB P = true) {W W' : World} (hB : Below W.heap.size W W') :
    ∀ (ts : List TypeId) (vs : List Value) (ds : List (DataW H)) (ps : List MemPlace), (∀ t ∈ ts, P.readableRec t = true ∧ t < P.types.size) →
      DataW.TrodAll enc P W 0 (fun _ => true) true ts vs ds ps → (∀ x ∈ ps, x.block < W.heap.size) →
      DataW.TrodAll enc P W' 0 (fun b => decide (b < W.heap.size)) true ts vs ds ps := by
  intro ts
  induction ts with
  | nil =>
    intro vs ds ps _ h _
    obtain ⟨rfl, rfl, rfl⟩ := trodAll_nil h
    exact trodAll_mk0
  | cons t ts ih =>
    intro vs ds ps ht h hlt
    obtain ⟨v, vs', d, ds', p, q, rfl, rfl, rfl, hd, hr⟩ := trodAll_cons h
    exact trodAll_cons_mk (Below.trod hl (ht t (by simp)).1 (ht t (by simp)).2 hd hB (fun x hx => hlt x (by simp [hx]))) (ih vs' ds' q (fun t' h' => ht t' (by simp [h'])) hr (fun x hx => hlt x (by simp [hx])))

theorem law_post {H : Type} {enc : TypeId × Value → H} {f : Func} {s : ChangeSpec} {W W' : World} {args : Array Value} {ds gs : List (DataW H)} {before : List MemPlace}
    (hres : f.resultTypes = #[4]) (hpar : ∀ t ∈ f.params.toList, Try.prog.readableRec t = true ∧ t < Try.prog.types.size) (hsv : s.vars = [])
    (hfn : s.fn H (ds ++ gs) = { results := [.lit (.bool true)], args := ds })
    (hW : DataW.Whole enc Try.prog f.params.toList s.vars false W args.toList ds gs before) (hB : Below W.heap.size W W') :
    s.post enc Try.prog f false true false false W args (.bool true) W' := by
  have hW0 := hW
  obtain ⟨p, q, hA, hV, hpq, hfz, hnd⟩ := hW
  have hlt : ∀ x ∈ p, x.block < W.heap.size := fun x hx => by simpa using hW0.lt x (by rw [hpq]; simp [hx])
  refine ⟨ds, gs, before, [], p, [], hW0, ?_, ?_, ?_, hB.frame _, fun h => by cases h⟩
  · rw [hres, hfn]
    exact trodAll_mk1 (shut_bool Try.underlying4 true)
  · rw [hfn]
    exact trodAll_below law_laidOut hB _ _ _ _ hpar hA hlt
  · rw [hsv, hfn]
    rfl

end Go.Proofs.Ythfeljongackcaa
