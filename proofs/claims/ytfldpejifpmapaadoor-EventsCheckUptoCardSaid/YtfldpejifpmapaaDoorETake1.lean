/- take: ends of an attempt. The conditions: the state's and the event's words are words, the number is small. -/
import Derived.Test.YtfldpejifpmapaaDoorETake0
set_option linter.unusedSimpArgs false
set_option linter.unusedVariables false
set_option maxRecDepth 100000
namespace Go.Proofs.YtfldpejifpmapaaDoor
open Go.RowKit
open Go.Maps
-- the head: the event boxed, the thread's place found: W2 the world behind region 1
-- a drawn region is met: from W$A to W$B = W$A.drew
-- region 7: the attempt's place: W$A to W$B; HTV HLN: the slice's form; HX: the attempt; HY: its place in the state
-- the attempt under way of a thread that is inside
-- the tail: region 28: how the thread is now; W$A the world ahead; HOW: the state's how is the old one
theorem modify_set {l : List Try} {y : Nat} {x : Try} (h : l[y]? = some x) (f : Try → Try) : l.modify y f = l.set y (f x) := by
  apply List.ext_getElem?
  intro j
  rw [List.getElem?_modify, List.getElem?_set]
  by_cases e : y = j
  · subst e
    have := (List.getElem?_eq_some_iff.1 h).1
    rw [if_pos rfl, if_pos this, h]
    simp
  · rw [if_neg e]
    simp [e]
set_option maxHeartbeats 4000000 in
theorem take_e (w : World) (B lb n t k q : Nat) (S : LS) (ad wd er : Int) (own : Bool) (C : List Value) (tv : Value) (mv : Nat → Value) (hok : LSOk S q) (hq : q ≤ 1000000000000) (hK : LookK w B lb n C S tv mv (liveT S)) (he : Ev.wide ⟨t, k, ad, wd, own, er⟩) (ht : t < 8) (hk : 1 ≤ k ∧ k ≤ 12) (hT : turnT (S.ths t).how k ≠ 0) (hc : k = 6 ∨ k = 7 ∨ k = 8 ∨ k = 9) (h0 : (S.ths t).how = 1) :
    Calls Tryd.prog 68 #[.pointer (some ⟨lb, 0, none⟩), .int .i64 (q : Int), .agg #[.int .i64 (t : Int), .int .i64 (k : Int), .int .u64 ad, .int .u64 wd, .bool own, .int .i64 er]] w (TakeOk w B lb n S q ⟨t, k, ad, wd, own, er⟩) := by
  have HT := Lib.hid hT
  clear hT
  have HC := Lib.hid hc
  have H0 := Lib.hid h0
  obtain ⟨y, hy⟩ : ∃ y, (S.ths t).try_ = y := ⟨_, rfl⟩
  have hyl := hok.trys t (by omega)
  rw [hy] at hyl
  obtain ⟨x, hx⟩ : ∃ x, S.tries[y]? = some x := ⟨_, List.getElem?_eq_getElem hyl⟩
  have hxc := hok.cnt x (List.mem_of_getElem? hx)
  obtain ⟨g, c, htv⟩ := own_some hK.row (by omega)
  obtain ⟨ln, hln⟩ : ∃ ln, S.tries.length = ln := ⟨_, rfl⟩
  rw [hln] at htv hyl
  have hyl2 : (y : Int) < (ln : Int) := by omega
  have hy0 : 0 ≤ (y : Int) := by omega
  have HY := Lib.hid hy
  have HX := Lib.hid hx
  have HTV := Lib.hid htv
  have HLN := Lib.hid hln.symm
  have hr1 : 0 ≤ x.reads := hxc.1.1
  have hr2 : x.reads ≤ 1000000000000 := by omega
  have hw1 : 0 ≤ x.writes := hxc.2.1
  have hw2 : x.writes ≤ 1000000000000 := by omega
  obtain ⟨xr, hxr⟩ : ∃ r, x.reads = r := ⟨_, rfl⟩
  obtain ⟨xw, hxw⟩ : ∃ r, x.writes = r := ⟨_, rfl⟩
  rw [hxr] at hr1 hr2
  rw [hxw] at hw1 hw2
  have HXR := Lib.hid hxr
  have HXW := Lib.hid hxw
  clear hy hx htv hln hxc hxr hxw
  have e0 : (((S.ths t).how : Int) != 0) = true := by simp; omega
  have b2 : (((S.ths t).how : Int) == 2) = false := by simp; omega
  obtain ⟨hw, hhw⟩ : ∃ h, (S.ths t).how = h := ⟨_, rfl⟩
  rw [hhw] at e0 b2
  have HHW := Lib.hid hhw
  have e1 : ((k : Int) == 1) = false := by simp; omega
  have e4 : ((k : Int) == 4) = false := by simp; omega
  have e2 : ((k : Int) == 2) = false := by simp; omega
  have e3 : ((k : Int) == 3) = false := by simp; omega
  have e5 : ((k : Int) == 5) = false := by simp; omega
  have e69 : ((k : Int) == 6 || (k : Int) == 7 || (k : Int) == 8 || (k : Int) == 9) = true := by simp; omega
  obtain ⟨z6, hz6⟩ : ∃ b, ((k : Int) == 6) = b := ⟨_, rfl⟩
  obtain ⟨z7, hz7⟩ : ∃ b, ((k : Int) == 7) = b := ⟨_, rfl⟩
  obtain ⟨z8, hz8⟩ : ∃ b, ((k : Int) == 8) = b := ⟨_, rfl⟩
  obtain ⟨z9, hz9⟩ : ∃ b, ((k : Int) == 9) = b := ⟨_, rfl⟩
  rw [hz6, hz7, hz8, hz9] at e69
  cases z6 <;> cases z7 <;> cases z8 <;> cases z9
  all_goals first | (exfalso; revert e69; decide) | (exfalso; simp at hz6 hz7 hz8 hz9; omega) | skip
  all_goals
    clear e69
    clear hc h0 hhw
    have HK0 := Lib.hid hK
    have HSZ := Lib.hid (show B ≤ w.heap.size by have := hK.blk.lt; have := hK.low; omega)
    have HOK := Lib.hid hok
    clear hK hok
    obtain ⟨W1, hW1⟩ : ∃ W, w.alloc (.cells #[.int .i64 (t : Int), .int .i64 (k : Int), .int .u64 ad, .int .u64 wd, .bool own, .int .i64 er] 27) = W := ⟨_, rfl⟩
    have u1 : Upd [] w W1 := by rw [← hW1]; exact (Upd.refl [] _).alloc _
    have B1 : Blk W1 w.heap.size [.int .i64 (t : Int), .int .i64 (k : Int), .int .u64 ad, .int .u64 wd, .bool own, .int .i64 er] 27 := by rw [← hW1]; exact Blk.new w _ _
    obtain ⟨eb, heb⟩ : ∃ b, w.heap.size = b := ⟨_, rfl⟩
    rw [heb] at B1
    have ht8 : (t : Int) < 8 := by omega
    have ht0 : 0 ≤ (t : Int) := by omega
    have m0 := B1.cell 0 rfl
    have HB1 := Lib.hid B1
    have HW1 := Lib.hid (show Below B w W1 from u1.below HSZ.out (by simp))
    have HK1 := Lib.hid (HK0.out.upd0 u1)
    clear B1 u1 HK0
    refine calls_all fun KK hKK => ?_
    go_enter Tryd.func68, Tryd.ntmps68
    go_wp2_with fail
    have ud : Upd [] W1 W1.drew := (Upd.refl [] _).drew
    have HK2 := Lib.hid (HK1.out.upd0 ud)
    have HW2 := Lib.hid (bl_upd HW1.out ud (by simp) HSZ.out)
    have HB2 := Lib.hid (HB1.out.upd ud (by simp))
    have m0' := HB2.out.cell 0 rfl
    obtain ⟨W2, hW2⟩ : ∃ W, W1.drew = W := ⟨_, rfl⟩
    refine wp_region_br (fun w' => w' = W1.drew) [0, 1, 2, 3, 4, 5, 6] (by kernel_rfl) (by kernel_rfl) rfl ?_
    rw [hW2] at HK2 HW2 HB2 m0' ⊢
    clear ud hW2 hW1 HB1 HW1 HK1 m0
    repeat
      first
        | (refine wpB_skip rfl (by kernel_rfl) (by rfl) ?_)
        | ((refine wpB_take (v := ?_) rfl rfl (by kernel_rfl) (by rfl) ?_ ?_); rotate_left 1; (· ((intro w hSw; (try dsimp only at hSw); go_simp); try with_reducible rfl)))
      try simp only [Act.put, List.setIfInBounds_toArray, List.set_cons_zero, List.set_cons_succ]
    refine wpB_end (by kernel_rfl) (NoPanic.normal ?_)
    clear m0'
    have m0 := HB2.out.cell 0 rfl
    have m1 := HB2.out.cell 1 rfl
    have m2 := HB2.out.cell 2 rfl
    have m3 := HB2.out.cell 3 rfl
    have m4 := HB2.out.cell 4 rfl
    have m5 := HB2.out.cell 5 rfl
    have l0 := lk HK2.out.blk (HK2.out.cs.how t ht) (show 52 + t * 4 = 52 + 4 * t by omega)
    have l1 := lk HK2.out.blk (HK2.out.cs.snap t ht) (show 52 + t * 4 + 1 = 52 + 4 * t + 1 by omega)
    have l2 := lk HK2.out.blk (HK2.out.cs.wr t ht) (show 52 + t * 4 + 2 = 52 + 4 * t + 2 by omega)
    have l3 := lk HK2.out.blk (HK2.out.cs.try_ t ht) (show 52 + t * 4 + 3 = 52 + 4 * t + 3 by omega)
    have l4 := lk HK2.out.blk HK2.out.cs.num (rfl : 84 = 84)
    have l5 := lk HK2.out.blk HK2.out.cs.hold (rfl : 85 = 85)
    have l6 := lk HK2.out.blk HK2.out.cs.tries (rfl : 86 = 86)
    have f0 := HK2.out.blk.free (52 + t * 4)
    have f1 := HK2.out.blk.free (52 + t * 4 + 1)
    have f2 := HK2.out.blk.free (52 + t * 4 + 2)
    have f3 := HK2.out.blk.free (52 + t * 4 + 3)
    have f4 := HK2.out.blk.free 84
    have f5 := HK2.out.blk.free 85
    have f6 := HK2.out.blk.free 86
    rw [HHW.out] at l0
    go_wp2_with fail
    clear m0 m1 m2 m3 m4 m5
    clear l0 l1 l2 l3 l4 l5 l6 f0 f1 f2 f3 f4 f5 f6
    have ud : Upd [] W2 W2.drew := (Upd.refl [] _).drew
    have HK3 := Lib.hid (HK2.out.upd0 ud)
    have HW3 := Lib.hid (bl_upd HW2.out ud (by simp) HSZ.out)
    have HB3 := Lib.hid (HB2.out.upd ud (by simp))
    obtain ⟨W3, hW3⟩ : ∃ W, W2.drew = W := ⟨_, rfl⟩
    refine wp_region_br (fun w' => w' = W2.drew) [0, 1, 2, 3, 4, 5, 6, 7, 8, 9] (by kernel_rfl) (by kernel_rfl) rfl ?_
    rw [hW3] at HK3 HW3 HB3 ⊢
    clear ud hW3 HK2 HW2 HB2
    have l3 := lk HK3.out.blk (HK3.out.cs.try_ t ht) (show 52 + t * 4 + 3 = 52 + 4 * t + 3 by omega)
    rw [show _ = y from HY.out] at l3
    have l6 := lk HK3.out.blk HK3.out.cs.tries (rfl : 86 = 86)
    rw [HTV.out] at l6
    repeat
      first
        | (refine wpB_skip rfl (by kernel_rfl) (by rfl) ?_)
        | ((refine wpB_take (v := ?_) rfl rfl (by kernel_rfl) (by rfl) ?_ ?_); rotate_left 1; (· ((intro w hSw; (try dsimp only at hSw); go_simp); try with_reducible rfl)))
      try simp only [Act.put, List.setIfInBounds_toArray, List.set_cons_zero, List.set_cons_succ]
    refine wpB_end (by kernel_rfl) (NoPanic.normal ?_)
    clear l3 l6
    have m0 := HB3.out.cell 0 rfl
    have m1 := HB3.out.cell 1 rfl
    have m2 := HB3.out.cell 2 rfl
    have m3 := HB3.out.cell 3 rfl
    have m4 := HB3.out.cell 4 rfl
    have m5 := HB3.out.cell 5 rfl
    have l0 := lk HK3.out.blk (HK3.out.cs.how t ht) (show 52 + t * 4 = 52 + 4 * t by omega)
    rw [HHW.out] at l0
    have l4 := lk HK3.out.blk HK3.out.cs.num (rfl : 84 = 84)
    have l5 := lk HK3.out.blk HK3.out.cs.hold (rfl : 85 = 85)
    have f4 := HK3.out.blk.free 84
    have f5 := HK3.out.blk.free 85
    have c2 := HK3.out.trycell HTV.out HLN.out HX.out (by decide : 2 < 7) rfl
    have c3 := HK3.out.trycell HTV.out HLN.out HX.out (by decide : 3 < 7) rfl
    have c4 := HK3.out.trycell HTV.out HLN.out HX.out (by decide : 4 < 7) rfl
    have c5 := HK3.out.trycell HTV.out HLN.out HX.out (by decide : 5 < 7) rfl
    have c6 := HK3.out.trycell HTV.out HLN.out HX.out (by decide : 6 < 7) rfl
    obtain ⟨c2, d2⟩ := c2
    obtain ⟨c3, d3⟩ := c3
    obtain ⟨c4, d4⟩ := c4
    obtain ⟨c5, d5⟩ := c5
    obtain ⟨c6, d6⟩ := c6
    rw [HXR.out] at c5
    rw [HXW.out] at c6
    have hne := (HK3.out.tryset HTV.out HLN.out HX.out (by decide : 2 < 7) (y := { x with last := q }) (v := .int .i64 (q : Int)) rfl).2
    have hgl := hne.1
    have hlg := Ne.symm hne.1
    have HBG := Lib.hid hne.2
    have HEG := Lib.hid (show eb ≠ g from fun e => own_ne_blk HK3.out.row HB3.out (by decide) (by rw [HTV.out, e]; simp [Value.ownBlock]))
    have HEL := Lib.hid (show eb ≠ lb from fun e => by have h := HB3.out; rw [e] at h; exact absurd (Blk.inj h HK3.out.blk).2 (by decide))
    have heg := HEG.out
    have hge := Ne.symm HEG.out
    have hel := HEL.out
    have hle := Ne.symm HEL.out
    clear hne
    go_wp2_with fail
    have h2 := HK3.out.tryset HTV.out HLN.out HX.out (by decide : 2 < 7) (y := { x with last := q }) (v := .int .i64 (q : Int)) rfl
    have h3 := h2.1.tryset (j := y) (k := 4) (x := { x with last := q }) (y := { x with last := q, how := k }) (v := .int .i64 (k : Int)) HTV.out (by dsimp only; rw [List.length_set]; exact HLN.out) (by dsimp only; rw [List.getElem?_set_self (by have := (List.getElem?_eq_some_iff.1 HX.out).1; omega)]) (by decide) rfl
    have HK4 := Lib.hid h3.1
    clear h2 h3
    have u4 : Upd [g] W3 ((W3.setCell ⟨g, y * 7 + 2, none⟩ (.int .i64 (q : Int))).setCell ⟨g, y * 7 + 4, none⟩ (.int .i64 (k : Int))) := by repeat (first | exact Upd.refl _ _ | refine Upd.setCell ?_ (.inl (by simp)) _)
    have HW4 := Lib.hid (bl_upd HW3.out u4 (by simp; exact HBG.out) HSZ.out)
    have HB4 := Lib.hid (HB3.out.upd u4 (by simp; exact heg))
    clear u4
    generalize (W3.setCell ⟨g, y * 7 + 2, none⟩ (.int .i64 (q : Int))).setCell ⟨g, y * 7 + 4, none⟩ (.int .i64 (k : Int)) = W4 at HK4 HW4 HB4 ⊢
    clear m0 m1 m2 m3 m4 m5
    clear c2 c3 c4 c5 c6 d2 d3 d4 d5 d6
    clear l0 l4 l5 f4 f5
    go_wp2_with fail
    have ud : Upd [] W4 W4.drew := (Upd.refl [] _).drew
    have HK5 := Lib.hid (HK4.out.upd0 ud)
    have HW5 := Lib.hid (bl_upd HW4.out ud (by simp) HSZ.out)
    have HB5 := Lib.hid (HB4.out.upd ud (by simp))
    obtain ⟨W5, hW5⟩ : ∃ W, W4.drew = W := ⟨_, rfl⟩
    refine wp_region_brT (fun w' => w' = W4.drew) [0, 1, 2, 3, 4, 5, 6, 7, 8, 9, 10, 11, 12, 13, 14, 15, 16] 16 (by kernel_rfl) (by kernel_rfl) (by kernel_rfl) ?_
    rw [hW5] at HK5 HW5 HB5 ⊢
    clear ud hW5 HK4 HW4 HB4
    have m1 := HB5.out.cell 1 rfl
    have l0 := lk HK5.out.blk (HK5.out.cs.how t ht) (show 52 + t * 4 = 52 + 4 * t by omega)
    have f0 := HK5.out.blk.free (52 + t * 4)
    have lt := lk HK5.out.blk (HK5.out.cs.turns (S.ths t).how k (by have := HOK.out.hows t; omega) (by omega)) (show (S.ths t).how * 13 + k = 13 * (S.ths t).how + k by omega)
    rw [show _ = (S.ths t).how from rfl] at l0
    have hh4 : ((S.ths t).how : Int) < 4 := by have := HOK.out.hows t; omega
    have hh0 : 0 ≤ ((S.ths t).how : Int) := by omega
    have hk13 : (k : Int) < 13 := by omega
    have hk0 : 0 ≤ (k : Int) := by omega
    have hTle : (turnT (S.ths t).how k : Int) ≤ 4 := by have := turnT_le (S.ths t).how (by have := HOK.out.hows t; omega) k (by omega); unfold turnT; simp only [Int.toNat_natCast]; omega
    have hTge : 1 ≤ (turnT (S.ths t).how k : Int) := by have := HT.out; omega
    obtain ⟨hw, hhw⟩ : ∃ h, (S.ths t).how = h := ⟨_, rfl⟩
    obtain ⟨T, hTT⟩ : ∃ T, turnT hw (k : Int) = T := ⟨_, rfl⟩
    rw [hhw] at l0 lt hh4 hh0 hTle hTge
    rw [hTT] at lt hTle hTge
    have HTT := Lib.hid (show turnT (S.ths t).how k = T by rw [hhw, hTT])
    clear hhw hTT
    repeat ((refine wpC_take (v := ?_) rfl (by decide) rfl (by kernel_rfl) (by rfl) rfl ?_ ?_); rotate_left 1; (· ((intro w hSw; (try dsimp only at hSw); go_simp); try with_reducible rfl)); try simp only [Act.put, List.setIfInBounds_toArray, List.set_cons_zero, List.set_cons_succ])
    refine wpC_eff rfl (by kernel_rfl) (by rfl) (fun K2 hK2 => ?_)
    go_simp
    have hTn : IntKind.i64.wrap ((T : Int) - 1) = ((T - 1 : Nat) : Int) := by rw [IntKind.wrap_i64]; omega
    rw [hTn]
    refine hK2.out _ _ (.inl (by decide)) ?_
    refine wpC_end (by kernel_rfl) (NoPanic.normal ?_)
    clear hK2 K2
    rw [show 52 + t * 4 = 52 + 4 * t by omega]
    have HFK := Lib.hid (HK5.out.store (52 + 4 * t) (.int .i64 ((T - 1 : Nat) : Int)) (HK5.out.cs.set_how ht (T - 1)) rfl (fun j hj hl => by
      dsimp only
      by_cases e : j = t
      · subst e; rw [updT_same]
      · rw [updT_other _ _ e]))
    have HFW := Lib.hid (bl_upd HW5.out ((Upd.refl [lb] W5).setCell (p := ⟨lb, 52 + 4 * t, none⟩) (.inl (by simp)) (.int .i64 ((T - 1 : Nat) : Int))) (by simp; exact HK5.out.low) HSZ.out)
    rw [← HTT.out] at HFK HFW ⊢
    go_wp2_with fail
    go_end0
    refine hKK _ _ ⟨rfl, ?_, HFW.out⟩
    have hE : { S with ths := updT S.ths t { S.ths t with how := turnT (S.ths t).how k - 1 }, tries := (S.tries.set y { x with last := q }).set y { x with last := q, how := k } } = takeE S q ⟨t, k, ad, wd, own, er⟩ := by
      have hc := HC.out
      have h0 := H0.out
      refine take_eq (t := t) (Int.toNat_natCast _) (fun j hj => updT_other _ _ hj) ?_ ?_ ?_ ?_
      · dsimp only; rw [updT_same]; unfold thNext; dsimp only; rw [if_neg (by omega), if_neg (by omega), if_neg (by omega), if_neg (by omega)]
      · dsimp only; rw [if_neg (by omega)]
      · dsimp only; rw [if_neg (by omega), if_neg (by omega)]
      · dsimp only
        rw [if_pos (.inl (by omega)), if_neg (by omega)]
        have h6 : (thNext (S.ths t) S.tries.length ⟨t, k, ad, wd, own, er⟩).try_ = y := by unfold thNext; dsimp only; rw [if_neg (by omega)]; exact HY.out
        rw [h6, modify_set HX.out]
        rw [List.set_set]; unfold tryNext; dsimp only; rw [if_neg (by omega), if_pos (by omega), if_neg (by omega), if_neg (by omega)]
    exact ⟨_, _, _, ((HFK.out.to hE).mono (by omega)).m (fun j hj hl => (live_take (HOK.out.hows t) hk HT.out hl).elim id (fun c => by have := HC.out; omega))⟩
end Go.Proofs.YtfldpejifpmapaaDoor
