/- take: a beginning. The conditions: the state's and the event's words are words, the number is small. -/
import Derived.Test.YtfldpejifpmapaaDoorETake1
set_option linter.unusedSimpArgs false
set_option linter.unusedVariables false
set_option maxRecDepth 100000
namespace Go.Proofs.YtfldpejifpmapaaDoor
open Go.RowKit
open Go.Maps
-- the head: the event boxed, the thread's place found: W2 the world behind region 1
-- a drawn region is met: from W$A to W$B = W$A.drew
-- region 7: the attempt's place: W$A to W$B; HTV HLN: the slice's form; HX: the attempt; HY: its place in the state
-- the attempt under way of a thread that is inside
-- region 12: the snapshot is stored twice: W$A to W$D; HX2: the attempt there
-- the tail: region 28: how the thread is now; W$A the world ahead; HOW: the state's how is the old one
set_option maxHeartbeats 4000000 in
theorem take_b (w : World) (B lb n t k q : Nat) (S : LS) (ad wd er : Int) (own : Bool) (C : List Value) (tv : Value) (mv : Nat → Value) (hok : LSOk S q) (hq : q ≤ 1000000000000) (hK : LookK w B lb n C S tv mv (liveT S)) (he : Ev.wide ⟨t, k, ad, wd, own, er⟩) (ht : t < 8) (hk : 1 ≤ k ∧ k ≤ 12) (hT : turnT (S.ths t).how k ≠ 0) (hc : k = 1) (h0 : (S.ths t).how = 0) :
    Calls Tryd.prog 68 #[.pointer (some ⟨lb, 0, none⟩), .int .i64 (q : Int), .agg #[.int .i64 (t : Int), .int .i64 (k : Int), .int .u64 ad, .int .u64 wd, .bool own, .int .i64 er]] w (TakeOk w B lb n S q ⟨t, k, ad, wd, own, er⟩) := by
  have HT := Lib.hid hT
  clear hT
  have HC := Lib.hid hc
  have H0 := Lib.hid h0
  obtain ⟨pp, pc, htv⟩ := own_form hK.row
  subst htv
  obtain ⟨y, hy⟩ : ∃ y, S.tries.length = y := ⟨_, rfl⟩
  rw [hy] at hK
  have hl9 : (y : Int) ≤ 1000000000000 := by have := hok.len; omega
  have hlbw := hK.blk.lt
  have HLNS := Lib.hid hy
  clear hc h0 hy
  have HK0 := Lib.hid hK
  have HSZ := Lib.hid (show B ≤ w.heap.size by have := hK.blk.lt; have := hK.low; omega)
  have HOK := Lib.hid hok
  clear hK hok
  obtain ⟨W1, hW1⟩ : ∃ W, w.alloc (.cells #[.int .i64 (t : Int), .int .i64 (k : Int), .int .u64 ad, .int .u64 wd, .bool own, .int .i64 er] 27) = W := ⟨_, rfl⟩
  have u1 : Upd [] w W1 := by rw [← hW1]; exact (Upd.refl [] _).alloc _
  have B1 : Blk W1 w.heap.size [.int .i64 (t : Int), .int .i64 (k : Int), .int .u64 ad, .int .u64 wd, .bool own, .int .i64 er] 27 := by rw [← hW1]; exact Blk.new w _ _
  obtain ⟨eb, heb⟩ : ∃ b, w.heap.size = b := ⟨_, rfl⟩
  rw [heb] at B1
  have ht8 : (t : Int) < 8 := by omega
  have ht0 : 0 ≤ (t : Int) := by omega
  have m0 := B1.cell 0 rfl
  have HB1 := Lib.hid B1
  have HW1 := Lib.hid (show Below B w W1 from u1.below HSZ.out (by simp))
  have HK1 := Lib.hid (HK0.out.upd0 u1)
  clear B1 u1 HK0
  refine calls_all fun KK hKK => ?_
  go_enter Tryd.func68, Tryd.ntmps68
  go_wp2_with fail
  have ud : Upd [] W1 W1.drew := (Upd.refl [] _).drew
  have HK2 := Lib.hid (HK1.out.upd0 ud)
  have HW2 := Lib.hid (bl_upd HW1.out ud (by simp) HSZ.out)
  have HB2 := Lib.hid (HB1.out.upd ud (by simp))
  have m0' := HB2.out.cell 0 rfl
  obtain ⟨W2, hW2⟩ : ∃ W, W1.drew = W := ⟨_, rfl⟩
  refine wp_region_br (fun w' => w' = W1.drew) [0, 1, 2, 3, 4, 5, 6] (by kernel_rfl) (by kernel_rfl) rfl ?_
  rw [hW2] at HK2 HW2 HB2 m0' ⊢
  clear ud hW2 hW1 HB1 HW1 HK1 m0
  repeat
    first
      | (refine wpB_skip rfl (by kernel_rfl) (by rfl) ?_)
      | ((refine wpB_take (v := ?_) rfl rfl (by kernel_rfl) (by rfl) ?_ ?_); rotate_left 1; (· ((intro w hSw; (try dsimp only at hSw); go_simp); try with_reducible rfl)))
    try simp only [Act.put, List.setIfInBounds_toArray, List.set_cons_zero, List.set_cons_succ]
  refine wpB_end (by kernel_rfl) (NoPanic.normal ?_)
  clear m0'
  have m0 := HB2.out.cell 0 rfl
  have m1 := HB2.out.cell 1 rfl
  have m2 := HB2.out.cell 2 rfl
  have m3 := HB2.out.cell 3 rfl
  have m4 := HB2.out.cell 4 rfl
  have m5 := HB2.out.cell 5 rfl
  have l0 := lk HK2.out.blk (HK2.out.cs.how t ht) (show 52 + t * 4 = 52 + 4 * t by omega)
  have l1 := lk HK2.out.blk (HK2.out.cs.snap t ht) (show 52 + t * 4 + 1 = 52 + 4 * t + 1 by omega)
  have l2 := lk HK2.out.blk (HK2.out.cs.wr t ht) (show 52 + t * 4 + 2 = 52 + 4 * t + 2 by omega)
  have l3 := lk HK2.out.blk (HK2.out.cs.try_ t ht) (show 52 + t * 4 + 3 = 52 + 4 * t + 3 by omega)
  have l4 := lk HK2.out.blk HK2.out.cs.num (rfl : 84 = 84)
  have l5 := lk HK2.out.blk HK2.out.cs.hold (rfl : 85 = 85)
  have l6 := lk HK2.out.blk HK2.out.cs.tries (rfl : 86 = 86)
  have f0 := HK2.out.blk.free (52 + t * 4)
  have f1 := HK2.out.blk.free (52 + t * 4 + 1)
  have f2 := HK2.out.blk.free (52 + t * 4 + 2)
  have f3 := HK2.out.blk.free (52 + t * 4 + 3)
  have f4 := HK2.out.blk.free 84
  have f5 := HK2.out.blk.free 85
  have f6 := HK2.out.blk.free 86
  rw [H0.out] at l0
  have e1 : ((k : Int) == 1) = true := by have := HC.out; simp; omega
  have hlb2 := HK2.out.blk.lt
  have hmm := @run_makeMap Tryd.prog
  go_wp2_with fail
  clear m0 m1 m2 m3 m4 m5
  clear l0 l1 l2 l3 l4 l5 l6 f0 f1 f2 f3 f4 f5 f6
  have hN := HK2.out.newmap (by have := HSZ.out; have := HW2.out.size; omega) ht
  rw [show 52 + 4 * t + 2 = 52 + t * 4 + 2 by omega] at hN
  have hN2 := hN.store (52 + 4 * t + 3) (.int .i64 (y : Int)) (hN.cs.set_try ht y) rfl (fun j hj hl => by
    dsimp only
    by_cases e : j = t
    · subst e; simp only [updT_same]
    · rw [updT_other _ _ e])
  rw [show 52 + 4 * t + 3 = 52 + t * 4 + 3 by omega] at hN2
  have hEL := HK2.out
  have HEL := Lib.hid (show eb ≠ lb from fun e => by have h := HB2.out; rw [e] at h; exact absurd (Blk.inj h HK2.out.blk).2 (by decide))
  have u3 : Upd [lb] W2 (((W2.alloc (.map #[] 0)).setCell ⟨lb, 52 + t * 4 + 2, none⟩ (.map (some W2.heap.size))).setCell ⟨lb, 52 + t * 4 + 3, none⟩ (.int .i64 (y : Int))) := (((Upd.refl _ _).alloc _).setCell (.inl (by simp)) _).setCell (.inl (by simp)) _
  have HW3 := Lib.hid (bl_upd HW2.out u3 (by simp; exact HK2.out.low) HSZ.out)
  have HB3 := Lib.hid (HB2.out.upd u3 (by simp; exact HEL.out))
  have hxx : ((W2.alloc (.map #[] 0)).setCell ⟨lb, 52 + t * 4 + 2, none⟩ (.map (some W2.heap.size))).setCell ⟨lb, 52 + t * 4 + 3, none⟩ (.int .i64 (y : Int)) = ((W2.setCell ⟨lb, 52 + t * 4 + 2, none⟩ (.map (some W2.heap.size))).setCell ⟨lb, 52 + t * 4 + 3, none⟩ (.int .i64 (y : Int))).alloc (.map #[] 0) := by
    rw [World.setCell_alloc_past _ _ _ _ hlb2, World.setCell_alloc_past _ _ _ _ (by simpa using hlb2)]
  have HK3 := Lib.hid hN2
  rw [hxx] at HK3 HW3 HB3
  clear hN hN2 hEL u3 hxx HK2 HW2 HB2 hlb2
  generalize ((W2.setCell ⟨lb, 52 + t * 4 + 2, none⟩ (.map (some W2.heap.size))).setCell ⟨lb, 52 + t * 4 + 3, none⟩ (.int .i64 (y : Int))).alloc (.map #[] 0) = W3 at HK3 HW3 HB3 ⊢
  generalize W2.heap.size = mb at HK3 ⊢
  clear hlbw hmm
  have ud : Upd [] W3 W3.drew := (Upd.refl [] _).drew
  have HK4 := Lib.hid (HK3.out.upd0 ud)
  have HW4 := Lib.hid (bl_upd HW3.out ud (by simp) HSZ.out)
  have HB4 := Lib.hid (HB3.out.upd ud (by simp))
  obtain ⟨W4, hW4⟩ : ∃ W, W3.drew = W := ⟨_, rfl⟩
  have m0 := HB4.out.cell 0 rfl
  have l6 := lk HK4.out.blk HK4.out.cs.tries (rfl : 86 = 86)
  refine wp_region_brT (fun w' => w'.cell? ⟨eb, 0, none⟩ = some (.int .i64 (t : Int)) ∧ w'.cell? ⟨lb, 86, none⟩ = some (.slice pp y pc)) [0, 1, 2, 3, 4, 5, 6, 7, 8, 9, 10, 11, 12, 13] 13 (by kernel_rfl) (by kernel_rfl) (by kernel_rfl) ?_
  rw [hW4] at HK4 HW4 HB4 m0 l6 ⊢
  clear ud hW4 HK3 HW3 HB3
  have hS : W4.cell? ⟨eb, 0, none⟩ = some (.int .i64 (t : Int)) ∧ W4.cell? ⟨lb, 86, none⟩ = some (.slice pp y pc) := ⟨m0, l6⟩
  have hlb4 := HK4.out.blk.lt
  have heb4 := HB4.out.lt
  repeat ((refine wpC_take (v := ?_) rfl (by decide) rfl (by kernel_rfl) (by rfl) hS ?_ ?_); rotate_left 1; (· ((intro w hSw; (try dsimp only at hSw); go_simp); try with_reducible rfl)); try simp only [Act.put, List.setIfInBounds_toArray, List.set_cons_zero, List.set_cons_succ])
  refine wpC_eff rfl (by kernel_rfl) (by rfl) (fun K2 hK2 => ?_)
  go_simp
  obtain ⟨v', W5, hr, u5, hK5, hb5, hgs⟩ := HK4.out.apptry ⟨t, q, 0, 0, 0, 0, 0⟩ (by rw [show _ = y from HLNS.out]; omega) (by have := HSZ.out; have := HW4.out.size; omega)
  obtain ⟨p2, c2, hv2⟩ := own_form hK5.row
  subst hv2
  generalize ({ S with ths := updT (updT S.ths t { S.ths t with wr := [] }) t { (updT S.ths t { S.ths t with wr := [] }) t with try_ := y }, tries := S.tries ++ [⟨t, q, 0, 0, 0, 0, 0⟩] } : LS).tries.length = l2 at hK5 hr ⊢
  have ua : Upd [] W4 (W4.alloc (.cells #[.int .i64 (t : Int), .int .i64 (q : Int), .int .i64 0, .int .u64 0, .int .i64 0, .int .i64 0, .int .i64 0] 52)) := (Upd.refl _ _).alloc _
  have hS5 := And.intro (ua.cell (by simp) m0) (ua.cell (by simp) l6)
  refine hK2.out _ _ (.inr hS5) ?_
  clear hK2 K2
  have HGS := Lib.hid hgs
  have HEG4 := Lib.hid (show eb ∉ (Value.slice pp y pc).ownBlock.toList from own_ne_blk HK4.out.row HB4.out (by decide))
  have lc := lk hb5 HK4.out.cs.tries (rfl : 86 = 86)
  have lf := hb5.free 86
  have hS : W5.cell? ⟨eb, 0, none⟩ = some (.int .i64 (t : Int)) ∧ W5.cell? ⟨lb, 86, none⟩ = some (.slice pp y pc) := ⟨u5.cell HEG4.out hS5.1, lc⟩
  refine wpC_append rfl (by kernel_rfl) (by rfl) (.tmp 33) (.tmp 38) 48 48 rfl _ _ _ rfl rfl hr hS ?_
  try simp only [Act.put, List.setIfInBounds_toArray, List.set_cons_zero, List.set_cons_succ]
  repeat ((refine wpC_take (v := ?_) rfl (by decide) rfl (by kernel_rfl) (by rfl) hS ?_ ?_); rotate_left 1; (· ((intro w hSw; (try dsimp only at hSw); go_simp); try with_reducible rfl)); try simp only [Act.put, List.setIfInBounds_toArray, List.set_cons_zero, List.set_cons_succ])
  refine wpC_eff rfl (by kernel_rfl) (by rfl) (fun K2 hK2 => ?_)
  go_simp
  refine hK2.out _ _ (.inl (by decide)) ?_
  refine wpC_end (by kernel_rfl) (NoPanic.normal ?_)
  clear hK2 K2 hS hS5 lc lf hr m0 l6
  have u6 : Upd ((Value.slice pp y pc).ownBlock.toList ++ [lb]) W4 (W5.setCell ⟨lb, 86, none⟩ (.slice p2 l2 c2)) := ((ua.trans (S := []) (Upd.refl _ _)).tr (U := (Value.slice pp y pc).ownBlock.toList ++ [lb]) u5 (by simp) (fun g hg => .inl (by simp at hg ⊢; exact .inl hg))).setCell (.inl (by simp)) _
  have HK6 := Lib.hid hK5
  have HW6 := Lib.hid (bl_upd HW4.out u6 (fun g hg => by rcases List.mem_append.1 hg with h | h; exact (HGS.out g h).1; simp at h; subst h; exact HK4.out.low) HSZ.out)
  have HB6 := Lib.hid (HB4.out.upd u6 (fun hg => by rcases List.mem_append.1 hg with h | h; exact HEG4.out h; simp at h; exact HEL.out h))
  clear hK5 u6 ua u5 hb5 hgs HGS HEG4 hlb4 heb4 HK4 HW4 HB4
  generalize W5.setCell ⟨lb, 86, none⟩ (.slice p2 l2 c2) = W6 at HK6 HW6 HB6 ⊢
  obtain ⟨S6, hS6⟩ : ∃ S6, ({ ths := updT (updT S.ths t { S.ths t with wr := [] }) t { (updT S.ths t { S.ths t with wr := [] }) t with try_ := y }, num := S.num, holder := S.holder, tries := S.tries ++ [⟨t, q, 0, 0, 0, 0, 0⟩] } : LS) = S6 := ⟨_, rfl⟩
  have HK6 := Lib.hid (show LookK W6 B lb n _ S6 _ _ _ from HK6.out.to hS6)
  have h6t : (S6.ths t) = ⟨(S.ths t).how, (S.ths t).snap, [], y⟩ := by rw [← hS6]; simp only [updT_same]
  have h6l : S6.tries = S.tries ++ [⟨t, q, 0, 0, 0, 0, 0⟩] := by rw [← hS6]
  have H6T := Lib.hid h6t
  have H6L := Lib.hid h6l
  have HS6 := Lib.hid hS6
  clear h6t h6l hS6
  obtain ⟨x, hx⟩ : ∃ x : Try, (⟨t, q, 0, 0, 0, 0, 0⟩ : Try) = x := ⟨_, rfl⟩
  have HXX := Lib.hid hx
  have HX := Lib.hid (show S6.tries[y]? = some x by rw [H6L.out, ← HLNS.out, List.getElem?_append_right (Nat.le_refl _), Nat.sub_self, hx]; rfl)
  obtain ⟨lm, hlm⟩ : ∃ lm, S6.tries.length = lm := ⟨_, rfl⟩
  have hyl : y < lm := by rw [← hlm, H6L.out, List.length_append, HLNS.out]; simp
  obtain ⟨g, c, htv⟩ := own_some HK6.out.row (by rw [hlm]; omega)
  rw [hlm] at htv
  have hyl2 : (y : Int) < (lm : Int) := by omega
  have hy0 : 0 ≤ (y : Int) := by omega
  have HY := Lib.hid (show (S6.ths t).try_ = y by rw [H6T.out])
  have HTV := Lib.hid htv
  have HLN := Lib.hid hlm.symm
  clear hx hlm htv
  have l0 := lk HK6.out.blk (HK6.out.cs.how t ht) (show 52 + t * 4 = 52 + 4 * t by omega)
  rw [show (S6.ths t).how = 0 by rw [H6T.out]; exact H0.out] at l0
  have m0 := HB6.out.cell 0 rfl
  have m1 := HB6.out.cell 1 rfl
  have m2 := HB6.out.cell 2 rfl
  have m3 := HB6.out.cell 3 rfl
  have m4 := HB6.out.cell 4 rfl
  have m5 := HB6.out.cell 5 rfl
  go_wp2_with fail
  clear m0 m1 m2 m3 m4 m5
  clear l0
  have ud : Upd [] W6 W6.drew := (Upd.refl [] _).drew
  have HK7 := Lib.hid (HK6.out.upd0 ud)
  have HW7 := Lib.hid (bl_upd HW6.out ud (by simp) HSZ.out)
  have HB7 := Lib.hid (HB6.out.upd ud (by simp))
  obtain ⟨W7, hW7⟩ : ∃ W, W6.drew = W := ⟨_, rfl⟩
  refine wp_region_br (fun w' => w' = W6.drew) [0, 1, 2, 3, 4, 5, 6, 7, 8, 9] (by kernel_rfl) (by kernel_rfl) rfl ?_
  rw [hW7] at HK7 HW7 HB7 ⊢
  clear ud hW7 HK6 HW6 HB6
  have l3 := lk HK7.out.blk (HK7.out.cs.try_ t ht) (show 52 + t * 4 + 3 = 52 + 4 * t + 3 by omega)
  rw [show _ = y from HY.out] at l3
  have l6 := lk HK7.out.blk HK7.out.cs.tries (rfl : 86 = 86)
  rw [HTV.out] at l6
  repeat
    first
      | (refine wpB_skip rfl (by kernel_rfl) (by rfl) ?_)
      | ((refine wpB_take (v := ?_) rfl rfl (by kernel_rfl) (by rfl) ?_ ?_); rotate_left 1; (· ((intro w hSw; (try dsimp only at hSw); go_simp); try with_reducible rfl)))
    try simp only [Act.put, List.setIfInBounds_toArray, List.set_cons_zero, List.set_cons_succ]
  refine wpB_end (by kernel_rfl) (NoPanic.normal ?_)
  clear l3 l6
  have m0 := HB7.out.cell 0 rfl
  have m1 := HB7.out.cell 1 rfl
  have m2 := HB7.out.cell 2 rfl
  have m3 := HB7.out.cell 3 rfl
  have m4 := HB7.out.cell 4 rfl
  have m5 := HB7.out.cell 5 rfl
  have c2 := HK7.out.trycell HTV.out HLN.out HX.out (by decide : 2 < 7) rfl
  have c3 := HK7.out.trycell HTV.out HLN.out HX.out (by decide : 3 < 7) rfl
  have c4 := HK7.out.trycell HTV.out HLN.out HX.out (by decide : 4 < 7) rfl
  have c5 := HK7.out.trycell HTV.out HLN.out HX.out (by decide : 5 < 7) rfl
  have c6 := HK7.out.trycell HTV.out HLN.out HX.out (by decide : 6 < 7) rfl
  obtain ⟨c2, d2⟩ := c2
  obtain ⟨c3, d3⟩ := c3
  obtain ⟨c4, d4⟩ := c4
  obtain ⟨c5, d5⟩ := c5
  obtain ⟨c6, d6⟩ := c6
  have hne := (HK7.out.tryset HTV.out HLN.out HX.out (by decide : 2 < 7) (y := { x with last := q }) (v := .int .i64 (q : Int)) rfl).2
  have HBG := Lib.hid hne.2
  have HEG := Lib.hid (show eb ≠ g from fun e => own_ne_blk HK7.out.row HB7.out (by decide) (by rw [HTV.out, e]; simp [Value.ownBlock]))
  have heg := HEG.out
  have hge := Ne.symm HEG.out
  clear hne
  go_wp2_with fail
  have h2 := HK7.out.tryset HTV.out HLN.out HX.out (by decide : 2 < 7) (y := { x with last := q }) (v := .int .i64 (q : Int)) rfl
  have HK8 := Lib.hid h2.1
  have u8 : Upd [g] W7 (W7.setCell ⟨g, y * 7 + 2, none⟩ (.int .i64 (q : Int))) := (Upd.refl _ _).setCell (.inl (by simp)) _
  have HW8 := Lib.hid (bl_upd HW7.out u8 (by simp; exact HBG.out) HSZ.out)
  have HB8 := Lib.hid (HB7.out.upd u8 (by simp; exact heg))
  clear h2 u8
  generalize W7.setCell ⟨g, y * 7 + 2, none⟩ (.int .i64 (q : Int)) = W8 at HK8 HW8 HB8 ⊢
  clear m0 m1 m2 m3 m4 m5
  clear c2 c3 c4 c5 c6 d2 d3 d4 d5 d6
  have HX2 := Lib.hid (show (S6.tries.set y { x with last := (q : Int) })[y]? = some { x with last := (q : Int) } from by rw [List.getElem?_set_self (by have := (List.getElem?_eq_some_iff.1 HX.out).1; omega)])
  have HLN2 := Lib.hid (show lm = (S6.tries.set y { x with last := (q : Int) }).length by rw [List.length_set]; exact HLN.out)
  have ud : Upd [] W8 W8.drew := (Upd.refl [] _).drew
  have HK9 := Lib.hid (HK8.out.upd0 ud)
  have HW9 := Lib.hid (bl_upd HW8.out ud (by simp) HSZ.out)
  have HB9 := Lib.hid (HB8.out.upd ud (by simp))
  obtain ⟨W9, hW9⟩ : ∃ W, W8.drew = W := ⟨_, rfl⟩
  have m3 := HB9.out.cell 3 rfl
  refine wp_region_br (fun w' => w'.cell? ⟨eb, 3, none⟩ = some (.int .u64 wd)) [0, 1, 2, 3, 4, 5, 6, 7, 8, 9, 10, 11] (by kernel_rfl) (by kernel_rfl) m3 ?_
  rw [hW9] at HK9 HW9 HB9 ⊢
  clear ud hW9 HK8 HW8 HB8
  clear m3
  have l1 := lk HK9.out.blk (HK9.out.cs.snap t ht) (show 52 + t * 4 + 1 = 52 + 4 * t + 1 by omega)
  have f1 := HK9.out.blk.free (52 + t * 4 + 1)
  repeat
    first
      | (refine wpB_skip rfl (by kernel_rfl) (by rfl) ?_)
      | ((refine wpB_take (v := ?_) rfl rfl (by kernel_rfl) (by rfl) ?_ ?_); rotate_left 1; (· ((intro w hSw; (try dsimp only at hSw); go_simp); try with_reducible rfl)))
    try simp only [Act.put, List.setIfInBounds_toArray, List.set_cons_zero, List.set_cons_succ]
  refine wpB_eff rfl (by kernel_rfl) (by rfl) (fun K2 hK2 => ?_)
  go_simp
  have hS1 := HK9.out.store (52 + 4 * t + 1) (.int .u64 wd) (HK9.out.cs.set_snap ht wd) rfl (fun j hj hl => by
    dsimp only
    by_cases e : j = t
    · subst e; rw [updT_same]
    · rw [updT_other _ _ e])
  rw [show 52 + 4 * t + 1 = 52 + t * 4 + 1 by omega] at hS1
  have HK10 := Lib.hid hS1
  have u10 : Upd [lb] W9 (W9.setCell ⟨lb, 52 + t * 4 + 1, none⟩ (.int .u64 wd)) := (Upd.refl _ _).setCell (.inl (by simp)) _
  have HW10 := Lib.hid (bl_upd HW9.out u10 (by simp; exact HK9.out.low) HSZ.out)
  have HB10 := Lib.hid (HB9.out.upd u10 (by simp; exact HEL.out))
  clear hS1 u10 l1 f1
  generalize W9.setCell ⟨lb, 52 + t * 4 + 1, none⟩ (.int .u64 wd) = W10 at HK10 HW10 HB10 ⊢
  refine hK2.out _ _ (HB10.out.cell 3 rfl) ?_
  clear hK2 K2
  have c3 := HK10.out.trycell HTV.out HLN2.out HX2.out (by decide : 3 < 7) rfl
  obtain ⟨c3, d3⟩ := c3
  repeat
    first
      | (refine wpB_skip rfl (by kernel_rfl) (by rfl) ?_)
      | ((refine wpB_take (v := ?_) rfl rfl (by kernel_rfl) (by rfl) ?_ ?_); rotate_left 1; (· ((intro w hSw; (try dsimp only at hSw); go_simp); try with_reducible rfl)))
    try simp only [Act.put, List.setIfInBounds_toArray, List.set_cons_zero, List.set_cons_succ]
  refine wpB_eff rfl (by kernel_rfl) (by rfl) (fun K2 hK2 => ?_)
  go_simp
  have hS2 := HK10.out.tryset (j := y) (k := 3) (y := { x with last := q, snap := wd }) (v := .int .u64 wd) HTV.out HLN2.out HX2.out (by decide) rfl
  have u11 : Upd [g] W10 (W10.setCell ⟨g, y * 7 + 3, none⟩ (.int .u64 wd)) := (Upd.refl _ _).setCell (.inl (by simp)) _
  have HK11 := Lib.hid hS2.1
  have HW11 := Lib.hid (bl_upd HW10.out u11 (by simp; exact HBG.out) HSZ.out)
  have HB11 := Lib.hid (HB10.out.upd u11 (by simp; exact HEG.out))
  clear hS2 u11 c3 d3
  generalize W10.setCell ⟨g, y * 7 + 3, none⟩ (.int .u64 wd) = W11 at HK11 HW11 HB11 ⊢
  refine hK2.out _ _ (HB11.out.cell 3 rfl) ?_
  clear hK2 K2
  refine wpB_end (by kernel_rfl) (NoPanic.normal ?_)
  go_wp2_with fail
  have ud : Upd [] W11 W11.drew := (Upd.refl [] _).drew
  have HK12 := Lib.hid (HK11.out.upd0 ud)
  have HW12 := Lib.hid (bl_upd HW11.out ud (by simp) HSZ.out)
  have HB12 := Lib.hid (HB11.out.upd ud (by simp))
  obtain ⟨W12, hW12⟩ : ∃ W, W11.drew = W := ⟨_, rfl⟩
  refine wp_region_brT (fun w' => w' = W11.drew) [0, 1, 2, 3, 4, 5, 6, 7, 8, 9, 10, 11, 12, 13, 14, 15, 16] 16 (by kernel_rfl) (by kernel_rfl) (by kernel_rfl) ?_
  rw [hW12] at HK12 HW12 HB12 ⊢
  clear ud hW12 HK11 HW11 HB11
  have m1 := HB12.out.cell 1 rfl
  have l0 := lk HK12.out.blk (HK12.out.cs.how t ht) (show 52 + t * 4 = 52 + 4 * t by omega)
  have f0 := HK12.out.blk.free (52 + t * 4)
  have lt := lk HK12.out.blk (HK12.out.cs.turns (S.ths t).how k (by have := HOK.out.hows t; omega) (by omega)) (show (S.ths t).how * 13 + k = 13 * (S.ths t).how + k by omega)
  rw [show _ = (S.ths t).how from (show (updT S6.ths t { S6.ths t with snap := wd } t).how = (S.ths t).how by rw [updT_same]; dsimp only; rw [H6T.out])] at l0
  have hh4 : ((S.ths t).how : Int) < 4 := by have := HOK.out.hows t; omega
  have hh0 : 0 ≤ ((S.ths t).how : Int) := by omega
  have hk13 : (k : Int) < 13 := by omega
  have hk0 : 0 ≤ (k : Int) := by omega
  have hTle : (turnT (S.ths t).how k : Int) ≤ 4 := by have := turnT_le (S.ths t).how (by have := HOK.out.hows t; omega) k (by omega); unfold turnT; simp only [Int.toNat_natCast]; omega
  have hTge : 1 ≤ (turnT (S.ths t).how k : Int) := by have := HT.out; omega
  obtain ⟨hw, hhw⟩ : ∃ h, (S.ths t).how = h := ⟨_, rfl⟩
  obtain ⟨T, hTT⟩ : ∃ T, turnT hw (k : Int) = T := ⟨_, rfl⟩
  rw [hhw] at l0 lt hh4 hh0 hTle hTge
  rw [hTT] at lt hTle hTge
  have HTT := Lib.hid (show turnT (S.ths t).how k = T by rw [hhw, hTT])
  clear hhw hTT
  repeat ((refine wpC_take (v := ?_) rfl (by decide) rfl (by kernel_rfl) (by rfl) rfl ?_ ?_); rotate_left 1; (· ((intro w hSw; (try dsimp only at hSw); go_simp); try with_reducible rfl)); try simp only [Act.put, List.setIfInBounds_toArray, List.set_cons_zero, List.set_cons_succ])
  refine wpC_eff rfl (by kernel_rfl) (by rfl) (fun K2 hK2 => ?_)
  go_simp
  have hTn : IntKind.i64.wrap ((T : Int) - 1) = ((T - 1 : Nat) : Int) := by rw [IntKind.wrap_i64]; omega
  rw [hTn]
  refine hK2.out _ _ (.inl (by decide)) ?_
  refine wpC_end (by kernel_rfl) (NoPanic.normal ?_)
  clear hK2 K2
  rw [show 52 + t * 4 = 52 + 4 * t by omega]
  have HFK := Lib.hid (HK12.out.store (52 + 4 * t) (.int .i64 ((T - 1 : Nat) : Int)) (HK12.out.cs.set_how ht (T - 1)) rfl (fun j hj hl => by
    dsimp only
    by_cases e : j = t
    · subst e; rw [updT_same]
    · rw [updT_other _ _ e]))
  have HFW := Lib.hid (bl_upd HW12.out ((Upd.refl [lb] W12).setCell (p := ⟨lb, 52 + 4 * t, none⟩) (.inl (by simp)) (.int .i64 ((T - 1 : Nat) : Int))) (by simp; exact HK12.out.low) HSZ.out)
  rw [← HTT.out] at HFK HFW ⊢
  go_wp2_with fail
  go_end0
  refine hKK _ _ ⟨rfl, ?_, HFW.out⟩
  have hE : { S6 with ths := updT (updT S6.ths t { S6.ths t with snap := wd }) t { (updT S6.ths t { S6.ths t with snap := wd }) t with how := turnT (S.ths t).how k - 1 }, tries := (S6.tries.set y { x with last := q }).set y { x with last := q, snap := wd } } = takeE S q ⟨t, k, ad, wd, own, er⟩ := by
    have hc := HC.out
    have h0 := H0.out
    have hy6 := HX.out
    have h6t := H6T.out
    refine take_eq (t := t) (Int.toNat_natCast _) (fun j hj => by dsimp only; rw [updT_other _ _ hj, updT_other _ _ hj, ← HS6.out]; dsimp only; rw [updT_other _ _ hj, updT_other _ _ hj]) ?_ ?_ ?_ ?_
    · dsimp only; rw [updT_same, updT_same, h6t]; unfold thNext; dsimp only; rw [if_pos (by omega), if_pos (by omega), if_pos (by omega), HLNS.out]
    · dsimp only; rw [if_neg (by omega), ← HS6.out]
    · dsimp only; rw [if_neg (by omega), if_neg (by omega), ← HS6.out]
    · dsimp only
      rw [if_pos (.inr (by omega)), if_pos (by omega), show (S.tries ++ [⟨↑t, ↑q, 0, 0, 0, 0, 0⟩]) = S6.tries from H6L.out.symm]
      have h6 : (thNext (S.ths t) S.tries.length ⟨t, k, ad, wd, own, er⟩).try_ = y := by unfold thNext; dsimp only; rw [if_pos (by omega)]; exact HLNS.out
      rw [h6, modify_set HX.out, List.set_set]
      unfold tryNext
      dsimp only
      rw [if_pos (by omega), if_neg (by omega), if_neg (by omega), if_neg (by omega)]
  exact ⟨_, _, _, ((HFK.out.to hE).mono (by omega)).m (fun j hj hl => (live_take (HOK.out.hows t) hk HT.out hl).elim .inr (fun c => .inl c.1))⟩
end Go.Proofs.YtfldpejifpmapaaDoor
