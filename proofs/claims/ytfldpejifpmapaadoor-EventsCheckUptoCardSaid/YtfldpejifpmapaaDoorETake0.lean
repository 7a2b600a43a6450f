/- take: events of no attempt. The conditions: the state's and the event's words are words, the number is small. -/
import Derived.Test.YtfldpejifpmapaaDoorELook2
import Derived.Test.YtfldpejifpmapaaDoorEWrong7
import Derived.Test.YtfldpejifpmapaaDoorEffC
set_option linter.unusedSimpArgs false
set_option linter.unusedVariables false
set_option maxRecDepth 100000
namespace Go.Proofs.YtfldpejifpmapaaDoor
open Go.RowKit
open Go.Maps
-- the head: the event boxed, the thread's place found: W2 the world behind region 1
-- a drawn region is met: from W$A to W$B = W$A.drew
-- region 7: the attempt's place: W$A to W$B; HTV HLN: the slice's form; HX: the attempt; HY: its place in the state
-- the attempt under way of a thread that is inside
-- the tail: region 28: how the thread is now; W$A the world ahead; HOW: the state's how is the old one
theorem bl_upd {B : Nat} {S : List Nat} {w W W' : World} (h : Below B w W) (u : Upd S W W') (hS : ∀ x ∈ S, B ≤ x) (hB : B ≤ w.heap.size) : Below B w W' := h.trans (u.below (Nat.le_trans hB h.size) hS)
/-- what take leaves -/
def TakeOk (w : World) (B lb n : Nat) (S : LS) (q : Nat) (e : Ev) (r : Ending) (w' : World) : Prop := r = .returned (.tuple #[]) ∧ LookAt w' B lb (n + 1) (takeE S q e) ∧ Below B w w'
theorem LookK.mono {w : World} {B lb n n' : Nat} {C : List Value} {S : LS} {tv : Value} {mv : Nat → Value} {lv : Nat → Prop} (h : LookK w B lb n C S tv mv lv) (hn : n ≤ n') : LookK w B lb n' C S tv mv lv :=
  ⟨h.blk, h.cs, h.low, h.row, fun j hj hl => by obtain ⟨m, h1, h2, h3⟩ := h.maps j hj hl; exact ⟨m, h1, h2, h3.mono hn⟩, h.apart⟩
theorem LookK.to {w : World} {B lb n : Nat} {C : List Value} {S S2 : LS} {tv : Value} {mv : Nat → Value} {lv : Nat → Prop} (h : LookK w B lb n C S tv mv lv) (e : S = S2) : LookK w B lb n C S2 tv mv lv := e ▸ h
theorem take_eq {S S2 : LS} {q t : Nat} {e : Ev} (ht : e.th.toNat = t) (h1 : ∀ j, j ≠ t → S2.ths j = S.ths j) (h2 : S2.ths t = thNext (S.ths t) S.tries.length e) (h3 : S2.num = if e.kd = 6 ∧ (S.ths t).how = 2 then e.wd else S.num)
    (h4 : S2.holder = if e.kd = 5 then e.th else if e.kd = 6 ∧ (S.ths t).how = 2 then -1 else S.holder)
    (h5 : S2.tries = if (S.ths t).how ≠ 0 ∨ e.kd = 1 then (if e.kd = 1 then S.tries ++ [⟨e.th, q, 0, 0, 0, 0, 0⟩] else S.tries).modify (thNext (S.ths t) S.tries.length e).try_ (fun x => tryNext x q e) else (if e.kd = 1 then S.tries ++ [⟨e.th, q, 0, 0, 0, 0, 0⟩] else S.tries)) : S2 = takeE S q e := by
  subst ht
  obtain ⟨a, b, c, d⟩ := S2
  dsimp only at h1 h2 h3 h4 h5
  unfold takeE
  rw [h3, h4, h5]
  dsimp only
  congr 1
  funext j
  by_cases e2 : j = e.th.toNat
  · subst e2; rw [updT_same, h2]
  · rw [updT_other _ _ e2, h1 j e2]
theorem live_take {S : LS} {q j t k : Nat} {ad wd er : Int} {own : Bool} (hh : (S.ths t).how ≤ 3) (hk : 1 ≤ k ∧ k ≤ 12) (hT : turnT (S.ths t).how k ≠ 0) (hl : liveT (takeE S q ⟨t, k, ad, wd, own, er⟩) j) : liveT S j ∨ (j = t ∧ k = 1) := by
  unfold liveT takeE at hl
  dsimp only at hl
  rw [Int.toNat_natCast] at hl
  by_cases e : j = t
  · subst e
    rw [updT_same] at hl
    unfold thNext at hl
    dsimp only at hl
    have h1 := turn_some (h := (S.ths j).how) (k := k) (by omega) (by omega) (by unfold turnT at hT; simpa using hT)
    rcases h1 with ⟨h0, hc⟩ | ⟨h0, hc⟩ | ⟨h0, hc⟩
    · rw [h0] at hl
      rcases hc with rfl | rfl | rfl | rfl | rfl
      · exact .inr ⟨rfl, rfl⟩
      all_goals exact absurd hl (by decide)
    · exact .inl (.inl h0)
    · exact .inl (.inr h0)
  · rw [updT_other _ _ e] at hl
    exact .inl hl
set_option maxHeartbeats 4000000 in
theorem take_0 (w : World) (B lb n t k q : Nat) (S : LS) (ad wd er : Int) (own : Bool) (C : List Value) (tv : Value) (mv : Nat → Value) (hok : LSOk S q) (hq : q ≤ 1000000000000) (hK : LookK w B lb n C S tv mv (liveT S)) (he : Ev.wide ⟨t, k, ad, wd, own, er⟩) (ht : t < 8) (hk : 1 ≤ k ∧ k ≤ 12) (hT : turnT (S.ths t).how k ≠ 0) (hc : k = 9 ∨ k = 10 ∨ k = 11 ∨ k = 12) (h0 : (S.ths t).how = 0) :
    Calls Tryd.prog 68 #[.pointer (some ⟨lb, 0, none⟩), .int .i64 (q : Int), .agg #[.int .i64 (t : Int), .int .i64 (k : Int), .int .u64 ad, .int .u64 wd, .bool own, .int .i64 er]] w (TakeOk w B lb n S q ⟨t, k, ad, wd, own, er⟩) := by
  have HT := Lib.hid hT
  clear hT
  have HC := Lib.hid hc
  have H0 := Lib.hid h0
  have HK0 := Lib.hid hK
  have HSZ := Lib.hid (show B ≤ w.heap.size by have := hK.blk.lt; have := hK.low; omega)
  have HOK := Lib.hid hok
  clear hK hok
  obtain ⟨W1, hW1⟩ : ∃ W, w.alloc (.cells #[.int .i64 (t : Int), .int .i64 (k : Int), .int .u64 ad, .int .u64 wd, .bool own, .int .i64 er] 27) = W := ⟨_, rfl⟩
  have u1 : Upd [] w W1 := by rw [← hW1]; exact (Upd.refl [] _).alloc _
  have B1 : Blk W1 w.heap.size [.int .i64 (t : Int), .int .i64 (k : Int), .int .u64 ad, .int .u64 wd, .bool own, .int .i64 er] 27 := by rw [← hW1]; exact Blk.new w _ _
  obtain ⟨eb, heb⟩ : ∃ b, w.heap.size = b := ⟨_, rfl⟩
  rw [heb] at B1
  have ht8 : (t : Int) < 8 := by omega
  have ht0 : 0 ≤ (t : Int) := by omega
  have m0 := B1.cell 0 rfl
  have HB1 := Lib.hid B1
  have HW1 := Lib.hid (show Below B w W1 from u1.below HSZ.out (by simp))
  have HK1 := Lib.hid (HK0.out.upd0 u1)
  clear B1 u1 HK0
  refine calls_all fun KK hKK => ?_
  go_enter Tryd.func68, Tryd.ntmps68
  go_wp2_with fail
  have ud : Upd [] W1 W1.drew := (Upd.refl [] _).drew
  have HK2 := Lib.hid (HK1.out.upd0 ud)
  have HW2 := Lib.hid (bl_upd HW1.out ud (by simp) HSZ.out)
  have HB2 := Lib.hid (HB1.out.upd ud (by simp))
  have m0' := HB2.out.cell 0 rfl
  obtain ⟨W2, hW2⟩ : ∃ W, W1.drew = W := ⟨_, rfl⟩
  refine wp_region_br (fun w' => w' = W1.drew) [0, 1, 2, 3, 4, 5, 6] (by kernel_rfl) (by kernel_rfl) rfl ?_
  rw [hW2] at HK2 HW2 HB2 m0' ⊢
  clear ud hW2 hW1 HB1 HW1 HK1 m0
  repeat
    first
      | (refine wpB_skip rfl (by kernel_rfl) (by rfl) ?_)
      | ((refine wpB_take (v := ?_) rfl rfl (by kernel_rfl) (by rfl) ?_ ?_); rotate_left 1; (· ((intro w hSw; (try dsimp only at hSw); go_simp); try with_reducible rfl)))
    try simp only [Act.put, List.setIfInBounds_toArray, List.set_cons_zero, List.set_cons_succ]
  refine wpB_end (by kernel_rfl) (NoPanic.normal ?_)
  clear m0'
  have m0 := HB2.out.cell 0 rfl
  have m1 := HB2.out.cell 1 rfl
  have m2 := HB2.out.cell 2 rfl
  have m3 := HB2.out.cell 3 rfl
  have m4 := HB2.out.cell 4 rfl
  have m5 := HB2.out.cell 5 rfl
  have l0 := lk HK2.out.blk (HK2.out.cs.how t ht) (show 52 + t * 4 = 52 + 4 * t by omega)
  have l1 := lk HK2.out.blk (HK2.out.cs.snap t ht) (show 52 + t * 4 + 1 = 52 + 4 * t + 1 by omega)
  have l2 := lk HK2.out.blk (HK2.out.cs.wr t ht) (show 52 + t * 4 + 2 = 52 + 4 * t + 2 by omega)
  have l3 := lk HK2.out.blk (HK2.out.cs.try_ t ht) (show 52 + t * 4 + 3 = 52 + 4 * t + 3 by omega)
  have l4 := lk HK2.out.blk HK2.out.cs.num (rfl : 84 = 84)
  have l5 := lk HK2.out.blk HK2.out.cs.hold (rfl : 85 = 85)
  have l6 := lk HK2.out.blk HK2.out.cs.tries (rfl : 86 = 86)
  have f0 := HK2.out.blk.free (52 + t * 4)
  have f1 := HK2.out.blk.free (52 + t * 4 + 1)
  have f2 := HK2.out.blk.free (52 + t * 4 + 2)
  have f3 := HK2.out.blk.free (52 + t * 4 + 3)
  have f4 := HK2.out.blk.free 84
  have f5 := HK2.out.blk.free 85
  have f6 := HK2.out.blk.free 86
  rw [h0] at l0
  have e1 : ((k : Int) == 1) = false := by simp; omega
  clear hc h0
  go_wp2_with fail
  clear m0 m1 m2 m3 m4 m5
  clear l0 l1 l2 l3 l4 l5 l6 f0 f1 f2 f3 f4 f5 f6
  go_wp2_with fail
  have ud : Upd [] W2 W2.drew := (Upd.refl [] _).drew
  have HK3 := Lib.hid (HK2.out.upd0 ud)
  have HW3 := Lib.hid (bl_upd HW2.out ud (by simp) HSZ.out)
  have HB3 := Lib.hid (HB2.out.upd ud (by simp))
  obtain ⟨W3, hW3⟩ : ∃ W, W2.drew = W := ⟨_, rfl⟩
  refine wp_region_brT (fun w' => w' = W2.drew) [0, 1, 2, 3, 4, 5, 6, 7, 8, 9, 10, 11, 12, 13, 14, 15, 16] 16 (by kernel_rfl) (by kernel_rfl) (by kernel_rfl) ?_
  rw [hW3] at HK3 HW3 HB3 ⊢
  clear ud hW3 HK2 HW2 HB2
  have m1 := HB3.out.cell 1 rfl
  have l0 := lk HK3.out.blk (HK3.out.cs.how t ht) (show 52 + t * 4 = 52 + 4 * t by omega)
  have f0 := HK3.out.blk.free (52 + t * 4)
  have lt := lk HK3.out.blk (HK3.out.cs.turns (S.ths t).how k (by have := HOK.out.hows t; omega) (by omega)) (show (S.ths t).how * 13 + k = 13 * (S.ths t).how + k by omega)
  rw [show _ = (S.ths t).how from rfl] at l0
  have hh4 : ((S.ths t).how : Int) < 4 := by have := HOK.out.hows t; omega
  have hh0 : 0 ≤ ((S.ths t).how : Int) := by omega
  have hk13 : (k : Int) < 13 := by omega
  have hk0 : 0 ≤ (k : Int) := by omega
  have hTle : (turnT (S.ths t).how k : Int) ≤ 4 := by have := turnT_le (S.ths t).how (by have := HOK.out.hows t; omega) k (by omega); unfold turnT; simp only [Int.toNat_natCast]; omega
  have hTge : 1 ≤ (turnT (S.ths t).how k : Int) := by have := HT.out; omega
  obtain ⟨hw, hhw⟩ : ∃ h, (S.ths t).how = h := ⟨_, rfl⟩
  obtain ⟨T, hTT⟩ : ∃ T, turnT hw (k : Int) = T := ⟨_, rfl⟩
  rw [hhw] at l0 lt hh4 hh0 hTle hTge
  rw [hTT] at lt hTle hTge
  have HTT := Lib.hid (show turnT (S.ths t).how k = T by rw [hhw, hTT])
  clear hhw hTT
  repeat ((refine wpC_take (v := ?_) rfl (by decide) rfl (by kernel_rfl) (by rfl) rfl ?_ ?_); rotate_left 1; (· ((intro w hSw; (try dsimp only at hSw); go_simp); try with_reducible rfl)); try simp only [Act.put, List.setIfInBounds_toArray, List.set_cons_zero, List.set_cons_succ])
  refine wpC_eff rfl (by kernel_rfl) (by rfl) (fun K2 hK2 => ?_)
  go_simp
  have hTn : IntKind.i64.wrap ((T : Int) - 1) = ((T - 1 : Nat) : Int) := by rw [IntKind.wrap_i64]; omega
  rw [hTn]
  refine hK2.out _ _ (.inl (by decide)) ?_
  refine wpC_end (by kernel_rfl) (NoPanic.normal ?_)
  clear hK2 K2
  rw [show 52 + t * 4 = 52 + 4 * t by omega]
  have HFK := Lib.hid (HK3.out.store (52 + 4 * t) (.int .i64 ((T - 1 : Nat) : Int)) (HK3.out.cs.set_how ht (T - 1)) rfl (fun j hj hl => by
    dsimp only
    by_cases e : j = t
    · subst e; rw [updT_same]
    · rw [updT_other _ _ e]))
  have HFW := Lib.hid (bl_upd HW3.out ((Upd.refl [lb] W3).setCell (p := ⟨lb, 52 + 4 * t, none⟩) (.inl (by simp)) (.int .i64 ((T - 1 : Nat) : Int))) (by simp; exact HK3.out.low) HSZ.out)
  rw [← HTT.out] at HFK HFW ⊢
  go_wp2_with fail
  go_end0
  refine hKK _ _ ⟨rfl, ?_, HFW.out⟩
  have hE := take_eq (S := S) (S2 := { S with ths := updT S.ths t { S.ths t with how := turnT (S.ths t).how k - 1 } }) (q := q) (t := t) (e := ⟨t, k, ad, wd, own, er⟩) (Int.toNat_natCast _) (fun j hj => updT_other _ _ hj) (by dsimp only; rw [updT_same]; have := HC.out; unfold thNext; dsimp only; rw [if_neg (by omega), if_neg (by omega), if_neg (by omega), if_neg (by omega)]) (by have := HC.out; dsimp only; rw [if_neg (by omega)]) (by have := HC.out; dsimp only; rw [if_neg (by omega), if_neg (by omega)]) (by have := HC.out; dsimp only; rw [if_neg (by have := H0.out; omega), if_neg (by omega)])
  exact ⟨_, _, _, ((HFK.out.to hE).mono (Nat.le_succ n)).m (fun j hj hl => (live_take (HOK.out.hows t) hk HT.out hl).elim id (fun c => by have := HC.out; omega))⟩
end Go.Proofs.YtfldpejifpmapaaDoor
