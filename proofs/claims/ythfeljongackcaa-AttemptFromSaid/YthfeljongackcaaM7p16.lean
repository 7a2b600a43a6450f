/- The document's attempt: End, Locked. The condition: the state may be. The document's attempt: Put. The condition: the state may be. The document's Begin. No condition. The document's State: its lists are the attempt's own. No condition. Several attempts over what is shared: what one does leaves the others. No conditions. -/
import Derived.Test.YthfeljongackcaaM7p15
import Derived.Test.YthfeljongackcaaM7p10
set_option linter.unusedSimpArgs false
set_option linter.unusedVariables false
set_option maxRecDepth 100000
namespace Go.Proofs.Ythfeljongackcaa
open Go.RowKit
open Go.Maps
-- behind a call to going: the turn is stored
-- the end: the turn T is stored
-- a store into the attempt's block, kept up in RB, U
-- a step was called: its turn goes on to the result (slots K, M)
-- the end: the turn T and a number are stored
section
variable {w : World} {Y : RX} {sh : Sh} {acc : Int} {b : Nat} {s : AS} {F : List Nat} {rv wv : Value}
set_option maxHeartbeats 1000000 in
theorem rend_code (hL : RLive w Y sh acc b s F rv wv) (hM : May s) :
    Calls Try.prog 100 #[.pointer (some ⟨b, 0, none⟩), .pointer (some ⟨Y.wb, 0, none⟩)] w (RCall w Y b F (endS s sh).1 (endS s sh).2.1 (endS s sh).2.2.1 (endS s sh).2.2.2) := by
  have la := hL.lt
  have lx := hL.sh.lt
  have hnr : w.heap.size ∉ b :: (F ++ Y.foot) := by
    simp only [List.mem_cons, List.mem_append, not_or]
    exact ⟨by omega, fun h => Nat.lt_irrefl _ (hL.sep _ h).1, fun h => Nat.lt_irrefl _ (lx _ h)⟩
  have hwb : b ≠ Y.wb := fun e => hL.out (by simp [RX.foot, e])
  have lb0 : b ≠ w.heap.size := by omega
  have lw0 : Y.wb ≠ w.heap.size := by have := lx Y.wb (by simp [RX.foot]); omega
  obtain ⟨p2, c2, rfl⟩ := hL.att.wr.form
  have hlw := hM.lenW
  by_cases hp : s.phase = 1
  · by_cases hw : s.writes = []
    · have he : endS s sh = (⟨4, 0, ⟨6, 0, s.snap / 2, false⟩⟩, 0, overS, sh) := by unfold endS; rw [if_neg (by simp [hp]), if_pos hw]
      rw [he]
      have hw0 : s.writes.length = 0 := by rw [hw]; rfl
      have hsn : s.snap.tdiv 2 = s.snap / 2 := Int.tdiv_eq_ediv_of_nonneg hL.wide.snap.1
      have hsb := hL.wide.snap
      clear he hw
      refine calls_all fun K hK => ?_
      go_enter Try.func100, Try.ntmps100
      go_upto_region 3 with (fail)
      obtain ⟨W, hW⟩ : ∃ W, W = w.alloc (.cells turn0.toArray 36) := ⟨_, rfl⟩
      have RB : Blk W w.heap.size turn0 36 := by rw [hW]; exact Blk.new w _ _
      have HU : Upd [] w W := by rw [hW]; exact (Upd.refl _ _).alloc _
      simp only [turn0, trnNone, evNone, Trn.cells] at hW
      rw [← hW]
      clear hW
      have HL0 := hL.upd0 HU
      have U : Upd (b :: (F ++ Y.foot)) w W := HU.mono (by simp)
      have hzW : w.heap.size < W.heap.size := RB.lt
      have b3 := HL0.att.head.cell 3 rfl
      have b2 := HL0.att.head.cell 2 rfl
      have b0 := HL0.att.head.cell 0 rfl
      rw [hp] at b3
      rw [hw0] at b2
      go_wp2_with fail
      clear b0 b2 b3
      refine (rover_code HL0).mono ?_
      rintro e w7 ⟨rfl, HL7, u7⟩
      replace RB := RB.upd u7 (by simp; omega)
      replace U := U.trans (u7.mono (T := b :: (F ++ Y.foot)) (by simp))
      have q0 := (RB).cell 0 rfl
      have q1 := (RB).cell 1 rfl
      have q2 := (RB).cell 2 rfl
      have q3 := (RB).cell 3 rfl
      have q4 := (RB).cell 4 rfl
      have q5 := (RB).cell 5 rfl
      have q6 := (RB).cell 6 rfl
      have q7 := (RB).cell 7 rfl
      have g0 := (RB).free 0
      have g1 := (RB).free 1
      have g2 := (RB).free 2
      have g3 := (RB).free 3
      have g4 := (RB).free 4
      have g5 := (RB).free 5
      have g6 := (RB).free 6
      have g7 := (RB).free 7
      go_wp2_with fail
      exact bodyPost_ret (turn_results2 4 5 rfl _ _ _ (⟨4, 0, ⟨6, 0, s.snap / 2, false⟩⟩ : Trn) (.int .i64 0) rfl rfl (turn_set RB rfl (⟨4, 0, ⟨6, 0, s.snap / 2, false⟩⟩ : Trn))) rfl (hK _ _ (rcfin (Nat.le_refl _) HL7 U (fun g hg => .inl hg) hnr _ _ _ _ _ _ _ _))
    · have he : endS s sh = ((lockS s sh).1, 0, (lockS s sh).2.1, (lockS s sh).2.2) := by unfold endS; rw [if_neg (by simp [hp]), if_neg hw]
      rw [he]
      have hpos : 0 < s.writes.length := List.length_pos_iff.2 hw
      have hpos' : (0 : Int) < (s.writes.length : Int) := by omega
      have ht : s.thn = 0 := by have := hM.thn; simp [validB, hp] at this; exact this
      have hfo : s.found = 0 := hM.found (by omega) (by omega)
      have ha : s.at_ = 0 := hM.at0 (by omega) (by omega)
      clear he hw
      refine calls_all fun K hK => ?_
      go_enter Try.func100, Try.ntmps100
      go_upto_region 3 with (fail)
      obtain ⟨W, hW⟩ : ∃ W, W = w.alloc (.cells turn0.toArray 36) := ⟨_, rfl⟩
      have RB : Blk W w.heap.size turn0 36 := by rw [hW]; exact Blk.new w _ _
      have HU : Upd [] w W := by rw [hW]; exact (Upd.refl _ _).alloc _
      simp only [turn0, trnNone, evNone, Trn.cells] at hW
      rw [← hW]
      clear hW
      have HL0 := hL.upd0 HU
      have U : Upd (b :: (F ++ Y.foot)) w W := HU.mono (by simp)
      have hzW : w.heap.size < W.heap.size := RB.lt
      have b3 := HL0.att.head.cell 3 rfl
      have b2 := HL0.att.head.cell 2 rfl
      have b0 := HL0.att.head.cell 0 rfl
      rw [hp] at b3
      go_wp2_with fail
      clear b0 b2 b3
      refine ((rlock_code HL0 ht hfo ha hM.even.1)).mono ?_
      rintro e w3 ⟨rfl, F3, ⟨acc3, rv3, wv3, HL3⟩, u3, hF3⟩
      have hn3 : w.heap.size ∉ b :: (F3 ++ Y.foot) := by
        simp only [List.mem_cons, List.mem_append, not_or] at hnr ⊢
        exact ⟨hnr.1, fun h => by rcases hF3 _ h with k | k; exact hnr.2.1 k; omega, hnr.2.2⟩
      have hF4 : ∀ g ∈ F3, g ∈ F ∨ w.heap.size ≤ g := fun g hg => (hF3 g hg).imp id (fun k => by omega)
      replace RB := RB.upd u3 hnr
      replace U := U.trans u3
      clear hF3 u3
      generalize (lockS s sh).1 = T at hK HL3 ⊢
      obtain ⟨to, tw, ⟨tk, ta, tv, tb⟩⟩ := T
      simp only [Trn.val]
      have q0 := (RB).cell 0 rfl
      have q1 := (RB).cell 1 rfl
      have q2 := (RB).cell 2 rfl
      have q3 := (RB).cell 3 rfl
      have q4 := (RB).cell 4 rfl
      have q5 := (RB).cell 5 rfl
      have q6 := (RB).cell 6 rfl
      have q7 := (RB).cell 7 rfl
      have g0 := (RB).free 0
      have g1 := (RB).free 1
      have g2 := (RB).free 2
      have g3 := (RB).free 3
      have g4 := (RB).free 4
      have g5 := (RB).free 5
      have g6 := (RB).free 6
      have g7 := (RB).free 7
      go_wp2_with fail
      exact bodyPost_ret (turn_results2 4 5 rfl _ _ _ (⟨to, tw, ⟨tk, ta, tv, tb⟩⟩ : Trn) (.int .i64 0) rfl rfl (turn_set RB rfl (⟨to, tw, ⟨tk, ta, tv, tb⟩⟩ : Trn))) rfl (hK _ _ (rcfin (Nat.le_refl _) HL3 U hF4 hn3 _ _ _ _ _ _ _ _))
  · have he : endS s sh = (trnNone, 2, s, sh) := by unfold endS; rw [if_pos hp]
    rw [he]
    have hne : (s.phase != 1) = true := by simpa using hp
    clear he
    refine calls_all fun K hK => ?_
    go_enter Try.func100, Try.ntmps100
    go_upto_region 3 with (fail)
    obtain ⟨W, hW⟩ : ∃ W, W = w.alloc (.cells turn0.toArray 36) := ⟨_, rfl⟩
    have RB : Blk W w.heap.size turn0 36 := by rw [hW]; exact Blk.new w _ _
    have HU : Upd [] w W := by rw [hW]; exact (Upd.refl _ _).alloc _
    simp only [turn0, trnNone, evNone, Trn.cells] at hW
    rw [← hW]
    clear hW
    have HL0 := hL.upd0 HU
    have U : Upd (b :: (F ++ Y.foot)) w W := HU.mono (by simp)
    have hzW : w.heap.size < W.heap.size := RB.lt
    have b3 := HL0.att.head.cell 3 rfl
    have b2 := HL0.att.head.cell 2 rfl
    have b0 := HL0.att.head.cell 0 rfl
    have q0 := (RB).cell 0 rfl
    have q1 := (RB).cell 1 rfl
    have q2 := (RB).cell 2 rfl
    have q3 := (RB).cell 3 rfl
    have q4 := (RB).cell 4 rfl
    have q5 := (RB).cell 5 rfl
    have q6 := (RB).cell 6 rfl
    have q7 := (RB).cell 7 rfl
    have g0 := (RB).free 0
    have g1 := (RB).free 1
    have g2 := (RB).free 2
    have g3 := (RB).free 3
    have g4 := (RB).free 4
    have g5 := (RB).free 5
    have g6 := (RB).free 6
    have g7 := (RB).free 7
    go_wp2_with fail
    exact bodyPost_ret (turn_results2 4 5 rfl _ _ _ trnNone (.int .i64 2) rfl rfl (turn_set RB rfl trnNone)) rfl (hK _ _ (rcfin (Nat.le_refl _) HL0 U (fun g hg => .inl hg) hnr _ _ _ _ _ _ _ _))
theorem rlocked_code (hL : RLive w Y sh acc b s F rv wv) : Calls Try.prog 68 #[.pointer (some ⟨b, 0, none⟩)] w fun e w' => e = .returned (.bool (s.phase == 8 || s.phase == 9)) ∧ w = w' := by
  by_cases h8 : (s.phase == 8) = true
  · refine calls_all fun K hK => ?_
    go_enter Try.func68, Try.ntmps68
    go_wp2_with fail
    refine (rphase_code hL).mono ?_
    rintro e w' ⟨rfl, rfl⟩
    go_wp2_with fail
    all_goals simp [h8]
  · have h8 : (s.phase == 8) = false := by simpa using h8
    refine calls_all fun K hK => ?_
    go_enter Try.func68, Try.ntmps68
    go_wp2_with fail
    refine (rphase_code hL).mono ?_
    rintro e w' ⟨rfl, rfl⟩
    go_wp2_with fail
    refine (rphase_code hL).mono ?_
    rintro e w' ⟨rfl, rfl⟩
    go_wp2_with fail
    all_goals simp [h8]
end
end Go.Proofs.Ythfeljongackcaa
set_option linter.unusedSimpArgs false
set_option linter.unusedVariables false
set_option maxRecDepth 100000
namespace Go.Proofs.Ythfeljongackcaa
open Go.RowKit
open Go.Maps
-- behind a call to going: the turn is stored
-- the end: the turn T is stored
-- a store into the attempt's block, kept up in RB, U
-- a step was called: its turn goes on to the result (slots K, M)
-- the end: the turn T and a number are stored
section
variable {w : World} {Y : RX} {sh : Sh} {acc : Int} {b : Nat} {s : AS} {F : List Nat} {rv wv : Value}
theorem RLive.setWrite {g n c k : Nat} {x v0 u : Int} (h : RLive w Y sh acc b s F rv (.slice (some ⟨g, 0, none⟩) n c)) (hk : s.writes[k]? = some (x, v0)) (hW : Wide { s with writes := s.writes.set k (x, u) }) :
    RLive (w.setCell ⟨g, k * 2 + 1, none⟩ (.int .u64 u)) Y sh acc b { s with writes := s.writes.set k (x, u) } F rv (.slice (some ⟨g, 0, none⟩) n c) := by
  have hgF : g ∈ F := h.att.wr.inF g rfl
  have hs := h.sep g hgF
  have ug : Upd [g] w (w.setCell ⟨g, k * 2 + 1, none⟩ (.int .u64 u)) := (Upd.refl _ _).setCell (.inl (by simp)) _
  refine ⟨⟨h.att.head.other _ _ (Ne.symm hs.2.2), h.att.rd.upd ug (fun z hz e => ?_), h.att.wr.put hk, h.att.apart⟩, h.sh.upd ug (fun z hz e => ?_), fun z hz => ⟨Nat.lt_of_lt_of_le (h.sep z hz).1 ug.size, (h.sep z hz).2⟩, hW⟩
  · simp at hz; subst hz; exact h.att.apart z e rfl
  · simp at e; subst e; exact hs.2.1 hz
set_option maxHeartbeats 2000000 in
theorem rput_code (hL : RLive w Y sh acc b s F rv wv) (hM : May s) (x v : Int) (hx : 0 ≤ x ∧ x < 18446744073709551616) (hv : 0 ≤ v ∧ v < 18446744073709551616) :
    Calls Try.prog 99 #[.pointer (some ⟨b, 0, none⟩), .pointer (some ⟨Y.wb, 0, none⟩), .int .u64 x, .int .u64 v] w (RCall w Y b F (putS s sh x v).1 (putS s sh x v).2.1 (putS s sh x v).2.2 sh) := by
  have la := hL.lt
  have lx := hL.sh.lt
  have hnr : w.heap.size ∉ b :: (F ++ Y.foot) := by
    simp only [List.mem_cons, List.mem_append, not_or]
    exact ⟨by omega, fun h => Nat.lt_irrefl _ (hL.sep _ h).1, fun h => Nat.lt_irrefl _ (lx _ h)⟩
  have hwb : b ≠ Y.wb := fun e => hL.out (by simp [RX.foot, e])
  have lb0 : b ≠ w.heap.size := by omega
  have lw0 : Y.wb ≠ w.heap.size := by have := lx Y.wb (by simp [RX.foot]); omega
  have hlw := hM.lenW
  by_cases hp : s.phase = 1
  · by_cases hin : x < sh.row.length
    · have hd : decide (x < (sh.row.length : Int)) = true := by simpa using hin
      cases hpl : place s.writes x with
      | some k =>
        obtain ⟨hk, u, hku⟩ := place_some hpl
        have he : putS s sh x v = (⟨3, 0, ⟨3, x, v, false⟩⟩, 0, { s with writes := s.writes.set k (x, v) }) := by unfold putS; rw [if_neg (by simp [hp]), if_neg (by simpa using hin), hpl]
        rw [he]
        have hpi : placeI s.writes x = k := by unfold placeI; rw [hpl]
        have HPI := Lib.hid hpi
        have hne : s.writes ≠ [] := fun e => by rw [e] at hk; simp at hk
        obtain ⟨g, cap, sp, rfl, hcap, hb, hgF⟩ := hL.att.wr.open hne
        have hd2 : decide ((k : Int) < 0) = false := by simp
        have hk' : (k : Int) < (s.writes.length : Int) := by omega
        have hWw : Wide { s with writes := s.writes.set k (x, v) } := ⟨hL.wide.snap, hL.wide.reads, fun c hc => by rcases List.mem_or_eq_of_mem_set hc with q | rfl; exact hL.wide.writes c q; exact ⟨hx, hv⟩, hL.wide.addr, hL.wide.word, hL.wide.found⟩
        clear he hpl hpi hne
        refine calls_all fun K hK => ?_
        go_enter Try.func99, Try.ntmps99
        go_upto_region 3 with (fail)
        obtain ⟨W, hW⟩ : ∃ W, W = w.alloc (.cells turn0.toArray 36) := ⟨_, rfl⟩
        have RB : Blk W w.heap.size turn0 36 := by rw [hW]; exact Blk.new w _ _
        have HU : Upd [] w W := by rw [hW]; exact (Upd.refl _ _).alloc _
        simp only [turn0, trnNone, evNone, Trn.cells] at hW
        rw [← hW]
        clear hW
        have HL0 := hL.upd0 HU
        have U : Upd (b :: (F ++ Y.foot)) w W := HU.mono (by simp)
        have hzW : w.heap.size < W.heap.size := RB.lt
        have b3 := HL0.att.head.cell 3 rfl
        have b2 := HL0.att.head.cell 2 rfl
        have a0 := HL0.sh.wld.cell 0 rfl
        rw [hp] at b3
        go_wp2_with fail
        refine (rhas_any HL0.sh.row x).mono ?_
        rintro e w' ⟨rfl, rfl⟩
        go_wp2_with fail
        refine (rwritten W _ s.writes x HL0.att.wr.slc (by have := hM.lenW; omega)).mono ?_
        rintro e w' ⟨rfl, rfl⟩
        rw [HPI.out]
        have hb0 := hb.upd HU (by simp)
        have gc := hb0.cell (k * 2 + 1) (v := .int .u64 u) (by rw [List.getElem?_append_left (by rw [pcells_len]; omega)]; exact (pcells_get s.writes k x u hku).2)
        have gf := hb0.free (k * 2 + 1)
        have hgs := (hL.sep g hgF).1
        have g1 : g ≠ w.heap.size := by omega
        have g2 := Ne.symm g1
        have HL1 := HL0.setWrite hku hWw
        have RB1 := RB.other ⟨g, k * 2 + 1, none⟩ (.int .u64 v) g2
        have U1 := U.setCell (p := ⟨g, k * 2 + 1, none⟩) (.inl (by simp [hgF])) (.int .u64 v)
        have q0 := (RB).cell 0 rfl
        have q1 := (RB).cell 1 rfl
        have q2 := (RB).cell 2 rfl
        have q3 := (RB).cell 3 rfl
        have q4 := (RB).cell 4 rfl
        have q5 := (RB).cell 5 rfl
        have q6 := (RB).cell 6 rfl
        have q7 := (RB).cell 7 rfl
        have g0 := (RB).free 0
        have g1 := (RB).free 1
        have g2 := (RB).free 2
        have g3 := (RB).free 3
        have g4 := (RB).free 4
        have g5 := (RB).free 5
        have g6 := (RB).free 6
        have g7 := (RB).free 7
        go_wp2_with fail
        exact bodyPost_ret (turn_results2 8 9 rfl _ _ _ (⟨3, 0, ⟨3, x, v, false⟩⟩ : Trn) (.int .i64 0) rfl rfl (turn_set RB1 rfl (⟨3, 0, ⟨3, x, v, false⟩⟩ : Trn))) rfl (hK _ _ (rcfin (Nat.le_refl _) HL1 U1 (fun g hg => .inl hg) hnr _ _ _ _ _ _ _ _))
      | none =>
        have hpi : placeI s.writes x = -1 := by unfold placeI; rw [hpl]
        have HPI := Lib.hid hpi
        obtain ⟨p2, c2, hwv⟩ := hL.att.wr.form
        by_cases hf : s.writes.length < 1024
        · have he : putS s sh x v = (⟨3, 0, ⟨3, x, v, false⟩⟩, 0, { s with writes := s.writes ++ [(x, v)] }) := by unfold putS; rw [if_neg (by simp [hp]), if_neg (by simpa using hin), hpl]; simp only; rw [if_pos hf]
          rw [he]
          have hd2 : decide (1024 ≤ s.writes.length) = false := by simp; omega
          have hd3 : decide ((1024 : Int) ≤ (s.writes.length : Int)) = false := by simp; omega
          have hWw : Wide { s with writes := s.writes ++ [(x, v)] } := ⟨hL.wide.snap, hL.wide.reads, fun c hc => by rcases List.mem_append.1 hc with q | q; exact hL.wide.writes c q; (simp at q; subst q; exact ⟨hx, hv⟩), hL.wide.addr, hL.wide.word, hL.wide.found⟩
          subst hwv
          clear he hpl hpi
          refine calls_all fun K hK => ?_
          go_enter Try.func99, Try.ntmps99
          go_upto_region 3 with (fail)
          obtain ⟨W, hW⟩ : ∃ W, W = w.alloc (.cells turn0.toArray 36) := ⟨_, rfl⟩
          have RB : Blk W w.heap.size turn0 36 := by rw [hW]; exact Blk.new w _ _
          have HU : Upd [] w W := by rw [hW]; exact (Upd.refl _ _).alloc _
          simp only [turn0, trnNone, evNone, Trn.cells] at hW
          rw [← hW]
          clear hW
          have HL0 := hL.upd0 HU
          have U : Upd (b :: (F ++ Y.foot)) w W := HU.mono (by simp)
          have hzW : w.heap.size < W.heap.size := RB.lt
          have b3 := HL0.att.head.cell 3 rfl
          have b2 := HL0.att.head.cell 2 rfl
          have a0 := HL0.sh.wld.cell 0 rfl
          rw [hp] at b3
          go_wp2_with fail
          refine (rhas_any HL0.sh.row x).mono ?_
          rintro e w' ⟨rfl, rfl⟩
          go_wp2_with fail
          refine (rwritten W _ s.writes x HL0.att.wr.slc (by have := hM.lenW; omega)).mono ?_
          rintro e w' ⟨rfl, rfl⟩
          rw [HPI.out]
          obtain ⟨v6, W6, G6, hrun, ho6, hu6, hat6, hFG, hGF⟩ := app_pair (W := W) HL0.att.wr x v (Nat.lt_trans hf (by decide))
          have u5 : Upd [] W (W.alloc (.cells #[.int .u64 x, .int .u64 v] 53)) := (Upd.refl [] _).alloc _
          have hL6 := HL0.upd0 u5
          have hs5 : (W.alloc (.cells #[.int .u64 x, .int .u64 v] 53)).heap.size = W.heap.size + 1 := World.size_alloc _ _
          obtain ⟨p6, q6, rfl⟩ := ho6.form
          have hg6 : ∀ g ∈ (Value.slice p2 s.writes.length c2).ownBlock.toList, g ∈ F := fun g hg => hL6.att.wr.inF g (by simpa using hg)
          have HL7 := hL6.setWrites hu6 ho6 hFG (fun g hg => (hGF g hg).imp id (fun k => by omega)) (by rcases hat6 with e | e; exact .inl e; exact .inr (fun g hg => by rw [e] at hg; simp at hg; omega)) hWw
          have hh6 := hL6.att.head.upd hu6 (fun hg => hL6.att.not_wr (by simpa using hg))
          have RB6 := (RB.upd u5 (by simp)).upd hu6 (fun h => Nat.lt_irrefl _ (hL.sep _ (hg6 _ h)).1)
          have U6 := (U.trans (u5.mono (T := b :: (F ++ Y.foot)) (by simp))).trans (hu6.mono (T := b :: (F ++ Y.foot)) (fun g hg => .inl (by have := hg6 g hg; simp [this])))
          have hl6 : (s.writes ++ [(x, v)]).length = s.writes.length + 1 := by simp
          have RB7 := RB6.other ⟨b, 2, none⟩ (.slice p6 (s.writes ++ [(x, v)]).length q6) (Ne.symm lb0)
          have U7 := U6.setCell (p := ⟨b, 2, none⟩) (.inl (by simp)) (.slice p6 (s.writes ++ [(x, v)]).length q6)
          have hG0 : ∀ g ∈ G6, g ∈ F ∨ w.heap.size < g := fun g hg => (hGF g hg).imp id (fun k => by omega)
          have hn2 : w.heap.size ∉ b :: (G6 ++ Y.foot) := by
            simp only [List.mem_cons, List.mem_append, not_or] at hnr ⊢
            exact ⟨hnr.1, fun h => by rcases hG0 _ h with k | k; exact hnr.2.1 k; omega, hnr.2.2⟩
          rw [hl6] at HL7 RB7 U7 hrun
          have b2' := hh6.cell 2 rfl
          have f2' := hh6.free 2
          have q0 := (RB6).cell 0 rfl
          have q1 := (RB6).cell 1 rfl
          have q2 := (RB6).cell 2 rfl
          have q3 := (RB6).cell 3 rfl
          have q4 := (RB6).cell 4 rfl
          have q5 := (RB6).cell 5 rfl
          have q6 := (RB6).cell 6 rfl
          have q7 := (RB6).cell 7 rfl
          have g0 := (RB6).free 0
          have g1 := (RB6).free 1
          have g2 := (RB6).free 2
          have g3 := (RB6).free 3
          have g4 := (RB6).free 4
          have g5 := (RB6).free 5
          have g6 := (RB6).free 6
          have g7 := (RB6).free 7
          go_wp2_with (at_builtin; refine wpList_append_eq rfl _ _ _ _ rfl _ _ _ rfl rfl hrun ?_)
          exact bodyPost_ret (turn_results2 8 9 rfl _ _ _ (⟨3, 0, ⟨3, x, v, false⟩⟩ : Trn) (.int .i64 0) rfl rfl (turn_set RB7 rfl (⟨3, 0, ⟨3, x, v, false⟩⟩ : Trn))) rfl (hK _ _ (rcfin (Nat.le_refl _) HL7 U7 (fun g hg => (hG0 g hg).imp id Nat.le_of_lt) hn2 _ _ _ _ _ _ _ _))
        · have he : putS s sh x v = (trnNone, 5, s) := by unfold putS; rw [if_neg (by simp [hp]), if_neg (by simpa using hin), hpl]; simp only; rw [if_neg hf]
          rw [he]
          have hd2 : decide (1024 ≤ s.writes.length) = true := by simp; omega
          have hd3 : decide ((1024 : Int) ≤ (s.writes.length : Int)) = true := by simp; omega
          subst hwv
          clear he hpl hpi
          refine calls_all fun K hK => ?_
          go_enter Try.func99, Try.ntmps99
          go_upto_region 3 with (fail)
          obtain ⟨W, hW⟩ : ∃ W, W = w.alloc (.cells turn0.toArray 36) := ⟨_, rfl⟩
          have RB : Blk W w.heap.size turn0 36 := by rw [hW]; exact Blk.new w _ _
          have HU : Upd [] w W := by rw [hW]; exact (Upd.refl _ _).alloc _
          simp only [turn0, trnNone, evNone, Trn.cells] at hW
          rw [← hW]
          clear hW
          have HL0 := hL.upd0 HU
          have U : Upd (b :: (F ++ Y.foot)) w W := HU.mono (by simp)
          have hzW : w.heap.size < W.heap.size := RB.lt
          have b3 := HL0.att.head.cell 3 rfl
          have b2 := HL0.att.head.cell 2 rfl
          have a0 := HL0.sh.wld.cell 0 rfl
          rw [hp] at b3
          go_wp2_with fail
          refine (rhas_any HL0.sh.row x).mono ?_
          rintro e w' ⟨rfl, rfl⟩
          go_wp2_with fail
          refine (rwritten W _ s.writes x HL0.att.wr.slc (by have := hM.lenW; omega)).mono ?_
          rintro e w' ⟨rfl, rfl⟩
          rw [HPI.out]
          have q0 := (RB).cell 0 rfl
          have q1 := (RB).cell 1 rfl
          have q2 := (RB).cell 2 rfl
          have q3 := (RB).cell 3 rfl
          have q4 := (RB).cell 4 rfl
          have q5 := (RB).cell 5 rfl
          have q6 := (RB).cell 6 rfl
          have q7 := (RB).cell 7 rfl
          have g0 := (RB).free 0
          have g1 := (RB).free 1
          have g2 := (RB).free 2
          have g3 := (RB).free 3
          have g4 := (RB).free 4
          have g5 := (RB).free 5
          have g6 := (RB).free 6
          have g7 := (RB).free 7
          go_wp2_with fail
          exact bodyPost_ret (turn_results2 8 9 rfl _ _ _ trnNone (.int .i64 5) rfl rfl (turn_set RB rfl trnNone)) rfl (hK _ _ (rcfin (Nat.le_refl _) HL0 U (fun g hg => .inl hg) hnr _ _ _ _ _ _ _ _))
    · have he : putS s sh x v = (trnNone, 4, s) := by unfold putS; rw [if_neg (by simp [hp]), if_pos (by simpa using hin)]
      rw [he]
      have hd : decide (x < (sh.row.length : Int)) = false := by simpa using hin
      clear he
      refine calls_all fun K hK => ?_
      go_enter Try.func99, Try.ntmps99
      go_upto_region 3 with (fail)
      obtain ⟨W, hW⟩ : ∃ W, W = w.alloc (.cells turn0.toArray 36) := ⟨_, rfl⟩
      have RB : Blk W w.heap.size turn0 36 := by rw [hW]; exact Blk.new w _ _
      have HU : Upd [] w W := by rw [hW]; exact (Upd.refl _ _).alloc _
      simp only [turn0, trnNone, evNone, Trn.cells] at hW
      rw [← hW]
      clear hW
      have HL0 := hL.upd0 HU
      have U : Upd (b :: (F ++ Y.foot)) w W := HU.mono (by simp)
      have hzW : w.heap.size < W.heap.size := RB.lt
      have b3 := HL0.att.head.cell 3 rfl
      have b2 := HL0.att.head.cell 2 rfl
      have a0 := HL0.sh.wld.cell 0 rfl
      rw [hp] at b3
      go_wp2_with fail
      refine (rhas_any HL0.sh.row x).mono ?_
      rintro e w' ⟨rfl, rfl⟩
      have q0 := (RB).cell 0 rfl
      have q1 := (RB).cell 1 rfl
      have q2 := (RB).cell 2 rfl
      have q3 := (RB).cell 3 rfl
      have q4 := (RB).cell 4 rfl
      have q5 := (RB).cell 5 rfl
      have q6 := (RB).cell 6 rfl
      have q7 := (RB).cell 7 rfl
      have g0 := (RB).free 0
      have g1 := (RB).free 1
      have g2 := (RB).free 2
      have g3 := (RB).free 3
      have g4 := (RB).free 4
      have g5 := (RB).free 5
      have g6 := (RB).free 6
      have g7 := (RB).free 7
      go_wp2_with fail
      exact bodyPost_ret (turn_results2 8 9 rfl _ _ _ trnNone (.int .i64 4) rfl rfl (turn_set RB rfl trnNone)) rfl (hK _ _ (rcfin (Nat.le_refl _) HL0 U (fun g hg => .inl hg) hnr _ _ _ _ _ _ _ _))
  · have he : putS s sh x v = (trnNone, 2, s) := by unfold putS; rw [if_pos hp]
    rw [he]
    have hne : (s.phase != 1) = true := by simpa using hp
    clear he
    refine calls_all fun K hK => ?_
    go_enter Try.func99, Try.ntmps99
    go_upto_region 3 with (fail)
    obtain ⟨W, hW⟩ : ∃ W, W = w.alloc (.cells turn0.toArray 36) := ⟨_, rfl⟩
    have RB : Blk W w.heap.size turn0 36 := by rw [hW]; exact Blk.new w _ _
    have HU : Upd [] w W := by rw [hW]; exact (Upd.refl _ _).alloc _
    simp only [turn0, trnNone, evNone, Trn.cells] at hW
    rw [← hW]
    clear hW
    have HL0 := hL.upd0 HU
    have U : Upd (b :: (F ++ Y.foot)) w W := HU.mono (by simp)
    have hzW : w.heap.size < W.heap.size := RB.lt
    have b3 := HL0.att.head.cell 3 rfl
    have b2 := HL0.att.head.cell 2 rfl
    have a0 := HL0.sh.wld.cell 0 rfl
    have q0 := (RB).cell 0 rfl
    have q1 := (RB).cell 1 rfl
    have q2 := (RB).cell 2 rfl
    have q3 := (RB).cell 3 rfl
    have q4 := (RB).cell 4 rfl
    have q5 := (RB).cell 5 rfl
    have q6 := (RB).cell 6 rfl
    have q7 := (RB).cell 7 rfl
    have g0 := (RB).free 0
    have g1 := (RB).free 1
    have g2 := (RB).free 2
    have g3 := (RB).free 3
    have g4 := (RB).free 4
    have g5 := (RB).free 5
    have g6 := (RB).free 6
    have g7 := (RB).free 7
    go_wp2_with fail
    exact bodyPost_ret (turn_results2 8 9 rfl _ _ _ trnNone (.int .i64 2) rfl rfl (turn_set RB rfl trnNone)) rfl (hK _ _ (rcfin (Nat.le_refl _) HL0 U (fun g hg => .inl hg) hnr _ _ _ _ _ _ _ _))
end
end Go.Proofs.Ythfeljongackcaa
set_option linter.unusedSimpArgs false
set_option linter.unusedVariables false
set_option maxRecDepth 100000
namespace Go.Proofs.Ythfeljongackcaa
open Go.RowKit
open Go.Maps
-- behind a call to going: the turn is stored
-- the end: the turn T is stored
-- a store into the attempt's block, kept up in RB, U
-- a step was called: its turn goes on to the result (slots K, M)
-- the end: the turn T and a number are stored
theorem turn_results2b {fn : Func} (p k : Nat) (hr : fn.results = #[.tmp p, .cell k 36]) (t : Array Value) (w : World) (rb : Nat) (T : Trn) (u : Value) (h1 : t.getD p undef = u) (h2 : t.getD k undef = .pointer (some ⟨rb, 0, none⟩)) (hb : Blk w rb T.cells 36) :
    (results fn t).run Try.prog w = .ok (.tuple #[u, T.val]) w := by
  have c0 := hb.cell 0 rfl
  have c1 := hb.cell 1 rfl
  have c2 := hb.cell 2 rfl
  have c3 := hb.cell 3 rfl
  have c4 := hb.cell 4 rfl
  have c5 := hb.cell 5 rfl
  have c6 := hb.cell 6 rfl
  have c7 := hb.cell 7 rfl
  have h2' : t[k]?.getD undef = .pointer (some ⟨rb, 0, none⟩) := by simpa using h2
  have h1' : t[p]?.getD undef = u := by simpa using h1
  simp [results, hr, h2', h1', go_sem, c0, c1, c2, c3, c4, c5, c6, c7, Trn.val]
section
variable {w : World} {Y : RX} {sh : Sh} {acc : Int}
theorem rbegin_odd (h : Y.At w sh acc) (hc : sh.clock % 2 = 1) : Calls Try.prog 93 #[.pointer (some ⟨Y.wb, 0, none⟩)] w fun e w' => e = .returned (.tuple #[.pointer none, (⟨7, 0, evNone⟩ : Trn).val]) ∧ Y.At w' sh acc ∧ Upd [] w w' := by
  have hm1 : sh.clock.tmod 2 = 1 := by rw [Int.tmod_eq_emod_of_nonneg h.wide.clock.1, hc]
  refine calls_all fun K hK => ?_
  go_enter Try.func93, Try.ntmps93
  go_upto_region 1 with (fail)
  obtain ⟨W, hW⟩ : ∃ W, W = w.alloc (.cells turn0.toArray 36) := ⟨_, rfl⟩
  have RB : Blk W w.heap.size turn0 36 := by rw [hW]; exact Blk.new w _ _
  have HU : Upd [] w W := by rw [hW]; exact (Upd.refl _ _).alloc _
  simp only [turn0, trnNone, evNone, Trn.cells] at hW
  rw [← hW]
  clear hW
  have h1 := h.upd HU (by simp)
  have a1 := h1.wld.cell 1 rfl
  have q0 := (RB).cell 0 rfl
  have q1 := (RB).cell 1 rfl
  have q2 := (RB).cell 2 rfl
  have q3 := (RB).cell 3 rfl
  have q4 := (RB).cell 4 rfl
  have q5 := (RB).cell 5 rfl
  have q6 := (RB).cell 6 rfl
  have q7 := (RB).cell 7 rfl
  have g0 := (RB).free 0
  have g1 := (RB).free 1
  have g2 := (RB).free 2
  have g3 := (RB).free 3
  have g4 := (RB).free 4
  have g5 := (RB).free 5
  have g6 := (RB).free 6
  have g7 := (RB).free 7
  go_wp2_with fail
  exact bodyPost_ret (turn_results2b 2 3 rfl _ _ _ (⟨7, 0, evNone⟩ : Trn) (.pointer none) rfl rfl (turn_set RB rfl (⟨7, 0, evNone⟩ : Trn))) rfl (hK _ _ ⟨rfl, h1.upd (at8 _ _ _ _ _ _ _ _) (fun g hg => by have := h.lt g hg; simp; omega), upd8 HU (Nat.le_refl _) _ _ _ _ _ _ _ _⟩)
theorem rbegin_even (h : Y.At w sh acc) (hc : sh.clock % 2 = 0) : Calls Try.prog 93 #[.pointer (some ⟨Y.wb, 0, none⟩)] w fun e w' => ∃ a, e = .returned (.tuple #[.pointer (some ⟨a, 0, none⟩), (⟨6, 0, ⟨1, 0, sh.clock, false⟩⟩ : Trn).val]) ∧ RLive w' Y sh acc a (fresh sh.clock) [] (.slice none 0 0) (.slice none 0 0) ∧ Upd [] w w' ∧ w.heap.size ≤ a := by
  have hm1 : sh.clock.tmod 2 = 0 := by rw [Int.tmod_eq_emod_of_nonneg h.wide.clock.1, hc]
  refine calls_all fun K hK => ?_
  go_enter Try.func93, Try.ntmps93
  go_upto_region 1 with (fail)
  obtain ⟨W, hW⟩ : ∃ W, W = w.alloc (.cells turn0.toArray 36) := ⟨_, rfl⟩
  have RB : Blk W w.heap.size turn0 36 := by rw [hW]; exact Blk.new w _ _
  have HU : Upd [] w W := by rw [hW]; exact (Upd.refl _ _).alloc _
  simp only [turn0, trnNone, evNone, Trn.cells] at hW
  rw [← hW]
  clear hW
  have h1 := h.upd HU (by simp)
  have a1 := h1.wld.cell 1 rfl
  go_wp2_with fail
  have AB : Blk (W.alloc (.cells #[.int .u64 sh.clock, .slice none 0 0, .slice none 0 0, .int .i64 1, .int .i64 0, .int .u64 0, .int .u64 0, .int .u64 0, .int .i64 0] 132)) W.heap.size (rheadV (fresh sh.clock) (.slice none 0 0) (.slice none 0 0)) 132 := Blk.new W _ _
  have u2 : Upd [] W (W.alloc (.cells #[.int .u64 sh.clock, .slice none 0 0, .slice none 0 0, .int .i64 1, .int .i64 0, .int .u64 0, .int .u64 0, .int .u64 0, .int .i64 0] 132)) := (Upd.refl [] _).alloc _
  have hzW := RB.lt
  have h2 := (h1.upd u2 (by simp)).upd (Upd.refl [] _).drew (by simp)
  replace RB := (RB.upd u2 (by simp)).drew
  replace AB := AB.drew
  have U := (HU.trans u2).drew
  replace a1 := h2.wld.cell 1 rfl
  have hab : W.heap.size ≠ w.heap.size := by omega
  have hf := h.lt
  refine wp_region_eff (fun w' => w'.cell? ⟨Y.wb, 1, none⟩ = some (.int .u64 sh.clock)) 8 (by kernel_rfl) (by kernel_rfl) a1 ?_
  clear u2 h1
  generalize (W.alloc (.cells #[.int .u64 sh.clock, .slice none 0 0, .slice none 0 0, .int .i64 1, .int .i64 0, .int .u64 0, .int .u64 0, .int .u64 0, .int .i64 0] 132)).drew = W2 at h2 RB AB U a1 ⊢
  repeat
    refine wpE_take (v := ?_) (by decide) rfl (by rfl) ?_ ?_
    rotate_left 1
    · ((intro w hSw; (try dsimp only at hSw); go_simp); try with_reducible rfl)
    try simp only [Act.put, List.setIfInBounds_toArray, List.set_cons_zero, List.set_cons_succ]
  have q0 := (RB).cell 0 rfl
  have q1 := (RB).cell 1 rfl
  have q2 := (RB).cell 2 rfl
  have q3 := (RB).cell 3 rfl
  have q4 := (RB).cell 4 rfl
  have q5 := (RB).cell 5 rfl
  have q6 := (RB).cell 6 rfl
  have q7 := (RB).cell 7 rfl
  have g0 := (RB).free 0
  have g1 := (RB).free 1
  have g2 := (RB).free 2
  have g3 := (RB).free 3
  have g4 := (RB).free 4
  have g5 := (RB).free 5
  have g6 := (RB).free 6
  have g7 := (RB).free 7
  refine wpE_tail ?_
  go_wp2_with fail
  refine NoPanic.normal ?_
  go_wp2_with fail
  have HA : RLive W2 Y sh acc W.heap.size (fresh sh.clock) [] (.slice none 0 0) (.slice none 0 0) := ⟨⟨AB, own_nil _ _, own_nil _ _, fun g hg => by simp [Value.ownBlock] at hg⟩, h2, fun g hg => by simp at hg, wide_fresh h.wide.clock⟩
  exact bodyPost_ret (turn_results2b 2 3 rfl _ _ _ (⟨6, 0, ⟨1, 0, sh.clock, false⟩⟩ : Trn) (.pointer (some ⟨W.heap.size, 0, none⟩)) rfl rfl (turn_set RB rfl (⟨6, 0, ⟨1, 0, sh.clock, false⟩⟩ : Trn))) rfl
    (hK _ _ ⟨_, rfl, HA.upd (at8 _ _ _ _ _ _ _ _) (fun g hg => by simp only [List.mem_cons, List.nil_append] at hg; rcases hg with rfl | k; (simp; omega); (have := hf g k; simp; omega)), upd8 U (Nat.le_refl _) _ _ _ _ _ _ _ _, by omega⟩)
end
end Go.Proofs.Ythfeljongackcaa
set_option linter.unusedSimpArgs false
set_option linter.unusedVariables false
set_option maxRecDepth 100000
namespace Go.Proofs.Ythfeljongackcaa
open Go.RowKit
open Go.Maps
theorem state_results {fn : Func} (k : Nat) (hr : fn.results = #[.cell k 60]) (t : Array Value) (w : World) (rb : Nat) (s : AS) (rv wv : Value) (h2 : t.getD k undef = .pointer (some ⟨rb, 0, none⟩)) (hb : Blk w rb (rheadV s rv wv) 60) :
    (results fn t).run Try.prog w = .ok (stateV s rv wv) w := by
  have c0 := hb.cell 0 rfl
  have c1 := hb.cell 1 rfl
  have c2 := hb.cell 2 rfl
  have c3 := hb.cell 3 rfl
  have c4 := hb.cell 4 rfl
  have c5 := hb.cell 5 rfl
  have c6 := hb.cell 6 rfl
  have c7 := hb.cell 7 rfl
  have c8 := hb.cell 8 rfl
  have h2' : t[k]?.getD undef = .pointer (some ⟨rb, 0, none⟩) := by simpa using h2
  simp [results, hr, h2', go_sem, c0, c1, c2, c3, c4, c5, c6, c7, c8, stateV]
theorem rstate_code {w : World} {Y : RX} {sh : Sh} {acc : Int} {b : Nat} {s : AS} {F : List Nat} {rv wv : Value} (hL : RLive w Y sh acc b s F rv wv) : Calls Try.prog 66 #[.pointer (some ⟨b, 0, none⟩)] w fun e w' => e = .returned (stateV s rv wv) ∧ Upd [] w w' := by
  have b0 := hL.att.head.cell 0 rfl
  have b1 := hL.att.head.cell 1 rfl
  have b2 := hL.att.head.cell 2 rfl
  have b3 := hL.att.head.cell 3 rfl
  have b4 := hL.att.head.cell 4 rfl
  have b5 := hL.att.head.cell 5 rfl
  have b6 := hL.att.head.cell 6 rfl
  have b7 := hL.att.head.cell 7 rfl
  have b8 := hL.att.head.cell 8 rfl
  have hl := hL.lt
  have hne : b ≠ w.heap.size := by omega
  obtain ⟨p1, c1, rfl⟩ := hL.att.rd.form
  obtain ⟨p2, c2, rfl⟩ := hL.att.wr.form
  unfold stateV
  refine calls_all fun K hK => ?_
  go_enter Try.func66, Try.ntmps66
  go_wp2
  exact bodyPost_ret (state_results 2 rfl _ _ w.heap.size s (.slice p1 s.reads.length c1) (.slice p2 s.writes.length c2) rfl (Blk.new w _ _)) rfl (hK _ _ ⟨rfl, (Upd.refl [] _).alloc _⟩)
end Go.Proofs.Ythfeljongackcaa
set_option linter.unusedSimpArgs false
set_option linter.unusedVariables false
set_option maxRecDepth 100000
namespace Go.Proofs.Ythfeljongackcaa
open Go.RowKit

theorem LX.other {w w' : World} {X : SX} {sh sh' : Sh} {b : Nat} {s : AS} {F S : List Nat} (h : LX w X sh b s F) (u : Upd S w w') (hd : ∀ g ∈ b :: F, g ∉ S) (hX : XAt w' X sh') : LX w' X sh' b s F := by
  obtain ⟨_, _, rv, wv, mv, k⟩ := h
  obtain ⟨acc, st, hX⟩ := hX
  exact ⟨acc, st, rv, wv, mv, k.att.upd u (hd b (by simp)) (fun g hg => hd g (by simp [hg])), hX, fun g hg => ⟨Nat.lt_of_lt_of_le (k.sep g hg).1 u.size, (k.sep g hg).2⟩, k.wide⟩
theorem LX.apart {w : World} {X : SX} {sh : Sh} {a : Nat} {s : AS} {F : List Nat} (h : LX w X sh a s F) : ∀ g ∈ a :: F, g ∉ X.foot := by
  obtain ⟨_, _, rv, wv, mv, k⟩ := h
  intro g hg
  rcases List.mem_cons.1 hg with rfl | hg
  · exact k.out
  · exact (k.sep g hg).2.1

abbrev One := Nat × AS × List Nat
/-- attempts over what is shared, all in memory that is new since w0 -/
structure Many (w0 : World) (X : SX) (sh : Sh) (att : Nat → Option One) (W : World) : Prop where
  x : XAt W X sh
  hL : ∀ i a s F, att i = some (a, s, F) → LX W X sh a s F
  ap : ∀ i j a s F b t G, i ≠ j → att i = some (a, s, F) → att j = some (b, t, G) → ∀ g ∈ a :: F, g ∉ b :: G
  out : ∀ i a s F, att i = some (a, s, F) → ∀ g ∈ a :: F, w0.heap.size ≤ g
  outX : ∀ g ∈ X.foot, w0.heap.size ≤ g
  U : Upd [] w0 W

section
variable {w0 W W' : World} {X : SX} {sh sh' : Sh} {att att' : Nat → Option One}
theorem Many.outs (h : Many w0 X sh att W) {i a : Nat} {s : AS} {F : List Nat} (hi : att i = some (a, s, F)) : ∀ g ∈ own X a F, w0.heap.size ≤ g := by
  intro g hg
  simp only [own, List.mem_cons, List.mem_append] at hg
  rcases hg with k | k | k
  · exact h.out i a s F hi g (by simp [k])
  · exact h.out i a s F hi g (by simp [k])
  · exact h.outX g k
/-- a new block, or a write into a block that is nobody's -/
theorem Many.free {S : List Nat} (h : Many w0 X sh att W) (u : Upd S W W') (hS : ∀ g ∈ S, w0.heap.size ≤ g) (hX : ∀ g ∈ X.foot, g ∉ S) (hF : ∀ i a s F, att i = some (a, s, F) → ∀ g ∈ a :: F, g ∉ S) : Many w0 X sh att W' :=
  ⟨h.x.upd u hX, fun i a s F hi => (h.hL i a s F hi).other u (hF i a s F hi) (h.x.upd u hX), h.ap, h.out, h.outX, h.U.tr u (by simp) (fun x hx => .inr (hS x hx))⟩
theorem Many.free0 (h : Many w0 X sh att W) (u : Upd [] W W') : Many w0 X sh att W' := h.free u (by simp) (by simp) (by simp)
/-- one of them has done something -/
theorem Many.next (h : Many w0 X sh att W) (i : Nat) {a : Nat} {s s' : AS} {F F' : List Nat} (hi : att i = some (a, s, F)) (hL : LX W' X sh' a s' F') (u : Upd (own X a F) W W') (hF : ∀ g ∈ F', g ∈ F ∨ W.heap.size ≤ g)
    (hi' : att' i = some (a, s', F')) (hj : ∀ j, j ≠ i → att' j = att j) : Many w0 X sh' att' W' := by
  have hs := h.U.size
  have hn : ∀ g ∈ a :: F', g ∈ a :: F ∨ W.heap.size ≤ g := fun g hg => by
    rcases List.mem_cons.1 hg with k | k
    · exact .inl (by simp [k])
    · exact (hF g k).imp (fun k => by simp [k]) id
  have hlt : ∀ j b t G, att j = some (b, t, G) → ∀ g ∈ b :: G, g < W.heap.size := fun j b t G hj g hg => (h.hL j b t G hj).lt g (by simp only [own, List.mem_cons, List.mem_append]; rcases List.mem_cons.1 hg with k | k; exact .inl k; exact .inr (.inl k))
  have hd : ∀ j b t G, j ≠ i → att j = some (b, t, G) → ∀ g ∈ b :: G, g ∉ own X a F := fun j b t G hji hb g hg hm => by
    have h1 := h.ap j i b t G a s F hji hb hi g hg
    have h2 := (h.hL j b t G hb).apart g hg
    simp only [own, List.mem_cons, List.mem_append] at hm
    rcases hm with k | k | k
    · exact h1 (by simp [k])
    · exact h1 (by simp [k])
    · exact h2 k
  refine ⟨hL.xat, fun j b t G hb => ?_, fun j k b t G c r H hjk hb hc => ?_, fun j b t G hb => ?_, h.outX, h.U.tr u (by simp) (fun x hx => .inr (h.outs hi x hx))⟩
  · by_cases hji : j = i
    · subst hji
      rw [hi'] at hb
      cases hb
      exact hL
    · rw [hj j hji] at hb
      exact (h.hL j b t G hb).other u (hd j b t G hji hb) hL.xat
  · intro g hg hm
    by_cases hji : j = i
    · subst hji
      rw [hi'] at hb
      cases hb
      rw [hj k (Ne.symm hjk)] at hc
      rcases hn g hg with q | q
      · exact h.ap _ _ _ _ _ _ _ _ hjk hi hc g q hm
      · have := hlt k c r H hc g hm; omega
    · rw [hj j hji] at hb
      by_cases hki : k = i
      · subst hki
        rw [hi'] at hc
        cases hc
        rcases hn g hm with q | q
        · exact h.ap _ _ _ _ _ _ _ _ hjk hb hi g hg q
        · have := hlt j b t G hb g hg; omega
      · rw [hj k hki] at hc
        exact h.ap _ _ _ _ _ _ _ _ hjk hb hc g hg hm
  · by_cases hji : j = i
    · subst hji
      rw [hi'] at hb
      cases hb
      intro g hg
      rcases hn g hg with q | q
      · exact h.out _ _ _ _ hi g q
      · omega
    · rw [hj j hji] at hb
      exact h.out j b t G hb
/-- an attempt takes a place -/
theorem Many.set (h : Many w0 X sh att W) (i : Nat) {a : Nat} {s : AS} {F : List Nat} (hL : LX W' X sh' a s F) (u : Upd X.foot W W') (hn : ∀ g ∈ a :: F, W.heap.size ≤ g)
    (hi' : att' i = some (a, s, F)) (hj : ∀ j, j ≠ i → att' j = att j) : Many w0 X sh' att' W' := by
  have hs := h.U.size
  have hlt : ∀ j b t G, att j = some (b, t, G) → ∀ g ∈ b :: G, g < W.heap.size := fun j b t G hj g hg => (h.hL j b t G hj).lt g (by simp only [own, List.mem_cons, List.mem_append]; rcases List.mem_cons.1 hg with k | k; exact .inl k; exact .inr (.inl k))
  refine ⟨hL.xat, fun j b t G hb => ?_, fun j k b t G c r H hjk hb hc => ?_, fun j b t G hb => ?_, h.outX, h.U.tr u (by simp) (fun x hx => .inr (h.outX x hx))⟩
  · by_cases hji : j = i
    · subst hji
      rw [hi'] at hb
      cases hb
      exact hL
    · rw [hj j hji] at hb
      exact (h.hL j b t G hb).other u ((h.hL j b t G hb).apart) hL.xat
  · intro g hg hm
    by_cases hji : j = i
    · subst hji
      rw [hi'] at hb
      cases hb
      rw [hj k (Ne.symm hjk)] at hc
      have := hn g hg
      have := hlt k c r H hc g hm
      omega
    · rw [hj j hji] at hb
      by_cases hki : k = i
      · subst hki
        rw [hi'] at hc
        cases hc
        have := hn g hm
        have := hlt j b t G hb g hg
        omega
      · rw [hj k hki] at hc
        exact h.ap _ _ _ _ _ _ _ _ hjk hb hc g hg hm
  · by_cases hji : j = i
    · subst hji
      rw [hi'] at hb
      cases hb
      intro g hg
      have := hn g hg
      omega
    · rw [hj j hji] at hb
      exact h.out j b t G hb
/-- a place is emptied -/
theorem Many.drop (h : Many w0 X sh att W) (i : Nat) (hX : XAt W' X sh') (u : Upd X.foot W W') (hi' : att' i = none) (hj : ∀ j, j ≠ i → att' j = att j) : Many w0 X sh' att' W' := by
  have hs : ∀ j b t G, att' j = some (b, t, G) → att j = some (b, t, G) := fun j b t G hb => by
    by_cases hji : j = i
    · subst hji; rw [hi'] at hb; cases hb
    · rwa [hj j hji] at hb
  exact ⟨hX, fun j b t G hb => (h.hL j b t G (hs j b t G hb)).other u ((h.hL j b t G (hs j b t G hb)).apart) hX, fun j k b t G c r H hjk hb hc => h.ap j k b t G c r H hjk (hs _ _ _ _ hb) (hs _ _ _ _ hc), fun j b t G hb => h.out j b t G (hs _ _ _ _ hb), h.outX, h.U.tr u (by simp) (fun x hx => .inr (h.outX x hx))⟩
end
end Go.Proofs.Ythfeljongackcaa
