/- The document's May: phase by phase. The conditions are sizes. -/
import Derived.Test.YthfeljongackcaaM7p20
set_option linter.unusedSimpArgs false
set_option linter.unusedVariables false
set_option maxRecDepth 100000
namespace Go.Proofs.Ythfeljongackcaa
open Go.RowKit
open Go.Maps
set_option maxHeartbeats 2000000 in
theorem rmay_6b (s : AS) (rv wv : Value) (w : World) (h1 : SlC w rv s.reads) (h2 : SlC w wv s.writes) (hW : Wide s) (hl1 : s.reads.length ≤ 4611686018427387903) (hl2 : s.writes.length ≤ 4611686018427387903) (hpr : 1 ≤ s.phase ∧ s.phase ≤ 10) (hsp : SmallP s) (he1 : s.snap % 2 = 0) (he2 : s.found % 2 = 0) (hR : s.reads.length ≤ 1024) (hL : s.writes.length ≤ 1024) (hnd : (s.writes.map (·.1)).Nodup) (hp : s.phase = 6) (ht : s.thn = 7) : Calls Try.prog 69 #[stateV s rv wv] w (MayOk w s) := by
  have HM := Lib.hid (may_prog s)
  have HN := Lib.hid hnd
  clear hnd
  have HS := Lib.hid fun (W : World) (u : Upd [] w W) => rsmall s rv wv W (h1.upd0 u) (h2.upd0 u) hpr
  have HTw := Lib.hid fun (W : World) (u : Upd [] w W) => rtwice W wv s.writes (h2.upd0 u) (by omega)
  have HWr := Lib.hid fun (W : World) (u : Upd [] w W) => rwritten W wv s.writes s.addr (h2.upd0 u) (by omega)
  obtain ⟨p, c, rfl, _⟩ := h1
  obtain ⟨q, d, rfl, _⟩ := h2
  have HSP := Lib.hid hsp
  have hs0 := hW.snap
  have hf0 := hW.found
  clear hW hsp
  obtain ⟨sn, rd, wl, ph, th, ad, wo, fo, at_⟩ := s
  dsimp only at hpr hl1 hl2 hs0 hf0 HTw HWr hp ht he1 he2 hR hL
  subst hp
  subst ht
  simp only [stateV] at HS ⊢
  have HE1 := Lib.hid he1
  have HE2 := Lib.hid he2
  have k1 : (sn % 2 == 1) = false := by rw [he1]; rfl
  have k2 : (fo % 2 == 1) = false := by rw [he2]; rfl
  have k3 : decide ((1024 : Int) < (rd.length : Int)) = false := by simp; omega
  have k4 : decide ((1024 : Int) < (wl.length : Int)) = false := by simp; omega
  clear he1 he2
  obtain ⟨W, hW⟩ : ∃ W, w.alloc (.cells #[.int .u64 sn, .slice p rd.length c, .slice q wl.length d, .int .i64 6, .int .i64 7, .int .u64 ad, .int .u64 wo, .int .u64 fo, .int .i64 at_] 60) = W := ⟨_, rfl⟩
  have uW : Upd [] w W := by rw [← hW]; exact (Upd.refl [] _).alloc _
  have BW : Blk W w.heap.size [.int .u64 sn, .slice p rd.length c, .slice q wl.length d, .int .i64 6, .int .i64 7, .int .u64 ad, .int .u64 wo, .int .u64 fo, .int .i64 at_] 60 := by rw [← hW]; exact Blk.new w _ _
  have b0 := (BW).cell 0 rfl
  have b1 := (BW).cell 1 rfl
  have b2 := (BW).cell 2 rfl
  have b3 := (BW).cell 3 rfl
  have b4 := (BW).cell 4 rfl
  have b5 := (BW).cell 5 rfl
  have b6 := (BW).cell 6 rfl
  have b7 := (BW).cell 7 rfl
  have b8 := (BW).cell 8 rfl
  refine calls_all fun K hK => ?_
  go_enter Try.func69, Try.ntmps69
  go_wp2_with fail
  refine (HS.out W uW).mono ?_
  rintro e W2 ⟨⟨b, rfl, hb⟩, u2⟩
  obtain rfl : b = true := by first | exact hb.2 HSP.out | (cases b; rfl; exact absurd (hb.1 rfl) HSP.out)
  have U2 := uW.trans u2
  have B2 := BW.upd u2 (by simp)
  clear hb b0 b1 b2 b3 b4 b5 b6 b7 b8 hW
  have b0 := (B2).cell 0 rfl
  have b1 := (B2).cell 1 rfl
  have b2 := (B2).cell 2 rfl
  have b3 := (B2).cell 3 rfl
  have b4 := (B2).cell 4 rfl
  have b5 := (B2).cell 5 rfl
  have b6 := (B2).cell 6 rfl
  have b7 := (B2).cell 7 rfl
  have b8 := (B2).cell 8 rfl
  clear B2 u2 uW BW
  go_wp2_with fail
  refine (HTw.out _ U2).mono ?_
  rintro e w' ⟨⟨b, rfl, hb⟩, rfl⟩
  obtain rfl : b = false := by
    cases b
    · rfl
    · exact absurd HN.out (hb.1 rfl)
  clear hb
  go_wp2_with (go_at_call 105; refine (HWr.out _ U2).mono ?_; rintro e w' ⟨rfl, rfl⟩)
  all_goals first
    | (refine ⟨⟨false, rfl, ?_⟩, U2⟩
       simp only [Bool.false_eq_true, false_iff]
       intro hM
       have G := (HM.out.1 hM).2.2.2 (by simp)
       have g1 : 0 ≤ at_ := G.at0
       have g2 : at_ < 1 := G.at1
       first
         | (have h : at_ < 0 := by assumption
            omega)
         | (have h : at_ < 0 ∨ 1 ≤ at_ := by assumption
            omega)
         | (have h : 1 ≤ at_ := by assumption
            omega)
         | (have h : ((wl.length : Int) == 0) = true := by assumption
            have h2 : wl.length = 0 := by have := beq_iff_eq.1 h; omega
            exact G.lock rfl (List.length_eq_zero_iff.1 h2))
         | (have h : (1024 : Int) ≤ (rd.length : Int) := by assumption
            have g : rd.length ≠ 1024 := G.get1 rfl
            omega))
    | (refine ⟨⟨decide (placeI wl ad < 0), rfl, ?_⟩, U2⟩
       rw [decide_eq_true_iff]
       constructor
       · intro h
         refine HM.out.2 ⟨⟨by simp, by rfl, by simp⟩, HN.out, fun h => by simp at h, fun _ => ?_⟩
         have hsp := HSP.out
         refine ⟨?_, ?_, fun h => absurd (show true = false from h) (by decide), hsp.2.1, hsp.2.2.1, HE1.out, HE2.out, hR, hL, fun h => absurd (show false = true from h) (by decide), fun _ => ?_, fun _ => ?_⟩
         · first | exact (show 0 ≤ at_ ∧ at_ < 1 by assumption).1 | exact (small_at hsp (by simp) (by simp)).1
         · first | exact (show 0 ≤ at_ ∧ at_ < 1 by assumption).2 | exact (small_at hsp (by simp) (by simp)).2
         · have h3 : (rd.length : Int) < 1024 := by assumption
           simp only
           omega
         · exact place_neg h
       · intro hM
         have G := (HM.out.1 hM).2.2.2 (by simp)
         exact neg_place (G.get2 rfl))
    | (refine ⟨⟨true, rfl, ?_⟩, U2⟩
       simp only [true_iff]
       refine HM.out.2 ⟨⟨by simp, by rfl, by simp⟩, HN.out, fun h => by simp at h, fun _ => ?_⟩
       have hsp := HSP.out
       refine ⟨?_, ?_, hsp.1, hsp.2.1, hsp.2.2.1, HE1.out, HE2.out, hR, hL, ?_, fun h => absurd (show false = true from h) (by decide), fun h => absurd (show false = true from h) (by decide)⟩
       · first | exact (show 0 ≤ at_ ∧ at_ < 1 by assumption).1 | exact (small_at hsp (by simp) (by simp)).1
       · first | exact (show 0 ≤ at_ ∧ at_ < 1 by assumption).2 | exact (small_at hsp (by simp) (by simp)).2
       · first | exact fun h => absurd (show false = true from h) (by decide) | exact fun _ => ne_nil_len (show ((wl.length : Int) == 0) = false by assumption))
set_option maxHeartbeats 2000000 in
theorem rmay_7 (s : AS) (rv wv : Value) (w : World) (h1 : SlC w rv s.reads) (h2 : SlC w wv s.writes) (hW : Wide s) (hl1 : s.reads.length ≤ 4611686018427387903) (hl2 : s.writes.length ≤ 4611686018427387903) (hpr : 1 ≤ s.phase ∧ s.phase ≤ 10) (hsp : SmallP s) (he1 : s.snap % 2 = 0) (he2 : s.found % 2 = 0) (hR : s.reads.length ≤ 1024) (hL : s.writes.length ≤ 1024) (hnd : (s.writes.map (·.1)).Nodup) (hp : s.phase = 7) (ht : s.thn = 0) : Calls Try.prog 69 #[stateV s rv wv] w (MayOk w s) := by
  have HM := Lib.hid (may_prog s)
  have HN := Lib.hid hnd
  clear hnd
  have HS := Lib.hid fun (W : World) (u : Upd [] w W) => rsmall s rv wv W (h1.upd0 u) (h2.upd0 u) hpr
  have HTw := Lib.hid fun (W : World) (u : Upd [] w W) => rtwice W wv s.writes (h2.upd0 u) (by omega)
  have HWr := Lib.hid fun (W : World) (u : Upd [] w W) => rwritten W wv s.writes s.addr (h2.upd0 u) (by omega)
  obtain ⟨p, c, rfl, _⟩ := h1
  obtain ⟨q, d, rfl, _⟩ := h2
  have HSP := Lib.hid hsp
  have hs0 := hW.snap
  have hf0 := hW.found
  clear hW hsp
  obtain ⟨sn, rd, wl, ph, th, ad, wo, fo, at_⟩ := s
  dsimp only at hpr hl1 hl2 hs0 hf0 HTw HWr hp ht he1 he2 hR hL
  subst hp
  subst ht
  simp only [stateV] at HS ⊢
  have HE1 := Lib.hid he1
  have HE2 := Lib.hid he2
  have k1 : (sn % 2 == 1) = false := by rw [he1]; rfl
  have k2 : (fo % 2 == 1) = false := by rw [he2]; rfl
  have k3 : decide ((1024 : Int) < (rd.length : Int)) = false := by simp; omega
  have k4 : decide ((1024 : Int) < (wl.length : Int)) = false := by simp; omega
  clear he1 he2
  obtain ⟨W, hW⟩ : ∃ W, w.alloc (.cells #[.int .u64 sn, .slice p rd.length c, .slice q wl.length d, .int .i64 7, .int .i64 0, .int .u64 ad, .int .u64 wo, .int .u64 fo, .int .i64 at_] 60) = W := ⟨_, rfl⟩
  have uW : Upd [] w W := by rw [← hW]; exact (Upd.refl [] _).alloc _
  have BW : Blk W w.heap.size [.int .u64 sn, .slice p rd.length c, .slice q wl.length d, .int .i64 7, .int .i64 0, .int .u64 ad, .int .u64 wo, .int .u64 fo, .int .i64 at_] 60 := by rw [← hW]; exact Blk.new w _ _
  have b0 := (BW).cell 0 rfl
  have b1 := (BW).cell 1 rfl
  have b2 := (BW).cell 2 rfl
  have b3 := (BW).cell 3 rfl
  have b4 := (BW).cell 4 rfl
  have b5 := (BW).cell 5 rfl
  have b6 := (BW).cell 6 rfl
  have b7 := (BW).cell 7 rfl
  have b8 := (BW).cell 8 rfl
  refine calls_all fun K hK => ?_
  go_enter Try.func69, Try.ntmps69
  go_wp2_with fail
  refine (HS.out W uW).mono ?_
  rintro e W2 ⟨⟨b, rfl, hb⟩, u2⟩
  obtain rfl : b = true := by first | exact hb.2 HSP.out | (cases b; rfl; exact absurd (hb.1 rfl) HSP.out)
  have U2 := uW.trans u2
  have B2 := BW.upd u2 (by simp)
  clear hb b0 b1 b2 b3 b4 b5 b6 b7 b8 hW
  have b0 := (B2).cell 0 rfl
  have b1 := (B2).cell 1 rfl
  have b2 := (B2).cell 2 rfl
  have b3 := (B2).cell 3 rfl
  have b4 := (B2).cell 4 rfl
  have b5 := (B2).cell 5 rfl
  have b6 := (B2).cell 6 rfl
  have b7 := (B2).cell 7 rfl
  have b8 := (B2).cell 8 rfl
  clear B2 u2 uW BW
  go_wp2_with fail
  refine (HTw.out _ U2).mono ?_
  rintro e w' ⟨⟨b, rfl, hb⟩, rfl⟩
  obtain rfl : b = false := by
    cases b
    · rfl
    · exact absurd HN.out (hb.1 rfl)
  clear hb
  go_wp2_with (go_at_call 105; refine (HWr.out _ U2).mono ?_; rintro e w' ⟨rfl, rfl⟩)
  all_goals first
    | (refine ⟨⟨false, rfl, ?_⟩, U2⟩
       simp only [Bool.false_eq_true, false_iff]
       intro hM
       have G := (HM.out.1 hM).2.2.2 (by simp)
       have g1 : 0 ≤ at_ := G.at0
       have g2 : at_ < 1 := G.at1
       first
         | (have h : at_ < 0 := by assumption
            omega)
         | (have h : at_ < 0 ∨ 1 ≤ at_ := by assumption
            omega)
         | (have h : 1 ≤ at_ := by assumption
            omega)
         | (have h : ((wl.length : Int) == 0) = true := by assumption
            have h2 : wl.length = 0 := by have := beq_iff_eq.1 h; omega
            exact G.lock rfl (List.length_eq_zero_iff.1 h2))
         | (have h : (1024 : Int) ≤ (rd.length : Int) := by assumption
            have g : rd.length ≠ 1024 := G.get1 rfl
            omega))
    | (refine ⟨⟨decide (placeI wl ad < 0), rfl, ?_⟩, U2⟩
       rw [decide_eq_true_iff]
       constructor
       · intro h
         refine HM.out.2 ⟨⟨by simp, by rfl, by simp⟩, HN.out, fun h => by simp at h, fun _ => ?_⟩
         have hsp := HSP.out
         refine ⟨?_, ?_, fun h => absurd (show true = false from h) (by decide), hsp.2.1, hsp.2.2.1, HE1.out, HE2.out, hR, hL, fun h => absurd (show false = true from h) (by decide), fun _ => ?_, fun _ => ?_⟩
         · first | exact (show 0 ≤ at_ ∧ at_ < 1 by assumption).1 | exact (small_at hsp (by simp) (by simp)).1
         · first | exact (show 0 ≤ at_ ∧ at_ < 1 by assumption).2 | exact (small_at hsp (by simp) (by simp)).2
         · have h3 : (rd.length : Int) < 1024 := by assumption
           simp only
           omega
         · exact place_neg h
       · intro hM
         have G := (HM.out.1 hM).2.2.2 (by simp)
         exact neg_place (G.get2 rfl))
    | (refine ⟨⟨true, rfl, ?_⟩, U2⟩
       simp only [true_iff]
       refine HM.out.2 ⟨⟨by simp, by rfl, by simp⟩, HN.out, fun h => by simp at h, fun _ => ?_⟩
       have hsp := HSP.out
       refine ⟨?_, ?_, hsp.1, hsp.2.1, hsp.2.2.1, HE1.out, HE2.out, hR, hL, ?_, fun h => absurd (show false = true from h) (by decide), fun h => absurd (show false = true from h) (by decide)⟩
       · first | exact (show 0 ≤ at_ ∧ at_ < 1 by assumption).1 | exact (small_at hsp (by simp) (by simp)).1
       · first | exact (show 0 ≤ at_ ∧ at_ < 1 by assumption).2 | exact (small_at hsp (by simp) (by simp)).2
       · first | exact fun h => absurd (show false = true from h) (by decide) | exact fun _ => ne_nil_len (show ((wl.length : Int) == 0) = false by assumption))
set_option maxHeartbeats 2000000 in
theorem rmay_8 (s : AS) (rv wv : Value) (w : World) (h1 : SlC w rv s.reads) (h2 : SlC w wv s.writes) (hW : Wide s) (hl1 : s.reads.length ≤ 4611686018427387903) (hl2 : s.writes.length ≤ 4611686018427387903) (hpr : 1 ≤ s.phase ∧ s.phase ≤ 10) (hsp : SmallP s) (he1 : s.snap % 2 = 0) (he2 : s.found % 2 = 0) (hR : s.reads.length ≤ 1024) (hL : s.writes.length ≤ 1024) (hnd : (s.writes.map (·.1)).Nodup) (hp : s.phase = 8) (ht : s.thn = 0) : Calls Try.prog 69 #[stateV s rv wv] w (MayOk w s) := by
  have HM := Lib.hid (may_prog s)
  have HN := Lib.hid hnd
  clear hnd
  have HS := Lib.hid fun (W : World) (u : Upd [] w W) => rsmall s rv wv W (h1.upd0 u) (h2.upd0 u) hpr
  have HTw := Lib.hid fun (W : World) (u : Upd [] w W) => rtwice W wv s.writes (h2.upd0 u) (by omega)
  have HWr := Lib.hid fun (W : World) (u : Upd [] w W) => rwritten W wv s.writes s.addr (h2.upd0 u) (by omega)
  obtain ⟨p, c, rfl, _⟩ := h1
  obtain ⟨q, d, rfl, _⟩ := h2
  have HSP := Lib.hid hsp
  have hs0 := hW.snap
  have hf0 := hW.found
  clear hW hsp
  obtain ⟨sn, rd, wl, ph, th, ad, wo, fo, at_⟩ := s
  dsimp only at hpr hl1 hl2 hs0 hf0 HTw HWr hp ht he1 he2 hR hL
  subst hp
  subst ht
  simp only [stateV] at HS ⊢
  have HE1 := Lib.hid he1
  have HE2 := Lib.hid he2
  have k1 : (sn % 2 == 1) = false := by rw [he1]; rfl
  have k2 : (fo % 2 == 1) = false := by rw [he2]; rfl
  have k3 : decide ((1024 : Int) < (rd.length : Int)) = false := by simp; omega
  have k4 : decide ((1024 : Int) < (wl.length : Int)) = false := by simp; omega
  clear he1 he2
  obtain ⟨W, hW⟩ : ∃ W, w.alloc (.cells #[.int .u64 sn, .slice p rd.length c, .slice q wl.length d, .int .i64 8, .int .i64 0, .int .u64 ad, .int .u64 wo, .int .u64 fo, .int .i64 at_] 60) = W := ⟨_, rfl⟩
  have uW : Upd [] w W := by rw [← hW]; exact (Upd.refl [] _).alloc _
  have BW : Blk W w.heap.size [.int .u64 sn, .slice p rd.length c, .slice q wl.length d, .int .i64 8, .int .i64 0, .int .u64 ad, .int .u64 wo, .int .u64 fo, .int .i64 at_] 60 := by rw [← hW]; exact Blk.new w _ _
  have b0 := (BW).cell 0 rfl
  have b1 := (BW).cell 1 rfl
  have b2 := (BW).cell 2 rfl
  have b3 := (BW).cell 3 rfl
  have b4 := (BW).cell 4 rfl
  have b5 := (BW).cell 5 rfl
  have b6 := (BW).cell 6 rfl
  have b7 := (BW).cell 7 rfl
  have b8 := (BW).cell 8 rfl
  refine calls_all fun K hK => ?_
  go_enter Try.func69, Try.ntmps69
  go_wp2_with fail
  refine (HS.out W uW).mono ?_
  rintro e W2 ⟨⟨b, rfl, hb⟩, u2⟩
  obtain rfl : b = true := by first | exact hb.2 HSP.out | (cases b; rfl; exact absurd (hb.1 rfl) HSP.out)
  have U2 := uW.trans u2
  have B2 := BW.upd u2 (by simp)
  clear hb b0 b1 b2 b3 b4 b5 b6 b7 b8 hW
  have b0 := (B2).cell 0 rfl
  have b1 := (B2).cell 1 rfl
  have b2 := (B2).cell 2 rfl
  have b3 := (B2).cell 3 rfl
  have b4 := (B2).cell 4 rfl
  have b5 := (B2).cell 5 rfl
  have b6 := (B2).cell 6 rfl
  have b7 := (B2).cell 7 rfl
  have b8 := (B2).cell 8 rfl
  clear B2 u2 uW BW
  go_wp2_with fail
  refine (HTw.out _ U2).mono ?_
  rintro e w' ⟨⟨b, rfl, hb⟩, rfl⟩
  obtain rfl : b = false := by
    cases b
    · rfl
    · exact absurd HN.out (hb.1 rfl)
  clear hb
  go_wp2_with (go_at_call 105; refine (HWr.out _ U2).mono ?_; rintro e w' ⟨rfl, rfl⟩)
  all_goals first
    | (refine ⟨⟨false, rfl, ?_⟩, U2⟩
       simp only [Bool.false_eq_true, false_iff]
       intro hM
       have G := (HM.out.1 hM).2.2.2 (by simp)
       have g1 : 0 ≤ at_ := G.at0
       have g2 : at_ < (wl.length : Int) := G.at1
       first
         | (have h : at_ < 0 := by assumption
            omega)
         | (have h : at_ < 0 ∨ (wl.length : Int) ≤ at_ := by assumption
            omega)
         | (have h : (wl.length : Int) ≤ at_ := by assumption
            omega)
         | (have h : ((wl.length : Int) == 0) = true := by assumption
            have h2 : wl.length = 0 := by have := beq_iff_eq.1 h; omega
            exact G.lock rfl (List.length_eq_zero_iff.1 h2))
         | (have h : (1024 : Int) ≤ (rd.length : Int) := by assumption
            have g : rd.length ≠ 1024 := G.get1 rfl
            omega))
    | (refine ⟨⟨decide (placeI wl ad < 0), rfl, ?_⟩, U2⟩
       rw [decide_eq_true_iff]
       constructor
       · intro h
         refine HM.out.2 ⟨⟨by simp, by rfl, by simp⟩, HN.out, fun h => by simp at h, fun _ => ?_⟩
         have hsp := HSP.out
         refine ⟨?_, ?_, fun h => absurd (show true = false from h) (by decide), hsp.2.1, hsp.2.2.1, HE1.out, HE2.out, hR, hL, fun h => absurd (show false = true from h) (by decide), fun _ => ?_, fun _ => ?_⟩
         · first | exact (show 0 ≤ at_ ∧ at_ < (wl.length : Int) by assumption).1 | exact (small_at hsp (by simp) (by simp)).1
         · first | exact (show 0 ≤ at_ ∧ at_ < (wl.length : Int) by assumption).2 | exact (small_at hsp (by simp) (by simp)).2
         · have h3 : (rd.length : Int) < 1024 := by assumption
           simp only
           omega
         · exact place_neg h
       · intro hM
         have G := (HM.out.1 hM).2.2.2 (by simp)
         exact neg_place (G.get2 rfl))
    | (refine ⟨⟨true, rfl, ?_⟩, U2⟩
       simp only [true_iff]
       refine HM.out.2 ⟨⟨by simp, by rfl, by simp⟩, HN.out, fun h => by simp at h, fun _ => ?_⟩
       have hsp := HSP.out
       refine ⟨?_, ?_, hsp.1, hsp.2.1, hsp.2.2.1, HE1.out, HE2.out, hR, hL, ?_, fun h => absurd (show false = true from h) (by decide), fun h => absurd (show false = true from h) (by decide)⟩
       · first | exact (show 0 ≤ at_ ∧ at_ < (wl.length : Int) by assumption).1 | exact (small_at hsp (by simp) (by simp)).1
       · first | exact (show 0 ≤ at_ ∧ at_ < (wl.length : Int) by assumption).2 | exact (small_at hsp (by simp) (by simp)).2
       · first | exact fun h => absurd (show false = true from h) (by decide) | exact fun _ => ne_nil_len (show ((wl.length : Int) == 0) = false by assumption))
set_option maxHeartbeats 2000000 in
theorem rmay_9 (s : AS) (rv wv : Value) (w : World) (h1 : SlC w rv s.reads) (h2 : SlC w wv s.writes) (hW : Wide s) (hl1 : s.reads.length ≤ 4611686018427387903) (hl2 : s.writes.length ≤ 4611686018427387903) (hpr : 1 ≤ s.phase ∧ s.phase ≤ 10) (hsp : SmallP s) (he1 : s.snap % 2 = 0) (he2 : s.found % 2 = 0) (hR : s.reads.length ≤ 1024) (hL : s.writes.length ≤ 1024) (hnd : (s.writes.map (·.1)).Nodup) (hp : s.phase = 9) (ht : s.thn = 0) : Calls Try.prog 69 #[stateV s rv wv] w (MayOk w s) := by
  have HM := Lib.hid (may_prog s)
  have HN := Lib.hid hnd
  clear hnd
  have HS := Lib.hid fun (W : World) (u : Upd [] w W) => rsmall s rv wv W (h1.upd0 u) (h2.upd0 u) hpr
  have HTw := Lib.hid fun (W : World) (u : Upd [] w W) => rtwice W wv s.writes (h2.upd0 u) (by omega)
  have HWr := Lib.hid fun (W : World) (u : Upd [] w W) => rwritten W wv s.writes s.addr (h2.upd0 u) (by omega)
  obtain ⟨p, c, rfl, _⟩ := h1
  obtain ⟨q, d, rfl, _⟩ := h2
  have HSP := Lib.hid hsp
  have hs0 := hW.snap
  have hf0 := hW.found
  clear hW hsp
  obtain ⟨sn, rd, wl, ph, th, ad, wo, fo, at_⟩ := s
  dsimp only at hpr hl1 hl2 hs0 hf0 HTw HWr hp ht he1 he2 hR hL
  subst hp
  subst ht
  simp only [stateV] at HS ⊢
  have HE1 := Lib.hid he1
  have HE2 := Lib.hid he2
  have k1 : (sn % 2 == 1) = false := by rw [he1]; rfl
  have k2 : (fo % 2 == 1) = false := by rw [he2]; rfl
  have k3 : decide ((1024 : Int) < (rd.length : Int)) = false := by simp; omega
  have k4 : decide ((1024 : Int) < (wl.length : Int)) = false := by simp; omega
  clear he1 he2
  obtain ⟨W, hW⟩ : ∃ W, w.alloc (.cells #[.int .u64 sn, .slice p rd.length c, .slice q wl.length d, .int .i64 9, .int .i64 0, .int .u64 ad, .int .u64 wo, .int .u64 fo, .int .i64 at_] 60) = W := ⟨_, rfl⟩
  have uW : Upd [] w W := by rw [← hW]; exact (Upd.refl [] _).alloc _
  have BW : Blk W w.heap.size [.int .u64 sn, .slice p rd.length c, .slice q wl.length d, .int .i64 9, .int .i64 0, .int .u64 ad, .int .u64 wo, .int .u64 fo, .int .i64 at_] 60 := by rw [← hW]; exact Blk.new w _ _
  have b0 := (BW).cell 0 rfl
  have b1 := (BW).cell 1 rfl
  have b2 := (BW).cell 2 rfl
  have b3 := (BW).cell 3 rfl
  have b4 := (BW).cell 4 rfl
  have b5 := (BW).cell 5 rfl
  have b6 := (BW).cell 6 rfl
  have b7 := (BW).cell 7 rfl
  have b8 := (BW).cell 8 rfl
  refine calls_all fun K hK => ?_
  go_enter Try.func69, Try.ntmps69
  go_wp2_with fail
  refine (HS.out W uW).mono ?_
  rintro e W2 ⟨⟨b, rfl, hb⟩, u2⟩
  obtain rfl : b = true := by first | exact hb.2 HSP.out | (cases b; rfl; exact absurd (hb.1 rfl) HSP.out)
  have U2 := uW.trans u2
  have B2 := BW.upd u2 (by simp)
  clear hb b0 b1 b2 b3 b4 b5 b6 b7 b8 hW
  have b0 := (B2).cell 0 rfl
  have b1 := (B2).cell 1 rfl
  have b2 := (B2).cell 2 rfl
  have b3 := (B2).cell 3 rfl
  have b4 := (B2).cell 4 rfl
  have b5 := (B2).cell 5 rfl
  have b6 := (B2).cell 6 rfl
  have b7 := (B2).cell 7 rfl
  have b8 := (B2).cell 8 rfl
  clear B2 u2 uW BW
  go_wp2_with fail
  refine (HTw.out _ U2).mono ?_
  rintro e w' ⟨⟨b, rfl, hb⟩, rfl⟩
  obtain rfl : b = false := by
    cases b
    · rfl
    · exact absurd HN.out (hb.1 rfl)
  clear hb
  go_wp2_with (go_at_call 105; refine (HWr.out _ U2).mono ?_; rintro e w' ⟨rfl, rfl⟩)
  all_goals first
    | (refine ⟨⟨false, rfl, ?_⟩, U2⟩
       simp only [Bool.false_eq_true, false_iff]
       intro hM
       have G := (HM.out.1 hM).2.2.2 (by simp)
       have g1 : 0 ≤ at_ := G.at0
       have g2 : at_ < 1 := G.at1
       first
         | (have h : at_ < 0 := by assumption
            omega)
         | (have h : at_ < 0 ∨ 1 ≤ at_ := by assumption
            omega)
         | (have h : 1 ≤ at_ := by assumption
            omega)
         | (have h : ((wl.length : Int) == 0) = true := by assumption
            have h2 : wl.length = 0 := by have := beq_iff_eq.1 h; omega
            exact G.lock rfl (List.length_eq_zero_iff.1 h2))
         | (have h : (1024 : Int) ≤ (rd.length : Int) := by assumption
            have g : rd.length ≠ 1024 := G.get1 rfl
            omega))
    | (refine ⟨⟨decide (placeI wl ad < 0), rfl, ?_⟩, U2⟩
       rw [decide_eq_true_iff]
       constructor
       · intro h
         refine HM.out.2 ⟨⟨by simp, by rfl, by simp⟩, HN.out, fun h => by simp at h, fun _ => ?_⟩
         have hsp := HSP.out
         refine ⟨?_, ?_, fun h => absurd (show true = false from h) (by decide), hsp.2.1, hsp.2.2.1, HE1.out, HE2.out, hR, hL, fun h => absurd (show false = true from h) (by decide), fun _ => ?_, fun _ => ?_⟩
         · first | exact (show 0 ≤ at_ ∧ at_ < 1 by assumption).1 | exact (small_at hsp (by simp) (by simp)).1
         · first | exact (show 0 ≤ at_ ∧ at_ < 1 by assumption).2 | exact (small_at hsp (by simp) (by simp)).2
         · have h3 : (rd.length : Int) < 1024 := by assumption
           simp only
           omega
         · exact place_neg h
       · intro hM
         have G := (HM.out.1 hM).2.2.2 (by simp)
         exact neg_place (G.get2 rfl))
    | (refine ⟨⟨true, rfl, ?_⟩, U2⟩
       simp only [true_iff]
       refine HM.out.2 ⟨⟨by simp, by rfl, by simp⟩, HN.out, fun h => by simp at h, fun _ => ?_⟩
       have hsp := HSP.out
       refine ⟨?_, ?_, hsp.1, hsp.2.1, hsp.2.2.1, HE1.out, HE2.out, hR, hL, ?_, fun h => absurd (show false = true from h) (by decide), fun h => absurd (show false = true from h) (by decide)⟩
       · first | exact (show 0 ≤ at_ ∧ at_ < 1 by assumption).1 | exact (small_at hsp (by simp) (by simp)).1
       · first | exact (show 0 ≤ at_ ∧ at_ < 1 by assumption).2 | exact (small_at hsp (by simp) (by simp)).2
       · first | exact fun h => absurd (show false = true from h) (by decide) | exact fun _ => ne_nil_len (show ((wl.length : Int) == 0) = false by assumption))
set_option maxHeartbeats 2000000 in
theorem rmay_10 (s : AS) (rv wv : Value) (w : World) (h1 : SlC w rv s.reads) (h2 : SlC w wv s.writes) (hW : Wide s) (hl1 : s.reads.length ≤ 4611686018427387903) (hl2 : s.writes.length ≤ 4611686018427387903) (hpr : 1 ≤ s.phase ∧ s.phase ≤ 10) (hsp : SmallP s) (hp : s.phase = 10) : Calls Try.prog 69 #[stateV s rv wv] w (MayOk w s) := by
  have HM := Lib.hid (may_prog s)
  have ht : s.thn = 0 := by have h := hsp.2.2.2.2; simpa [validB, hp] using h
  have HS := Lib.hid fun (W : World) (u : Upd [] w W) => rsmall s rv wv W (h1.upd0 u) (h2.upd0 u) hpr
  have HTw := Lib.hid fun (W : World) (u : Upd [] w W) => rtwice W wv s.writes (h2.upd0 u) (by omega)
  have HWr := Lib.hid fun (W : World) (u : Upd [] w W) => rwritten W wv s.writes s.addr (h2.upd0 u) (by omega)
  obtain ⟨p, c, rfl, _⟩ := h1
  obtain ⟨q, d, rfl, _⟩ := h2
  have HSP := Lib.hid hsp
  have hs0 := hW.snap
  have hf0 := hW.found
  clear hW hsp
  obtain ⟨sn, rd, wl, ph, th, ad, wo, fo, at_⟩ := s
  dsimp only at hpr hl1 hl2 hs0 hf0 hp ht
  subst hp
  subst ht
  simp only [stateV] at HS ⊢
  obtain ⟨W, hW⟩ : ∃ W, w.alloc (.cells #[.int .u64 sn, .slice p rd.length c, .slice q wl.length d, .int .i64 10, .int .i64 0, .int .u64 ad, .int .u64 wo, .int .u64 fo, .int .i64 at_] 60) = W := ⟨_, rfl⟩
  have uW : Upd [] w W := by rw [← hW]; exact (Upd.refl [] _).alloc _
  have BW : Blk W w.heap.size [.int .u64 sn, .slice p rd.length c, .slice q wl.length d, .int .i64 10, .int .i64 0, .int .u64 ad, .int .u64 wo, .int .u64 fo, .int .i64 at_] 60 := by rw [← hW]; exact Blk.new w _ _
  have b0 := (BW).cell 0 rfl
  have b1 := (BW).cell 1 rfl
  have b2 := (BW).cell 2 rfl
  have b3 := (BW).cell 3 rfl
  have b4 := (BW).cell 4 rfl
  have b5 := (BW).cell 5 rfl
  have b6 := (BW).cell 6 rfl
  have b7 := (BW).cell 7 rfl
  have b8 := (BW).cell 8 rfl
  refine calls_all fun K hK => ?_
  go_enter Try.func69, Try.ntmps69
  go_wp2_with fail
  refine (HS.out W uW).mono ?_
  rintro e W2 ⟨⟨b, rfl, hb⟩, u2⟩
  obtain rfl : b = true := by first | exact hb.2 HSP.out | (cases b; rfl; exact absurd (hb.1 rfl) HSP.out)
  have U2 := uW.trans u2
  have B2 := BW.upd u2 (by simp)
  clear hb b0 b1 b2 b3 b4 b5 b6 b7 b8 hW
  have b0 := (B2).cell 0 rfl
  have b1 := (B2).cell 1 rfl
  have b2 := (B2).cell 2 rfl
  have b3 := (B2).cell 3 rfl
  have b4 := (B2).cell 4 rfl
  have b5 := (B2).cell 5 rfl
  have b6 := (B2).cell 6 rfl
  have b7 := (B2).cell 7 rfl
  have b8 := (B2).cell 8 rfl
  clear B2 u2 uW BW
  go_wp2_with fail
  all_goals first
    | (refine ⟨⟨false, rfl, ?_⟩, U2⟩
       simp only [Bool.false_eq_true, false_iff]
       intro hM
       have O := (HM.out.1 hM).2.2.1 (by simp)
       have o1 : sn = 0 := O.snap
       have o2 : rd.length + wl.length = 0 := O.len
       have o3 : rd = [] := List.length_eq_zero_iff.1 (by omega)
       first
         | exact absurd o1 (by assumption)
         | exact absurd o3 (by assumption))
    | (refine ⟨⟨((wl.length : Int) == 0), rfl, ?_⟩, U2⟩
       have o1 : sn = 0 := by assumption
       have o3 : rd = [] := by assumption
       have hsp := HSP.out
       constructor
       · intro h
         have h2 : wl.length = 0 := by have := beq_iff_eq.1 h; omega
         have h3 : wl = [] := List.length_eq_zero_iff.1 h2
         exact HM.out.2 ⟨⟨by simp, by rfl, by simp⟩, by rw [h3]; simp, fun _ => ⟨o1, hsp.1 rfl, hsp.2.1 (by simp), hsp.2.2.1 (by simp) (by simp), hsp.2.2.2.1 (by simp) (by simp), by rw [o3, h3]; rfl⟩, fun h => absurd rfl h⟩
       · intro hM
         have O := (HM.out.1 hM).2.2.1 (by simp)
         have o2 : rd.length + wl.length = 0 := O.len
         rw [beq_iff_eq]
         omega)
end Go.Proofs.Ythfeljongackcaa
