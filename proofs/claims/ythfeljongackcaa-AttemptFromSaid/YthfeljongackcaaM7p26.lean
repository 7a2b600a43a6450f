/- The program's may, phase by phase. The conditions are sizes. -/
import Derived.Test.YthfeljongackcaaM7p18
set_option linter.unusedSimpArgs false
set_option linter.unusedVariables false
set_option maxRecDepth 100000
namespace Go.Proofs.Ythfeljongackcaa
open Go.RowKit
open Go.Maps
set_option maxHeartbeats 2000000 in
theorem may_7 (s : AS) (rv wv : Value) (w : World) (h1 : SlC w rv s.reads) (h2 : SlC w wv s.writes) (hW : Wide s) (hl1 : s.reads.length ≤ 4611686018427387903) (hl2 : s.writes.length ≤ 4611686018427387903) (hp : s.phase = 7) (ht : s.thn = 0) : Calls Try.prog 53 #[stateV s rv wv] w (MayOk w s) := by
  have HM := Lib.hid (may_prog s)
  obtain ⟨p, c, rfl, _⟩ := h1
  obtain ⟨q, d, rfl, hc2⟩ := h2
  have HC := Lib.hid hc2
  clear hc2
  obtain ⟨sn, rd, wl, ph, th, ad, wo, fo, at_⟩ := s
  dsimp only at hp ht hl1 hl2
  subst hp
  subst ht
  have HW := Lib.hid hW
  clear hW
  have HV := valid_any 7
  rw [show vB 7 = (0 != 0) from rfl] at HV
  have HV := Lib.hid HV
  simp only [stateV]
  have hmm := @run_makeMap Try.prog
  have hl0 : (0 : Int) ≤ (wl.length : Int) := by omega
  refine calls_all fun K hK => ?_
  go_enter Try.func53, Try.ntmps53
  go_wp2_with fail
  obtain ⟨W, hW⟩ : ∃ W, w.alloc (.cells #[.int .u64 sn, .slice p rd.length c, .slice q wl.length d, .int .i64 7, .int .i64 0, .int .u64 ad, .int .u64 wo, .int .u64 fo, .int .i64 at_] 60) = W := ⟨_, rfl⟩
  have uW : Upd [] w W := by rw [← hW]; exact (Upd.refl [] _).alloc _
  have BW : Blk W w.heap.size [.int .u64 sn, .slice p rd.length c, .slice q wl.length d, .int .i64 7, .int .i64 0, .int .u64 ad, .int .u64 wo, .int .u64 fo, .int .i64 at_] 60 := by rw [← hW]; exact Blk.new w _ _
  rw [hW]
  clear hW
  have ud := uW.drew
  have k3 := BW.drew.cell 3 rfl
  have k4 := BW.drew.cell 4 rfl
  refine wp_region_ord (fun w' => w'.cell? ⟨w.heap.size, 3, none⟩ = some (.int .i64 7) ∧ w'.cell? ⟨w.heap.size, 4, none⟩ = some (.int .i64 0)) [0, 1, 2, 3, 4, 5, 6, 7, 8, 9, 10, 12, 13, 14, 11, 15, 16] (by kernel_rfl) (by kernel_rfl) ⟨k3, k4⟩ ?_
  have BD := BW.drew
  clear BW uW
  generalize W.drew = W2 at ud k3 k4 BD ⊢
  repeat
    first
      | (refine wpL_skip rfl (by rfl) ?_)
      | ((refine wpL_take (v := ?_) rfl rfl (by rfl) ?_ ?_); rotate_left 1; (· ((intro w hSw; (try dsimp only at hSw); go_simp); try with_reducible rfl)))
    try simp only [Act.put, List.setIfInBounds_toArray, List.set_cons_zero, List.set_cons_succ]
  refine wpL_eff rfl (by kernel_rfl) (by rfl) (fun K2 hK2 => ?_)
  go_simp
  refine (HV.out _).mono ?_
  rintro e w' ⟨rfl, rfl⟩
  refine hK2.out _ _ ⟨k3, k4⟩ ?_
  clear hK2 K2 k3 k4
  repeat
    first
      | (refine wpL_skip rfl (by rfl) ?_)
      | ((refine wpL_take (v := ?_) rfl rfl (by rfl) ?_ ?_); rotate_left 1; (· ((intro w hSw; (try dsimp only at hSw); go_simp); try with_reducible rfl)))
    try simp only [Act.put, List.setIfInBounds_toArray, List.set_cons_zero, List.set_cons_succ]
  refine wpO_end (NoPanic.normal ?_)
  have b0 := (BD).cell 0 rfl
  have b1 := (BD).cell 1 rfl
  have b2 := (BD).cell 2 rfl
  have b3 := (BD).cell 3 rfl
  have b4 := (BD).cell 4 rfl
  have b5 := (BD).cell 5 rfl
  have b6 := (BD).cell 6 rfl
  have b7 := (BD).cell 7 rfl
  have b8 := (BD).cell 8 rfl
  have lt5 := BD.lt
  have hne5 : w.heap.size ≠ W2.heap.size := by omega
  go_wp2_with fail
  have U5 : Upd [] w (W2.alloc (.map #[] 0)) := ud.alloc _
  have B5 := BD.alloc (.map #[] 0)
  have C5 := count_nil W2
  have sz5 : W2.heap.size < (W2.alloc (.map #[] 0)).heap.size := by simp
  clear b0 b1 b2 b3 b4 b5 b6 b7 b8
  clear BD ud hne5
  generalize W2.alloc (.map #[] 0) = W5 at U5 B5 C5 sz5 ⊢
  generalize W2.heap.size = m at C5 lt5 sz5 ⊢
  have HB5 := Lib.hid B5
  have HU5 := Lib.hid U5
  have HC5 := Lib.hid C5
  clear B5 U5 C5
  go_loopw [69] (fun v69 WR => ∃ k : Nat, k ≤ wl.length ∧ v69 = .int .i64 k ∧ Upd [m] W5 WR ∧ CountAt WR m k (one01 ((wl.take k).map (·.1))) ∧ ((wl.take k).map (·.1)).Nodup) (fun v69 _ => wl.length - (intOf v69).toNat)
  case atStart => exact ⟨0, by omega, rfl, Upd.refl _ _, HC5.out, by simp⟩
  case round =>
    obtain ⟨k, hk, rfl, hu, hc, hn⟩ := hrel
    have HU := Lib.hid hu
    have HCt := Lib.hid hc
    have HN := Lib.hid hn
    clear hu hc hn
    by_cases hlt : k < wl.length
    · have hlt' : (k : Int) < (wl.length : Int) := by omega
      obtain ⟨⟨x, v⟩, hxv⟩ : ∃ c, wl[k]? = some c := ⟨_, List.getElem?_eq_getElem hlt⟩
      have hwx := (HW.out.writes _ (List.mem_of_getElem? hxv)).1
      dsimp only at hwx
      obtain ⟨b, o, rfl, c0, c1⟩ := HC.out k x v hxv
      have hbl : b < w.heap.size := World.block_lt_of_cell? w _ c0
      have hcell : ∀ (o' : Nat) (v : Value), w.cell? ⟨b, o', none⟩ = some v → wr.cell? ⟨b, o', none⟩ = some v := fun o' v h => by
        have e1 := HU5.out.block b hbl (by simp)
        have e2 := HU.out.block b (Nat.lt_of_lt_of_le hbl HU5.out.size) (by simp; omega)
        exact (World.cell?_of_block (w := w) (e2.trans e1)).trans h
      replace c0 := hcell _ _ c0
      replace c1 := hcell _ _ c1
      have hT := @nodup_take (wl.map (·.1)) k x (by rw [List.getElem?_map, hxv]; rfl)
      rw [← List.map_take, ← List.map_take] at hT
      have HT := Lib.hid hT
      have HX := Lib.hid (show (wl.take (k + 1)).map (·.1) = (wl.take k).map (·.1) ++ [x] by rw [List.take_add_one, hxv]; simp)
      clear hcell hxv hT
      obtain ⟨W3, hW3⟩ : ∃ W3, wr.alloc (.cells #[.int .u64 x, .int .u64 v] 53) = W3 := ⟨_, rfl⟩
      have CB : Blk W3 wr.heap.size [.int .u64 x, .int .u64 v] 53 := by rw [← hW3]; exact Blk.new wr _ _
      have u3 : Upd [] wr W3 := by rw [← hW3]; exact (Upd.refl [] _).alloc _
      have cc0 := CB.cell 0 rfl
      have hC3 := HCt.out.upd u3 (by simp)
      have hml := HCt.out.lt
      have hne : wr.heap.size ≠ m := by omega
      have hlook := count_look hC3 hwx
      by_cases hdup : x ∈ (wl.take k).map (·.1)
      · rw [show one01 ((wl.take k).map (·.1)) x = 1 from if_pos hdup] at hlook
        obtain ⟨W4, hst, hC4, u4⟩ := count_store hC3 2 hwx (by decide) (by omega)
        have hlook2 := count_look hC4 hwx
        (try dsimp only at hlook2)
        rw [if_pos rfl] at hlook2
        have cc4 := (CB.upd u4 (by simpa using hne)).cell 0 rfl
        have hU4 := HU5.out.tr (U := []) ((HU.out.trans (u3.mono (by simp))).trans u4) (by simp) (by simp; omega)
        have HNM := Lib.hid (show ¬ (wl.map (·.1)).Nodup from fun h => by
          have h5 := nodup_of_take (k := k + 1) h
          rw [← List.map_take] at h5
          exact (HT.out.1 h5).2 hdup)
        have HU4 := Lib.hid hU4
        clear hC3 hC4 u4 hU4 HT HX hdup
        go_wp2_with (first | ((at_lookup; with_reducible refine wpList_lookup_eq rfl _ _ _ _ rfl _ _ _ rfl rfl ?_ ?_); first | exact hlook | exact hlook2) | (at_mapUpdate; refine wpList_mapUpdate_eq rfl _ _ _ _ rfl _ _ _ rfl rfl rfl hst ?_))
        exact ⟨⟨false, rfl, by simp only [Bool.false_eq_true, false_iff]; exact fun h => HNM.out (HM.out.1 h).2.1⟩, HU4.out⟩
      · rw [show one01 ((wl.take k).map (·.1)) x = 0 from if_neg hdup] at hlook
        obtain ⟨W4, hst, hC4, u4⟩ := count_store hC3 1 hwx (by decide) (by omega)
        have hlook2 := count_look hC4 hwx
        (try dsimp only at hlook2)
        rw [if_pos rfl] at hlook2
        have cc4 := (CB.upd u4 (by simpa using hne)).cell 0 rfl
        have HU4 := Lib.hid ((HU.out.trans (u3.mono (by simp))).trans u4)
        have HC4 := Lib.hid (show CountAt W4 m (k + 1) (one01 ((wl.take (k + 1)).map (·.1))) by
          obtain ⟨D, ho, hD⟩ := hC4
          refine ⟨D, ho, fun y h0 h1 => ?_⟩
          rw [hD y h0 h1]
          have : (if y = x then (1 : Int) else one01 ((wl.take k).map (·.1)) y) = one01 ((wl.take (k + 1)).map (·.1)) y := by
            rw [HX.out]
            unfold one01
            by_cases hy : y = x
            · simp [hy]
            · simp [hy]
          dsimp only
          rw [this])
        have HN4 := Lib.hid (HT.out.2 ⟨HN.out, hdup⟩)
        clear hC3 hC4 u4 HT HX hdup
        go_wp2_with (first | ((at_lookup; with_reducible refine wpList_lookup_eq rfl _ _ _ _ rfl _ _ _ rfl rfl ?_ ?_); first | exact hlook | exact hlook2) | (at_mapUpdate; refine wpList_mapUpdate_eq rfl _ _ _ _ rfl _ _ _ rfl rfl rfl hst ?_))
        go_roundw
        case rel => first | exact ⟨k + 1, by omega, by go_num, HU4.out, HC4.out, HN4.out⟩ | ((repeat apply Exists.intro); exact ⟨⟨k + 1, by omega, by go_num, HU4.out, HC4.out, HN4.out⟩, rfl⟩)
        case measure => simp [intOf]; omega
    · obtain rfl : k = wl.length := by omega
      rw [List.take_length] at HCt HN
      have HB := Lib.hid (HB5.out.upd HU.out (by simp; omega))
      have HF := Lib.hid (HU5.out.tr (U := []) HU.out (by simp) (by simp; omega))
      clear HB5 HU5 HC5 HU
      have b0 := (HB.out).cell 0 rfl
      have b1 := (HB.out).cell 1 rfl
      have b2 := (HB.out).cell 2 rfl
      have b3 := (HB.out).cell 3 rfl
      have b4 := (HB.out).cell 4 rfl
      have b5 := (HB.out).cell 5 rfl
      have b6 := (HB.out).cell 6 rfl
      have b7 := (HB.out).cell 7 rfl
      have b8 := (HB.out).cell 8 rfl
      have hlk := count_look HCt.out HW.out.addr
      (try dsimp only at hlk)
      go_wp2_with (first | ((at_lookup; refine wpList_lookup_want (by rfl) _ _ _ _ rfl _ _ _ rfl rfl ?_ ?_); exact hlk) | (go_at_call 43; refine (open_any _ _).mono ?_; rintro e w' ⟨rfl, rfl⟩))
      all_goals first
        | (refine ⟨⟨false, rfl, ?_⟩, HF.out⟩
           simp only [Bool.false_eq_true, false_iff]
           intro hM
           have G := (HM.out.1 hM).2.2.2 (by simp)
           have g1 : 0 ≤ at_ := G.at0
           have g2 : at_ < 1 := G.at1
           have g3 : rd.length ≤ 1024 := G.lenR
           have g4 : wl.length ≤ 1024 := G.lenW
           first
             | (have h : at_ < 0 := by assumption
                omega)
             | (have h : at_ < 0 ∨ 1 ≤ at_ := by assumption
                omega)
             | (have h : (1024 : Int) < (rd.length : Int) := by assumption
                omega)
             | (have h : (1024 : Int) < (rd.length : Int) ∨ (1024 : Int) < (wl.length : Int) := by assumption
                omega)
             | (have h : ¬ opn sn = true := by assumption
                exact not_opn HW.out.snap G.snap2 h)
             | (have h : (!opn fo) = true := by assumption
                exact not_opn HW.out.found G.found2 (by simpa using h))
             | (have h : (ad != 0) = true := by assumption
                have g : ad = 0 := G.addr rfl
                rw [g] at h; exact absurd h (by decide))
             | (have h : (wo != 0) = true := by assumption
                have g : wo = 0 := G.word (by simp)
                rw [g] at h; exact absurd h (by decide))
             | (have h : (fo != 0) = true := by assumption
                have g : fo = 0 := G.found (by simp) (by simp)
                rw [g] at h; exact absurd h (by decide))
             | (have h : ((wl.length : Int) == 0) = true := by assumption
                have h2 : wl.length = 0 := by have := beq_iff_eq.1 h; omega
                exact G.lock rfl (List.length_eq_zero_iff.1 h2))
             | (have h : (rd.length : Int) = 1024 := by assumption
                have g : rd.length ≠ 1024 := G.get1 rfl
                omega)
             | (have h : ((rd.length : Int) == 1024) = true ∨ 0 < one01 (wl.map (·.1)) ad := by assumption
                have g : rd.length ≠ 1024 := G.get1 rfl
                rcases h with h | h
                · have := beq_iff_eq.1 h; omega
                · exact G.get2 rfl (one01_pos h)))
        | (refine ⟨⟨true, rfl, ?_⟩, HF.out⟩
           simp only [true_iff]
           refine HM.out.2 ⟨⟨by simp, by rfl, by simp⟩, HN.out, fun h => by simp at h, fun _ => ⟨?_, ?_, ?_, ?_, ?_, ?_, ?_, ?_, ?_, ?_, ?_, ?_⟩⟩
           · exact (show 0 ≤ at_ ∧ at_ < 1 by assumption).1
           · exact (show 0 ≤ at_ ∧ at_ < 1 by assumption).2
           · first | exact fun h => absurd (show true = false from h) (by decide) | exact fun _ => bne_eq_false_iff_eq.1 (show (ad != 0) = false by assumption)
           · first | exact fun h => absurd rfl h | exact fun _ => bne_eq_false_iff_eq.1 (show (wo != 0) = false by assumption)
           · first | exact fun h _ => absurd rfl h | exact fun _ h => absurd rfl h | exact fun _ _ => bne_eq_false_iff_eq.1 (show (fo != 0) = false by assumption)
           · exact opn_even HW.out.snap (show opn sn = true by assumption)
           · exact opn_even HW.out.found (opn_not (show (!opn fo) = false by assumption))
           · exact le_1024 (show (rd.length : Int) ≤ 1024 ∧ (wl.length : Int) ≤ 1024 by assumption).1
           · exact le_1024 (show (rd.length : Int) ≤ 1024 ∧ (wl.length : Int) ≤ 1024 by assumption).2
           · first | exact fun h => absurd (show false = true from h) (by decide) | exact fun _ => ne_nil_len (show ((wl.length : Int) == 0) = false by assumption)
           · first | exact fun h => absurd (show false = true from h) (by decide) | exact fun _ => ne_1024 (show ((rd.length : Int) == 1024) = false ∧ one01 (wl.map (·.1)) ad ≤ 0 by assumption).1
           · first | exact fun h => absurd (show false = true from h) (by decide) | exact fun _ => one01_not (show ((rd.length : Int) == 1024) = false ∧ one01 (wl.map (·.1)) ad ≤ 0 by assumption).2)
set_option maxHeartbeats 2000000 in
theorem may_8 (s : AS) (rv wv : Value) (w : World) (h1 : SlC w rv s.reads) (h2 : SlC w wv s.writes) (hW : Wide s) (hl1 : s.reads.length ≤ 4611686018427387903) (hl2 : s.writes.length ≤ 4611686018427387903) (hp : s.phase = 8) (ht : s.thn = 0) : Calls Try.prog 53 #[stateV s rv wv] w (MayOk w s) := by
  have HM := Lib.hid (may_prog s)
  obtain ⟨p, c, rfl, _⟩ := h1
  obtain ⟨q, d, rfl, hc2⟩ := h2
  have HC := Lib.hid hc2
  clear hc2
  obtain ⟨sn, rd, wl, ph, th, ad, wo, fo, at_⟩ := s
  dsimp only at hp ht hl1 hl2
  subst hp
  subst ht
  have HW := Lib.hid hW
  clear hW
  have HV := valid_any 8
  rw [show vB 8 = (0 != 0) from rfl] at HV
  have HV := Lib.hid HV
  simp only [stateV]
  have hmm := @run_makeMap Try.prog
  have hl0 : (0 : Int) ≤ (wl.length : Int) := by omega
  refine calls_all fun K hK => ?_
  go_enter Try.func53, Try.ntmps53
  go_wp2_with fail
  obtain ⟨W, hW⟩ : ∃ W, w.alloc (.cells #[.int .u64 sn, .slice p rd.length c, .slice q wl.length d, .int .i64 8, .int .i64 0, .int .u64 ad, .int .u64 wo, .int .u64 fo, .int .i64 at_] 60) = W := ⟨_, rfl⟩
  have uW : Upd [] w W := by rw [← hW]; exact (Upd.refl [] _).alloc _
  have BW : Blk W w.heap.size [.int .u64 sn, .slice p rd.length c, .slice q wl.length d, .int .i64 8, .int .i64 0, .int .u64 ad, .int .u64 wo, .int .u64 fo, .int .i64 at_] 60 := by rw [← hW]; exact Blk.new w _ _
  rw [hW]
  clear hW
  have ud := uW.drew
  have k3 := BW.drew.cell 3 rfl
  have k4 := BW.drew.cell 4 rfl
  refine wp_region_ord (fun w' => w'.cell? ⟨w.heap.size, 3, none⟩ = some (.int .i64 8) ∧ w'.cell? ⟨w.heap.size, 4, none⟩ = some (.int .i64 0)) [0, 1, 2, 3, 4, 5, 6, 7, 8, 9, 10, 12, 13, 14, 11, 15, 16] (by kernel_rfl) (by kernel_rfl) ⟨k3, k4⟩ ?_
  have BD := BW.drew
  clear BW uW
  generalize W.drew = W2 at ud k3 k4 BD ⊢
  repeat
    first
      | (refine wpL_skip rfl (by rfl) ?_)
      | ((refine wpL_take (v := ?_) rfl rfl (by rfl) ?_ ?_); rotate_left 1; (· ((intro w hSw; (try dsimp only at hSw); go_simp); try with_reducible rfl)))
    try simp only [Act.put, List.setIfInBounds_toArray, List.set_cons_zero, List.set_cons_succ]
  refine wpL_eff rfl (by kernel_rfl) (by rfl) (fun K2 hK2 => ?_)
  go_simp
  refine (HV.out _).mono ?_
  rintro e w' ⟨rfl, rfl⟩
  refine hK2.out _ _ ⟨k3, k4⟩ ?_
  clear hK2 K2 k3 k4
  repeat
    first
      | (refine wpL_skip rfl (by rfl) ?_)
      | ((refine wpL_take (v := ?_) rfl rfl (by rfl) ?_ ?_); rotate_left 1; (· ((intro w hSw; (try dsimp only at hSw); go_simp); try with_reducible rfl)))
    try simp only [Act.put, List.setIfInBounds_toArray, List.set_cons_zero, List.set_cons_succ]
  refine wpO_end (NoPanic.normal ?_)
  have b0 := (BD).cell 0 rfl
  have b1 := (BD).cell 1 rfl
  have b2 := (BD).cell 2 rfl
  have b3 := (BD).cell 3 rfl
  have b4 := (BD).cell 4 rfl
  have b5 := (BD).cell 5 rfl
  have b6 := (BD).cell 6 rfl
  have b7 := (BD).cell 7 rfl
  have b8 := (BD).cell 8 rfl
  have lt5 := BD.lt
  have hne5 : w.heap.size ≠ W2.heap.size := by omega
  go_wp2_with fail
  have U5 : Upd [] w (W2.alloc (.map #[] 0)) := ud.alloc _
  have B5 := BD.alloc (.map #[] 0)
  have C5 := count_nil W2
  have sz5 : W2.heap.size < (W2.alloc (.map #[] 0)).heap.size := by simp
  clear b0 b1 b2 b3 b4 b5 b6 b7 b8
  clear BD ud hne5
  generalize W2.alloc (.map #[] 0) = W5 at U5 B5 C5 sz5 ⊢
  generalize W2.heap.size = m at C5 lt5 sz5 ⊢
  have HB5 := Lib.hid B5
  have HU5 := Lib.hid U5
  have HC5 := Lib.hid C5
  clear B5 U5 C5
  go_loopw [69] (fun v69 WR => ∃ k : Nat, k ≤ wl.length ∧ v69 = .int .i64 k ∧ Upd [m] W5 WR ∧ CountAt WR m k (one01 ((wl.take k).map (·.1))) ∧ ((wl.take k).map (·.1)).Nodup) (fun v69 _ => wl.length - (intOf v69).toNat)
  case atStart => exact ⟨0, by omega, rfl, Upd.refl _ _, HC5.out, by simp⟩
  case round =>
    obtain ⟨k, hk, rfl, hu, hc, hn⟩ := hrel
    have HU := Lib.hid hu
    have HCt := Lib.hid hc
    have HN := Lib.hid hn
    clear hu hc hn
    by_cases hlt : k < wl.length
    · have hlt' : (k : Int) < (wl.length : Int) := by omega
      obtain ⟨⟨x, v⟩, hxv⟩ : ∃ c, wl[k]? = some c := ⟨_, List.getElem?_eq_getElem hlt⟩
      have hwx := (HW.out.writes _ (List.mem_of_getElem? hxv)).1
      dsimp only at hwx
      obtain ⟨b, o, rfl, c0, c1⟩ := HC.out k x v hxv
      have hbl : b < w.heap.size := World.block_lt_of_cell? w _ c0
      have hcell : ∀ (o' : Nat) (v : Value), w.cell? ⟨b, o', none⟩ = some v → wr.cell? ⟨b, o', none⟩ = some v := fun o' v h => by
        have e1 := HU5.out.block b hbl (by simp)
        have e2 := HU.out.block b (Nat.lt_of_lt_of_le hbl HU5.out.size) (by simp; omega)
        exact (World.cell?_of_block (w := w) (e2.trans e1)).trans h
      replace c0 := hcell _ _ c0
      replace c1 := hcell _ _ c1
      have hT := @nodup_take (wl.map (·.1)) k x (by rw [List.getElem?_map, hxv]; rfl)
      rw [← List.map_take, ← List.map_take] at hT
      have HT := Lib.hid hT
      have HX := Lib.hid (show (wl.take (k + 1)).map (·.1) = (wl.take k).map (·.1) ++ [x] by rw [List.take_add_one, hxv]; simp)
      clear hcell hxv hT
      obtain ⟨W3, hW3⟩ : ∃ W3, wr.alloc (.cells #[.int .u64 x, .int .u64 v] 53) = W3 := ⟨_, rfl⟩
      have CB : Blk W3 wr.heap.size [.int .u64 x, .int .u64 v] 53 := by rw [← hW3]; exact Blk.new wr _ _
      have u3 : Upd [] wr W3 := by rw [← hW3]; exact (Upd.refl [] _).alloc _
      have cc0 := CB.cell 0 rfl
      have hC3 := HCt.out.upd u3 (by simp)
      have hml := HCt.out.lt
      have hne : wr.heap.size ≠ m := by omega
      have hlook := count_look hC3 hwx
      by_cases hdup : x ∈ (wl.take k).map (·.1)
      · rw [show one01 ((wl.take k).map (·.1)) x = 1 from if_pos hdup] at hlook
        obtain ⟨W4, hst, hC4, u4⟩ := count_store hC3 2 hwx (by decide) (by omega)
        have hlook2 := count_look hC4 hwx
        (try dsimp only at hlook2)
        rw [if_pos rfl] at hlook2
        have cc4 := (CB.upd u4 (by simpa using hne)).cell 0 rfl
        have hU4 := HU5.out.tr (U := []) ((HU.out.trans (u3.mono (by simp))).trans u4) (by simp) (by simp; omega)
        have HNM := Lib.hid (show ¬ (wl.map (·.1)).Nodup from fun h => by
          have h5 := nodup_of_take (k := k + 1) h
          rw [← List.map_take] at h5
          exact (HT.out.1 h5).2 hdup)
        have HU4 := Lib.hid hU4
        clear hC3 hC4 u4 hU4 HT HX hdup
        go_wp2_with (first | ((at_lookup; with_reducible refine wpList_lookup_eq rfl _ _ _ _ rfl _ _ _ rfl rfl ?_ ?_); first | exact hlook | exact hlook2) | (at_mapUpdate; refine wpList_mapUpdate_eq rfl _ _ _ _ rfl _ _ _ rfl rfl rfl hst ?_))
        exact ⟨⟨false, rfl, by simp only [Bool.false_eq_true, false_iff]; exact fun h => HNM.out (HM.out.1 h).2.1⟩, HU4.out⟩
      · rw [show one01 ((wl.take k).map (·.1)) x = 0 from if_neg hdup] at hlook
        obtain ⟨W4, hst, hC4, u4⟩ := count_store hC3 1 hwx (by decide) (by omega)
        have hlook2 := count_look hC4 hwx
        (try dsimp only at hlook2)
        rw [if_pos rfl] at hlook2
        have cc4 := (CB.upd u4 (by simpa using hne)).cell 0 rfl
        have HU4 := Lib.hid ((HU.out.trans (u3.mono (by simp))).trans u4)
        have HC4 := Lib.hid (show CountAt W4 m (k + 1) (one01 ((wl.take (k + 1)).map (·.1))) by
          obtain ⟨D, ho, hD⟩ := hC4
          refine ⟨D, ho, fun y h0 h1 => ?_⟩
          rw [hD y h0 h1]
          have : (if y = x then (1 : Int) else one01 ((wl.take k).map (·.1)) y) = one01 ((wl.take (k + 1)).map (·.1)) y := by
            rw [HX.out]
            unfold one01
            by_cases hy : y = x
            · simp [hy]
            · simp [hy]
          dsimp only
          rw [this])
        have HN4 := Lib.hid (HT.out.2 ⟨HN.out, hdup⟩)
        clear hC3 hC4 u4 HT HX hdup
        go_wp2_with (first | ((at_lookup; with_reducible refine wpList_lookup_eq rfl _ _ _ _ rfl _ _ _ rfl rfl ?_ ?_); first | exact hlook | exact hlook2) | (at_mapUpdate; refine wpList_mapUpdate_eq rfl _ _ _ _ rfl _ _ _ rfl rfl rfl hst ?_))
        go_roundw
        case rel => first | exact ⟨k + 1, by omega, by go_num, HU4.out, HC4.out, HN4.out⟩ | ((repeat apply Exists.intro); exact ⟨⟨k + 1, by omega, by go_num, HU4.out, HC4.out, HN4.out⟩, rfl⟩)
        case measure => simp [intOf]; omega
    · obtain rfl : k = wl.length := by omega
      rw [List.take_length] at HCt HN
      have HB := Lib.hid (HB5.out.upd HU.out (by simp; omega))
      have HF := Lib.hid (HU5.out.tr (U := []) HU.out (by simp) (by simp; omega))
      clear HB5 HU5 HC5 HU
      have b0 := (HB.out).cell 0 rfl
      have b1 := (HB.out).cell 1 rfl
      have b2 := (HB.out).cell 2 rfl
      have b3 := (HB.out).cell 3 rfl
      have b4 := (HB.out).cell 4 rfl
      have b5 := (HB.out).cell 5 rfl
      have b6 := (HB.out).cell 6 rfl
      have b7 := (HB.out).cell 7 rfl
      have b8 := (HB.out).cell 8 rfl
      have hlk := count_look HCt.out HW.out.addr
      (try dsimp only at hlk)
      go_wp2_with (first | ((at_lookup; refine wpList_lookup_want (by rfl) _ _ _ _ rfl _ _ _ rfl rfl ?_ ?_); exact hlk) | (go_at_call 43; refine (open_any _ _).mono ?_; rintro e w' ⟨rfl, rfl⟩))
      all_goals first
        | (refine ⟨⟨false, rfl, ?_⟩, HF.out⟩
           simp only [Bool.false_eq_true, false_iff]
           intro hM
           have G := (HM.out.1 hM).2.2.2 (by simp)
           have g1 : 0 ≤ at_ := G.at0
           have g2 : at_ < (wl.length : Int) := G.at1
           have g3 : rd.length ≤ 1024 := G.lenR
           have g4 : wl.length ≤ 1024 := G.lenW
           first
             | (have h : at_ < 0 := by assumption
                omega)
             | (have h : at_ < 0 ∨ (wl.length : Int) ≤ at_ := by assumption
                omega)
             | (have h : (1024 : Int) < (rd.length : Int) := by assumption
                omega)
             | (have h : (1024 : Int) < (rd.length : Int) ∨ (1024 : Int) < (wl.length : Int) := by assumption
                omega)
             | (have h : ¬ opn sn = true := by assumption
                exact not_opn HW.out.snap G.snap2 h)
             | (have h : (!opn fo) = true := by assumption
                exact not_opn HW.out.found G.found2 (by simpa using h))
             | (have h : (ad != 0) = true := by assumption
                have g : ad = 0 := G.addr rfl
                rw [g] at h; exact absurd h (by decide))
             | (have h : (wo != 0) = true := by assumption
                have g : wo = 0 := G.word (by simp)
                rw [g] at h; exact absurd h (by decide))
             | (have h : (fo != 0) = true := by assumption
                have g : fo = 0 := G.found (by simp) (by simp)
                rw [g] at h; exact absurd h (by decide))
             | (have h : ((wl.length : Int) == 0) = true := by assumption
                have h2 : wl.length = 0 := by have := beq_iff_eq.1 h; omega
                exact G.lock rfl (List.length_eq_zero_iff.1 h2))
             | (have h : (rd.length : Int) = 1024 := by assumption
                have g : rd.length ≠ 1024 := G.get1 rfl
                omega)
             | (have h : ((rd.length : Int) == 1024) = true ∨ 0 < one01 (wl.map (·.1)) ad := by assumption
                have g : rd.length ≠ 1024 := G.get1 rfl
                rcases h with h | h
                · have := beq_iff_eq.1 h; omega
                · exact G.get2 rfl (one01_pos h)))
        | (refine ⟨⟨true, rfl, ?_⟩, HF.out⟩
           simp only [true_iff]
           refine HM.out.2 ⟨⟨by simp, by rfl, by simp⟩, HN.out, fun h => by simp at h, fun _ => ⟨?_, ?_, ?_, ?_, ?_, ?_, ?_, ?_, ?_, ?_, ?_, ?_⟩⟩
           · exact (show 0 ≤ at_ ∧ at_ < (wl.length : Int) by assumption).1
           · exact (show 0 ≤ at_ ∧ at_ < (wl.length : Int) by assumption).2
           · first | exact fun h => absurd (show true = false from h) (by decide) | exact fun _ => bne_eq_false_iff_eq.1 (show (ad != 0) = false by assumption)
           · first | exact fun h => absurd rfl h | exact fun _ => bne_eq_false_iff_eq.1 (show (wo != 0) = false by assumption)
           · first | exact fun h _ => absurd rfl h | exact fun _ h => absurd rfl h | exact fun _ _ => bne_eq_false_iff_eq.1 (show (fo != 0) = false by assumption)
           · exact opn_even HW.out.snap (show opn sn = true by assumption)
           · exact opn_even HW.out.found (opn_not (show (!opn fo) = false by assumption))
           · exact le_1024 (show (rd.length : Int) ≤ 1024 ∧ (wl.length : Int) ≤ 1024 by assumption).1
           · exact le_1024 (show (rd.length : Int) ≤ 1024 ∧ (wl.length : Int) ≤ 1024 by assumption).2
           · first | exact fun h => absurd (show false = true from h) (by decide) | exact fun _ => ne_nil_len (show ((wl.length : Int) == 0) = false by assumption)
           · first | exact fun h => absurd (show false = true from h) (by decide) | exact fun _ => ne_1024 (show ((rd.length : Int) == 1024) = false ∧ one01 (wl.map (·.1)) ad ≤ 0 by assumption).1
           · first | exact fun h => absurd (show false = true from h) (by decide) | exact fun _ => one01_not (show ((rd.length : Int) == 1024) = false ∧ one01 (wl.map (·.1)) ad ≤ 0 by assumption).2)
set_option maxHeartbeats 2000000 in
theorem may_9 (s : AS) (rv wv : Value) (w : World) (h1 : SlC w rv s.reads) (h2 : SlC w wv s.writes) (hW : Wide s) (hl1 : s.reads.length ≤ 4611686018427387903) (hl2 : s.writes.length ≤ 4611686018427387903) (hp : s.phase = 9) (ht : s.thn = 0) : Calls Try.prog 53 #[stateV s rv wv] w (MayOk w s) := by
  have HM := Lib.hid (may_prog s)
  obtain ⟨p, c, rfl, _⟩ := h1
  obtain ⟨q, d, rfl, hc2⟩ := h2
  have HC := Lib.hid hc2
  clear hc2
  obtain ⟨sn, rd, wl, ph, th, ad, wo, fo, at_⟩ := s
  dsimp only at hp ht hl1 hl2
  subst hp
  subst ht
  have HW := Lib.hid hW
  clear hW
  have HV := valid_any 9
  rw [show vB 9 = (0 != 0) from rfl] at HV
  have HV := Lib.hid HV
  simp only [stateV]
  have hmm := @run_makeMap Try.prog
  have hl0 : (0 : Int) ≤ (wl.length : Int) := by omega
  refine calls_all fun K hK => ?_
  go_enter Try.func53, Try.ntmps53
  go_wp2_with fail
  obtain ⟨W, hW⟩ : ∃ W, w.alloc (.cells #[.int .u64 sn, .slice p rd.length c, .slice q wl.length d, .int .i64 9, .int .i64 0, .int .u64 ad, .int .u64 wo, .int .u64 fo, .int .i64 at_] 60) = W := ⟨_, rfl⟩
  have uW : Upd [] w W := by rw [← hW]; exact (Upd.refl [] _).alloc _
  have BW : Blk W w.heap.size [.int .u64 sn, .slice p rd.length c, .slice q wl.length d, .int .i64 9, .int .i64 0, .int .u64 ad, .int .u64 wo, .int .u64 fo, .int .i64 at_] 60 := by rw [← hW]; exact Blk.new w _ _
  rw [hW]
  clear hW
  have ud := uW.drew
  have k3 := BW.drew.cell 3 rfl
  have k4 := BW.drew.cell 4 rfl
  refine wp_region_ord (fun w' => w'.cell? ⟨w.heap.size, 3, none⟩ = some (.int .i64 9) ∧ w'.cell? ⟨w.heap.size, 4, none⟩ = some (.int .i64 0)) [0, 1, 2, 3, 4, 5, 6, 7, 8, 9, 10, 12, 13, 14, 11, 15, 16] (by kernel_rfl) (by kernel_rfl) ⟨k3, k4⟩ ?_
  have BD := BW.drew
  clear BW uW
  generalize W.drew = W2 at ud k3 k4 BD ⊢
  repeat
    first
      | (refine wpL_skip rfl (by rfl) ?_)
      | ((refine wpL_take (v := ?_) rfl rfl (by rfl) ?_ ?_); rotate_left 1; (· ((intro w hSw; (try dsimp only at hSw); go_simp); try with_reducible rfl)))
    try simp only [Act.put, List.setIfInBounds_toArray, List.set_cons_zero, List.set_cons_succ]
  refine wpL_eff rfl (by kernel_rfl) (by rfl) (fun K2 hK2 => ?_)
  go_simp
  refine (HV.out _).mono ?_
  rintro e w' ⟨rfl, rfl⟩
  refine hK2.out _ _ ⟨k3, k4⟩ ?_
  clear hK2 K2 k3 k4
  repeat
    first
      | (refine wpL_skip rfl (by rfl) ?_)
      | ((refine wpL_take (v := ?_) rfl rfl (by rfl) ?_ ?_); rotate_left 1; (· ((intro w hSw; (try dsimp only at hSw); go_simp); try with_reducible rfl)))
    try simp only [Act.put, List.setIfInBounds_toArray, List.set_cons_zero, List.set_cons_succ]
  refine wpO_end (NoPanic.normal ?_)
  have b0 := (BD).cell 0 rfl
  have b1 := (BD).cell 1 rfl
  have b2 := (BD).cell 2 rfl
  have b3 := (BD).cell 3 rfl
  have b4 := (BD).cell 4 rfl
  have b5 := (BD).cell 5 rfl
  have b6 := (BD).cell 6 rfl
  have b7 := (BD).cell 7 rfl
  have b8 := (BD).cell 8 rfl
  have lt5 := BD.lt
  have hne5 : w.heap.size ≠ W2.heap.size := by omega
  go_wp2_with fail
  have U5 : Upd [] w (W2.alloc (.map #[] 0)) := ud.alloc _
  have B5 := BD.alloc (.map #[] 0)
  have C5 := count_nil W2
  have sz5 : W2.heap.size < (W2.alloc (.map #[] 0)).heap.size := by simp
  clear b0 b1 b2 b3 b4 b5 b6 b7 b8
  clear BD ud hne5
  generalize W2.alloc (.map #[] 0) = W5 at U5 B5 C5 sz5 ⊢
  generalize W2.heap.size = m at C5 lt5 sz5 ⊢
  have HB5 := Lib.hid B5
  have HU5 := Lib.hid U5
  have HC5 := Lib.hid C5
  clear B5 U5 C5
  go_loopw [69] (fun v69 WR => ∃ k : Nat, k ≤ wl.length ∧ v69 = .int .i64 k ∧ Upd [m] W5 WR ∧ CountAt WR m k (one01 ((wl.take k).map (·.1))) ∧ ((wl.take k).map (·.1)).Nodup) (fun v69 _ => wl.length - (intOf v69).toNat)
  case atStart => exact ⟨0, by omega, rfl, Upd.refl _ _, HC5.out, by simp⟩
  case round =>
    obtain ⟨k, hk, rfl, hu, hc, hn⟩ := hrel
    have HU := Lib.hid hu
    have HCt := Lib.hid hc
    have HN := Lib.hid hn
    clear hu hc hn
    by_cases hlt : k < wl.length
    · have hlt' : (k : Int) < (wl.length : Int) := by omega
      obtain ⟨⟨x, v⟩, hxv⟩ : ∃ c, wl[k]? = some c := ⟨_, List.getElem?_eq_getElem hlt⟩
      have hwx := (HW.out.writes _ (List.mem_of_getElem? hxv)).1
      dsimp only at hwx
      obtain ⟨b, o, rfl, c0, c1⟩ := HC.out k x v hxv
      have hbl : b < w.heap.size := World.block_lt_of_cell? w _ c0
      have hcell : ∀ (o' : Nat) (v : Value), w.cell? ⟨b, o', none⟩ = some v → wr.cell? ⟨b, o', none⟩ = some v := fun o' v h => by
        have e1 := HU5.out.block b hbl (by simp)
        have e2 := HU.out.block b (Nat.lt_of_lt_of_le hbl HU5.out.size) (by simp; omega)
        exact (World.cell?_of_block (w := w) (e2.trans e1)).trans h
      replace c0 := hcell _ _ c0
      replace c1 := hcell _ _ c1
      have hT := @nodup_take (wl.map (·.1)) k x (by rw [List.getElem?_map, hxv]; rfl)
      rw [← List.map_take, ← List.map_take] at hT
      have HT := Lib.hid hT
      have HX := Lib.hid (show (wl.take (k + 1)).map (·.1) = (wl.take k).map (·.1) ++ [x] by rw [List.take_add_one, hxv]; simp)
      clear hcell hxv hT
      obtain ⟨W3, hW3⟩ : ∃ W3, wr.alloc (.cells #[.int .u64 x, .int .u64 v] 53) = W3 := ⟨_, rfl⟩
      have CB : Blk W3 wr.heap.size [.int .u64 x, .int .u64 v] 53 := by rw [← hW3]; exact Blk.new wr _ _
      have u3 : Upd [] wr W3 := by rw [← hW3]; exact (Upd.refl [] _).alloc _
      have cc0 := CB.cell 0 rfl
      have hC3 := HCt.out.upd u3 (by simp)
      have hml := HCt.out.lt
      have hne : wr.heap.size ≠ m := by omega
      have hlook := count_look hC3 hwx
      by_cases hdup : x ∈ (wl.take k).map (·.1)
      · rw [show one01 ((wl.take k).map (·.1)) x = 1 from if_pos hdup] at hlook
        obtain ⟨W4, hst, hC4, u4⟩ := count_store hC3 2 hwx (by decide) (by omega)
        have hlook2 := count_look hC4 hwx
        (try dsimp only at hlook2)
        rw [if_pos rfl] at hlook2
        have cc4 := (CB.upd u4 (by simpa using hne)).cell 0 rfl
        have hU4 := HU5.out.tr (U := []) ((HU.out.trans (u3.mono (by simp))).trans u4) (by simp) (by simp; omega)
        have HNM := Lib.hid (show ¬ (wl.map (·.1)).Nodup from fun h => by
          have h5 := nodup_of_take (k := k + 1) h
          rw [← List.map_take] at h5
          exact (HT.out.1 h5).2 hdup)
        have HU4 := Lib.hid hU4
        clear hC3 hC4 u4 hU4 HT HX hdup
        go_wp2_with (first | ((at_lookup; with_reducible refine wpList_lookup_eq rfl _ _ _ _ rfl _ _ _ rfl rfl ?_ ?_); first | exact hlook | exact hlook2) | (at_mapUpdate; refine wpList_mapUpdate_eq rfl _ _ _ _ rfl _ _ _ rfl rfl rfl hst ?_))
        exact ⟨⟨false, rfl, by simp only [Bool.false_eq_true, false_iff]; exact fun h => HNM.out (HM.out.1 h).2.1⟩, HU4.out⟩
      · rw [show one01 ((wl.take k).map (·.1)) x = 0 from if_neg hdup] at hlook
        obtain ⟨W4, hst, hC4, u4⟩ := count_store hC3 1 hwx (by decide) (by omega)
        have hlook2 := count_look hC4 hwx
        (try dsimp only at hlook2)
        rw [if_pos rfl] at hlook2
        have cc4 := (CB.upd u4 (by simpa using hne)).cell 0 rfl
        have HU4 := Lib.hid ((HU.out.trans (u3.mono (by simp))).trans u4)
        have HC4 := Lib.hid (show CountAt W4 m (k + 1) (one01 ((wl.take (k + 1)).map (·.1))) by
          obtain ⟨D, ho, hD⟩ := hC4
          refine ⟨D, ho, fun y h0 h1 => ?_⟩
          rw [hD y h0 h1]
          have : (if y = x then (1 : Int) else one01 ((wl.take k).map (·.1)) y) = one01 ((wl.take (k + 1)).map (·.1)) y := by
            rw [HX.out]
            unfold one01
            by_cases hy : y = x
            · simp [hy]
            · simp [hy]
          dsimp only
          rw [this])
        have HN4 := Lib.hid (HT.out.2 ⟨HN.out, hdup⟩)
        clear hC3 hC4 u4 HT HX hdup
        go_wp2_with (first | ((at_lookup; with_reducible refine wpList_lookup_eq rfl _ _ _ _ rfl _ _ _ rfl rfl ?_ ?_); first | exact hlook | exact hlook2) | (at_mapUpdate; refine wpList_mapUpdate_eq rfl _ _ _ _ rfl _ _ _ rfl rfl rfl hst ?_))
        go_roundw
        case rel => first | exact ⟨k + 1, by omega, by go_num, HU4.out, HC4.out, HN4.out⟩ | ((repeat apply Exists.intro); exact ⟨⟨k + 1, by omega, by go_num, HU4.out, HC4.out, HN4.out⟩, rfl⟩)
        case measure => simp [intOf]; omega
    · obtain rfl : k = wl.length := by omega
      rw [List.take_length] at HCt HN
      have HB := Lib.hid (HB5.out.upd HU.out (by simp; omega))
      have HF := Lib.hid (HU5.out.tr (U := []) HU.out (by simp) (by simp; omega))
      clear HB5 HU5 HC5 HU
      have b0 := (HB.out).cell 0 rfl
      have b1 := (HB.out).cell 1 rfl
      have b2 := (HB.out).cell 2 rfl
      have b3 := (HB.out).cell 3 rfl
      have b4 := (HB.out).cell 4 rfl
      have b5 := (HB.out).cell 5 rfl
      have b6 := (HB.out).cell 6 rfl
      have b7 := (HB.out).cell 7 rfl
      have b8 := (HB.out).cell 8 rfl
      have hlk := count_look HCt.out HW.out.addr
      (try dsimp only at hlk)
      go_wp2_with (first | ((at_lookup; refine wpList_lookup_want (by rfl) _ _ _ _ rfl _ _ _ rfl rfl ?_ ?_); exact hlk) | (go_at_call 43; refine (open_any _ _).mono ?_; rintro e w' ⟨rfl, rfl⟩))
      all_goals first
        | (refine ⟨⟨false, rfl, ?_⟩, HF.out⟩
           simp only [Bool.false_eq_true, false_iff]
           intro hM
           have G := (HM.out.1 hM).2.2.2 (by simp)
           have g1 : 0 ≤ at_ := G.at0
           have g2 : at_ < 1 := G.at1
           have g3 : rd.length ≤ 1024 := G.lenR
           have g4 : wl.length ≤ 1024 := G.lenW
           first
             | (have h : at_ < 0 := by assumption
                omega)
             | (have h : at_ < 0 ∨ 1 ≤ at_ := by assumption
                omega)
             | (have h : (1024 : Int) < (rd.length : Int) := by assumption
                omega)
             | (have h : (1024 : Int) < (rd.length : Int) ∨ (1024 : Int) < (wl.length : Int) := by assumption
                omega)
             | (have h : ¬ opn sn = true := by assumption
                exact not_opn HW.out.snap G.snap2 h)
             | (have h : (!opn fo) = true := by assumption
                exact not_opn HW.out.found G.found2 (by simpa using h))
             | (have h : (ad != 0) = true := by assumption
                have g : ad = 0 := G.addr rfl
                rw [g] at h; exact absurd h (by decide))
             | (have h : (wo != 0) = true := by assumption
                have g : wo = 0 := G.word (by simp)
                rw [g] at h; exact absurd h (by decide))
             | (have h : (fo != 0) = true := by assumption
                have g : fo = 0 := G.found (by simp) (by simp)
                rw [g] at h; exact absurd h (by decide))
             | (have h : ((wl.length : Int) == 0) = true := by assumption
                have h2 : wl.length = 0 := by have := beq_iff_eq.1 h; omega
                exact G.lock rfl (List.length_eq_zero_iff.1 h2))
             | (have h : (rd.length : Int) = 1024 := by assumption
                have g : rd.length ≠ 1024 := G.get1 rfl
                omega)
             | (have h : ((rd.length : Int) == 1024) = true ∨ 0 < one01 (wl.map (·.1)) ad := by assumption
                have g : rd.length ≠ 1024 := G.get1 rfl
                rcases h with h | h
                · have := beq_iff_eq.1 h; omega
                · exact G.get2 rfl (one01_pos h)))
        | (refine ⟨⟨true, rfl, ?_⟩, HF.out⟩
           simp only [true_iff]
           refine HM.out.2 ⟨⟨by simp, by rfl, by simp⟩, HN.out, fun h => by simp at h, fun _ => ⟨?_, ?_, ?_, ?_, ?_, ?_, ?_, ?_, ?_, ?_, ?_, ?_⟩⟩
           · exact (show 0 ≤ at_ ∧ at_ < 1 by assumption).1
           · exact (show 0 ≤ at_ ∧ at_ < 1 by assumption).2
           · first | exact fun h => absurd (show true = false from h) (by decide) | exact fun _ => bne_eq_false_iff_eq.1 (show (ad != 0) = false by assumption)
           · first | exact fun h => absurd rfl h | exact fun _ => bne_eq_false_iff_eq.1 (show (wo != 0) = false by assumption)
           · first | exact fun h _ => absurd rfl h | exact fun _ h => absurd rfl h | exact fun _ _ => bne_eq_false_iff_eq.1 (show (fo != 0) = false by assumption)
           · exact opn_even HW.out.snap (show opn sn = true by assumption)
           · exact opn_even HW.out.found (opn_not (show (!opn fo) = false by assumption))
           · exact le_1024 (show (rd.length : Int) ≤ 1024 ∧ (wl.length : Int) ≤ 1024 by assumption).1
           · exact le_1024 (show (rd.length : Int) ≤ 1024 ∧ (wl.length : Int) ≤ 1024 by assumption).2
           · first | exact fun h => absurd (show false = true from h) (by decide) | exact fun _ => ne_nil_len (show ((wl.length : Int) == 0) = false by assumption)
           · first | exact fun h => absurd (show false = true from h) (by decide) | exact fun _ => ne_1024 (show ((rd.length : Int) == 1024) = false ∧ one01 (wl.map (·.1)) ad ≤ 0 by assumption).1
           · first | exact fun h => absurd (show false = true from h) (by decide) | exact fun _ => one01_not (show ((rd.length : Int) == 1024) = false ∧ one01 (wl.map (·.1)) ad ≤ 0 by assumption).2)
end Go.Proofs.Ythfeljongackcaa
