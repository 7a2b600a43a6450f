/- The program's may, an attempt that is over; all together. The conditions are sizes. The document's May, all together; its Twin, From and Copy. The conditions are sizes. Attempts, rows and clocks that are not there: what each call answers; AttemptNil's walk. No condition. -/
import Derived.Test.YthfeljongackcaaM7p23
import Derived.Test.YthfeljongackcaaM7p24
import Derived.Test.YthfeljongackcaaM7p25
import Derived.Test.YthfeljongackcaaM7p26
import Derived.Test.YthfeljongackcaaM7p20
import Derived.Test.YthfeljongackcaaM7p21
import Derived.Test.YthfeljongackcaaM7p22
import Derived.Test.YthfeljongackcaaM7p18
import Derived.Test.YthfeljongackcaaM7p11
set_option linter.unusedSimpArgs false
set_option linter.unusedVariables false
set_option maxRecDepth 100000
namespace Go.Proofs.Ythfeljongackcaa
open Go.RowKit
open Go.Maps
set_option maxHeartbeats 2000000 in
theorem may_10 (s : AS) (rv wv : Value) (w : World) (h1 : SlC w rv s.reads) (h2 : SlC w wv s.writes) (hW : Wide s) (hl1 : s.reads.length ≤ 4611686018427387903) (hl2 : s.writes.length ≤ 4611686018427387903) (hp : s.phase = 10) (ht : s.thn = 0) : Calls Try.prog 53 #[stateV s rv wv] w (MayOk w s) := by
  have HM := Lib.hid (may_prog s)
  obtain ⟨p, c, rfl, _⟩ := h1
  obtain ⟨q, d, rfl, hc2⟩ := h2
  have HC := Lib.hid hc2
  clear hc2
  obtain ⟨sn, rd, wl, ph, th, ad, wo, fo, at_⟩ := s
  dsimp only at hp ht hl1 hl2
  subst hp
  subst ht
  have HW := Lib.hid hW
  clear hW
  have HV := valid_any 10
  rw [show vB 10 = (0 != 0) from rfl] at HV
  have HV := Lib.hid HV
  simp only [stateV]
  have hmm := @run_makeMap Try.prog
  have hl0 : (0 : Int) ≤ (wl.length : Int) := by omega
  refine calls_all fun K hK => ?_
  go_enter Try.func53, Try.ntmps53
  go_wp2_with fail
  obtain ⟨W, hW⟩ : ∃ W, w.alloc (.cells #[.int .u64 sn, .slice p rd.length c, .slice q wl.length d, .int .i64 10, .int .i64 0, .int .u64 ad, .int .u64 wo, .int .u64 fo, .int .i64 at_] 60) = W := ⟨_, rfl⟩
  have uW : Upd [] w W := by rw [← hW]; exact (Upd.refl [] _).alloc _
  have BW : Blk W w.heap.size [.int .u64 sn, .slice p rd.length c, .slice q wl.length d, .int .i64 10, .int .i64 0, .int .u64 ad, .int .u64 wo, .int .u64 fo, .int .i64 at_] 60 := by rw [← hW]; exact Blk.new w _ _
  rw [hW]
  clear hW
  have ud := uW.drew
  have k3 := BW.drew.cell 3 rfl
  have k4 := BW.drew.cell 4 rfl
  refine wp_region_ord (fun w' => w'.cell? ⟨w.heap.size, 3, none⟩ = some (.int .i64 10) ∧ w'.cell? ⟨w.heap.size, 4, none⟩ = some (.int .i64 0)) [0, 1, 2, 3, 4, 5, 6, 7, 8, 9, 10, 12, 13, 14, 11, 15, 16] (by kernel_rfl) (by kernel_rfl) ⟨k3, k4⟩ ?_
  have BD := BW.drew
  clear BW uW
  generalize W.drew = W2 at ud k3 k4 BD ⊢
  repeat
    first
      | (refine wpL_skip rfl (by rfl) ?_)
      | ((refine wpL_take (v := ?_) rfl rfl (by rfl) ?_ ?_); rotate_left 1; (· ((intro w hSw; (try dsimp only at hSw); go_simp); try with_reducible rfl)))
    try simp only [Act.put, List.setIfInBounds_toArray, List.set_cons_zero, List.set_cons_succ]
  refine wpL_eff rfl (by kernel_rfl) (by rfl) (fun K2 hK2 => ?_)
  go_simp
  refine (HV.out _).mono ?_
  rintro e w' ⟨rfl, rfl⟩
  refine hK2.out _ _ ⟨k3, k4⟩ ?_
  clear hK2 K2 k3 k4
  repeat
    first
      | (refine wpL_skip rfl (by rfl) ?_)
      | ((refine wpL_take (v := ?_) rfl rfl (by rfl) ?_ ?_); rotate_left 1; (· ((intro w hSw; (try dsimp only at hSw); go_simp); try with_reducible rfl)))
    try simp only [Act.put, List.setIfInBounds_toArray, List.set_cons_zero, List.set_cons_succ]
  refine wpO_end (NoPanic.normal ?_)
  have b0 := (BD).cell 0 rfl
  have b1 := (BD).cell 1 rfl
  have b2 := (BD).cell 2 rfl
  have b3 := (BD).cell 3 rfl
  have b4 := (BD).cell 4 rfl
  have b5 := (BD).cell 5 rfl
  have b6 := (BD).cell 6 rfl
  have b7 := (BD).cell 7 rfl
  have b8 := (BD).cell 8 rfl
  have lt5 := BD.lt
  have hne5 : w.heap.size ≠ W2.heap.size := by omega
  go_wp2_with fail
  have U5 : Upd [] w (W2.alloc (.map #[] 0)) := ud.alloc _
  have B5 := BD.alloc (.map #[] 0)
  have C5 := count_nil W2
  have sz5 : W2.heap.size < (W2.alloc (.map #[] 0)).heap.size := by simp
  clear b0 b1 b2 b3 b4 b5 b6 b7 b8
  clear BD ud hne5
  generalize W2.alloc (.map #[] 0) = W5 at U5 B5 C5 sz5 ⊢
  generalize W2.heap.size = m at C5 lt5 sz5 ⊢
  have HB5 := Lib.hid B5
  have HU5 := Lib.hid U5
  have HC5 := Lib.hid C5
  clear B5 U5 C5
  go_loopw [69] (fun v69 WR => ∃ k : Nat, k ≤ wl.length ∧ v69 = .int .i64 k ∧ Upd [m] W5 WR ∧ CountAt WR m k (one01 ((wl.take k).map (·.1))) ∧ ((wl.take k).map (·.1)).Nodup) (fun v69 _ => wl.length - (intOf v69).toNat)
  case atStart => exact ⟨0, by omega, rfl, Upd.refl _ _, HC5.out, by simp⟩
  case round =>
    obtain ⟨k, hk, rfl, hu, hc, hn⟩ := hrel
    have HU := Lib.hid hu
    have HCt := Lib.hid hc
    have HN := Lib.hid hn
    clear hu hc hn
    by_cases hlt : k < wl.length
    · have hlt' : (k : Int) < (wl.length : Int) := by omega
      obtain ⟨⟨x, v⟩, hxv⟩ : ∃ c, wl[k]? = some c := ⟨_, List.getElem?_eq_getElem hlt⟩
      have hwx := (HW.out.writes _ (List.mem_of_getElem? hxv)).1
      dsimp only at hwx
      obtain ⟨b, o, rfl, c0, c1⟩ := HC.out k x v hxv
      have hbl : b < w.heap.size := World.block_lt_of_cell? w _ c0
      have hcell : ∀ (o' : Nat) (v : Value), w.cell? ⟨b, o', none⟩ = some v → wr.cell? ⟨b, o', none⟩ = some v := fun o' v h => by
        have e1 := HU5.out.block b hbl (by simp)
        have e2 := HU.out.block b (Nat.lt_of_lt_of_le hbl HU5.out.size) (by simp; omega)
        exact (World.cell?_of_block (w := w) (e2.trans e1)).trans h
      replace c0 := hcell _ _ c0
      replace c1 := hcell _ _ c1
      have hT := @nodup_take (wl.map (·.1)) k x (by rw [List.getElem?_map, hxv]; rfl)
      rw [← List.map_take, ← List.map_take] at hT
      have HT := Lib.hid hT
      have HX := Lib.hid (show (wl.take (k + 1)).map (·.1) = (wl.take k).map (·.1) ++ [x] by rw [List.take_add_one, hxv]; simp)
      clear hcell hxv hT
      obtain ⟨W3, hW3⟩ : ∃ W3, wr.alloc (.cells #[.int .u64 x, .int .u64 v] 53) = W3 := ⟨_, rfl⟩
      have CB : Blk W3 wr.heap.size [.int .u64 x, .int .u64 v] 53 := by rw [← hW3]; exact Blk.new wr _ _
      have u3 : Upd [] wr W3 := by rw [← hW3]; exact (Upd.refl [] _).alloc _
      have cc0 := CB.cell 0 rfl
      have hC3 := HCt.out.upd u3 (by simp)
      have hml := HCt.out.lt
      have hne : wr.heap.size ≠ m := by omega
      have hlook := count_look hC3 hwx
      by_cases hdup : x ∈ (wl.take k).map (·.1)
      · rw [show one01 ((wl.take k).map (·.1)) x = 1 from if_pos hdup] at hlook
        obtain ⟨W4, hst, hC4, u4⟩ := count_store hC3 2 hwx (by decide) (by omega)
        have hlook2 := count_look hC4 hwx
        (try dsimp only at hlook2)
        rw [if_pos rfl] at hlook2
        have cc4 := (CB.upd u4 (by simpa using hne)).cell 0 rfl
        have hU4 := HU5.out.tr (U := []) ((HU.out.trans (u3.mono (by simp))).trans u4) (by simp) (by simp; omega)
        have HNM := Lib.hid (show ¬ (wl.map (·.1)).Nodup from fun h => by
          have h5 := nodup_of_take (k := k + 1) h
          rw [← List.map_take] at h5
          exact (HT.out.1 h5).2 hdup)
        have HU4 := Lib.hid hU4
        clear hC3 hC4 u4 hU4 HT HX hdup
        go_wp2_with (first | ((at_lookup; with_reducible refine wpList_lookup_eq rfl _ _ _ _ rfl _ _ _ rfl rfl ?_ ?_); first | exact hlook | exact hlook2) | (at_mapUpdate; refine wpList_mapUpdate_eq rfl _ _ _ _ rfl _ _ _ rfl rfl rfl hst ?_))
        exact ⟨⟨false, rfl, by simp only [Bool.false_eq_true, false_iff]; exact fun h => HNM.out (HM.out.1 h).2.1⟩, HU4.out⟩
      · rw [show one01 ((wl.take k).map (·.1)) x = 0 from if_neg hdup] at hlook
        obtain ⟨W4, hst, hC4, u4⟩ := count_store hC3 1 hwx (by decide) (by omega)
        have hlook2 := count_look hC4 hwx
        (try dsimp only at hlook2)
        rw [if_pos rfl] at hlook2
        have cc4 := (CB.upd u4 (by simpa using hne)).cell 0 rfl
        have HU4 := Lib.hid ((HU.out.trans (u3.mono (by simp))).trans u4)
        have HC4 := Lib.hid (show CountAt W4 m (k + 1) (one01 ((wl.take (k + 1)).map (·.1))) by
          obtain ⟨D, ho, hD⟩ := hC4
          refine ⟨D, ho, fun y h0 h1 => ?_⟩
          rw [hD y h0 h1]
          have : (if y = x then (1 : Int) else one01 ((wl.take k).map (·.1)) y) = one01 ((wl.take (k + 1)).map (·.1)) y := by
            rw [HX.out]
            unfold one01
            by_cases hy : y = x
            · simp [hy]
            · simp [hy]
          dsimp only
          rw [this])
        have HN4 := Lib.hid (HT.out.2 ⟨HN.out, hdup⟩)
        clear hC3 hC4 u4 HT HX hdup
        go_wp2_with (first | ((at_lookup; with_reducible refine wpList_lookup_eq rfl _ _ _ _ rfl _ _ _ rfl rfl ?_ ?_); first | exact hlook | exact hlook2) | (at_mapUpdate; refine wpList_mapUpdate_eq rfl _ _ _ _ rfl _ _ _ rfl rfl rfl hst ?_))
        go_roundw
        case rel => first | exact ⟨k + 1, by omega, by go_num, HU4.out, HC4.out, HN4.out⟩ | ((repeat apply Exists.intro); exact ⟨⟨k + 1, by omega, by go_num, HU4.out, HC4.out, HN4.out⟩, rfl⟩)
        case measure => simp [intOf]; omega
    · obtain rfl : k = wl.length := by omega
      rw [List.take_length] at HCt HN
      have HB := Lib.hid (HB5.out.upd HU.out (by simp; omega))
      have HF := Lib.hid (HU5.out.tr (U := []) HU.out (by simp) (by simp; omega))
      clear HB5 HU5 HC5 HU
      have b0 := (HB.out).cell 0 rfl
      have b1 := (HB.out).cell 1 rfl
      have b2 := (HB.out).cell 2 rfl
      have b3 := (HB.out).cell 3 rfl
      have b4 := (HB.out).cell 4 rfl
      have b5 := (HB.out).cell 5 rfl
      have b6 := (HB.out).cell 6 rfl
      have b7 := (HB.out).cell 7 rfl
      have b8 := (HB.out).cell 8 rfl
      go_wp2_with fail
      all_goals
        refine ⟨⟨_, rfl, ?_⟩, HF.out⟩
        constructor
      all_goals first
        | (intro hM
           have O := (HM.out.1 hM).2.2.1 (by simp)
           have o1 : sn = 0 := O.snap
           have o2 : ad = 0 := O.addr
           have o3 : wo = 0 := O.word
           have o4 : fo = 0 := O.found
           have o5 : at_ = 0 := O.at_
           first
             | exact absurd o1 (by assumption)
             | exact absurd o2 (by assumption)
             | exact absurd o3 (by assumption)
             | exact absurd o4 (by assumption)
             | exact absurd o5 (by assumption)
             | (have h := O.len
                rw [beq_iff_eq]
                dsimp only at h
                omega))
        | (intro h
           exact absurd h (by decide))
        | (intro h
           have h2 := beq_iff_eq.1 h
           exact HM.out.2 ⟨⟨by simp, by rfl, by simp⟩, HN.out, fun _ => ⟨by assumption, by assumption, by assumption, by assumption, by assumption, by simp only; omega⟩, fun h => absurd rfl h⟩)

theorem may_code (s : AS) (rv wv : Value) (w : World) (h1 : SlC w rv s.reads) (h2 : SlC w wv s.writes) (hW : Wide s) (hl1 : s.reads.length ≤ 4611686018427387903) (hl2 : s.writes.length ≤ 4611686018427387903) : Calls Try.prog 53 #[stateV s rv wv] w (MayOk w s) := by
  by_cases hH : HeadP s
  · obtain ⟨hp, hv, ht⟩ := hH
    have hh : s.phase = 1 ∨ s.phase = 2 ∨ s.phase = 3 ∨ s.phase = 4 ∨ s.phase = 5 ∨ s.phase = 6 ∨ s.phase = 7 ∨ s.phase = 8 ∨ s.phase = 9 ∨ s.phase = 10 := by omega
    have e0 : validB s = false → s.thn = 0 := fun h => by rw [h] at hv; simpa using hv.symm
    have e1 : validB s = true → s.thn = 2 ∨ s.thn = 7 := fun h => by
      rw [h] at hv
      have h3 : s.thn ≠ 0 := by simpa using hv.symm
      omega
    rcases hh with h | h | h | h | h | h | h | h | h | h
    · exact may_1 s rv wv w h1 h2 hW hl1 hl2 h (e0 (by simp [validB, h]))
    · exact may_2 s rv wv w h1 h2 hW hl1 hl2 h (e0 (by simp [validB, h]))
    · exact may_3 s rv wv w h1 h2 hW hl1 hl2 h (e0 (by simp [validB, h]))
    · rcases e1 (by simp [validB, h]) with e | e
      · exact may_4a s rv wv w h1 h2 hW hl1 hl2 h e
      · exact may_4b s rv wv w h1 h2 hW hl1 hl2 h e
    · rcases e1 (by simp [validB, h]) with e | e
      · exact may_5a s rv wv w h1 h2 hW hl1 hl2 h e
      · exact may_5b s rv wv w h1 h2 hW hl1 hl2 h e
    · rcases e1 (by simp [validB, h]) with e | e
      · exact may_6a s rv wv w h1 h2 hW hl1 hl2 h e
      · exact may_6b s rv wv w h1 h2 hW hl1 hl2 h e
    · exact may_7 s rv wv w h1 h2 hW hl1 hl2 h (e0 (by simp [validB, h]))
    · exact may_8 s rv wv w h1 h2 hW hl1 hl2 h (e0 (by simp [validB, h]))
    · exact may_9 s rv wv w h1 h2 hW hl1 hl2 h (e0 (by simp [validB, h]))
    · exact may_10 s rv wv w h1 h2 hW hl1 hl2 h (e0 (by simp [validB, h]))
  · exact may_head_no s rv wv w h1 h2 hH
end Go.Proofs.Ythfeljongackcaa
set_option linter.unusedSimpArgs false
set_option linter.unusedVariables false
set_option maxRecDepth 100000
namespace Go.Proofs.Ythfeljongackcaa
open Go.RowKit
open Go.Maps
theorem rmay_code (s : AS) (rv wv : Value) (w : World) (h1 : SlC w rv s.reads) (h2 : SlC w wv s.writes) (hW : Wide s) (hl1 : s.reads.length ≤ 4611686018427387903) (hl2 : s.writes.length ≤ 4611686018427387903) : Calls Try.prog 69 #[stateV s rv wv] w (MayOk w s) := by
  by_cases hp : 1 ≤ s.phase ∧ s.phase ≤ 10
  · by_cases hs : SmallP s
    · have hthn := hs.2.2.2.2
      by_cases h10 : s.phase = 10
      · exact rmay_10 s rv wv w h1 h2 hW hl1 hl2 hp hs h10
      · by_cases hC : s.snap % 2 = 1 ∨ s.found % 2 = 1 ∨ 1024 < s.reads.length ∨ 1024 < s.writes.length ∨ ¬ (s.writes.map (·.1)).Nodup
        · exact rmay_early s rv wv w h1 h2 hW hl1 hl2 hp hs h10 hC
        · have c1 : s.snap % 2 = 0 := by omega
          have c2 : s.found % 2 = 0 := by omega
          have c3 : s.reads.length ≤ 1024 := by omega
          have c4 : s.writes.length ≤ 1024 := by omega
          have c5 : (s.writes.map (·.1)).Nodup := Classical.byContradiction fun h => hC (.inr (.inr (.inr (.inr h))))
          have e0 : validB s = false → s.thn = 0 := fun h => by rw [h] at hthn; simpa using hthn
          have e1 : validB s = true → s.thn = 2 ∨ s.thn = 7 := fun h => by rw [h] at hthn; simpa using hthn
          have hh : s.phase = 1 ∨ s.phase = 2 ∨ s.phase = 3 ∨ s.phase = 4 ∨ s.phase = 5 ∨ s.phase = 6 ∨ s.phase = 7 ∨ s.phase = 8 ∨ s.phase = 9 := by omega
          rcases hh with h | h | h | h | h | h | h | h | h
          · exact rmay_1 s rv wv w h1 h2 hW hl1 hl2 hp hs c1 c2 c3 c4 c5 h (e0 (by simp [validB, h]))
          · exact rmay_2 s rv wv w h1 h2 hW hl1 hl2 hp hs c1 c2 c3 c4 c5 h (e0 (by simp [validB, h]))
          · exact rmay_3 s rv wv w h1 h2 hW hl1 hl2 hp hs c1 c2 c3 c4 c5 h (e0 (by simp [validB, h]))
          · rcases e1 (by simp [validB, h]) with e | e
            · exact rmay_4a s rv wv w h1 h2 hW hl1 hl2 hp hs c1 c2 c3 c4 c5 h e
            · exact rmay_4b s rv wv w h1 h2 hW hl1 hl2 hp hs c1 c2 c3 c4 c5 h e
          · rcases e1 (by simp [validB, h]) with e | e
            · exact rmay_5a s rv wv w h1 h2 hW hl1 hl2 hp hs c1 c2 c3 c4 c5 h e
            · exact rmay_5b s rv wv w h1 h2 hW hl1 hl2 hp hs c1 c2 c3 c4 c5 h e
          · rcases e1 (by simp [validB, h]) with e | e
            · exact rmay_6a s rv wv w h1 h2 hW hl1 hl2 hp hs c1 c2 c3 c4 c5 h e
            · exact rmay_6b s rv wv w h1 h2 hW hl1 hl2 hp hs c1 c2 c3 c4 c5 h e
          · exact rmay_7 s rv wv w h1 h2 hW hl1 hl2 hp hs c1 c2 c3 c4 c5 h (e0 (by simp [validB, h]))
          · exact rmay_8 s rv wv w h1 h2 hW hl1 hl2 hp hs c1 c2 c3 c4 c5 h (e0 (by simp [validB, h]))
          · exact rmay_9 s rv wv w h1 h2 hW hl1 hl2 hp hs c1 c2 c3 c4 c5 h (e0 (by simp [validB, h]))
    · exact rmay_small s rv wv w h1 h2 hW hl1 hl2 hp hs
  · exact rmay_ph s rv wv w h1 h2 (by omega)

end Go.Proofs.Ythfeljongackcaa
set_option linter.unusedSimpArgs false
set_option linter.unusedVariables false
set_option maxRecDepth 100000
namespace Go.Proofs.Ythfeljongackcaa
open Go.RowKit
open Go.Maps

/-- no attempt: nil, or one without a clock -/
def NT (w : World) (p : Option Addr) : Prop := p = none ∨ ∃ a, p = some ⟨a, 0, none⟩ ∧ w.cell? ⟨a, 1, none⟩ = some (.pointer none)
section
variable {w w' : World} {p : Option Addr}
theorem NT.upd0 (h : NT w p) (u : Upd [] w w') : NT w' p := by
  rcases h with rfl | ⟨a, rfl, h⟩
  · exact .inl rfl
  · exact .inr ⟨a, rfl, (World.cell?_of_block (w := w) (u.block a (World.block_lt_of_cell? w _ h) (by simp))).trans h⟩
theorem there_no (h : NT w p) : Calls Try.prog 48 #[.pointer p] w fun e w' => e = .returned (.bool false) ∧ w = w' := by
  rcases h with rfl | ⟨a, rfl, h⟩
  · refine calls_all fun K hK => ?_
    go_enter Try.func48, Try.ntmps48
    go_wp2
    all_goals exact ⟨rfl, rfl⟩
  · refine calls_all fun K hK => ?_
    go_enter Try.func48, Try.ntmps48
    go_wp2
    all_goals exact ⟨rfl, rfl⟩
theorem idle_no (h : NT w p) : Calls Try.prog 45 #[.pointer p] w fun e w' => e = .returned (.int .i64 1) ∧ w = w' := by
  have H := Lib.hid (there_no h)
  refine calls_all fun K hK => ?_
  go_enter Try.func45, Try.ntmps45
  go_wp2_with fail
  refine (H.out).mono ?_
  rintro e w' ⟨rfl, rfl⟩
  go_wp2
  all_goals exact ⟨rfl, rfl⟩
theorem phase_no (h : NT w p) : Calls Try.prog 17 #[.pointer p] w fun e w' => e = .returned (.int .i64 0) ∧ w = w' := by
  have H := Lib.hid (there_no h)
  refine calls_all fun K hK => ?_
  go_enter Try.func17, Try.ntmps17
  go_wp2_with fail
  refine (H.out).mono ?_
  rintro e w' ⟨rfl, rfl⟩
  go_wp2
  all_goals exact ⟨rfl, rfl⟩
theorem locked_no (h : NT w p) : Calls Try.prog 56 #[.pointer p] w fun e w' => e = .returned (.bool false) ∧ w = w' := by
  have H := Lib.hid (phase_no h)
  refine calls_all fun K hK => ?_
  go_enter Try.func56, Try.ntmps56
  go_wp2_with fail
  refine (H.out).mono ?_
  rintro e w' ⟨rfl, rfl⟩
  go_wp2_with fail
  refine (H.out).mono ?_
  rintro e w' ⟨rfl, rfl⟩
  go_wp2
  all_goals exact ⟨rfl, rfl⟩
theorem drop_no (h : NT w p) : Calls Try.prog 55 #[.pointer p] w fun e w' => e = .returned (.int .i64 1) ∧ w = w' := by
  have H := Lib.hid (there_no h)
  refine calls_all fun K hK => ?_
  go_enter Try.func55, Try.ntmps55
  go_wp2_with fail
  refine (H.out).mono ?_
  rintro e w' ⟨rfl, rfl⟩
  go_wp2
  all_goals exact ⟨rfl, rfl⟩
theorem copy_no (h : NT w p) (r c : Option Addr) : Calls Try.prog 57 #[.pointer p, .pointer r, .pointer c] w fun e w' => e = .returned (.pointer none) ∧ w = w' := by
  have H := Lib.hid (there_no h)
  refine calls_all fun K hK => ?_
  go_enter Try.func57, Try.ntmps57
  go_wp2_with fail
  refine (H.out).mono ?_
  rintro e w' ⟨rfl, rfl⟩
  go_wp2
  all_goals exact ⟨rfl, rfl⟩
theorem get_no (h : NT w p) (x : Int) : Calls Try.prog 14 #[.pointer p, .int .u64 x] w fun e w' => e = .returned (.tuple #[trnNone.val, .int .i64 1]) ∧ Upd [] w w' := by
  have HI := Lib.hid fun W (u : Upd [] w W) => idle_no (h.upd0 u)
  refine calls_all fun K hK => ?_
  go_enter Try.func14, Try.ntmps14
  go_wp2_with fail
  obtain ⟨W, hW⟩ : ∃ W, W = w.alloc (.cells turn0.toArray 36) := ⟨_, rfl⟩
  have RB : Blk W w.heap.size turn0 36 := by rw [hW]; exact Blk.new w _ _
  have HU : Upd [] w W := by rw [hW]; exact (Upd.refl _ _).alloc _
  have hWs : W.heap.size = w.heap.size + 1 := by rw [hW]; exact World.size_alloc _ _
  simp only [turn0, trnNone, evNone, Trn.cells] at hW
  rw [← hW]
  clear hW
  refine (HI.out W HU).mono ?_
  rintro e w' ⟨rfl, rfl⟩
  have q0 := (RB).cell 0 rfl
  have q1 := (RB).cell 1 rfl
  have q2 := (RB).cell 2 rfl
  have q3 := (RB).cell 3 rfl
  have q4 := (RB).cell 4 rfl
  have q5 := (RB).cell 5 rfl
  have q6 := (RB).cell 6 rfl
  have q7 := (RB).cell 7 rfl
  have g0 := (RB).free 0
  have g1 := (RB).free 1
  have g2 := (RB).free 2
  have g3 := (RB).free 3
  have g4 := (RB).free 4
  have g5 := (RB).free 5
  have g6 := (RB).free 6
  have g7 := (RB).free 7
  go_wp2_with fail
  exact bodyPost_ret (turn_results2 4 5 rfl _ _ _ trnNone (.int .i64 1) rfl rfl (turn_set RB rfl trnNone)) rfl (hK _ _ ⟨rfl, upd8 HU (Nat.le_refl _) _ _ _ _ _ _ _ _⟩)
theorem put_no (h : NT w p) (x v : Int) : Calls Try.prog 16 #[.pointer p, .int .u64 x, .int .u64 v] w fun e w' => e = .returned (.tuple #[trnNone.val, .int .i64 1]) ∧ Upd [] w w' := by
  have HI := Lib.hid fun W (u : Upd [] w W) => idle_no (h.upd0 u)
  refine calls_all fun K hK => ?_
  go_enter Try.func16, Try.ntmps16
  go_wp2_with fail
  obtain ⟨W, hW⟩ : ∃ W, W = w.alloc (.cells turn0.toArray 36) := ⟨_, rfl⟩
  have RB : Blk W w.heap.size turn0 36 := by rw [hW]; exact Blk.new w _ _
  have HU : Upd [] w W := by rw [hW]; exact (Upd.refl _ _).alloc _
  have hWs : W.heap.size = w.heap.size + 1 := by rw [hW]; exact World.size_alloc _ _
  simp only [turn0, trnNone, evNone, Trn.cells] at hW
  rw [← hW]
  clear hW
  refine (HI.out W HU).mono ?_
  rintro e w' ⟨rfl, rfl⟩
  have q0 := (RB).cell 0 rfl
  have q1 := (RB).cell 1 rfl
  have q2 := (RB).cell 2 rfl
  have q3 := (RB).cell 3 rfl
  have q4 := (RB).cell 4 rfl
  have q5 := (RB).cell 5 rfl
  have q6 := (RB).cell 6 rfl
  have q7 := (RB).cell 7 rfl
  have g0 := (RB).free 0
  have g1 := (RB).free 1
  have g2 := (RB).free 2
  have g3 := (RB).free 3
  have g4 := (RB).free 4
  have g5 := (RB).free 5
  have g6 := (RB).free 6
  have g7 := (RB).free 7
  go_wp2_with fail
  exact bodyPost_ret (turn_results2 6 7 rfl _ _ _ trnNone (.int .i64 1) rfl rfl (turn_set RB rfl trnNone)) rfl (hK _ _ ⟨rfl, upd8 HU (Nat.le_refl _) _ _ _ _ _ _ _ _⟩)
theorem end_no (h : NT w p) : Calls Try.prog 49 #[.pointer p] w fun e w' => e = .returned (.tuple #[trnNone.val, .int .i64 1]) ∧ Upd [] w w' := by
  have HI := Lib.hid fun W (u : Upd [] w W) => idle_no (h.upd0 u)
  refine calls_all fun K hK => ?_
  go_enter Try.func49, Try.ntmps49
  go_wp2_with fail
  obtain ⟨W, hW⟩ : ∃ W, W = w.alloc (.cells turn0.toArray 36) := ⟨_, rfl⟩
  have RB : Blk W w.heap.size turn0 36 := by rw [hW]; exact Blk.new w _ _
  have HU : Upd [] w W := by rw [hW]; exact (Upd.refl _ _).alloc _
  have hWs : W.heap.size = w.heap.size + 1 := by rw [hW]; exact World.size_alloc _ _
  simp only [turn0, trnNone, evNone, Trn.cells] at hW
  rw [← hW]
  clear hW
  refine (HI.out W HU).mono ?_
  rintro e w' ⟨rfl, rfl⟩
  have q0 := (RB).cell 0 rfl
  have q1 := (RB).cell 1 rfl
  have q2 := (RB).cell 2 rfl
  have q3 := (RB).cell 3 rfl
  have q4 := (RB).cell 4 rfl
  have q5 := (RB).cell 5 rfl
  have q6 := (RB).cell 6 rfl
  have q7 := (RB).cell 7 rfl
  have g0 := (RB).free 0
  have g1 := (RB).free 1
  have g2 := (RB).free 2
  have g3 := (RB).free 3
  have g4 := (RB).free 4
  have g5 := (RB).free 5
  have g6 := (RB).free 6
  have g7 := (RB).free 7
  go_wp2_with fail
  exact bodyPost_ret (turn_results2 2 3 rfl _ _ _ trnNone (.int .i64 1) rfl rfl (turn_set RB rfl trnNone)) rfl (hK _ _ ⟨rfl, upd8 HU (Nat.le_refl _) _ _ _ _ _ _ _ _⟩)
theorem step_no (h : NT w p) : Calls Try.prog 15 #[.pointer p] w fun e w' => e = .returned (.tuple #[trnNone.val, .int .i64 1]) ∧ Upd [] w w' := by
  have HI := Lib.hid fun W (u : Upd [] w W) => there_no (h.upd0 u)
  refine calls_all fun K hK => ?_
  go_enter Try.func15, Try.ntmps15
  go_wp2_with fail
  obtain ⟨W, hW⟩ : ∃ W, W = w.alloc (.cells turn0.toArray 36) := ⟨_, rfl⟩
  have RB : Blk W w.heap.size turn0 36 := by rw [hW]; exact Blk.new w _ _
  have HU : Upd [] w W := by rw [hW]; exact (Upd.refl _ _).alloc _
  have hWs : W.heap.size = w.heap.size + 1 := by rw [hW]; exact World.size_alloc _ _
  simp only [turn0, trnNone, evNone, Trn.cells] at hW
  rw [← hW]
  clear hW
  refine (HI.out W HU).mono ?_
  rintro e w' ⟨rfl, rfl⟩
  have q0 := (RB).cell 0 rfl
  have q1 := (RB).cell 1 rfl
  have q2 := (RB).cell 2 rfl
  have q3 := (RB).cell 3 rfl
  have q4 := (RB).cell 4 rfl
  have q5 := (RB).cell 5 rfl
  have q6 := (RB).cell 6 rfl
  have q7 := (RB).cell 7 rfl
  have g0 := (RB).free 0
  have g1 := (RB).free 1
  have g2 := (RB).free 2
  have g3 := (RB).free 3
  have g4 := (RB).free 4
  have g5 := (RB).free 5
  have g6 := (RB).free 6
  have g7 := (RB).free 7
  go_wp2_with fail
  exact bodyPost_ret (turn_results2 2 3 rfl _ _ _ trnNone (.int .i64 1) rfl rfl (turn_set RB rfl trnNone)) rfl (hK _ _ ⟨rfl, upd8 HU (Nat.le_refl _) _ _ _ _ _ _ _ _⟩)

def zeroAS : AS := ⟨0, [], [], 0, 0, 0, 0, 0, 0⟩
def astCells (s : AS) (rv wv : Value) : List Value := [.int .u64 s.snap, rv, wv, .int .i64 s.phase, .int .i64 s.thn, .int .u64 s.addr, .int .u64 s.word, .int .u64 s.found, .int .i64 s.at_]
theorem ast_results {fn : Func} (k : Nat) (hr : fn.results = #[.cell k 60]) (t : Array Value) (w : World) (rb : Nat) (s : AS) (rv wv : Value) (h2 : t.getD k undef = .pointer (some ⟨rb, 0, none⟩)) (hb : Blk w rb (astCells s rv wv) 60) :
    (results fn t).run Try.prog w = .ok (stateV s rv wv) w := by
  have c0 := hb.cell 0 rfl
  have c1 := hb.cell 1 rfl
  have c2 := hb.cell 2 rfl
  have c3 := hb.cell 3 rfl
  have c4 := hb.cell 4 rfl
  have c5 := hb.cell 5 rfl
  have c6 := hb.cell 6 rfl
  have c7 := hb.cell 7 rfl
  have c8 := hb.cell 8 rfl
  have h2' : t[k]?.getD undef = .pointer (some ⟨rb, 0, none⟩) := by simpa using h2
  simp [results, hr, h2', go_sem, c0, c1, c2, c3, c4, c5, c6, c7, c8, stateV]
theorem state_no (h : NT w p) : Calls Try.prog 26 #[.pointer p] w fun e w' => e = .returned (stateV zeroAS (.slice none 0 0) (.slice none 0 0)) ∧ Upd [] w w' := by
  have HI := Lib.hid fun W (u : Upd [] w W) => there_no (h.upd0 u)
  refine calls_all fun K hK => ?_
  go_enter Try.func26, Try.ntmps26
  go_wp2_with fail
  have RB := Blk.new w (astCells zeroAS (.slice none 0 0) (.slice none 0 0)) 60
  have HU : Upd [] w (w.alloc (.cells (astCells zeroAS (.slice none 0 0) (.slice none 0 0)).toArray 60)) := (Upd.refl [] _).alloc _
  simp only [astCells, zeroAS] at RB HU
  refine (HI.out _ HU).mono ?_
  rintro e w' ⟨rfl, rfl⟩
  generalize w.alloc (.cells #[.int .u64 0, .slice none 0 0, .slice none 0 0, .int .i64 0, .int .i64 0, .int .u64 0, .int .u64 0, .int .u64 0, .int .i64 0] 60) = W at RB HU ⊢
  have c0 := RB.cell 0 rfl
  have c1 := RB.cell 1 rfl
  have c2 := RB.cell 2 rfl
  have c3 := RB.cell 3 rfl
  have c4 := RB.cell 4 rfl
  have c5 := RB.cell 5 rfl
  have c6 := RB.cell 6 rfl
  have c7 := RB.cell 7 rfl
  have c8 := RB.cell 8 rfl
  have g0 := RB.free 0
  have g1 := RB.free 1
  have g2 := RB.free 2
  have g3 := RB.free 3
  have g4 := RB.free 4
  have g5 := RB.free 5
  have g6 := RB.free 6
  have g7 := RB.free 7
  have g8 := RB.free 8
  have RB2 := ((((((((RB.set 0 (.int .u64 0)).set 1 (.slice none 0 0)).set 2 (.slice none 0 0)).set 3 (.int .i64 0)).set 4 (.int .i64 0)).set 5 (.int .u64 0)).set 6 (.int .u64 0)).set 7 (.int .u64 0)).set 8 (.int .i64 0)
  go_wp2_with fail
  refine bodyPost_ret (ast_results 2 rfl _ _ w.heap.size zeroAS (.slice none 0 0) (.slice none 0 0) rfl RB2) rfl (hK _ _ ⟨rfl, ?_⟩)
  (repeat (refine Upd.setCell ?_ (Or.inr (Nat.le_refl _)) _))
  exact HU

theorem len_nil (w : World) : Calls Try.prog 41 #[.pointer none] w fun e w' => e = .returned (.int .i64 0) ∧ w = w' := by
  refine calls_all fun K hK => ?_
  go_enter Try.func41, Try.ntmps41
  go_wp2
  all_goals exact ⟨rfl, rfl⟩
theorem begin_nil1 (w : World) (c : Option Addr) : Calls Try.prog 13 #[.pointer none, .pointer c] w fun e w' => e = .returned (.tuple #[.pointer none, trnNone.val, .int .i64 1]) ∧ Upd [] w w' := by
  refine calls_all fun K hK => ?_
  go_enter Try.func13, Try.ntmps13
  go_wp2_with fail
  obtain ⟨W, hW⟩ : ∃ W, W = w.alloc (.cells turn0.toArray 36) := ⟨_, rfl⟩
  have RB : Blk W w.heap.size turn0 36 := by rw [hW]; exact Blk.new w _ _
  have HU : Upd [] w W := by rw [hW]; exact (Upd.refl _ _).alloc _
  have hWs : W.heap.size = w.heap.size + 1 := by rw [hW]; exact World.size_alloc _ _
  simp only [turn0, trnNone, evNone, Trn.cells] at hW
  rw [← hW]
  clear hW
  refine (len_nil W).mono ?_
  rintro e w' ⟨rfl, rfl⟩
  have q0 := (RB).cell 0 rfl
  have q1 := (RB).cell 1 rfl
  have q2 := (RB).cell 2 rfl
  have q3 := (RB).cell 3 rfl
  have q4 := (RB).cell 4 rfl
  have q5 := (RB).cell 5 rfl
  have q6 := (RB).cell 6 rfl
  have q7 := (RB).cell 7 rfl
  have g0 := (RB).free 0
  have g1 := (RB).free 1
  have g2 := (RB).free 2
  have g3 := (RB).free 3
  have g4 := (RB).free 4
  have g5 := (RB).free 5
  have g6 := (RB).free 6
  have g7 := (RB).free 7
  go_wp2_with fail
  exact bodyPost_ret (turn_results3 4 5 6 rfl _ _ _ trnNone (.pointer none) (.int .i64 1) rfl rfl rfl (turn_set RB rfl trnNone)) rfl (hK _ _ ⟨rfl, upd8 HU (Nat.le_refl _) _ _ _ _ _ _ _ _⟩)
theorem begin_nil2 {X : SX} {sh : Sh} (h : XAt w X sh) : Calls Try.prog 13 #[.pointer (some ⟨X.ra, 0, none⟩), .pointer none] w fun e w' => e = .returned (.tuple #[.pointer none, trnNone.val, .int .i64 1]) ∧ Upd [] w w' := by
  obtain ⟨acc, st, h⟩ := h
  have hl1 : ((sh.row.length : Int) == 0) = false := by have := h.row.len1; rw [beq_eq_false_iff_ne]; omega
  refine calls_all fun K hK => ?_
  go_enter Try.func13, Try.ntmps13
  go_wp2_with fail
  obtain ⟨W, hW⟩ : ∃ W, W = w.alloc (.cells turn0.toArray 36) := ⟨_, rfl⟩
  have RB : Blk W w.heap.size turn0 36 := by rw [hW]; exact Blk.new w _ _
  have HU : Upd [] w W := by rw [hW]; exact (Upd.refl _ _).alloc _
  have hWs : W.heap.size = w.heap.size + 1 := by rw [hW]; exact World.size_alloc _ _
  simp only [turn0, trnNone, evNone, Trn.cells] at hW
  rw [← hW]
  clear hW
  refine (len_row (h.upd HU (by simp)).row).mono ?_
  rintro e w' ⟨rfl, rfl⟩
  have q0 := (RB).cell 0 rfl
  have q1 := (RB).cell 1 rfl
  have q2 := (RB).cell 2 rfl
  have q3 := (RB).cell 3 rfl
  have q4 := (RB).cell 4 rfl
  have q5 := (RB).cell 5 rfl
  have q6 := (RB).cell 6 rfl
  have q7 := (RB).cell 7 rfl
  have g0 := (RB).free 0
  have g1 := (RB).free 1
  have g2 := (RB).free 2
  have g3 := (RB).free 3
  have g4 := (RB).free 4
  have g5 := (RB).free 5
  have g6 := (RB).free 6
  have g7 := (RB).free 7
  go_wp2_with fail
  exact bodyPost_ret (turn_results3 4 5 6 rfl _ _ _ trnNone (.pointer none) (.int .i64 1) rfl rfl rfl (turn_set RB rfl trnNone)) rfl (hK _ _ ⟨rfl, upd8 HU (Nat.le_refl _) _ _ _ _ _ _ _ _⟩)
theorem from_nil1 (w : World) (s : AS) (rv wv : Value) (c : Option Addr) : Calls Try.prog 22 #[stateV s rv wv, .pointer none, .pointer c] w fun e w' => e = .returned (.tuple #[.pointer none, .int .i64 1]) ∧ Upd [] w w' := by
  unfold stateV
  refine calls_all fun K hK => ?_
  go_enter Try.func22, Try.ntmps22
  go_wp2_with fail
  refine (len_nil _).mono ?_
  rintro e w' ⟨rfl, rfl⟩
  go_wp2_with fail
  all_goals exact ⟨rfl, (Upd.refl _ _).alloc _⟩
theorem from_nil2 {X : SX} {sh : Sh} (h : XAt w X sh) (s : AS) (rv wv : Value) : Calls Try.prog 22 #[stateV s rv wv, .pointer (some ⟨X.ra, 0, none⟩), .pointer none] w fun e w' => e = .returned (.tuple #[.pointer none, .int .i64 1]) ∧ Upd [] w w' := by
  obtain ⟨acc, st, h⟩ := h
  have hl1 : ((sh.row.length : Int) == 0) = false := by have := h.row.len1; rw [beq_eq_false_iff_ne]; omega
  unfold stateV
  refine calls_all fun K hK => ?_
  go_enter Try.func22, Try.ntmps22
  go_wp2_with fail
  refine (len_row (h.upd ((Upd.refl [] _).alloc _) (by simp)).row).mono ?_
  rintro e w' ⟨rfl, rfl⟩
  go_wp2_with fail
  all_goals exact ⟨rfl, (Upd.refl _ _).alloc _⟩
end
end Go.Proofs.Ythfeljongackcaa
