/- table: how a thread is behind an event. No condition. -/
import Derived.Test.YtfldpejifpmapaaDoorETabP
set_option linter.unusedSimpArgs false
set_option linter.unusedVariables false
set_option maxRecDepth 100000
namespace Go.Proofs.YtfldpejifpmapaaDoor
open Go.RowKit
open Go.Maps
set_option maxHeartbeats 4000000 in
theorem table_code (w : World) : Calls Tryd.prog 66 #[] w fun e w' => e = .returned (.agg (turnL.map fun n : Nat => Value.int .i64 (n : Int)).toArray) ∧ Upd [] w w' := by
  obtain ⟨W1, hW1⟩ : ∃ W, w.alloc (.cells z52 91) = W := ⟨_, rfl⟩
  obtain ⟨W2, hW2⟩ : ∃ W, W1.alloc (.cells z52 91) = W := ⟨_, rfl⟩
  have u1 : Upd [] w W1 := by rw [← hW1]; exact (Upd.refl [] _).alloc _
  have u2 : Upd [] W1 W2 := by rw [← hW2]; exact (Upd.refl [] _).alloc _
  have B1 : Blk W2 w.heap.size z52.toList 91 := Blk.upd (by rw [← hW1]; exact Blk.new w z52.toList 91) u2 (by simp)
  have B2 : Blk W2 W1.heap.size z52.toList 91 := by rw [← hW2]; exact Blk.new W1 z52.toList 91
  have hs1 : w.heap.size < W1.heap.size := by rw [← hW1]; simp
  have HU := Lib.hid (u1.trans u2)
  simp only [z52] at hW1 hW2
  have hmm := @run_makeMap Tryd.prog
  clear u1 u2
  refine calls_all fun K hK => ?_
  go_enter Tryd.func66, Tryd.ntmps66
  go_upto_region 2 with (fail)
  obtain ⟨rb, hrb⟩ : ∃ b, w.heap.size = b := ⟨_, rfl⟩
  obtain ⟨tb, htb⟩ : ∃ b, W1.heap.size = b := ⟨_, rfl⟩
  have HWR := Lib.hid (Nat.le_of_eq hrb)
  rw [hrb] at B1 hs1 ⊢
  rw [htb] at B2 hs1 ⊢
  have HNE := Lib.hid (show rb ≠ tb by omega)
  have HRT := Lib.hid (show rb < tb by omega)
  have HB1 := Lib.hid B1
  have HB2 := Lib.hid B2
  clear hW1 hW2 hrb htb hs1 B1 B2
  have o0 : (W2.alloc (.map #[] 0)).ownsMap Tryd.prog 23 (plainElem Tryd.prog 3) W2.heap.size 0 (.map [] : DataW Unit) := World.ownsMap_made _ _ _ _
  obtain ⟨V0, hV0⟩ : ∃ V, W2.alloc (.map #[] 0) = V := ⟨_, rfl⟩
  have v0 : Upd [] W2 V0 := by rw [← hV0]; exact (Upd.refl [] _).alloc _
  obtain ⟨m, hm⟩ : ∃ m, W2.heap.size = m := ⟨_, rfl⟩
  rw [hV0, hm] at o0
  have HM := Lib.hid (Nat.le_of_eq hm)
  obtain ⟨V1, r1, o1, v1⟩ := kind_store o0 1 1 (by decide) (by decide) (by decide)
  obtain ⟨V2, r2, o2, v2⟩ := kind_store o1 10 0 (by decide) (by decide) (by decide)
  obtain ⟨V3, r3, o3, v3⟩ := kind_store o2 11 0 (by decide) (by decide) (by decide)
  obtain ⟨V4, r4, o4, v4⟩ := kind_store o3 9 3 (by decide) (by decide) (by decide)
  obtain ⟨V5, r5, o5, v5⟩ := kind_store o4 12 3 (by decide) (by decide) (by decide)
  have uv : Upd [] W2 V5 := v0.tr (U := []) ((((v1.trans v2).trans v3).trans v4).trans v5) (fun g hg => by simp at hg) (fun g hg => by simp at hg; subst hg; exact .inr HM.out)
  have HUV := Lib.hid uv
  have HO := Lib.hid (show V5.ownsMap Tryd.prog 23 (plainElem Tryd.prog 3) m 5 datA from o5)
  clear o0 o1 o2 o3 o4 o5
  clear v0 v1 v2 v3 v4 v5
  clear uv
  go_wp2_with (first | ((with_reducible refine wpList_insert_eq (o := ⟨none, .insert 138 (.tmp 6) (.const (.int .i64 1)) (.const (.int .i64 1)), _, _, _, _⟩) rfl _ _ _ _ rfl _ _ _ rfl rfl rfl r1 ?_)) | ((with_reducible refine wpList_insert_eq (o := ⟨none, .insert 138 (.tmp 6) (.const (.int .i64 10)) (.const (.int .i64 0)), _, _, _, _⟩) rfl _ _ _ _ rfl _ _ _ rfl rfl rfl r2 ?_)) | ((with_reducible refine wpList_insert_eq (o := ⟨none, .insert 138 (.tmp 6) (.const (.int .i64 11)) (.const (.int .i64 0)), _, _, _, _⟩) rfl _ _ _ _ rfl _ _ _ rfl rfl rfl r3 ?_)) | ((with_reducible refine wpList_insert_eq (o := ⟨none, .insert 138 (.tmp 6) (.const (.int .i64 9)) (.const (.int .i64 3)), _, _, _, _⟩) rfl _ _ _ _ rfl _ _ _ rfl rfl rfl r4 ?_)) | ((with_reducible refine wpList_insert_eq (o := ⟨none, .insert 138 (.tmp 6) (.const (.int .i64 12)) (.const (.int .i64 3)), _, _, _, _⟩) rfl _ _ _ _ rfl _ _ _ rfl rfl rfl r5 ?_)) | (at_range; refine wpList_range_own _ rfl _ 138 rfl 23 3 law_kind Tryd.underlying138 _ m 5 _ rfl HO.out ?_; intro w0 hrg0 hg0 hs0))
  go_frame
  clear r1 r2 r3 r4 r5
  have u0 := Upd.of_grown (S := []) hg0 (fun k e => by cases e)
  have HUW := Lib.hid (HUV.out.trans u0)
  obtain ⟨it, hit⟩ : ∃ r, V5.heap.size = r := ⟨_, rfl⟩
  rw [hit] at hrg0 ⊢
  have HIT := Lib.hid (show W2.heap.size ≤ it by rw [← hit]; exact HUV.out.size)
  have HS0 := Lib.hid (show it < w0.heap.size by omega)
  have HRG := Lib.hid hrg0
  clear u0 hg0 hs0 hrg0 hit hV0 hm
  have HBW2 := Lib.hid (HB2.out.upd HUW.out (by simp))
  have HBW1 := Lib.hid (HB1.out.upd HUW.out (by simp))
  have HLT := Lib.hid HB2.out.lt
  have HLT1 := Lib.hid HB1.out.lt
  go_loopw [2, 3] (fun va vb wr => ∃ (left : Lit → Bool) (cnt : Nat), wr.ranges Tryd.prog 23 (plainElem Tryd.prog 3) m it 5 datA left cnt ∧ (∀ z, left z = true → Maps.has datA z = true) ∧ Blk wr tb (tabV (tabA fun k => left (.int .i64 k))) 91 ∧ Blk wr rb z52.toList 91 ∧ Upd [tb, it] w0 wr ∧ it < wr.heap.size) (fun _ _ wr => wr.rangeLeft m it)
  case atStart => exact ⟨_, _, HRG.out, fun z h => h, by rw [show (tabV (tabA fun k => Maps.has datA (.int .i64 k))) = z52.toList from by rw [tabA_congr (g := fun _ => true) (fun k hk => by rcases hk with rfl | rfl | rfl | rfl | rfl <;> rfl), tabA_all]; rfl]; exact HBW2.out, HBW1.out, Upd.refl _ _, HS0.out⟩
  case round =>
    obtain ⟨left, cnt, hrg, hsub, hbt, hbr, hu, hlt⟩ := hrel
    have HSUB := Lib.hid hsub
    have HBT := Lib.hid hbt
    have HBR := Lib.hid hbr
    have HUR := Lib.hid hu
    have HLT2 := Lib.hid hlt
    have HRGR := Lib.hid hrg
    clear hsub hbt hbr hu hlt hrg
    go_wp2_with (at_next; refine wpList_next_ranges_ii _ rfl _ rfl 23 3 .i64 .i64 law_kind Tryd.underlying23 Tryd.underlying3 m it 5 _ _ _ rfl HRGR.out ?_ ?_)
    rotate_left 1
    · intro x c w1 cnt1 hwx hwc hlx hat hrg1 hlt1 hg1 hs1 hen
      have HG := Lib.hid (Upd.of_grown (S := [it]) hg1 (fun k e => by cases e; exact .inl (by simp)))
      have HRG1 := Lib.hid hrg1
      have HS1 := Lib.hid hs1
      have HAT := Lib.hid hat
      have HCN := Lib.hid hlt1
      clear hrg1 hg1 hs1 hlt1 hat hwx hwc
      have hkx := datA_has x (HSUB.out _ hlx)
      clear hlx
      have HTI := Lib.hid (show tb ≠ it from fun e => by have h1 := HLT.out; have h2 := HIT.out; omega)
      have HRI := Lib.hid (show rb ≠ it from fun e => by have h1 := HLT1.out; have h2 := HIT.out; omega)
      have HTM := Lib.hid (show tb ≠ m from fun e => by have h1 := HLT.out; have h2 := HM.out; omega)
      have HBT1 := Lib.hid (HBT.out.upd HG.out (by simp; exact HTI.out))
      have HBR1 := Lib.hid (HBR.out.upd HG.out (by simp; exact HRI.out))
      have HURA := Lib.hid (HUR.out.tr (U := [tb, it]) HG.out (fun g hg => .inl hg) (fun g hg => by simp at hg; subst hg; exact .inl (by simp)))
      clear HUR HBT HBR
      rcases hkx with rfl | rfl | rfl | rfl | rfl
      · obtain rfl := datA_1 c HAT.out
        obtain ⟨v, hv⟩ : ∃ v, w1.cell? ⟨tb, 1, none⟩ = some v := ⟨_, HBT1.out.cell 1 rfl⟩
        have hf := HBT1.out.free 1
        go_wp2_with (fail)
        clear hv hf
        have HR2 := Lib.hid (ranges_set (o := 1) HRG1.out (.int .i64 2) HTM.out HTI.out)
        go_roundw
        case rel => exact ⟨_, cnt1, HR2.out, fun z h => HSUB.out z (by simp only [Bool.and_eq_true] at h; exact h.1), by rw [← tabA_1 left]; exact HBT1.out.set 1 _, HBR1.out.other ⟨tb, 1, none⟩ _ HNE.out, HURA.out.setCell (.inl (by simp)) _, by rw [World.size_setCell, HS1.out]; exact HLT2.out⟩
        case measure => rw [HR2.out.left_eq, HRGR.out.left_eq]; exact HCN.out
      · obtain rfl := datA_9 c HAT.out
        obtain ⟨v, hv⟩ : ∃ v, w1.cell? ⟨tb, 9, none⟩ = some v := ⟨_, HBT1.out.cell 9 rfl⟩
        have hf := HBT1.out.free 9
        go_wp2_with (fail)
        clear hv hf
        have HR2 := Lib.hid (ranges_set (o := 9) HRG1.out (.int .i64 4) HTM.out HTI.out)
        go_roundw
        case rel => exact ⟨_, cnt1, HR2.out, fun z h => HSUB.out z (by simp only [Bool.and_eq_true] at h; exact h.1), by rw [← tabA_9 left]; exact HBT1.out.set 9 _, HBR1.out.other ⟨tb, 9, none⟩ _ HNE.out, HURA.out.setCell (.inl (by simp)) _, by rw [World.size_setCell, HS1.out]; exact HLT2.out⟩
        case measure => rw [HR2.out.left_eq, HRGR.out.left_eq]; exact HCN.out
      · obtain rfl := datA_10 c HAT.out
        obtain ⟨v, hv⟩ : ∃ v, w1.cell? ⟨tb, 10, none⟩ = some v := ⟨_, HBT1.out.cell 10 rfl⟩
        have hf := HBT1.out.free 10
        go_wp2_with (fail)
        clear hv hf
        have HR2 := Lib.hid (ranges_set (o := 10) HRG1.out (.int .i64 1) HTM.out HTI.out)
        go_roundw
        case rel => exact ⟨_, cnt1, HR2.out, fun z h => HSUB.out z (by simp only [Bool.and_eq_true] at h; exact h.1), by rw [← tabA_10 left]; exact HBT1.out.set 10 _, HBR1.out.other ⟨tb, 10, none⟩ _ HNE.out, HURA.out.setCell (.inl (by simp)) _, by rw [World.size_setCell, HS1.out]; exact HLT2.out⟩
        case measure => rw [HR2.out.left_eq, HRGR.out.left_eq]; exact HCN.out
      · obtain rfl := datA_11 c HAT.out
        obtain ⟨v, hv⟩ : ∃ v, w1.cell? ⟨tb, 11, none⟩ = some v := ⟨_, HBT1.out.cell 11 rfl⟩
        have hf := HBT1.out.free 11
        go_wp2_with (fail)
        clear hv hf
        have HR2 := Lib.hid (ranges_set (o := 11) HRG1.out (.int .i64 1) HTM.out HTI.out)
        go_roundw
        case rel => exact ⟨_, cnt1, HR2.out, fun z h => HSUB.out z (by simp only [Bool.and_eq_true] at h; exact h.1), by rw [← tabA_11 left]; exact HBT1.out.set 11 _, HBR1.out.other ⟨tb, 11, none⟩ _ HNE.out, HURA.out.setCell (.inl (by simp)) _, by rw [World.size_setCell, HS1.out]; exact HLT2.out⟩
        case measure => rw [HR2.out.left_eq, HRGR.out.left_eq]; exact HCN.out
      · obtain rfl := datA_12 c HAT.out
        obtain ⟨v, hv⟩ : ∃ v, w1.cell? ⟨tb, 12, none⟩ = some v := ⟨_, HBT1.out.cell 12 rfl⟩
        have hf := HBT1.out.free 12
        go_wp2_with (fail)
        clear hv hf
        have HR2 := Lib.hid (ranges_set (o := 12) HRG1.out (.int .i64 4) HTM.out HTI.out)
        go_roundw
        case rel => exact ⟨_, cnt1, HR2.out, fun z h => HSUB.out z (by simp only [Bool.and_eq_true] at h; exact h.1), by rw [← tabA_12 left]; exact HBT1.out.set 12 _, HBR1.out.other ⟨tb, 12, none⟩ _ HNE.out, HURA.out.setCell (.inl (by simp)) _, by rw [World.size_setCell, HS1.out]; exact HLT2.out⟩
        case measure => rw [HR2.out.left_eq, HRGR.out.left_eq]; exact HCN.out
    · intro _ hl0
      have hnone : tabA (fun k => left (.int .i64 k)) = tab1 := by rw [← tabA_none]; exact tabA_congr (fun k _ => hl0 _)
      obtain ⟨wo, rfl⟩ : ∃ wo : World, wo = wr := ⟨_, rfl⟩
      have HB2 := Lib.hid (show Blk wo tb (tabV tab1) 91 by rw [← hnone]; exact HBT.out)
      have HB1 := HBR
      have HU2 := Lib.hid ((HU.out.trans HUW.out).tr (U := []) HUR.out (fun g hg => by simp at hg) (fun g hg => by have h1 := HWR.out; have h2 := HRT.out; have h3 := HIT.out; have h4 := HU.out.size; simp at hg; rcases hg with rfl | rfl <;> exact .inr (by omega)))
      clear hl0 hnone HBT HBR HUR HSUB HRGR HLT2 HRG HBW2 HBW1 HS0 HUW HU HIT HUV HO HM HLT HLT1
      have o0 : (wo.alloc (.map #[] 0)).ownsMap Tryd.prog 23 (plainElem Tryd.prog 3) wo.heap.size 0 (.map [] : DataW Unit) := World.ownsMap_made _ _ _ _
      obtain ⟨V0, hV0⟩ : ∃ V, wo.alloc (.map #[] 0) = V := ⟨_, rfl⟩
      have v0 : Upd [] wo V0 := by rw [← hV0]; exact (Upd.refl [] _).alloc _
      obtain ⟨m, hm⟩ : ∃ m, wo.heap.size = m := ⟨_, rfl⟩
      rw [hV0, hm] at o0
      have HM := Lib.hid (Nat.le_of_eq hm)
      obtain ⟨V1, r1, o1, v1⟩ := kind_store o0 2 1 (by decide) (by decide) (by decide)
      obtain ⟨V2, r2, o2, v2⟩ := kind_store o1 3 1 (by decide) (by decide) (by decide)
      obtain ⟨V3, r3, o3, v3⟩ := kind_store o2 4 1 (by decide) (by decide) (by decide)
      obtain ⟨V4, r4, o4, v4⟩ := kind_store o3 5 2 (by decide) (by decide) (by decide)
      obtain ⟨V5, r5, o5, v5⟩ := kind_store o4 6 0 (by decide) (by decide) (by decide)
      obtain ⟨V6, r6, o6, v6⟩ := kind_store o5 7 0 (by decide) (by decide) (by decide)
      obtain ⟨V7, r7, o7, v7⟩ := kind_store o6 8 0 (by decide) (by decide) (by decide)
      obtain ⟨V8, r8, o8, v8⟩ := kind_store o7 9 3 (by decide) (by decide) (by decide)
      have uv : Upd [] wo V8 := v0.tr (U := []) (((((((v1.trans v2).trans v3).trans v4).trans v5).trans v6).trans v7).trans v8) (fun g hg => by simp at hg) (fun g hg => by simp at hg; subst hg; exact .inr HM.out)
      have HUV := Lib.hid uv
      have HO := Lib.hid (show V8.ownsMap Tryd.prog 23 (plainElem Tryd.prog 3) m 8 datB from o8)
      clear o0 o1 o2 o3 o4 o5 o6 o7 o8
      clear v0 v1 v2 v3 v4 v5 v6 v7 v8
      clear uv
      go_wp2_with (first | ((with_reducible refine wpList_insert_eq (o := ⟨none, .insert 138 (.tmp 19) (.const (.int .i64 2)) (.const (.int .i64 1)), _, _, _, _⟩) rfl _ _ _ _ rfl _ _ _ rfl rfl rfl r1 ?_)) | ((with_reducible refine wpList_insert_eq (o := ⟨none, .insert 138 (.tmp 19) (.const (.int .i64 3)) (.const (.int .i64 1)), _, _, _, _⟩) rfl _ _ _ _ rfl _ _ _ rfl rfl rfl r2 ?_)) | ((with_reducible refine wpList_insert_eq (o := ⟨none, .insert 138 (.tmp 19) (.const (.int .i64 4)) (.const (.int .i64 1)), _, _, _, _⟩) rfl _ _ _ _ rfl _ _ _ rfl rfl rfl r3 ?_)) | ((with_reducible refine wpList_insert_eq (o := ⟨none, .insert 138 (.tmp 19) (.const (.int .i64 5)) (.const (.int .i64 2)), _, _, _, _⟩) rfl _ _ _ _ rfl _ _ _ rfl rfl rfl r4 ?_)) | ((with_reducible refine wpList_insert_eq (o := ⟨none, .insert 138 (.tmp 19) (.const (.int .i64 6)) (.const (.int .i64 0)), _, _, _, _⟩) rfl _ _ _ _ rfl _ _ _ rfl rfl rfl r5 ?_)) | ((with_reducible refine wpList_insert_eq (o := ⟨none, .insert 138 (.tmp 19) (.const (.int .i64 7)) (.const (.int .i64 0)), _, _, _, _⟩) rfl _ _ _ _ rfl _ _ _ rfl rfl rfl r6 ?_)) | ((with_reducible refine wpList_insert_eq (o := ⟨none, .insert 138 (.tmp 19) (.const (.int .i64 8)) (.const (.int .i64 0)), _, _, _, _⟩) rfl _ _ _ _ rfl _ _ _ rfl rfl rfl r7 ?_)) | ((with_reducible refine wpList_insert_eq (o := ⟨none, .insert 138 (.tmp 19) (.const (.int .i64 9)) (.const (.int .i64 3)), _, _, _, _⟩) rfl _ _ _ _ rfl _ _ _ rfl rfl rfl r8 ?_)) | (at_range; refine wpList_range_own _ rfl _ 138 rfl 23 3 law_kind Tryd.underlying138 _ m 8 _ rfl HO.out ?_; intro w0 hrg0 hg0 hs0))
      go_frame
      clear r1 r2 r3 r4 r5 r6 r7 r8
      have u0 := Upd.of_grown (S := []) hg0 (fun k e => by cases e)
      have HUW := Lib.hid (HUV.out.trans u0)
      obtain ⟨it, hit⟩ : ∃ r, V8.heap.size = r := ⟨_, rfl⟩
      rw [hit] at hrg0 ⊢
      have HIT := Lib.hid (show wo.heap.size ≤ it by rw [← hit]; exact HUV.out.size)
      have HS0 := Lib.hid (show it < w0.heap.size by omega)
      have HRG := Lib.hid hrg0
      clear u0 hg0 hs0 hrg0 hit hV0 hm
      have HBW2 := Lib.hid (HB2.out.upd HUW.out (by simp))
      have HBW1 := Lib.hid (HB1.out.upd HUW.out (by simp))
      have HLT := Lib.hid HB2.out.lt
      have HLT1 := Lib.hid HB1.out.lt
      go_loopw [4, 5] (fun va vb wr => ∃ (left : Lit → Bool) (cnt : Nat), wr.ranges Tryd.prog 23 (plainElem Tryd.prog 3) m it 8 datB left cnt ∧ (∀ z, left z = true → Maps.has datB z = true) ∧ Blk wr tb (tabV (tabB fun k => left (.int .i64 k))) 91 ∧ Blk wr rb z52.toList 91 ∧ Upd [tb, it] w0 wr ∧ it < wr.heap.size) (fun _ _ wr => wr.rangeLeft m it)
      case atStart => exact ⟨_, _, HRG.out, fun z h => h, by rw [startB]; exact HBW2.out, HBW1.out, Upd.refl _ _, HS0.out⟩
      case round =>
        obtain ⟨left, cnt, hrg, hsub, hbt, hbr, hu, hlt⟩ := hrel
        have HSUB := Lib.hid hsub
        have HBT := Lib.hid hbt
        have HBR := Lib.hid hbr
        have HUR := Lib.hid hu
        have HLT2 := Lib.hid hlt
        have HRGR := Lib.hid hrg
        clear hsub hbt hbr hu hlt hrg
        go_wp2_with (at_next; refine wpList_next_ranges_ii _ rfl _ rfl 23 3 .i64 .i64 law_kind Tryd.underlying23 Tryd.underlying3 m it 8 _ _ _ rfl HRGR.out ?_ ?_)
        rotate_left 1
        · intro x c w1 cnt1 hwx hwc hlx hat hrg1 hlt1 hg1 hs1 hen
          have HG := Lib.hid (Upd.of_grown (S := [it]) hg1 (fun k e => by cases e; exact .inl (by simp)))
          have HRG1 := Lib.hid hrg1
          have HS1 := Lib.hid hs1
          have HAT := Lib.hid hat
          have HCN := Lib.hid hlt1
          clear hrg1 hg1 hs1 hlt1 hat hwx hwc
          have hkx := datB_has x (HSUB.out _ hlx)
          clear hlx
          have HTI := Lib.hid (show tb ≠ it from fun e => by have h1 := HLT.out; have h2 := HIT.out; omega)
          have HRI := Lib.hid (show rb ≠ it from fun e => by have h1 := HLT1.out; have h2 := HIT.out; omega)
          have HTM := Lib.hid (show tb ≠ m from fun e => by have h1 := HLT.out; have h2 := HM.out; omega)
          have HBT1 := Lib.hid (HBT.out.upd HG.out (by simp; exact HTI.out))
          have HBR1 := Lib.hid (HBR.out.upd HG.out (by simp; exact HRI.out))
          have HURA := Lib.hid (HUR.out.tr (U := [tb, it]) HG.out (fun g hg => .inl hg) (fun g hg => by simp at hg; subst hg; exact .inl (by simp)))
          clear HUR HBT HBR
          rcases hkx with rfl | rfl | rfl | rfl | rfl | rfl | rfl | rfl
          · obtain rfl := datB_2 c HAT.out
            obtain ⟨v, hv⟩ : ∃ v, w1.cell? ⟨tb, 15, none⟩ = some v := ⟨_, HBT1.out.cell 15 rfl⟩
            have hf := HBT1.out.free 15
            go_wp2_with (fail)
            clear hv hf
            have HR2 := Lib.hid (ranges_set (o := 15) HRG1.out (.int .i64 2) HTM.out HTI.out)
            go_roundw
            case rel => exact ⟨_, cnt1, HR2.out, fun z h => HSUB.out z (by simp only [Bool.and_eq_true] at h; exact h.1), by rw [← tabB_2 left]; exact HBT1.out.set 15 _, HBR1.out.other ⟨tb, 15, none⟩ _ HNE.out, HURA.out.setCell (.inl (by simp)) _, by rw [World.size_setCell, HS1.out]; exact HLT2.out⟩
            case measure => rw [HR2.out.left_eq, HRGR.out.left_eq]; exact HCN.out
          · obtain rfl := datB_3 c HAT.out
            obtain ⟨v, hv⟩ : ∃ v, w1.cell? ⟨tb, 16, none⟩ = some v := ⟨_, HBT1.out.cell 16 rfl⟩
            have hf := HBT1.out.free 16
            go_wp2_with (fail)
            clear hv hf
            have HR2 := Lib.hid (ranges_set (o := 16) HRG1.out (.int .i64 2) HTM.out HTI.out)
            go_roundw
            case rel => exact ⟨_, cnt1, HR2.out, fun z h => HSUB.out z (by simp only [Bool.and_eq_true] at h; exact h.1), by rw [← tabB_3 left]; exact HBT1.out.set 16 _, HBR1.out.other ⟨tb, 16, none⟩ _ HNE.out, HURA.out.setCell (.inl (by simp)) _, by rw [World.size_setCell, HS1.out]; exact HLT2.out⟩
            case measure => rw [HR2.out.left_eq, HRGR.out.left_eq]; exact HCN.out
          · obtain rfl := datB_4 c HAT.out
            obtain ⟨v, hv⟩ : ∃ v, w1.cell? ⟨tb, 17, none⟩ = some v := ⟨_, HBT1.out.cell 17 rfl⟩
            have hf := HBT1.out.free 17
            go_wp2_with (fail)
            clear hv hf
            have HR2 := Lib.hid (ranges_set (o := 17) HRG1.out (.int .i64 2) HTM.out HTI.out)
            go_roundw
            case rel => exact ⟨_, cnt1, HR2.out, fun z h => HSUB.out z (by simp only [Bool.and_eq_true] at h; exact h.1), by rw [← tabB_4 left]; exact HBT1.out.set 17 _, HBR1.out.other ⟨tb, 17, none⟩ _ HNE.out, HURA.out.setCell (.inl (by simp)) _, by rw [World.size_setCell, HS1.out]; exact HLT2.out⟩
            case measure => rw [HR2.out.left_eq, HRGR.out.left_eq]; exact HCN.out
          · obtain rfl := datB_5 c HAT.out
            obtain ⟨v, hv⟩ : ∃ v, w1.cell? ⟨tb, 18, none⟩ = some v := ⟨_, HBT1.out.cell 18 rfl⟩
            have hf := HBT1.out.free 18
            go_wp2_with (fail)
            clear hv hf
            have HR2 := Lib.hid (ranges_set (o := 18) HRG1.out (.int .i64 3) HTM.out HTI.out)
            go_roundw
            case rel => exact ⟨_, cnt1, HR2.out, fun z h => HSUB.out z (by simp only [Bool.and_eq_true] at h; exact h.1), by rw [← tabB_5 left]; exact HBT1.out.set 18 _, HBR1.out.other ⟨tb, 18, none⟩ _ HNE.out, HURA.out.setCell (.inl (by simp)) _, by rw [World.size_setCell, HS1.out]; exact HLT2.out⟩
            case measure => rw [HR2.out.left_eq, HRGR.out.left_eq]; exact HCN.out
          · obtain rfl := datB_6 c HAT.out
            obtain ⟨v, hv⟩ : ∃ v, w1.cell? ⟨tb, 19, none⟩ = some v := ⟨_, HBT1.out.cell 19 rfl⟩
            have hf := HBT1.out.free 19
            go_wp2_with (fail)
            clear hv hf
            have HR2 := Lib.hid (ranges_set (o := 19) HRG1.out (.int .i64 1) HTM.out HTI.out)
            go_roundw
            case rel => exact ⟨_, cnt1, HR2.out, fun z h => HSUB.out z (by simp only [Bool.and_eq_true] at h; exact h.1), by rw [← tabB_6 left]; exact HBT1.out.set 19 _, HBR1.out.other ⟨tb, 19, none⟩ _ HNE.out, HURA.out.setCell (.inl (by simp)) _, by rw [World.size_setCell, HS1.out]; exact HLT2.out⟩
            case measure => rw [HR2.out.left_eq, HRGR.out.left_eq]; exact HCN.out
          · obtain rfl := datB_7 c HAT.out
            obtain ⟨v, hv⟩ : ∃ v, w1.cell? ⟨tb, 20, none⟩ = some v := ⟨_, HBT1.out.cell 20 rfl⟩
            have hf := HBT1.out.free 20
            go_wp2_with (fail)
            clear hv hf
            have HR2 := Lib.hid (ranges_set (o := 20) HRG1.out (.int .i64 1) HTM.out HTI.out)
            go_roundw
            case rel => exact ⟨_, cnt1, HR2.out, fun z h => HSUB.out z (by simp only [Bool.and_eq_true] at h; exact h.1), by rw [← tabB_7 left]; exact HBT1.out.set 20 _, HBR1.out.other ⟨tb, 20, none⟩ _ HNE.out, HURA.out.setCell (.inl (by simp)) _, by rw [World.size_setCell, HS1.out]; exact HLT2.out⟩
            case measure => rw [HR2.out.left_eq, HRGR.out.left_eq]; exact HCN.out
          · obtain rfl := datB_8 c HAT.out
            obtain ⟨v, hv⟩ : ∃ v, w1.cell? ⟨tb, 21, none⟩ = some v := ⟨_, HBT1.out.cell 21 rfl⟩
            have hf := HBT1.out.free 21
            go_wp2_with (fail)
            clear hv hf
            have HR2 := Lib.hid (ranges_set (o := 21) HRG1.out (.int .i64 1) HTM.out HTI.out)
            go_roundw
            case rel => exact ⟨_, cnt1, HR2.out, fun z h => HSUB.out z (by simp only [Bool.and_eq_true] at h; exact h.1), by rw [← tabB_8 left]; exact HBT1.out.set 21 _, HBR1.out.other ⟨tb, 21, none⟩ _ HNE.out, HURA.out.setCell (.inl (by simp)) _, by rw [World.size_setCell, HS1.out]; exact HLT2.out⟩
            case measure => rw [HR2.out.left_eq, HRGR.out.left_eq]; exact HCN.out
          · obtain rfl := datB_9 c HAT.out
            obtain ⟨v, hv⟩ : ∃ v, w1.cell? ⟨tb, 22, none⟩ = some v := ⟨_, HBT1.out.cell 22 rfl⟩
            have hf := HBT1.out.free 22
            go_wp2_with (fail)
            clear hv hf
            have HR2 := Lib.hid (ranges_set (o := 22) HRG1.out (.int .i64 4) HTM.out HTI.out)
            go_roundw
            case rel => exact ⟨_, cnt1, HR2.out, fun z h => HSUB.out z (by simp only [Bool.and_eq_true] at h; exact h.1), by rw [← tabB_9 left]; exact HBT1.out.set 22 _, HBR1.out.other ⟨tb, 22, none⟩ _ HNE.out, HURA.out.setCell (.inl (by simp)) _, by rw [World.size_setCell, HS1.out]; exact HLT2.out⟩
            case measure => rw [HR2.out.left_eq, HRGR.out.left_eq]; exact HCN.out
        · intro _ hl0
          have hnone : tabB (fun k => left (.int .i64 k)) = tabB (fun _ => false) := tabB_congr (fun k _ => hl0 _)
          have HB3 := Lib.hid (show Blk wr tb (tabV (tabB fun _ => false)) 91 by rw [← hnone]; exact HBT.out)
          have HU3 := Lib.hid ((HU2.out.trans HUW.out).tr (U := []) HUR.out (fun g hg => by simp at hg) (fun g hg => by have h1 := HWR.out; have h2 := HRT.out; have h3 := HIT.out; have h4 := HU2.out.size; simp at hg; rcases hg with rfl | rfl <;> exact .inr (by omega)))
          have HRBT := HRT
          clear hl0 hnone HBT HUR HSUB HRGR HLT2 HRG HBW2 HBW1 HS0 HUW HU2 HIT HUV HO HM HLT HLT1
          obtain ⟨v, hv⟩ : ∃ v, wr.cell? ⟨tb, 32, none⟩ = some v := ⟨_, HB3.out.cell 32 rfl⟩
          have hf := HB3.out.free 32
          go_upto_region 11 with (fail)
          clear hv hf
          have HB4 := Lib.hid (show Blk (wr.setCell ⟨tb, 32, none⟩ (.int .i64 1)) tb (tabV (turnL.map fun n : Nat => (n : Int))) 91 by rw [← tabB_none]; have h := HB3.out.set 32 (.int .i64 1); unfold tabV at h ⊢; rw [List.map_set]; exact h)
          have HR4 := Lib.hid (HBR.out.other ⟨tb, 32, none⟩ (.int .i64 1) HNE.out)
          have HU4 := Lib.hid (HU3.out.setCell (p := ⟨tb, 32, none⟩) (.inr (by have h1 := HWR.out; have h2 := HRT.out; dsimp only; omega)) (.int .i64 1))
          generalize wr.setCell ⟨tb, 32, none⟩ (.int .i64 1) = W5 at HB4 HR4 HU4 ⊢
          obtain ⟨vs, hvs⟩ : ∃ vs, tabV (turnL.map fun n : Nat => (n : Int)) = vs := ⟨_, rfl⟩
          have hvl : vs.length = 52 := by rw [← hvs]; rfl
          have h1 : vs.toArray.all (·.oneCell') = true := by rw [← hvs]; kernel_rfl
          have HVS := Lib.hid (show (turnL.map fun n : Nat => Value.int .i64 (n : Int)) = vs by rw [← hvs]; unfold tabV; rw [List.map_map]; rfl)
          rw [hvs] at HB4
          clear hvs
          have HRN := Lib.hid HB4.out.range
          have HTH := Lib.hid (HR4.out.there 0 52 (by decide))
          go_wp2_with (first | ((with_reducible refine wpList_load_mid (op := ⟨some 34, .load 91 (.tmp 1), _, _, _, _⟩) rfl 91 _ rfl tb 0 ?_ vs _ HRN.out Tryd.underlying91 (by rfl) (by rw [hvl]; kernel_rfl) ?_); (· rfl)) | ((with_reducible refine wpList_store_mid (op := ⟨none, .store 91 (.tmp 0) (.tmp 34), _, _, _, _⟩) rfl 91 _ _ rfl rb 0 vs.toArray ?_ ?_ (by simpa [hvl] using HTH.out) (by simp only [List.size_toArray, hvl]; kernel_rfl) h1 ?_); (· rfl); (· rfl)))
          rw [HVS.out] at hK
          refine bodyPost_ret (row_results Tryd.underlying91 rfl rfl _ _ rb vs rfl (World.rangeAt_setCells_same W5 _ 0 vs (by rw [hvl]; exact HTH.out)) (by rw [hvl]; kernel_rfl)) rfl (hK _ _ ⟨rfl, Upd.rows _ 0 HU4.out (.inr HWR.out)⟩)
end Go.Proofs.YtfldpejifpmapaaDoor
