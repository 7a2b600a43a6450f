/- wrong: Read. The conditions: the state's and the event's words are words, the number is small. -/
import Derived.Test.YtfldpejifpmapaaDoorEWrong3
set_option linter.unusedSimpArgs false
set_option linter.unusedVariables false
set_option maxRecDepth 100000
namespace Go.Proofs.YtfldpejifpmapaaDoor
open Go.RowKit
open Go.Maps
-- the head: the event boxed, formed asked: W3 the world at region 3
-- region 4 is met: the look's cells in W4
-- a drawn region that only reads: from W$A to W$B
set_option maxHeartbeats 4000000 in
theorem wrong_d (w : World) (B lb n i k j : Nat) (S : LS) (ad wd er : Int) (own : Bool) (hok : LSOk S j) (hj : j ≤ 4611686018427387904) (hL : LookAt w B lb n S) (he : Ev.wide ⟨i, k, ad, wd, own, er⟩) (hf : formE ⟨i, k, ad, wd, own, er⟩ = true) (hi : i < 8) (hk : 1 ≤ k ∧ k ≤ 12) (hh : (S.ths i).how ≤ 3) (hT : turnT (S.ths i).how k ≠ 0) (hno : ¬ ((S.ths i).how = 0 ∧ k = 9 ∧ er ≠ 4)) (hc : k = 2) (h0 : (S.ths i).how = 1) :
    Calls Tryd.prog 67 #[.pointer (some ⟨lb, 0, none⟩), .agg #[.int .i64 (i : Int), .int .i64 (k : Int), .int .u64 ad, .int .u64 wd, .bool own, .int .i64 er]] w fun r w' => r = .returned (.int .i64 (wrongE S ⟨i, k, ad, wd, own, er⟩)) ∧ Upd [] w w' := by

  have HX := Lib.hid (wrong_rest (S := S) (e := ⟨i, k, ad, wd, own, er⟩) hf (by simpa using hT) (fun q => hno ⟨by simpa using q.1, by have := q.2.1; dsimp only at this; omega, q.2.2⟩))
  dsimp only at HX
  rw [Int.toNat_natCast] at HX
  obtain ⟨X, hX⟩ : ∃ X, wrongE S ⟨i, k, ad, wd, own, er⟩ = X := ⟨_, rfl⟩
  rw [hX]
  have HE := Lib.hid hX
  clear hX hno
  have e1 : ((k : Int) == 1) = false := by simp; omega
  have e4 : ((k : Int) == 4) = false := by simp; omega
  have e5 : ((k : Int) == 5) = false := by simp; omega
  have e6 : ((k : Int) == 6) = false := by simp; omega
  have e2 : ((k : Int) == 2) = true := by simp; omega
  obtain ⟨lo, hlo⟩ : ∃ lo, lookW (S.ths i).wr ad = lo := ⟨_, rfl⟩
  obtain ⟨ob, hob⟩ : ∃ ob, (match lo with | some x => own && x == wd | none => !own) = ob := ⟨_, rfl⟩
  have hwo : wordOk S (S.ths i) ⟨i, k, ad, wd, own, er⟩ = true := by unfold wordOk; dsimp only; rw [if_neg (by omega), if_neg (by omega), if_neg (by omega), if_neg (by omega)]
  have hoo : ownOk (S.ths i) ⟨i, k, ad, wd, own, er⟩ = ob := by unfold ownOk; dsimp only; rw [if_neg (by omega), if_neg (by omega), if_pos (by omega), hlo]; exact hob
  rw [hwo, hoo] at HX
  have HX1 := Lib.hid (show X = if ob = false then 233 else 0 from by rw [← HE.out, HX.out]; simp [hc])
  clear hwo hoo
  have b0 : (((S.ths i).how : Int) == 0) = false := by simp [h0]
  have had := he.1
  clear hc
  obtain ⟨W1, hW1⟩ : ∃ W, w.alloc (.cells #[.int .i64 (i : Int), .int .i64 (k : Int), .int .u64 ad, .int .u64 wd, .bool own, .int .i64 er] 27) = W := ⟨_, rfl⟩
  have u1 : Upd [] w W1 := by rw [← hW1]; exact (Upd.refl [] _).alloc _
  have B1 : Blk W1 w.heap.size [.int .i64 (i : Int), .int .i64 (k : Int), .int .u64 ad, .int .u64 wd, .bool own, .int .i64 er] 27 := by rw [← hW1]; exact Blk.new w _ _
  obtain ⟨eb, heb⟩ : ∃ b, w.heap.size = b := ⟨_, rfl⟩
  rw [heb] at B1
  have m0 := B1.cell 0 rfl
  have m1 := B1.cell 1 rfl
  have m2 := B1.cell 2 rfl
  have m3 := B1.cell 3 rfl
  have m4 := B1.cell 4 rfl
  have m5 := B1.cell 5 rfl
  have HB1 := Lib.hid B1
  have U1 := Lib.hid u1
  clear B1 u1
  have hfc : ∀ W, Calls Tryd.prog 38 #[.agg #[.int .i64 (i : Int), .int .i64 (k : Int), .int .u64 ad, .int .u64 wd, .bool own, .int .i64 er]] W fun r w' => r = .returned (.bool true) ∧ Upd [] W w' := fun W => by have h := formed_code ⟨i, k, ad, wd, own, er⟩ he W; rw [hf] at h; exact h
  refine calls_all fun K hK => ?_
  go_enter Tryd.func67, Tryd.ntmps67
  go_wp2_with fail
  refine (hfc _).mono ?_
  rintro e W2 ⟨rfl, u2⟩
  clear hfc
  have HB2 := Lib.hid (HB1.out.upd u2 (by simp))
  have U2 := Lib.hid (U1.out.trans u2)
  clear m0 m1 m2 m3 m4 m5 u2 HB1 U1 hW1
  go_wp2_with fail
  have ud : Upd [] W2 W2.drew := (Upd.refl [] _).drew
  have U3 := Lib.hid (U2.out.trans ud)
  have HB3 := Lib.hid (HB2.out.upd ud (by simp))
  obtain ⟨W3, hW3⟩ : ∃ W, W2.drew = W := ⟨_, rfl⟩
  refine wp_region_br (fun w' => w' = W2.drew) [0, 1, 2, 3, 4, 5, 6] (by kernel_rfl) (by kernel_rfl) rfl ?_
  rw [hW3] at U3 HB3 ⊢
  clear ud hW3 HB2 U2
  have m0 := HB3.out.cell 0 rfl
  have hi8 : (i : Int) < 8 := by omega
  have hi0 : 0 ≤ (i : Int) := by omega
  repeat
    first
      | (refine wpB_skip rfl (by kernel_rfl) (by rfl) ?_)
      | ((refine wpB_take (v := ?_) rfl rfl (by kernel_rfl) (by rfl) ?_ ?_); rotate_left 1; (· ((intro w hSw; (try dsimp only at hSw); go_simp); try with_reducible rfl)))
    try simp only [Act.put, List.setIfInBounds_toArray, List.set_cons_zero, List.set_cons_succ]
  refine wpB_end (by kernel_rfl) (NoPanic.normal ?_)
  go_wp2_with fail
  obtain ⟨C, tv, mv, hLM⟩ := hL
  have hL3 := hLM.upd0 (show Upd [] w W3 from U3.out)
  have ud : Upd [] W3 W3.drew := (Upd.refl [] _).drew
  have HL4 := Lib.hid (hL3.upd0 ud)
  have U4 := Lib.hid (U3.out.trans ud)
  have HB4 := Lib.hid (HB3.out.upd ud (by simp))
  obtain ⟨W4, hW4⟩ : ∃ W, W3.drew = W := ⟨_, rfl⟩
  refine wp_region_br (fun w' => w' = W3.drew) [0, 1, 2, 3, 4, 5, 6, 7, 8, 9, 10, 11, 12, 13, 14, 15, 16, 17, 18, 19, 20, 21, 22, 23, 24, 25, 26, 27, 28, 29] (by kernel_rfl) (by kernel_rfl) rfl ?_
  rw [hW4] at U4 HB4 HL4 ⊢
  clear ud hL3 hLM hW4 HB3 U3 m0
  have m0 := HB4.out.cell 0 rfl
  have m1 := HB4.out.cell 1 rfl
  have m2 := HB4.out.cell 2 rfl
  have m3 := HB4.out.cell 3 rfl
  have m4 := HB4.out.cell 4 rfl
  have m5 := HB4.out.cell 5 rfl
  have l0 := lk HL4.out.blk (HL4.out.cs.how i hi) (show 52 + i * 4 = 52 + 4 * i by omega)
  have lt := lk HL4.out.blk (HL4.out.cs.turns (S.ths i).how k (by omega) (by omega)) (show (S.ths i).how * 13 + k = 13 * (S.ths i).how + k by omega)
  obtain ⟨h, hhow⟩ : ∃ h, (S.ths i).how = h := ⟨_, rfl⟩
  obtain ⟨T, hTT⟩ : ∃ T, turnT h (k : Int) = T := ⟨_, rfl⟩
  rw [hhow] at l0 lt hh hT
  rw [hTT] at lt hT
  have hh4 : (h : Int) < 4 := by omega
  have hh0 : 0 ≤ (h : Int) := by omega
  have hk13 : (k : Int) < 13 := by omega
  have hk0 : 0 ≤ (k : Int) := by omega
  have bT : ((T : Int) == 0) = false := by simp [hT]
  try rw [hhow] at b0
  clear hT
  obtain ⟨N, hN⟩ : ∃ N, S.num = N := ⟨_, rfl⟩
  obtain ⟨sn, hsn⟩ : ∃ s, (S.ths i).snap = s := ⟨_, rfl⟩
  obtain ⟨H, hH⟩ : ∃ H, S.holder = H := ⟨_, rfl⟩
  obtain ⟨wl, hwl⟩ : ∃ l, (S.ths i).wr = l := ⟨_, rfl⟩
  obtain ⟨mvv, hmv⟩ : ∃ m, mv i = m := ⟨_, rfl⟩
  have hn1 := hok.num
  have hs1 := hok.snaps i
  rw [hN] at hn1
  rw [hsn] at hs1
  have hn0 : 0 ≤ N := hn1.1
  have hn9 : N ≤ 4611686018427387904 := by omega
  have hs0 : 0 ≤ sn := hs1.1
  have hs9 : sn ≤ 18446744073709551615 := by omega
  clear hn1 hs1
  have HNN := Lib.hid hN
  have HSN := Lib.hid hsn
  have HHO := Lib.hid hH
  have HHOW := Lib.hid hhow
  have HWL := Lib.hid hwl
  have HMV := Lib.hid hmv
  clear hN hsn hH hwl hmv
  repeat
    first
      | (refine wpB_skip rfl (by kernel_rfl) (by rfl) ?_)
      | ((refine wpB_take (v := ?_) rfl rfl (by kernel_rfl) (by rfl) ?_ ?_); rotate_left 1; (· ((intro w hSw; (try dsimp only at hSw); go_simp); try with_reducible rfl)))
    try simp only [Act.put, List.setIfInBounds_toArray, List.set_cons_zero, List.set_cons_succ]
  refine wpB_end (by kernel_rfl) (NoPanic.normal ?_)
  rw [HWL.out] at hlo
  rw [HHOW.out] at h0
  go_wp2_with fail
  have ud : Upd [] W4 W4.drew := (Upd.refl [] _).drew
  have HL5 := Lib.hid (HL4.out.upd0 ud)
  have U5 := Lib.hid (U4.out.trans ud)
  have HB5 := Lib.hid (HB4.out.upd ud (by simp))
  obtain ⟨W5, hW5⟩ : ∃ W, W4.drew = W := ⟨_, rfl⟩
  refine wp_region_br (fun w' => w' = W4.drew) [0, 1, 2, 3, 4, 5, 6, 7, 8, 9, 10, 11] (by kernel_rfl) (by kernel_rfl) rfl ?_
  rw [hW5] at U5 HB5 HL5 ⊢
  clear ud hW5 HB4 HL4 U4 m0 m1 m2 m3 m4 m5
  have m0 := HB5.out.cell 0 rfl
  have m1 := HB5.out.cell 1 rfl
  have m2 := HB5.out.cell 2 rfl
  have m3 := HB5.out.cell 3 rfl
  have m4 := HB5.out.cell 4 rfl
  have m5 := HB5.out.cell 5 rfl
  have ln := lk HL5.out.blk HL5.out.cs.num (rfl : 84 = 84)
  have lh := lk HL5.out.blk HL5.out.cs.hold (rfl : 85 = 85)
  have l0 := lk HL5.out.blk (HL5.out.cs.how i hi) (show 52 + i * 4 = 52 + 4 * i by omega)
  have l1 := lk HL5.out.blk (HL5.out.cs.snap i hi) (show 52 + i * 4 + 1 = 52 + 4 * i + 1 by omega)
  have l2 := lk HL5.out.blk (HL5.out.cs.wr i hi) (show 52 + i * 4 + 2 = 52 + 4 * i + 2 by omega)
  rw [HHOW.out] at l0
  rw [HNN.out] at ln
  rw [HSN.out] at l1
  rw [HHO.out] at lh
  rw [HMV.out] at l2
  obtain ⟨m, hmm, _, hmw⟩ := HL5.out.maps i hi (by rw [HHOW.out]; omega)
  rw [HMV.out] at hmm
  subst hmm
  rw [HWL.out] at hmw
  have hlk := mapW_look hmw had
  rw [hlo] at hlk
  clear hmw h0 hlo
  have fin : ∀ Y : Int, X = Y → X = Y := fun _ h => h
  cases lo with
  | none =>
    dsimp only [Option.getD, Option.isSome] at hlk
    cases own
    · dsimp only at hob
      subst hob
      obtain rfl : X = 0 := by rw [HX1.out]; rfl
      repeat
        first
          | (refine wpB_skip rfl (by kernel_rfl) (by rfl) ?_)
          | ((refine wpB_take (v := ?_) rfl rfl (by kernel_rfl) (by rfl) ?_ ?_); rotate_left 1; (· ((intro w hSw; (try dsimp only at hSw); go_simp); try with_reducible rfl)))
        try simp only [Act.put, List.setIfInBounds_toArray, List.set_cons_zero, List.set_cons_succ]
      refine wpB_end (by kernel_rfl) (NoPanic.normal ?_)
      go_wp2_with fail
      all_goals first | exact ⟨rfl, U5.out⟩ | exact U5.out
    · dsimp only at hob
      subst hob
      obtain rfl : X = 233 := by rw [HX1.out]; rfl
      repeat
        first
          | (refine wpB_skip rfl (by kernel_rfl) (by rfl) ?_)
          | ((refine wpB_take (v := ?_) rfl rfl (by kernel_rfl) (by rfl) ?_ ?_); rotate_left 1; (· ((intro w hSw; (try dsimp only at hSw); go_simp); try with_reducible rfl)))
        try simp only [Act.put, List.setIfInBounds_toArray, List.set_cons_zero, List.set_cons_succ]
      refine wpB_end (by kernel_rfl) (NoPanic.normal ?_)
      go_wp2_with fail
      all_goals first | exact ⟨rfl, U5.out⟩ | exact U5.out
  | some x =>
    dsimp only [Option.getD, Option.isSome] at hlk
    cases own
    · dsimp only at hob
      rw [Bool.false_and] at hob
      subst hob
      obtain rfl : X = 233 := by rw [HX1.out]; rfl
      repeat
        first
          | (refine wpB_skip rfl (by kernel_rfl) (by rfl) ?_)
          | ((refine wpB_take (v := ?_) rfl rfl (by kernel_rfl) (by rfl) ?_ ?_); rotate_left 1; (· ((intro w hSw; (try dsimp only at hSw); go_simp); try with_reducible rfl)))
        try simp only [Act.put, List.setIfInBounds_toArray, List.set_cons_zero, List.set_cons_succ]
      refine wpB_end (by kernel_rfl) (NoPanic.normal ?_)
      go_wp2_with fail
      all_goals first | exact ⟨rfl, U5.out⟩ | exact U5.out
    · dsimp only at hob
      rw [Bool.true_and] at hob
      cases ob
      · obtain rfl : X = 233 := by rw [HX1.out]; rfl
        repeat
          first
            | (refine wpB_skip rfl (by kernel_rfl) (by rfl) ?_)
            | ((refine wpB_take (v := ?_) rfl rfl (by kernel_rfl) (by rfl) ?_ ?_); rotate_left 1; (· ((intro w hSw; (try dsimp only at hSw); go_simp); try with_reducible rfl)))
          try simp only [Act.put, List.setIfInBounds_toArray, List.set_cons_zero, List.set_cons_succ]
        refine wpB_end (by kernel_rfl) (NoPanic.normal ?_)
        go_wp2_with fail
        all_goals first | exact ⟨rfl, U5.out⟩ | exact U5.out
      · obtain rfl : X = 0 := by rw [HX1.out]; rfl
        repeat
          first
            | (refine wpB_skip rfl (by kernel_rfl) (by rfl) ?_)
            | ((refine wpB_take (v := ?_) rfl rfl (by kernel_rfl) (by rfl) ?_ ?_); rotate_left 1; (· ((intro w hSw; (try dsimp only at hSw); go_simp); try with_reducible rfl)))
          try simp only [Act.put, List.setIfInBounds_toArray, List.set_cons_zero, List.set_cons_succ]
        refine wpB_end (by kernel_rfl) (NoPanic.normal ?_)
        go_wp2_with fail
        all_goals first | exact ⟨rfl, U5.out⟩ | exact U5.out
end Go.Proofs.YtfldpejifpmapaaDoor
