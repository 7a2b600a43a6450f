/- The thread's own step: what may not be begun. No conditions. -/
import Derived.Test.YthfeljongackcaaT1p17
import Derived.Deep.CutRange
import Derived.Deep.CutBlock
set_option linter.unusedSimpArgs false
set_option linter.unusedVariables false
set_option maxRecDepth 100000
namespace Go.Proofs.Ythfeljongackcaa
open Go.RowKit
open Go.Maps

-- the event is stored and told: W9 the world, HV the thread there (hidden), U what was written since w
-- the event's box

-- the form's box is made
-- it is filled: the region's end
-- a failure is told: V what stands behind the access (TV), U what was written
-- At is one further: TT the thread (hidden in HV2), WW the world
-- the end of an instruction of registers: At is one further, nothing is told. TT the thread, WW the world
-- a register is stored: at k the value V; TT the thread behind it
-- the same, the instruction's box kept
-- the region stores V at A; TT the thread behind it
-- a jump: region 32 and the return. HPL: the plain law
section
variable {w w' : World} {X : SX} {sh : Sh} {acc st : Int} {p : List Ins} {pb cap tb : Nat} {t : TS} {o : AO}
set_option maxHeartbeats 16000000 in
theorem step_fails (h : TV w X sh acc st p pb cap tb t o) (hidle : ∀ s, t.att = some s → s.phase = 1) (hfl : t.ins = true → 0 ≤ t.fuel ∧ t.fuel ≤ 4096) (hfp : formedP p = true) (hnum : ∀ i ∈ p, 0 ≤ i.n ∧ i.n < 18446744073709551616) (htw : TWide t) (hmay : ∀ s, t.att = some s → May s) (hbf : badIns t (opAt p t.at_) ∨ (t.ins = true ∧ t.fuel = 4096)) : Calls Try.prog 75 #[.pointer (some ⟨tb, 0, none⟩)] w (TOut w X acc st p pb cap tb o (stepT p t sh)) := by
  have HBF := Lib.hid hbf
  clear hbf
  obtain ⟨W1, hW⟩ : ∃ W, w.alloc (.cells #[.int .i64 0, .int .i64 0, .int .u64 0, .int .u64 0, .bool false, .int .i64 0] 34) = W := ⟨_, rfl⟩
  have U1 : Upd [] w W1 := by rw [← hW]; exact (Upd.refl [] _).alloc _
  have EB : Blk W1 w.heap.size teNone.cells 34 := by rw [← hW]; exact Blk.new w teNone.cells 34
  have hlt := h.head.lt
  have HLT := Lib.hid (show ∀ g, w.heap.size ≤ g → ¬ inTh X pb tb o g from fun g hg e => by have := h.lt e; omega)
  have hne2 : w.heap.size ≠ tb := by omega
  replace h := h.upd0 U1
  simp only [teNone, TE.cells] at EB
  have d11 := h.head.cell 11 (head_cell h.r8 h.s8).1
  have d34 := h.head.cell 34 (head_cell h.r8 h.s8).2.2.2.2.2.2
  have HA := Lib.hid h.att
  have H := Lib.hid h
  clear h
  refine calls_all fun K hK => ?_
  go_enter Try.func75, Try.ntmps75
  go_upto_region 1 with (fail)
  clear hW
  go_cut [21] from 9 to 21 (fun v wx => v = .bool false ∧ wx = W1)
  case first =>
    rcases HA.out with ⟨ha, ho⟩ | ⟨s, a, F, rv, wv, mv, ha, ho, hL⟩
    · rw [show t.ins = false by unfold TS.ins; rw [ha]; rfl] at d11
      go_wp2_with fail
      go_meet
      exact ⟨rfl, rfl⟩
    · rw [show t.ins = true by unfold TS.ins; rw [ha]; rfl] at d11
      rw [ho] at d34
      simp only [AO.ptr, Option.map_some] at d34
      have hph2 : (s.phase != 1) = false := by simpa using hidle s ha
      have HL := Lib.hid hL
      clear hL ho ha
      go_wp2_with fail
      refine (phase_code HL.out).mono ?_
      rintro e w' ⟨rfl, rfl⟩
      go_wp2_with fail
      go_meet
      exact ⟨rfl, rfl⟩
  case rest =>
    obtain ⟨rfl, rfl⟩ := hcut
    obtain ⟨W2, rfl⟩ : ∃ W, W = wc := ⟨wc, rfl⟩
    go_upto_region 3 with (fail)
    have d31 : W2.cell? ⟨tb, 31, none⟩ = some (progV pb cap p) := H.out.head.cell 31 (head_cell H.out.r8 H.out.s8).2.2.2.1
    have d2 : W2.cell? ⟨tb, 2, none⟩ = some (.int .i64 t.at_) := H.out.head.cell 2 rfl
    obtain ⟨op, hop⟩ : ∃ k, opAt p t.at_ = k := ⟨_, rfl⟩
    obtain ⟨f, hff⟩ : ∃ f, formI op = f := ⟨_, rfl⟩
    obtain ⟨ok, hok⟩ : ∃ ok, isOp op = ok := ⟨_, rfl⟩
    have HOP := Lib.hid hop
    have HFF := Lib.hid hff
    have HOK := Lib.hid hok
    clear hop hff hok
    go_cut [4, 5] from 33 to 46 (fun v4 v5 wx => AtForm W2 X sh acc st p pb cap tb w.heap.size t o f ok v4 v5 wx)
    case first =>
      have HI : Hid (∀ W, Calls Try.prog 111 #[.int .i64 op] W fun e w' => e = .returned (.tuple #[f.val, .bool ok]) ∧ Upd [] W w') := Lib.hid fun W => by rw [← HFF.out, ← HOK.out]; exact info op W
      have HC : Hid (∀ W, Upd [] W2 W → Calls Try.prog 112 #[progV pb cap p, .int .i64 t.at_] W fun e w' => e = .returned (.int .i64 op) ∧ W = w') := Lib.hid fun W u => by rw [← HOP.out]; exact op_code (H.out.prog.upd u (by simp)) t.at_
      have HB : Hid (∀ W, Upd [] W2 W → W.cell? ⟨tb, 31, none⟩ = some (progV pb cap p) ∧ W.cell? ⟨tb, 2, none⟩ = some (.int .i64 t.at_)) := Lib.hid fun W u => ⟨(H.out.head.upd u (by simp)).cell 31 (head_cell H.out.r8 H.out.s8).2.2.2.1, (H.out.head.upd u (by simp)).cell 2 rfl⟩
      obtain ⟨R, nm, tg, ou, is⟩ := f
      simp only [Form.val] at HI
      have ud := (Upd.refl [] W2).drew
      refine wp_region_br (fun w' => w'.cell? ⟨tb, 31, none⟩ = some (progV pb cap p) ∧ w'.cell? ⟨tb, 2, none⟩ = some (.int .i64 t.at_)) [0, 1, 2, 3, 4, 5, 6, 7, 8, 9, 10, 11, 12, 13, 14, 15, 16] (by kernel_rfl) (by kernel_rfl) (HB.out _ ud) ?_
      clear d31 d2 H HA HLT HFF HOK HOP
      generalize W2.drew = Wd at ud ⊢
      repeat
        first
          | (refine wpB_skip rfl (by kernel_rfl) (by rfl) ?_)
          | ((refine wpB_take (v := ?_) rfl rfl (by kernel_rfl) (by rfl) ?_ ?_); rotate_left 1; (· ((intro w hSw; (try dsimp only at hSw); go_simp); try with_reducible rfl)))
        try simp only [Act.put, List.setIfInBounds_toArray, List.set_cons_zero, List.set_cons_succ]
      refine wpB_two (i := 9) (j := 14) [9, 10, 11, 12, 13, 15, 16] (by kernel_rfl) rfl rfl (by rfl) (by rfl) (fun K2 hK2 => ?_) (fun K2 hK2 => ?_)
      · go_simp
        refine (HC.out _ ud).mono ?_
        rintro e w' ⟨rfl, rfl⟩
        refine hK2.out _ _ (HB.out _ ud) ?_
        clear hK2 K2
        repeat
          first
            | (refine wpB_skip rfl (by kernel_rfl) (by rfl) ?_)
            | ((refine wpB_take (v := ?_) rfl rfl (by kernel_rfl) (by rfl) ?_ ?_); rotate_left 1; (· ((intro w hSw; (try dsimp only at hSw); go_simp); try with_reducible rfl)))
          try simp only [Act.put, List.setIfInBounds_toArray, List.set_cons_zero, List.set_cons_succ]
        refine wpB_two (i := 10) (j := 14) [10, 11, 12, 13, 15, 16] (by kernel_rfl) rfl rfl (by rfl) (by rfl) (fun K2 hK2 => ?_) (fun K2 hK2 => ?_)
        · go_simp
          refine (HI.out _).mono ?_
          rintro e Wi ⟨rfl, u2⟩
          replace ud := ud.trans u2
          refine hK2.out _ _ (HB.out _ ud) ?_
          clear hK2 K2 u2
          repeat
            first
              | (refine wpB_skip rfl (by kernel_rfl) (by rfl) ?_)
              | ((refine wpB_take (v := ?_) rfl rfl (by kernel_rfl) (by rfl) ?_ ?_); rotate_left 1; (· ((intro w hSw; (try dsimp only at hSw); go_simp); try with_reducible rfl)))
            try simp only [Act.put, List.setIfInBounds_toArray, List.set_cons_zero, List.set_cons_succ]
          have hfl : W2.heap.size ≤ Wi.heap.size := ud.size
          refine wpB_eff rfl (by kernel_rfl) (by rfl) (fun K2 hK2 => ?_)
          go_simp
          obtain ⟨Wf, hWf⟩ : ∃ Wf, (Wi).alloc (.cells #[.int .i64 0, .bool false, .bool false, .bool false, .bool false] 175) = Wf := ⟨_, rfl⟩
          have uf : Upd [] (Wi) Wf := by rw [← hWf]; exact (Upd.refl [] _).alloc _
          have FB : Blk Wf (Wi).heap.size [.int .i64 0, .bool false, .bool false, .bool false, .bool false] 175 := by rw [← hWf]; exact Blk.new _ _ _
          replace ud := ud.trans uf
          rw [hWf]
          clear hWf uf
          generalize (Wi).heap.size = fb at FB hfl ⊢
          refine hK2.out _ _ (HB.out _ ud) ?_
          clear hK2 K2
          repeat
            first
              | (refine wpB_skip rfl (by kernel_rfl) (by rfl) ?_)
              | ((refine wpB_take (v := ?_) rfl rfl (by kernel_rfl) (by rfl) ?_ ?_); rotate_left 1; (· ((intro w hSw; (try dsimp only at hSw); go_simp); try with_reducible rfl)))
            try simp only [Act.put, List.setIfInBounds_toArray, List.set_cons_zero, List.set_cons_succ]
          have q0 := FB.cell 0 rfl
          have q1 := FB.cell 1 rfl
          have q2 := FB.cell 2 rfl
          have q3 := FB.cell 3 rfl
          have q4 := FB.cell 4 rfl
          have g0 := FB.free 0
          have g1 := FB.free 1
          have g2 := FB.free 2
          have g3 := FB.free 3
          have g4 := FB.free 4
          refine wpB_eff rfl (by kernel_rfl) (by rfl) (fun K2 hK2 => ?_)
          go_simp
          have FB2 := ((((FB.set 0 (.int .i64 (R : Int))).set 1 (.bool nm)).set 2 (.bool tg)).set 3 (.bool ou)).set 4 (.bool is)
          replace ud : Upd [] W2 _ := ((((ud.setCell (p := ⟨fb, 0, none⟩) (.inr hfl) (.int .i64 (R : Int))).setCell (p := ⟨fb, 1, none⟩) (.inr hfl) (.bool nm)).setCell (p := ⟨fb, 2, none⟩) (.inr hfl) (.bool tg)).setCell (p := ⟨fb, 3, none⟩) (.inr hfl) (.bool ou)).setCell (p := ⟨fb, 4, none⟩) (.inr hfl) (.bool is)
          refine hK2.out _ _ (HB.out _ ud) ?_
          clear hK2 K2 q0 q1 q2 q3 q4 g0 g1 g2 g3 g4
          repeat
            first
              | (refine wpB_skip rfl (by kernel_rfl) (by rfl) ?_)
              | ((refine wpB_take (v := ?_) rfl rfl (by kernel_rfl) (by rfl) ?_ ?_); rotate_left 1; (· ((intro w hSw; (try dsimp only at hSw); go_simp); try with_reducible rfl)))
            try simp only [Act.put, List.setIfInBounds_toArray, List.set_cons_zero, List.set_cons_succ]
          refine wpB_end (by kernel_rfl) (NoPanic.normal ?_)
          go_wp2_with fail
          go_meet
          exact ⟨fb, rfl, rfl, FB2, ud⟩
        · go_simp
          have hfl : W2.heap.size ≤ Wd.heap.size := ud.size
          obtain ⟨Wf, hWf⟩ : ∃ Wf, (Wd).alloc (.cells #[.int .i64 0, .bool false, .bool false, .bool false, .bool false] 175) = Wf := ⟨_, rfl⟩
          have uf : Upd [] (Wd) Wf := by rw [← hWf]; exact (Upd.refl [] _).alloc _
          have FB : Blk Wf (Wd).heap.size [.int .i64 0, .bool false, .bool false, .bool false, .bool false] 175 := by rw [← hWf]; exact Blk.new _ _ _
          replace ud := ud.trans uf
          rw [hWf]
          clear hWf uf
          generalize (Wd).heap.size = fb at FB hfl ⊢
          refine hK2.out _ _ (HB.out _ ud) ?_
          clear hK2 K2
          refine wpB_eff rfl (by kernel_rfl) (by rfl) (fun K2 hK2 => ?_)
          go_simp
          refine (HI.out _).mono ?_
          rintro e Wi ⟨rfl, u2⟩
          replace ud := ud.trans u2
          replace FB := FB.upd u2 (by simp)
          refine hK2.out _ _ (HB.out _ ud) ?_
          clear hK2 K2 u2
          repeat
            first
              | (refine wpB_skip rfl (by kernel_rfl) (by rfl) ?_)
              | ((refine wpB_take (v := ?_) rfl rfl (by kernel_rfl) (by rfl) ?_ ?_); rotate_left 1; (· ((intro w hSw; (try dsimp only at hSw); go_simp); try with_reducible rfl)))
            try simp only [Act.put, List.setIfInBounds_toArray, List.set_cons_zero, List.set_cons_succ]
          have q0 := FB.cell 0 rfl
          have q1 := FB.cell 1 rfl
          have q2 := FB.cell 2 rfl
          have q3 := FB.cell 3 rfl
          have q4 := FB.cell 4 rfl
          have g0 := FB.free 0
          have g1 := FB.free 1
          have g2 := FB.free 2
          have g3 := FB.free 3
          have g4 := FB.free 4
          refine wpB_eff rfl (by kernel_rfl) (by rfl) (fun K2 hK2 => ?_)
          go_simp
          have FB2 := ((((FB.set 0 (.int .i64 (R : Int))).set 1 (.bool nm)).set 2 (.bool tg)).set 3 (.bool ou)).set 4 (.bool is)
          replace ud : Upd [] W2 _ := ((((ud.setCell (p := ⟨fb, 0, none⟩) (.inr hfl) (.int .i64 (R : Int))).setCell (p := ⟨fb, 1, none⟩) (.inr hfl) (.bool nm)).setCell (p := ⟨fb, 2, none⟩) (.inr hfl) (.bool tg)).setCell (p := ⟨fb, 3, none⟩) (.inr hfl) (.bool ou)).setCell (p := ⟨fb, 4, none⟩) (.inr hfl) (.bool is)
          refine hK2.out _ _ (HB.out _ ud) ?_
          clear hK2 K2 q0 q1 q2 q3 q4 g0 g1 g2 g3 g4
          repeat
            first
              | (refine wpB_skip rfl (by kernel_rfl) (by rfl) ?_)
              | ((refine wpB_take (v := ?_) rfl rfl (by kernel_rfl) (by rfl) ?_ ?_); rotate_left 1; (· ((intro w hSw; (try dsimp only at hSw); go_simp); try with_reducible rfl)))
            try simp only [Act.put, List.setIfInBounds_toArray, List.set_cons_zero, List.set_cons_succ]
          refine wpB_end (by kernel_rfl) (NoPanic.normal ?_)
          go_wp2_with fail
          go_meet
          exact ⟨fb, rfl, rfl, FB2, ud⟩
      · go_simp
        have hfl : W2.heap.size ≤ Wd.heap.size := ud.size
        obtain ⟨Wf, hWf⟩ : ∃ Wf, (Wd).alloc (.cells #[.int .i64 0, .bool false, .bool false, .bool false, .bool false] 175) = Wf := ⟨_, rfl⟩
        have uf : Upd [] (Wd) Wf := by rw [← hWf]; exact (Upd.refl [] _).alloc _
        have FB : Blk Wf (Wd).heap.size [.int .i64 0, .bool false, .bool false, .bool false, .bool false] 175 := by rw [← hWf]; exact Blk.new _ _ _
        replace ud := ud.trans uf
        rw [hWf]
        clear hWf uf
        generalize (Wd).heap.size = fb at FB hfl ⊢
        refine hK2.out _ _ (HB.out _ ud) ?_
        clear hK2 K2
        refine wpB_eff rfl (by kernel_rfl) (by rfl) (fun K2 hK2 => ?_)
        go_simp
        refine (HC.out _ ud).mono ?_
        rintro e w' ⟨rfl, rfl⟩
        refine hK2.out _ _ (HB.out _ ud) ?_
        clear hK2 K2
        repeat
          first
            | (refine wpB_skip rfl (by kernel_rfl) (by rfl) ?_)
            | ((refine wpB_take (v := ?_) rfl rfl (by kernel_rfl) (by rfl) ?_ ?_); rotate_left 1; (· ((intro w hSw; (try dsimp only at hSw); go_simp); try with_reducible rfl)))
          try simp only [Act.put, List.setIfInBounds_toArray, List.set_cons_zero, List.set_cons_succ]
        refine wpB_eff rfl (by kernel_rfl) (by rfl) (fun K2 hK2 => ?_)
        go_simp
        refine (HI.out _).mono ?_
        rintro e Wi ⟨rfl, u2⟩
        replace ud := ud.trans u2
        replace FB := FB.upd u2 (by simp)
        refine hK2.out _ _ (HB.out _ ud) ?_
        clear hK2 K2 u2
        repeat
          first
            | (refine wpB_skip rfl (by kernel_rfl) (by rfl) ?_)
            | ((refine wpB_take (v := ?_) rfl rfl (by kernel_rfl) (by rfl) ?_ ?_); rotate_left 1; (· ((intro w hSw; (try dsimp only at hSw); go_simp); try with_reducible rfl)))
          try simp only [Act.put, List.setIfInBounds_toArray, List.set_cons_zero, List.set_cons_succ]
        have q0 := FB.cell 0 rfl
        have q1 := FB.cell 1 rfl
        have q2 := FB.cell 2 rfl
        have q3 := FB.cell 3 rfl
        have q4 := FB.cell 4 rfl
        have g0 := FB.free 0
        have g1 := FB.free 1
        have g2 := FB.free 2
        have g3 := FB.free 3
        have g4 := FB.free 4
        refine wpB_eff rfl (by kernel_rfl) (by rfl) (fun K2 hK2 => ?_)
        go_simp
        have FB2 := ((((FB.set 0 (.int .i64 (R : Int))).set 1 (.bool nm)).set 2 (.bool tg)).set 3 (.bool ou)).set 4 (.bool is)
        replace ud : Upd [] W2 _ := ((((ud.setCell (p := ⟨fb, 0, none⟩) (.inr hfl) (.int .i64 (R : Int))).setCell (p := ⟨fb, 1, none⟩) (.inr hfl) (.bool nm)).setCell (p := ⟨fb, 2, none⟩) (.inr hfl) (.bool tg)).setCell (p := ⟨fb, 3, none⟩) (.inr hfl) (.bool ou)).setCell (p := ⟨fb, 4, none⟩) (.inr hfl) (.bool is)
        refine hK2.out _ _ (HB.out _ ud) ?_
        clear hK2 K2 q0 q1 q2 q3 q4 g0 g1 g2 g3 g4
        repeat
          first
            | (refine wpB_skip rfl (by kernel_rfl) (by rfl) ?_)
            | ((refine wpB_take (v := ?_) rfl rfl (by kernel_rfl) (by rfl) ?_ ?_); rotate_left 1; (· ((intro w hSw; (try dsimp only at hSw); go_simp); try with_reducible rfl)))
          try simp only [Act.put, List.setIfInBounds_toArray, List.set_cons_zero, List.set_cons_succ]
        refine wpB_end (by kernel_rfl) (NoPanic.normal ?_)
        go_wp2_with fail
        go_meet
        exact ⟨fb, rfl, rfl, FB2, ud⟩
    case rest =>
      obtain ⟨fb, rfl, rfl, FB, uc⟩ := hcut
      obtain ⟨W3, rfl⟩ : ∃ W, W = wc := ⟨wc, rfl⟩
      replace H := Lib.hid (H.out.upd0 uc)
      replace EB : Blk W3 _ teNone.cells _ := EB.upd uc (by simp)
      have U : Upd (tb :: (o.foot ++ X.foot)) w W3 := (U1.mono (by simp)).trans (uc.mono (by simp))
      replace d11 := H.out.head.cell 11 (head_cell H.out.r8 H.out.s8).1
      have d21 := H.out.head.cell 21 (head_cell H.out.r8 H.out.s8).2.2.1
      have g21 := H.out.head.free 21
      obtain ⟨ins, hins⟩ : ∃ b, t.ins = b := ⟨_, rfl⟩
      rw [hins] at d11
      have HINS := Lib.hid hins
      clear d34 d31 d2 HA uc U1 hins
      obtain ⟨R, nm, tg, ou, is⟩ := f
      have f3 : W3.cell? ⟨fb, 3, none⟩ = some (.bool ou) := FB.cell 3 rfl
      have f4 : W3.cell? ⟨fb, 4, none⟩ = some (.bool is) := FB.cell 4 rfl
      clear FB
      have HBAD : Hid (badIns t op ↔ ok = false ∨ (ins = true ∧ is = false) ∨ (ins = false ∧ ou = false)) := Lib.hid (by
        unfold badIns
        rw [HOK.out, HFF.out, HINS.out])
      go_upto_block 0 with (fail)
      go_cut [5] from 47 to 111 (fun _ wx => AtGo w X sh acc st p pb cap tb t o wx)
      case first =>
        have HID := Lib.hid hidle
        clear hidle
        cases ok with
        | false =>
          have hb : badIns t op := HBAD.out.2 (.inl rfl)
          have hS := stepT_bad (sh := sh) HID.out (by rw [HOP.out]; exact hb)
          rw [hS] at hK
          have HV2 := H
          clear hS hb HBAD d21 g21 f3 f4 HFF HOK HOP
          go_wp2_with fail
          have hf := fail_tv HV2.out 210
          have HF := Lib.hid hf
          obtain ⟨T, hT⟩ : ∃ T, failT t 210 = T := ⟨_, rfl⟩
          rw [hT] at HF hK
          clear hf hT
          refine HF.out.mono ?_
          rintro e W3 ⟨rfl, o', V3, u3, ho⟩
          obtain ⟨⟨⟨ek, ea, ew, eo, ee⟩, tl⟩, t'⟩ := T
          simp only [TE.val]
          have HV := Lib.hid V3
          replace EB : Blk W3 _ teNone.cells _ := EB.upd u3 (by simpa using hne2)
          replace U := U.trans (up_own u3 (by simp))
          clear V3 u3 HF
          have q0 := EB.cell 0 rfl
          have q1 := EB.cell 1 rfl
          have q2 := EB.cell 2 rfl
          have q3 := EB.cell 3 rfl
          have q4 := EB.cell 4 rfl
          have q5 := EB.cell 5 rfl
          have f0 := EB.free 0
          have f1 := EB.free 1
          have f2 := EB.free 2
          have f3 := EB.free 3
          have f4 := EB.free 4
          have f5 := EB.free 5
          go_wp2_with fail
          refine bodyPost_ret (ev_results2 2 3 rfl _ _ (w.heap.size) (⟨ek, ea, ew, eo, ee⟩ : TE) (.bool tl) rfl rfl (ev_set (e0 := teNone) EB (⟨ek, ea, ew, eo, ee⟩ : TE))) rfl (hK _ _ ⟨rfl, _, _, _, HV.out.updn (ev_upd (S := [w.heap.size]) (Upd.refl _ _) (.inl (by simp)) _ _ _ _ _ _) ?_, ev_upd U (.inr (by omega)) _ _ _ _ _ _, ?_, .inl ⟨rfl, rfl⟩⟩)
          · exact fun g hg e => by simp at hg; exact HLT.out g (by omega) (inTh_less ho e)
          · exact fun g hg => .inl (by rcases ho with rfl | rfl; exact hg; simp [AO.foot] at hg)
        | true =>
          cases ins with
          | true =>
            cases is with
            | false =>
              have hb : badIns t op := HBAD.out.2 (.inr (.inl ⟨rfl, rfl⟩))
              have hS := stepT_bad (sh := sh) HID.out (by rw [HOP.out]; exact hb)
              rw [hS] at hK
              have HV2 := H
              clear hS hb HBAD d21 g21 HFF HOK HOP
              go_wp2_with fail
              have hf := fail_tv HV2.out 210
              have HF := Lib.hid hf
              obtain ⟨T, hT⟩ : ∃ T, failT t 210 = T := ⟨_, rfl⟩
              rw [hT] at HF hK
              clear hf hT
              refine HF.out.mono ?_
              rintro e W3 ⟨rfl, o', V3, u3, ho⟩
              obtain ⟨⟨⟨ek, ea, ew, eo, ee⟩, tl⟩, t'⟩ := T
              simp only [TE.val]
              have HV := Lib.hid V3
              replace EB : Blk W3 _ teNone.cells _ := EB.upd u3 (by simpa using hne2)
              replace U := U.trans (up_own u3 (by simp))
              clear V3 u3 HF
              have q0 := EB.cell 0 rfl
              have q1 := EB.cell 1 rfl
              have q2 := EB.cell 2 rfl
              have q3 := EB.cell 3 rfl
              have q4 := EB.cell 4 rfl
              have q5 := EB.cell 5 rfl
              have f0 := EB.free 0
              have f1 := EB.free 1
              have f2 := EB.free 2
              have f3 := EB.free 3
              have f4 := EB.free 4
              have f5 := EB.free 5
              go_wp2_with fail
              refine bodyPost_ret (ev_results2 2 3 rfl _ _ (w.heap.size) (⟨ek, ea, ew, eo, ee⟩ : TE) (.bool tl) rfl rfl (ev_set (e0 := teNone) EB (⟨ek, ea, ew, eo, ee⟩ : TE))) rfl (hK _ _ ⟨rfl, _, _, _, HV.out.updn (ev_upd (S := [w.heap.size]) (Upd.refl _ _) (.inl (by simp)) _ _ _ _ _ _) ?_, ev_upd U (.inr (by omega)) _ _ _ _ _ _, ?_, .inl ⟨rfl, rfl⟩⟩)
              · exact fun g hg e => by simp at hg; exact HLT.out g (by omega) (inTh_less ho e)
              · exact fun g hg => .inl (by rcases ho with rfl | rfl; exact hg; simp [AO.foot] at hg)
            | true =>
              have hb : ¬ badIns t op := fun h => by have := HBAD.out.1 h; simp at this
              by_cases hfu : t.fuel = 4096
              · have hS := stepT_full (sh := sh) HID.out (by rw [HOP.out]; exact hb) ⟨HINS.out, hfu⟩
                rw [hS] at hK
                have HV2 := H
                have hfb : (t.fuel == 4096) = true := by simpa using hfu
                clear hS hb HBAD g21 HFF HOK HOP hfu
                go_wp2_with fail
                have hf := fail_tv HV2.out 6
                have HF := Lib.hid hf
                obtain ⟨T, hT⟩ : ∃ T, failT t 6 = T := ⟨_, rfl⟩
                rw [hT] at HF hK
                clear hf hT
                refine HF.out.mono ?_
                rintro e W3 ⟨rfl, o', V3, u3, ho⟩
                obtain ⟨⟨⟨ek, ea, ew, eo, ee⟩, tl⟩, t'⟩ := T
                simp only [TE.val]
                have HV := Lib.hid V3
                replace EB : Blk W3 _ teNone.cells _ := EB.upd u3 (by simpa using hne2)
                replace U := U.trans (up_own u3 (by simp))
                clear V3 u3 HF
                have q0 := EB.cell 0 rfl
                have q1 := EB.cell 1 rfl
                have q2 := EB.cell 2 rfl
                have q3 := EB.cell 3 rfl
                have q4 := EB.cell 4 rfl
                have q5 := EB.cell 5 rfl
                have f0 := EB.free 0
                have f1 := EB.free 1
                have f2 := EB.free 2
                have f3 := EB.free 3
                have f4 := EB.free 4
                have f5 := EB.free 5
                go_wp2_with fail
                refine bodyPost_ret (ev_results2 2 3 rfl _ _ (w.heap.size) (⟨ek, ea, ew, eo, ee⟩ : TE) (.bool tl) rfl rfl (ev_set (e0 := teNone) EB (⟨ek, ea, ew, eo, ee⟩ : TE))) rfl (hK _ _ ⟨rfl, _, _, _, HV.out.updn (ev_upd (S := [w.heap.size]) (Upd.refl _ _) (.inl (by simp)) _ _ _ _ _ _) ?_, ev_upd U (.inr (by omega)) _ _ _ _ _ _, ?_, .inl ⟨rfl, rfl⟩⟩)
                · exact fun g hg e => by simp at hg; exact HLT.out g (by omega) (inTh_less ho e)
                · exact fun g hg => .inl (by rcases ho with rfl | rfl; exact hg; simp [AO.foot] at hg)
              · have hfb : (t.fuel == 4096) = false := by simpa using hfu
                have hw1 : wrap64 (t.fuel + 1) = t.fuel + 1 := by have := hfl HINS.out; unfold wrap64; omega
                have HB := Lib.hid hb
                have HFU := Lib.hid hfu
                clear hb hfu
                go_wp2_with fail
                go_meet
                have hft : fuelT t = { t with fuel := t.fuel + 1 } := by unfold fuelT; rw [if_pos HINS.out]
                have h21 : (headTV t (progV pb cap p) X o.ptr).set 21 (.int .i64 (t.fuel + 1)) = headTV { t with fuel := t.fuel + 1 } (progV pb cap p) X o.ptr := head_setF H.out.r8 H.out.s8 _
                have hB := H.out.head.set 21 (.int .i64 (t.fuel + 1))
                rw [h21] at hB
                refine ⟨?_, EB.other ⟨tb, 21, none⟩ _ hne2, U.setCell (.inl (by simp)) _, by rw [HOP.out]; exact HB.out, fun h => HFU.out h.2⟩
                rw [hft]
                exact H.out.own (t' := { t with fuel := t.fuel + 1 }) hB ((Upd.refl [tb] W3).setCell (.inl (by simp)) _) H.out.r8 H.out.s8 rfl
          | false =>
            cases ou with
            | false =>
              have hb : badIns t op := HBAD.out.2 (.inr (.inr ⟨rfl, rfl⟩))
              have hS := stepT_bad (sh := sh) HID.out (by rw [HOP.out]; exact hb)
              rw [hS] at hK
              have HV2 := H
              clear hS hb HBAD d21 g21 HFF HOK HOP
              go_wp2_with fail
              have hf := fail_tv HV2.out 210
              have HF := Lib.hid hf
              obtain ⟨T, hT⟩ : ∃ T, failT t 210 = T := ⟨_, rfl⟩
              rw [hT] at HF hK
              clear hf hT
              refine HF.out.mono ?_
              rintro e W3 ⟨rfl, o', V3, u3, ho⟩
              obtain ⟨⟨⟨ek, ea, ew, eo, ee⟩, tl⟩, t'⟩ := T
              simp only [TE.val]
              have HV := Lib.hid V3
              replace EB : Blk W3 _ teNone.cells _ := EB.upd u3 (by simpa using hne2)
              replace U := U.trans (up_own u3 (by simp))
              clear V3 u3 HF
              have q0 := EB.cell 0 rfl
              have q1 := EB.cell 1 rfl
              have q2 := EB.cell 2 rfl
              have q3 := EB.cell 3 rfl
              have q4 := EB.cell 4 rfl
              have q5 := EB.cell 5 rfl
              have f0 := EB.free 0
              have f1 := EB.free 1
              have f2 := EB.free 2
              have f3 := EB.free 3
              have f4 := EB.free 4
              have f5 := EB.free 5
              go_wp2_with fail
              refine bodyPost_ret (ev_results2 2 3 rfl _ _ (w.heap.size) (⟨ek, ea, ew, eo, ee⟩ : TE) (.bool tl) rfl rfl (ev_set (e0 := teNone) EB (⟨ek, ea, ew, eo, ee⟩ : TE))) rfl (hK _ _ ⟨rfl, _, _, _, HV.out.updn (ev_upd (S := [w.heap.size]) (Upd.refl _ _) (.inl (by simp)) _ _ _ _ _ _) ?_, ev_upd U (.inr (by omega)) _ _ _ _ _ _, ?_, .inl ⟨rfl, rfl⟩⟩)
              · exact fun g hg e => by simp at hg; exact HLT.out g (by omega) (inTh_less ho e)
              · exact fun g hg => .inl (by rcases ho with rfl | rfl; exact hg; simp [AO.foot] at hg)
            | true =>
              have hb : ¬ badIns t op := fun h => by have := HBAD.out.1 h; simp at this
              have HB := Lib.hid hb
              clear hb
              go_wp2_with fail
              go_meet
              have hft : fuelT t = t := by unfold fuelT; rw [if_neg (by rw [HINS.out]; simp)]
              refine ⟨by rw [hft]; exact H.out, EB, U, by rw [HOP.out]; exact HB.out, fun h => by rw [HINS.out] at h; exact absurd h.1 (by simp)⟩
      case rest =>
        obtain ⟨V, EB2, U2, hnb, hnf⟩ := hcut
        rcases HBF.out with k | k
        · exact absurd k hnb
        · exact absurd k hnf
end
end Go.Proofs.Ythfeljongackcaa
