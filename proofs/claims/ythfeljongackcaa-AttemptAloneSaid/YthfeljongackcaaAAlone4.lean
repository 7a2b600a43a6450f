/- AttemptAlone: committed: the commit, step by step, and the cells behind it. The conditions: an attempt alone, its log short. -/
import Derived.Test.YthfeljongackcaaAAlone3
set_option linter.unusedSimpArgs false
set_option linter.unusedVariables false
set_option maxRecDepth 100000
namespace Go.Proofs.Ythfeljongackcaa
open Go.RowKit
open Go.Maps
theorem XAt.words {w : World} {X : SX} {sh : Sh} (h : XAt w X sh) : Calls Try.prog 52 #[.pointer (some ⟨X.ra, 0, none⟩)] w (MadeInts w sh.row) := by
  obtain ⟨acc, st, h⟩ := h
  exact words_row h.row

/-- where the commit stands behind k steps -/
def CP (ws : List Int) (R L : List (Int × Int)) (k : Nat) (T : Trn) (s : AS) (sh : Sh) : Prop :=
  (∃ j, k = j + 1 ∧ j < L.length ∧ T.out = 1 ∧ s = c8 R L j ∧ sh = ⟨stores ws (L.take j), 1⟩) ∨ (k = L.length + 1 ∧ T.out = 1 ∧ s = c9 R L ∧ sh = ⟨stores ws L, 1⟩) ∨
    (k = L.length + 2 ∧ T = ⟨4, 0, ⟨6, 0, 1, false⟩⟩ ∧ s = overS ∧ sh = ⟨stores ws L, 2⟩)
theorem CP.step {ws : List Int} {R L : List (Int × Int)} {k : Nat} {T : Trn} {s : AS} {sh : Sh} (h : CP ws R L k T s sh) (hk : k ≤ L.length + 1) :
    (stepS s sh).2.1 = 0 ∧ CP ws R L (k + 1) (stepS s sh).1 (stepS s sh).2.2.1 (stepS s sh).2.2.2 := by
  rcases h with ⟨j, rfl, hj, _, rfl, rfl⟩ | ⟨rfl, _, rfl, rfl⟩ | ⟨rfl, _⟩
  · by_cases hl : j + 1 < L.length
    · rw [c8_step hl]
      exact ⟨rfl, .inl ⟨j + 1, rfl, hl, rfl, rfl, rfl⟩⟩
    · have hl : j + 1 = L.length := by omega
      rw [c8_last hl]
      exact ⟨rfl, .inr (.inl ⟨by omega, rfl, rfl, rfl⟩)⟩
  · rw [c9_step]
    exact ⟨rfl, .inr (.inr ⟨rfl, rfl, rfl, rfl⟩)⟩
  · omega
theorem CP.out {ws : List Int} {R L : List (Int × Int)} {k : Nat} {T : Trn} {s : AS} {sh : Sh} (h : CP ws R L k T s sh) (hk : k ≤ L.length + 1) : T.out = 1 := by
  rcases h with ⟨j, rfl, hj, h, rfl, rfl⟩ | ⟨rfl, h, rfl, rfl⟩ | ⟨rfl, _⟩
  · exact h
  · exact h
  · omega
theorem CP.end {ws : List Int} {R L : List (Int × Int)} {k : Nat} {T : Trn} {s : AS} {sh : Sh} (h : CP ws R L k T s sh) (hk : ¬ k ≤ L.length + 1) : k = L.length + 2 ∧ T = ⟨4, 0, ⟨6, 0, 1, false⟩⟩ ∧ s = overS ∧ sh = ⟨stores ws L, 2⟩ := by
  rcases h with ⟨j, rfl, hj, h, rfl, rfl⟩ | ⟨rfl, h, rfl, rfl⟩ | h
  · omega
  · omega
  · exact h
set_option maxHeartbeats 4000000 in
theorem committed_walk {W : World} {X : SX} {ws : List Int} {a : Nat} {R L : List (Int × Int)} {F : List Nat} (h : LX W X (sh0 ws) a (al R L) F) (hM : May (al R L)) (hin : ∀ c ∈ L, 0 ≤ c.1 ∧ c.1 < ws.length) (hn : ws.length ≤ 65536) (hl : L.length ≤ 500)
    (N : List Int) (hN : N = nowL ws L) (n1 c1 : Nat) (sp1 : List Value) (B1 : Blk W n1 (N.map (Value.int .u64) ++ sp1) 31) (hn1 : n1 ∉ own X a F) :
    Calls Try.prog 21 #[.pointer (some ⟨a, 0, none⟩), .int .i64 L.length, .pointer (some ⟨X.ra, 0, none⟩), .pointer (some ⟨X.ca, 0, none⟩), .slice (some ⟨n1, 0, none⟩) N.length c1] W fun e W' => e = .returned (.bool true) ∧ Upd (own X a F) W W' := by
  have hNl : N.length = ws.length := by rw [hN, nowL_len]
  have HL := Lib.hid h
  have HM := Lib.hid hM
  have HB1 := Lib.hid B1
  by_cases hL0 : L = []
  · subst hL0
    rw [nowL_nil] at hN
    have HN := Lib.hid hN
    have HE := Lib.hid (al_end_no (ws := ws) (R := R))
    clear h hM B1 hin hN
    refine calls_all fun K hK => ?_
    go_enter Try.func21, Try.ntmps21
    go_wp2_with fail
    have hcall := end_x HL.out HM.out
    rw [HE.out] at hcall
    refine hcall.mono ?_
    clear hcall
    rintro e W2 ⟨rfl, F2, hL2, u2, hF2⟩
    simp only [Trn.val] at hL2 ⊢
    have S : Sg (own X a F) W W2.heap.size ⟨4, 0, ⟨6, 0, 0, false⟩⟩ X ⟨ws, 0⟩ a overS F2 (W2.alloc (.cells #[.int .i64 4, .int .u64 0, .int .i64 0, .int .i64 6, .int .u64 0, .int .u64 0, .bool false, .int .i64 0] 36)) :=
      Sg.first hL2 u2 (fun g hg => (hF2 g hg).imp (fun k => by simp [own, k]) id) (by simp [own]) (fun g hg => by simp [own, hg]) ⟨4, 0, ⟨6, 0, 0, false⟩⟩
    rw [← HN.out] at S
    clear hL2 u2 hF2 HE
    go_wp2_with fail
    generalize hW3 : W2.alloc (.cells #[.int .i64 4, .int .u64 0, .int .i64 0, .int .i64 6, .int .u64 0, .int .u64 0, .bool false, .int .i64 0] 36) = W3 at S ⊢
    clear hW3
    go_loopw [12, 13] (fun v12 v13 wr => v12 = .int .i64 0 ∧ v13 = .int .i64 1 ∧ wr = W3) (fun _ _ _ => 0)
    case atStart => exact ⟨rfl, rfl, rfl⟩
    case round =>
      obtain ⟨rfl, rfl, rfl⟩ := hrel
      have q0 := S.blk.cell 0 rfl
      go_wp2_with fail
      refine (num07 _ _).mono ?_
      rintro e w' ⟨rfl, rfl⟩
      go_wp2_with fail
      clear q0
      refine (S.hL.xat.clk).mono ?_
      rintro e w7 ⟨rfl, hX7, u7⟩
      replace S := S.shared hX7 u7
      clear hX7 u7
      go_wp2_with fail
      have q0 := (S.blk).cell 0 rfl
      have q1 := (S.blk).cell 1 rfl
      have q2 := (S.blk).cell 2 rfl
      have q3 := (S.blk).cell 3 rfl
      have q4 := (S.blk).cell 4 rfl
      have q5 := (S.blk).cell 5 rfl
      have q6 := (S.blk).cell 6 rfl
      have q7 := (S.blk).cell 7 rfl
      have g0 := (S.blk).free 0
      have g1 := (S.blk).free 1
      have g2 := (S.blk).free 2
      have g3 := (S.blk).free 3
      have g4 := (S.blk).free 4
      have g5 := (S.blk).free 5
      have g6 := (S.blk).free 6
      have g7 := (S.blk).free 7
      refine (num07 _ _).mono ?_
      rintro e w' ⟨rfl, rfl⟩
      go_wp2_with fail
      refine S.hL.xat.words.mono ?_
      rintro e w8 ⟨gg, spare, rfl, _, hB8, u8⟩
      go_wp2_with fail
      have hq := SlI.of_blk ((HB1.out.upd S.U hn1).upd u8 (by simp))
      have hs := fun c d => same_ints w8 (some ⟨gg, 0, none⟩) _ N c d (SlI.of_blk hB8) hq (by omega)
      simp only [hNl] at hs
      refine (hs _ _).mono ?_
      rintro e w9 ⟨rfl, u9⟩
      go_wp2_with fail
      all_goals exact ⟨rfl, S.U.trans ((u8.trans u9).mono (by simp))⟩
  · have hst : stores ws L = N := by rw [hN]; exact nowL_stores (fun c hc => (hin c hc).1) hM.nodup
    have hpos : 0 < L.length := List.length_pos_iff.2 hL0
    have hpos' : (0 : Int) < (L.length : Int) := by omega
    have HE := Lib.hid (al_end (ws := ws) (R := R) hL0)
    have hM2 : May (c8 R L 0) := by have := may_end (sh := sh0 ws) hM; rw [al_end hL0] at this; exact this
    have HM2 := Lib.hid hM2
    have HST := Lib.hid hst
    have hww : ((L.length : Int) + 2 == (L.length : Int) + 2) = true := by simp
    clear h hM B1 hin hN hM2 hst hL0
    refine calls_all fun K hK => ?_
    go_enter Try.func21, Try.ntmps21
    go_wp2_with fail
    have hcall := end_x HL.out HM.out
    rw [HE.out] at hcall
    refine hcall.mono ?_
    clear hcall
    rintro e W2 ⟨rfl, F2, hL2, u2, hF2⟩
    simp only [Trn.val] at hL2 ⊢
    have S : Sg (own X a F) W W2.heap.size ⟨1, 0, ⟨5, 0, 0, false⟩⟩ X ⟨ws, 1⟩ a (c8 R L 0) F2 (W2.alloc (.cells #[.int .i64 1, .int .u64 0, .int .i64 0, .int .i64 5, .int .u64 0, .int .u64 0, .bool false, .int .i64 0] 36)) :=
      Sg.first hL2 u2 (fun g hg => (hF2 g hg).imp (fun k => by simp [own, k]) id) (by simp [own]) (fun g hg => by simp [own, hg]) ⟨1, 0, ⟨5, 0, 0, false⟩⟩
    clear hL2 u2 hF2 HE
    go_wp2_with fail
    generalize hW3 : W2.alloc (.cells #[.int .i64 1, .int .u64 0, .int .i64 0, .int .i64 5, .int .u64 0, .int .u64 0, .bool false, .int .i64 0] 36) = W3 at S ⊢
    clear hW3
    generalize W2.heap.size = tb at S ⊢
    go_loopw [12, 13] (fun v12 v13 wr => ∃ (k : Nat) (T : Trn) (s : AS) (sh : Sh) (F' : List Nat), v12 = .int .i64 0 ∧ v13 = .int .i64 k ∧ CP ws R L k T s sh ∧ May s ∧ Sg (own X a F) W tb T X sh a s F' wr) (fun _ v13 _ => L.length + 2 - (intOf v13).toNat)
    case atStart => exact ⟨1, _, _, _, F2, rfl, rfl, .inl ⟨0, rfl, hpos, rfl, rfl, rfl⟩, HM2.out, S⟩
    case round =>
      clear S HM2
      obtain ⟨k, T, s, sh, F', rfl, rfl, hCP, hMs, S⟩ := hrel
      by_cases hk : k ≤ L.length + 1
      · have hk3 : (k : Int) < 3000 := by omega
        obtain ⟨out, word, ev⟩ := T
        obtain rfl : out = 1 := hCP.out hk
        obtain ⟨e0, hCP2⟩ := hCP.step hk
        have hM2 := may_step (sh := sh) hMs (by omega)
        have q0 := S.blk.cell 0 rfl
        have HCP := Lib.hid hCP2
        have HMs := Lib.hid hMs
        have HM2 := Lib.hid hM2
        have HE0 := Lib.hid e0
        clear hCP hCP2 hMs hM2 e0
        go_wp2_with fail
        refine (num07 _ _).mono ?_
        rintro e w' ⟨rfl, rfl⟩
        go_wp2_with fail
        clear q0
        have hcall := step_x S.hL HMs.out
        rw [HE0.out] at hcall
        generalize stepS s sh = q at hcall HCP HM2
        clear HE0
        obtain ⟨T2, r2, s2, sh2⟩ := q
        refine hcall.mono ?_
        clear hcall
        rintro e W4 ⟨rfl, F4, hL4, u4, hF4⟩
        simp only [Trn.val] at hL4 ⊢
        replace S := S.next hL4 u4 hF4
        clear hL4 u4 hF4
        have q0 := (S.blk).cell 0 rfl
        have q1 := (S.blk).cell 1 rfl
        have q2 := (S.blk).cell 2 rfl
        have q3 := (S.blk).cell 3 rfl
        have q4 := (S.blk).cell 4 rfl
        have q5 := (S.blk).cell 5 rfl
        have q6 := (S.blk).cell 6 rfl
        have q7 := (S.blk).cell 7 rfl
        have g0 := (S.blk).free 0
        have g1 := (S.blk).free 1
        have g2 := (S.blk).free 2
        have g3 := (S.blk).free 3
        have g4 := (S.blk).free 4
        have g5 := (S.blk).free 5
        have g6 := (S.blk).free 6
        have g7 := (S.blk).free 7
        go_wp2_with fail
        obtain ⟨w5, h5, S5⟩ := S.turn' T2
        (try dsimp only at h5)
        rw [← h5]
        clear q0 q1 q2 q3 q4 q5 q6 q7 g0 g1 g2 g3 g4 g5 g6 g7 h5
        clear S
        have S := S5
        clear S5
        go_roundw
        case rel => exact ⟨k + 1, by omega, T2, s2, sh2, HCP.out, HM2.out, F4, S⟩
        case measure => simp [intOf]; omega
      · obtain ⟨rfl, rfl, rfl, rfl⟩ := hCP.end hk
        rw [HST.out] at S
        push_cast
        have q0 := S.blk.cell 0 rfl
        clear hCP hMs hk
        go_wp2_with fail
        refine (num07 _ _).mono ?_
        rintro e w' ⟨rfl, rfl⟩
        go_wp2_with fail
        clear q0
        refine (S.hL.xat.clk).mono ?_
        rintro e w7 ⟨rfl, hX7, u7⟩
        replace S := S.shared hX7 u7
        clear hX7 u7
        go_wp2_with fail
        have q0 := (S.blk).cell 0 rfl
        have q1 := (S.blk).cell 1 rfl
        have q2 := (S.blk).cell 2 rfl
        have q3 := (S.blk).cell 3 rfl
        have q4 := (S.blk).cell 4 rfl
        have q5 := (S.blk).cell 5 rfl
        have q6 := (S.blk).cell 6 rfl
        have q7 := (S.blk).cell 7 rfl
        have g0 := (S.blk).free 0
        have g1 := (S.blk).free 1
        have g2 := (S.blk).free 2
        have g3 := (S.blk).free 3
        have g4 := (S.blk).free 4
        have g5 := (S.blk).free 5
        have g6 := (S.blk).free 6
        have g7 := (S.blk).free 7
        refine (num07 _ _).mono ?_
        rintro e w' ⟨rfl, rfl⟩
        go_wp2_with fail
        refine S.hL.xat.words.mono ?_
        rintro e w8 ⟨gg, spare, rfl, _, hB8, u8⟩
        go_wp2_with fail
        have hq := SlI.of_blk ((HB1.out.upd S.U hn1).upd u8 (by simp))
        have hs := fun c d => same_ints w8 (some ⟨gg, 0, none⟩) _ N c d (SlI.of_blk hB8) hq (by omega)
        simp only [hNl] at hs
        refine (hs _ _).mono ?_
        rintro e w9 ⟨rfl, u9⟩
        go_wp2_with fail
        all_goals exact ⟨rfl, S.U.trans ((u8.trans u9).mono (by simp))⟩
end Go.Proofs.Ythfeljongackcaa
