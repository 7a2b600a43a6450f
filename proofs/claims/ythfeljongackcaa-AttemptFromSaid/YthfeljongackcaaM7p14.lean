/- The document's attempt: commit, in its phases store and free. No conditions but what the phase says. The document's attempt: commit in its phase free; Drop, Phase, Locked. No conditions but what the phase says. -/
import Derived.Test.YthfeljongackcaaM7p13
set_option linter.unusedSimpArgs false
set_option linter.unusedVariables false
set_option maxRecDepth 100000
namespace Go.Proofs.Ythfeljongackcaa
open Go.RowKit
open Go.Maps
-- behind a call to going: the turn is stored
-- the end: the turn T is stored
-- a store into the attempt's block, kept up in RB, U
section
variable {w : World} {Y : RX} {sh : Sh} {acc : Int} {b : Nat} {s : AS} {F : List Nat} {rv wv : Value}
theorem storeW_set (row : List Int) (x v : Int) (hx : 0 ≤ x) : row.set x.toNat v = storeW row x v := by
  unfold storeW
  split
  · rfl
  · exact List.set_eq_of_length_le (by omega)
theorem RLive.stored (h : RLive w Y sh acc b s F rv wv) {w' : World} {acc' : Int} {x v : Int} (hx : 0 ≤ x) (hv : 0 ≤ v ∧ v < 18446744073709551616) (r : RRow w' Y.ra Y.rb (sh.row.set x.toNat v) acc') (u : Upd [Y.ra, Y.rb] w w') : RLive w' Y { sh with row := storeW sh.row x v } acc' b s F rv wv := by
  have ho := h.out
  rw [storeW_set _ _ _ hx] at r
  have hn := h.sh.ne
  refine ⟨h.att.upd u (fun e => by simp at e; rcases e with e | e; exact ho (by simp [RX.foot, e]); exact ho (by simp [RX.foot, e])) (fun g hg e => (h.sep g hg).2.1 (by simp at e; rcases e with e | e <;> simp [RX.foot, e])), ⟨h.sh.wld.upd u (by simpa using hn), r, ⟨storeW_wide h.sh.wide.row x v hv, h.sh.wide.clock⟩⟩, fun g hg => ⟨Nat.lt_of_lt_of_le (h.sep g hg).1 u.size, (h.sep g hg).2⟩, h.wide⟩
set_option maxHeartbeats 2000000 in
theorem rstore_code (hL : RLive w Y sh acc b s F rv wv) (hp : s.phase = 8) (ha : 0 ≤ s.at_ ∧ s.at_ < s.writes.length) (hlen : s.writes.length ≤ 1024) :
    Calls Try.prog 126 #[.pointer (some ⟨b, 0, none⟩), .pointer (some ⟨Y.wb, 0, none⟩)] w (RStep w Y b F (storeS s sh).1 (storeS s sh).2.1 (storeS s sh).2.2) := by
  obtain ⟨sn, rd, wr, ph, th, ad, wo, fo, at_⟩ := s
  obtain ⟨row, clock⟩ := sh
  simp only at hp ha hlen
  subst hp
  obtain ⟨j, rfl⟩ : ∃ j : Nat, at_ = j := ⟨at_.toNat, by omega⟩
  have hj : j < wr.length := by omega
  have hj' : (j : Int) < (wr.length : Int) := by omega
  obtain ⟨⟨x, y⟩, hxy⟩ : ∃ c, wr[j]? = some c := ⟨_, List.getElem?_eq_getElem hj⟩
  have hxw := hL.wide.writes (x, y) (List.mem_of_getElem? hxy)
  obtain ⟨p, cap, rfl, hcl⟩ := hL.att.wr.slc
  obtain ⟨g, o, rfl, k0, k1⟩ := hcl j x y hxy
  simp only at hL hxw ⊢
  clear hcl
  have la := hL.lt
  have lx := hL.sh.lt
  have hnr : w.heap.size ∉ b :: (F ++ Y.foot) := by
    simp only [List.mem_cons, List.mem_append, not_or]
    exact ⟨by omega, fun h => Nat.lt_irrefl _ (hL.sep _ h).1, fun h => Nat.lt_irrefl _ (lx _ h)⟩
  have hwb : b ≠ Y.wb := fun e => hL.out (by simp [RX.foot, e])
  have lb0 : b ≠ w.heap.size := by omega
  have lw0 : Y.wb ≠ w.heap.size := by have := lx Y.wb (by simp [RX.foot]); omega
  have hjb : (j : Int) + 1 ≤ 1024 := by omega
  by_cases hjl : j + 1 = wr.length
  · have hl : storeS ⟨sn, rd, wr, 8, th, ad, wo, fo, (j : Int)⟩ ⟨row, clock⟩ = (going, ⟨sn, rd, wr, 9, th, ad, wo, fo, 0⟩, ⟨storeW row x y, clock⟩) := by
      unfold storeS
      simp only [Int.toNat_natCast, hxy]
      rw [if_pos (by omega)]
    rw [hl]
    clear hl hxy
    have hq : ((j : Int) + 1 == (wr.length : Int)) = true := by rw [beq_iff_eq]; omega
    refine calls_all fun K hK => ?_
    go_enter Try.func126, Try.ntmps126
    go_upto_region 1 with (fail)
    obtain ⟨W, hW⟩ : ∃ W, W = w.alloc (.cells turn0.toArray 36) := ⟨_, rfl⟩
    have RB : Blk W w.heap.size turn0 36 := by rw [hW]; exact Blk.new w _ _
    have HU : Upd [] w W := by rw [hW]; exact (Upd.refl _ _).alloc _
    simp only [turn0, trnNone, evNone, Trn.cells] at hW
    rw [← hW]
    clear hW
    have hL1 := hL.upd0 HU
    have b3 : W.cell? ⟨b, 3, none⟩ = some (.int .i64 8) := hL1.att.head.cell 3 rfl
    go_wp2_with fail
    clear b3
    have HL0 := hL1.upd0 (Upd.refl [] _).drew
    replace RB := RB.drew
    have U : Upd (b :: (F ++ Y.foot)) w W.drew := HU.drew.mono (by simp)
    replace k0 := cell_upd0 HU.drew k0
    replace k1 := cell_upd0 HU.drew k1
    have a0 := HL0.sh.wld.cell 0 rfl
    have b2 := HL0.att.head.cell 2 rfl
    have b8 := HL0.att.head.cell 8 rfl
    refine wp_region_eff (fun w' => w'.cell? ⟨Y.wb, 0, none⟩ = some (.pointer (some ⟨Y.ra, 0, none⟩)) ∧ w'.cell? ⟨b, 2, none⟩ = some (.slice (some ⟨g, o, none⟩) wr.length cap) ∧ w'.cell? ⟨b, 8, none⟩ = some (.int .i64 (j : Int)) ∧ w'.cell? ⟨g, o + j * 2, none⟩ = some (.int .u64 x) ∧ w'.cell? ⟨g, o + j * 2 + 1, none⟩ = some (.int .u64 y)) 30 (by kernel_rfl) (by kernel_rfl) ⟨a0, b2, b8, k0, k1⟩ ?_
    have hz1 : w.heap.size < W.drew.heap.size := RB.lt
    clear hL1
    generalize W.drew = w1 at HL0 RB U a0 b2 b8 k0 k1 hz1 ⊢
    repeat
      refine wpE_take (v := ?_) (by decide) rfl (by rfl) ?_ ?_
      rotate_left 1
      · ((intro w hSw; (try dsimp only at hSw); go_simp); try with_reducible rfl)
      try simp only [Act.put, List.setIfInBounds_toArray, List.set_cons_zero, List.set_cons_succ]
    refine wpE_tail ?_
    go_wp2_with fail
    refine (rstore_any HL0.sh.row x y hxw.1.1).mono ?_
    rintro e w6 ⟨rfl, r1, u1⟩
    go_wp2_with fail
    refine NoPanic.normal ?_
    replace RB := RB.upd u1 (fun e => by simp at e; have h1 := lx Y.ra (by simp [RX.foot]); have h2 := lx Y.rb (by simp [RX.foot]); omega)
    replace U := U.trans (u1.mono (T := b :: (F ++ Y.foot)) (fun z hz => .inl (by simp at hz; rcases hz with e | e <;> simp [RX.foot, e])))
    replace HL0 := HL0.stored hxw.1.1 hxw.2 r1 u1
    clear a0 b2 b8 k0 k1 r1 u1
    have hB := HL0.att.head
    have b0 := (hB).cell 0 rfl
    have b1 := (hB).cell 1 rfl
    have b2 := (hB).cell 2 rfl
    have b3 := (hB).cell 3 rfl
    have b4 := (hB).cell 4 rfl
    have b5 := (hB).cell 5 rfl
    have b6 := (hB).cell 6 rfl
    have b7 := (hB).cell 7 rfl
    have b8 := (hB).cell 8 rfl
    have f0 := (hB).free 0
    have f1 := (hB).free 1
    have f2 := (hB).free 2
    have f3 := (hB).free 3
    have f4 := (hB).free 4
    have f5 := (hB).free 5
    have f6 := (hB).free 6
    have f7 := (hB).free 7
    have f8 := (hB).free 8
    dsimp only at b0 b1 b2 b3 b4 b5 b6 b7 b8
    clear hB
    go_wp2_with fail
    clear b0 b1 b2 b3 b4 b5 b6 b7 b8 f0 f1 f2 f3 f4 f5 f6 f7 f8
    replace RB := RB.other ⟨b, 8, none⟩ (.int .i64 ((j : Int) + 1)) (Ne.symm lb0)
    replace U := U.setCell (p := ⟨b, 8, none⟩) (.inl (by simp)) (.int .i64 ((j : Int) + 1))
    have HL1 := HL0.setAt ((j : Int) + 1)
    have hL5 := HL1.upd0 (Upd.refl [] _).drew
    replace RB := RB.drew
    replace U := U.drew
    have b8 := hL5.att.head.cell 8 rfl
    have b2 := hL5.att.head.cell 2 rfl
    refine wp_region_eff (fun w' => w'.cell? ⟨b, 8, none⟩ = some (.int .i64 ((j : Int) + 1)) ∧ w'.cell? ⟨b, 2, none⟩ = some (.slice (some ⟨g, o, none⟩) wr.length cap)) 12 (by kernel_rfl) (by kernel_rfl) ⟨b8, b2⟩ ?_
    clear HL1 HL0
    generalize (w6.setCell ⟨b, 8, none⟩ (.int .i64 ((j : Int) + 1))).drew = w7 at hL5 RB U b8 b2 ⊢
    repeat
      refine wpE_take (v := ?_) (by decide) rfl (by rfl) ?_ ?_
      rotate_left 1
      · ((intro w hSw; (try dsimp only at hSw); go_simp); try with_reducible rfl)
      try simp only [Act.put, List.setIfInBounds_toArray, List.set_cons_zero, List.set_cons_succ]
    refine wpE_end (NoPanic.normal ?_)
    clear b8 b2
    have hB := hL5.att.head
    have b0 := (hB).cell 0 rfl
    have b1 := (hB).cell 1 rfl
    have b2 := (hB).cell 2 rfl
    have b3 := (hB).cell 3 rfl
    have b4 := (hB).cell 4 rfl
    have b5 := (hB).cell 5 rfl
    have b6 := (hB).cell 6 rfl
    have b7 := (hB).cell 7 rfl
    have b8 := (hB).cell 8 rfl
    have f0 := (hB).free 0
    have f1 := (hB).free 1
    have f2 := (hB).free 2
    have f3 := (hB).free 3
    have f4 := (hB).free 4
    have f5 := (hB).free 5
    have f6 := (hB).free 6
    have f7 := (hB).free 7
    have f8 := (hB).free 8
    dsimp only at b0 b1 b2 b3 b4 b5 b6 b7 b8
    have HL := (hL5.setPhase 9).setAt 0
    clear hB
    replace RB := RB.other ⟨b, 3, none⟩ (.int .i64 9) (Ne.symm lb0)
    replace U := U.setCell (p := ⟨b, 3, none⟩) (.inl (by simp)) (.int .i64 9)
    replace RB := RB.other ⟨b, 8, none⟩ (.int .i64 0) (Ne.symm lb0)
    replace U := U.setCell (p := ⟨b, 8, none⟩) (.inl (by simp)) (.int .i64 0)
    go_wp2_with fail
    clear b0 b1 b2 b3 b4 b5 b6 b7 b8 f0 f1 f2 f3 f4 f5 f6 f7 f8
    refine (rgoing_code _).mono ?_
    rintro e w2 ⟨rfl, u2⟩
    simp only [Trn.val, going, evNone]
    have HL2 := (HL).upd0 u2
    have RB2 := (RB).upd u2 (by simp)
    have U2 := (U).trans (u2.mono (by simp))
    have q0 := (RB2).cell 0 rfl
    have q1 := (RB2).cell 1 rfl
    have q2 := (RB2).cell 2 rfl
    have q3 := (RB2).cell 3 rfl
    have q4 := (RB2).cell 4 rfl
    have q5 := (RB2).cell 5 rfl
    have q6 := (RB2).cell 6 rfl
    have q7 := (RB2).cell 7 rfl
    have g0 := (RB2).free 0
    have g1 := (RB2).free 1
    have g2 := (RB2).free 2
    have g3 := (RB2).free 3
    have g4 := (RB2).free 4
    have g5 := (RB2).free 5
    have g6 := (RB2).free 6
    have g7 := (RB2).free 7
    go_wp2_with fail
    exact bodyPost_ret (turn_results 4 rfl _ _ _ going rfl (turn_set RB2 rfl going)) rfl (hK _ _ (rfin (Nat.le_refl _) HL2 U2 (fun g hg => .inl hg) hnr _ _ _ _ _ _ _ _))
  · have hl : storeS ⟨sn, rd, wr, 8, th, ad, wo, fo, (j : Int)⟩ ⟨row, clock⟩ = (going, ⟨sn, rd, wr, 8, th, ad, wo, fo, (j : Int) + 1⟩, ⟨storeW row x y, clock⟩) := by
      unfold storeS
      simp only [Int.toNat_natCast, hxy]
      rw [if_neg (by omega)]
    rw [hl]
    clear hl hxy
    have hq : ((j : Int) + 1 == (wr.length : Int)) = false := by rw [beq_eq_false_iff_ne]; omega
    refine calls_all fun K hK => ?_
    go_enter Try.func126, Try.ntmps126
    go_upto_region 1 with (fail)
    obtain ⟨W, hW⟩ : ∃ W, W = w.alloc (.cells turn0.toArray 36) := ⟨_, rfl⟩
    have RB : Blk W w.heap.size turn0 36 := by rw [hW]; exact Blk.new w _ _
    have HU : Upd [] w W := by rw [hW]; exact (Upd.refl _ _).alloc _
    simp only [turn0, trnNone, evNone, Trn.cells] at hW
    rw [← hW]
    clear hW
    have hL1 := hL.upd0 HU
    have b3 : W.cell? ⟨b, 3, none⟩ = some (.int .i64 8) := hL1.att.head.cell 3 rfl
    go_wp2_with fail
    clear b3
    have HL0 := hL1.upd0 (Upd.refl [] _).drew
    replace RB := RB.drew
    have U : Upd (b :: (F ++ Y.foot)) w W.drew := HU.drew.mono (by simp)
    replace k0 := cell_upd0 HU.drew k0
    replace k1 := cell_upd0 HU.drew k1
    have a0 := HL0.sh.wld.cell 0 rfl
    have b2 := HL0.att.head.cell 2 rfl
    have b8 := HL0.att.head.cell 8 rfl
    refine wp_region_eff (fun w' => w'.cell? ⟨Y.wb, 0, none⟩ = some (.pointer (some ⟨Y.ra, 0, none⟩)) ∧ w'.cell? ⟨b, 2, none⟩ = some (.slice (some ⟨g, o, none⟩) wr.length cap) ∧ w'.cell? ⟨b, 8, none⟩ = some (.int .i64 (j : Int)) ∧ w'.cell? ⟨g, o + j * 2, none⟩ = some (.int .u64 x) ∧ w'.cell? ⟨g, o + j * 2 + 1, none⟩ = some (.int .u64 y)) 30 (by kernel_rfl) (by kernel_rfl) ⟨a0, b2, b8, k0, k1⟩ ?_
    have hz1 : w.heap.size < W.drew.heap.size := RB.lt
    clear hL1
    generalize W.drew = w1 at HL0 RB U a0 b2 b8 k0 k1 hz1 ⊢
    repeat
      refine wpE_take (v := ?_) (by decide) rfl (by rfl) ?_ ?_
      rotate_left 1
      · ((intro w hSw; (try dsimp only at hSw); go_simp); try with_reducible rfl)
      try simp only [Act.put, List.setIfInBounds_toArray, List.set_cons_zero, List.set_cons_succ]
    refine wpE_tail ?_
    go_wp2_with fail
    refine (rstore_any HL0.sh.row x y hxw.1.1).mono ?_
    rintro e w6 ⟨rfl, r1, u1⟩
    go_wp2_with fail
    refine NoPanic.normal ?_
    replace RB := RB.upd u1 (fun e => by simp at e; have h1 := lx Y.ra (by simp [RX.foot]); have h2 := lx Y.rb (by simp [RX.foot]); omega)
    replace U := U.trans (u1.mono (T := b :: (F ++ Y.foot)) (fun z hz => .inl (by simp at hz; rcases hz with e | e <;> simp [RX.foot, e])))
    replace HL0 := HL0.stored hxw.1.1 hxw.2 r1 u1
    clear a0 b2 b8 k0 k1 r1 u1
    have hB := HL0.att.head
    have b0 := (hB).cell 0 rfl
    have b1 := (hB).cell 1 rfl
    have b2 := (hB).cell 2 rfl
    have b3 := (hB).cell 3 rfl
    have b4 := (hB).cell 4 rfl
    have b5 := (hB).cell 5 rfl
    have b6 := (hB).cell 6 rfl
    have b7 := (hB).cell 7 rfl
    have b8 := (hB).cell 8 rfl
    have f0 := (hB).free 0
    have f1 := (hB).free 1
    have f2 := (hB).free 2
    have f3 := (hB).free 3
    have f4 := (hB).free 4
    have f5 := (hB).free 5
    have f6 := (hB).free 6
    have f7 := (hB).free 7
    have f8 := (hB).free 8
    dsimp only at b0 b1 b2 b3 b4 b5 b6 b7 b8
    clear hB
    go_wp2_with fail
    clear b0 b1 b2 b3 b4 b5 b6 b7 b8 f0 f1 f2 f3 f4 f5 f6 f7 f8
    replace RB := RB.other ⟨b, 8, none⟩ (.int .i64 ((j : Int) + 1)) (Ne.symm lb0)
    replace U := U.setCell (p := ⟨b, 8, none⟩) (.inl (by simp)) (.int .i64 ((j : Int) + 1))
    have HL1 := HL0.setAt ((j : Int) + 1)
    have hL5 := HL1.upd0 (Upd.refl [] _).drew
    replace RB := RB.drew
    replace U := U.drew
    have b8 := hL5.att.head.cell 8 rfl
    have b2 := hL5.att.head.cell 2 rfl
    refine wp_region_eff (fun w' => w'.cell? ⟨b, 8, none⟩ = some (.int .i64 ((j : Int) + 1)) ∧ w'.cell? ⟨b, 2, none⟩ = some (.slice (some ⟨g, o, none⟩) wr.length cap)) 12 (by kernel_rfl) (by kernel_rfl) ⟨b8, b2⟩ ?_
    clear HL1 HL0
    generalize (w6.setCell ⟨b, 8, none⟩ (.int .i64 ((j : Int) + 1))).drew = w7 at hL5 RB U b8 b2 ⊢
    repeat
      refine wpE_take (v := ?_) (by decide) rfl (by rfl) ?_ ?_
      rotate_left 1
      · ((intro w hSw; (try dsimp only at hSw); go_simp); try with_reducible rfl)
      try simp only [Act.put, List.setIfInBounds_toArray, List.set_cons_zero, List.set_cons_succ]
    refine wpE_end (NoPanic.normal ?_)
    clear b8 b2
    go_wp2_with fail
    refine (rgoing_code _).mono ?_
    rintro e w2 ⟨rfl, u2⟩
    simp only [Trn.val, going, evNone]
    have HL2 := (hL5).upd0 u2
    have RB2 := (RB).upd u2 (by simp)
    have U2 := (U).trans (u2.mono (by simp))
    have q0 := (RB2).cell 0 rfl
    have q1 := (RB2).cell 1 rfl
    have q2 := (RB2).cell 2 rfl
    have q3 := (RB2).cell 3 rfl
    have q4 := (RB2).cell 4 rfl
    have q5 := (RB2).cell 5 rfl
    have q6 := (RB2).cell 6 rfl
    have q7 := (RB2).cell 7 rfl
    have g0 := (RB2).free 0
    have g1 := (RB2).free 1
    have g2 := (RB2).free 2
    have g3 := (RB2).free 3
    have g4 := (RB2).free 4
    have g5 := (RB2).free 5
    have g6 := (RB2).free 6
    have g7 := (RB2).free 7
    go_wp2_with fail
    exact bodyPost_ret (turn_results 4 rfl _ _ _ going rfl (turn_set RB2 rfl going)) rfl (hK _ _ (rfin (Nat.le_refl _) HL2 U2 (fun g hg => .inl hg) hnr _ _ _ _ _ _ _ _))
end
end Go.Proofs.Ythfeljongackcaa
set_option linter.unusedSimpArgs false
set_option linter.unusedVariables false
set_option maxRecDepth 100000
namespace Go.Proofs.Ythfeljongackcaa
open Go.RowKit
open Go.Maps
-- behind a call to going: the turn is stored
-- the end: the turn T is stored
-- a store into the attempt's block, kept up in RB, U
section
variable {w : World} {Y : RX} {sh : Sh} {acc : Int} {b : Nat} {s : AS} {F : List Nat} {rv wv : Value}
set_option maxHeartbeats 1000000 in
theorem rfree_code (hL : RLive w Y sh acc b s F rv wv) (hp : s.phase = 9) (he : s.snap % 2 = 0) :
    Calls Try.prog 126 #[.pointer (some ⟨b, 0, none⟩), .pointer (some ⟨Y.wb, 0, none⟩)] w (RStep w Y b F (freeS s sh).1 (freeS s sh).2.1 (freeS s sh).2.2) := by
  obtain ⟨sn, rd, wr, ph, th, ad, wo, fo, at_⟩ := s
  obtain ⟨row, clock⟩ := sh
  simp only at hp he
  subst hp
  have hsn := hL.wide.snap
  have hck := hL.sh.wide.clock
  simp only at hsn hck
  have la := hL.lt
  have lx := hL.sh.lt
  have hnr : w.heap.size ∉ b :: (F ++ Y.foot) := by
    simp only [List.mem_cons, List.mem_append, not_or]
    exact ⟨by omega, fun h => Nat.lt_irrefl _ (hL.sep _ h).1, fun h => Nat.lt_irrefl _ (lx _ h)⟩
  have hwb : b ≠ Y.wb := fun e => hL.out (by simp [RX.foot, e])
  have lb0 : b ≠ w.heap.size := by omega
  have lw0 : Y.wb ≠ w.heap.size := by have := lx Y.wb (by simp [RX.foot]); omega
  have hw1 : IntKind.u64.wrap (sn + 1) = sn + 1 := by rw [IntKind.wrap_u64]; omega
  have hw2 : IntKind.u64.wrap (sn + 2) = (sn + 2) % 18446744073709551616 := by rw [IntKind.wrap_u64]
  obtain ⟨k, hk⟩ : ∃ k, k = (sn + 2) % 18446744073709551616 := ⟨_, rfl⟩
  have hkb : 0 ≤ k ∧ k < 18446744073709551616 := by omega
  have hkd : k.tdiv 2 = k / 2 := Int.tdiv_eq_ediv_of_nonneg hkb.1
  by_cases hc : clock = sn + 1
  · have hl : freeS ⟨sn, rd, wr, 9, th, ad, wo, fo, at_⟩ ⟨row, clock⟩ = (⟨4, 0, ⟨6, 0, k / 2, false⟩⟩, overS, ⟨row, k⟩) := by unfold freeS; simp only; rw [if_pos hc, hk]
    rw [hl]
    rw [← hk] at hw2
    have hcc : (clock == sn + 1) = true := by simpa using hc
    clear hl hk hc
    refine calls_all fun K hK => ?_
    go_enter Try.func126, Try.ntmps126
    go_upto_region 1 with (fail)
    obtain ⟨W, hW⟩ : ∃ W, W = w.alloc (.cells turn0.toArray 36) := ⟨_, rfl⟩
    have RB : Blk W w.heap.size turn0 36 := by rw [hW]; exact Blk.new w _ _
    have HU : Upd [] w W := by rw [hW]; exact (Upd.refl _ _).alloc _
    simp only [turn0, trnNone, evNone, Trn.cells] at hW
    rw [← hW]
    clear hW
    have HL0 := hL.upd0 HU
    have a1 : W.cell? ⟨Y.wb, 1, none⟩ = some (.int .u64 clock) := HL0.sh.wld.cell 1 rfl
    have fw := HL0.sh.wld.free 1
    have hB := HL0.att.head
    have b0 := (hB).cell 0 rfl
    have b1 := (hB).cell 1 rfl
    have b2 := (hB).cell 2 rfl
    have b3 := (hB).cell 3 rfl
    have b4 := (hB).cell 4 rfl
    have b5 := (hB).cell 5 rfl
    have b6 := (hB).cell 6 rfl
    have b7 := (hB).cell 7 rfl
    have b8 := (hB).cell 8 rfl
    have f0 := (hB).free 0
    have f1 := (hB).free 1
    have f2 := (hB).free 2
    have f3 := (hB).free 3
    have f4 := (hB).free 4
    have f5 := (hB).free 5
    have f6 := (hB).free 6
    have f7 := (hB).free 7
    have f8 := (hB).free 8
    dsimp only at b0 b1 b2 b3 b4 b5 b6 b7 b8
    clear hB
    have U : Upd (b :: (F ++ Y.foot)) w W := HU.mono (by simp)
    go_wp2_with fail
    clear b0 b1 b2 b3 b4 b5 b6 b7 b8 f0 f1 f2 f3 f4 f5 f6 f7 f8
    clear a1 fw
    replace RB := RB.other ⟨Y.wb, 1, none⟩ (.int .u64 k) (Ne.symm lw0)
    replace U := U.setCell (p := ⟨Y.wb, 1, none⟩) (.inl (by simp [RX.foot])) (.int .u64 k)
    refine (rover_code (HL0.clock k hkb)).mono ?_
    rintro e w7 ⟨rfl, HL7, u7⟩
    replace RB := RB.upd u7 (by simp; omega)
    replace U := U.trans (u7.mono (T := b :: (F ++ Y.foot)) (by simp))
    have q0 := (RB).cell 0 rfl
    have q1 := (RB).cell 1 rfl
    have q2 := (RB).cell 2 rfl
    have q3 := (RB).cell 3 rfl
    have q4 := (RB).cell 4 rfl
    have q5 := (RB).cell 5 rfl
    have q6 := (RB).cell 6 rfl
    have q7 := (RB).cell 7 rfl
    have g0 := (RB).free 0
    have g1 := (RB).free 1
    have g2 := (RB).free 2
    have g3 := (RB).free 3
    have g4 := (RB).free 4
    have g5 := (RB).free 5
    have g6 := (RB).free 6
    have g7 := (RB).free 7
    go_wp2_with fail
    exact bodyPost_ret (turn_results 4 rfl _ _ _ (⟨4, 0, ⟨6, 0, k / 2, false⟩⟩ : Trn) rfl (turn_set RB rfl (⟨4, 0, ⟨6, 0, k / 2, false⟩⟩ : Trn))) rfl (hK _ _ (rfin (Nat.le_refl _) HL7 U (fun g hg => .inl hg) hnr _ _ _ _ _ _ _ _))
  · have hl : freeS ⟨sn, rd, wr, 9, th, ad, wo, fo, at_⟩ ⟨row, clock⟩ = (⟨4, 0, ⟨6, 0, k / 2, false⟩⟩, overS, ⟨row, clock⟩) := by unfold freeS; simp only; rw [if_neg hc, hk]
    rw [hl]
    rw [← hk] at hw2
    have hcc : (clock == sn + 1) = false := by simpa using hc
    clear hl hk hc
    refine calls_all fun K hK => ?_
    go_enter Try.func126, Try.ntmps126
    go_upto_region 1 with (fail)
    obtain ⟨W, hW⟩ : ∃ W, W = w.alloc (.cells turn0.toArray 36) := ⟨_, rfl⟩
    have RB : Blk W w.heap.size turn0 36 := by rw [hW]; exact Blk.new w _ _
    have HU : Upd [] w W := by rw [hW]; exact (Upd.refl _ _).alloc _
    simp only [turn0, trnNone, evNone, Trn.cells] at hW
    rw [← hW]
    clear hW
    have HL0 := hL.upd0 HU
    have a1 : W.cell? ⟨Y.wb, 1, none⟩ = some (.int .u64 clock) := HL0.sh.wld.cell 1 rfl
    have hB := HL0.att.head
    have b0 := (hB).cell 0 rfl
    have b1 := (hB).cell 1 rfl
    have b2 := (hB).cell 2 rfl
    have b3 := (hB).cell 3 rfl
    have b4 := (hB).cell 4 rfl
    have b5 := (hB).cell 5 rfl
    have b6 := (hB).cell 6 rfl
    have b7 := (hB).cell 7 rfl
    have b8 := (hB).cell 8 rfl
    have f0 := (hB).free 0
    have f1 := (hB).free 1
    have f2 := (hB).free 2
    have f3 := (hB).free 3
    have f4 := (hB).free 4
    have f5 := (hB).free 5
    have f6 := (hB).free 6
    have f7 := (hB).free 7
    have f8 := (hB).free 8
    dsimp only at b0 b1 b2 b3 b4 b5 b6 b7 b8
    clear hB
    have U : Upd (b :: (F ++ Y.foot)) w W := HU.mono (by simp)
    go_wp2_with fail
    clear b0 b1 b2 b3 b4 b5 b6 b7 b8 f0 f1 f2 f3 f4 f5 f6 f7 f8
    clear a1
    refine (rover_code HL0).mono ?_
    rintro e w7 ⟨rfl, HL7, u7⟩
    replace RB := RB.upd u7 (by simp; omega)
    replace U := U.trans (u7.mono (T := b :: (F ++ Y.foot)) (by simp))
    have q0 := (RB).cell 0 rfl
    have q1 := (RB).cell 1 rfl
    have q2 := (RB).cell 2 rfl
    have q3 := (RB).cell 3 rfl
    have q4 := (RB).cell 4 rfl
    have q5 := (RB).cell 5 rfl
    have q6 := (RB).cell 6 rfl
    have q7 := (RB).cell 7 rfl
    have g0 := (RB).free 0
    have g1 := (RB).free 1
    have g2 := (RB).free 2
    have g3 := (RB).free 3
    have g4 := (RB).free 4
    have g5 := (RB).free 5
    have g6 := (RB).free 6
    have g7 := (RB).free 7
    go_wp2_with fail
    exact bodyPost_ret (turn_results 4 rfl _ _ _ (⟨4, 0, ⟨6, 0, k / 2, false⟩⟩ : Trn) rfl (turn_set RB rfl (⟨4, 0, ⟨6, 0, k / 2, false⟩⟩ : Trn))) rfl (hK _ _ (rfin (Nat.le_refl _) HL7 U (fun g hg => .inl hg) hnr _ _ _ _ _ _ _ _))
theorem rphase_code (hL : RLive w Y sh acc b s F rv wv) : Calls Try.prog 67 #[.pointer (some ⟨b, 0, none⟩)] w fun e w' => e = .returned (.int .i64 s.phase) ∧ w = w' := by
  have b3 := hL.att.head.cell 3 rfl
  refine calls_all fun K hK => ?_
  go_enter Try.func67, Try.ntmps67
  go_wp2
  all_goals first | exact ⟨rfl, rfl⟩ | rfl
theorem rdrop_code (hL : RLive w Y sh acc b s F rv wv) : Calls Try.prog 101 #[.pointer (some ⟨b, 0, none⟩)] w fun e w' => e = .returned (.int .i64 (dropS s).1) ∧ RL w' Y sh b (dropS s).2 F ∧ Upd [b] w w' := by
  have b3 := hL.att.head.cell 3 rfl
  by_cases h : 8 ≤ s.phase
  · have hd : decide (8 ≤ s.phase) = true := by simpa using h
    have hl : dropS s = (2, s) := if_pos h
    rw [hl]
    clear hl
    refine calls_all fun K hK => ?_
    go_enter Try.func101, Try.ntmps101
    go_wp2_with fail
    all_goals first | exact ⟨rfl, ⟨_, _, _, hL⟩, Upd.refl _ _⟩ | exact ⟨⟨_, _, _, hL⟩, Upd.refl _ _⟩
  · have hd : decide (8 ≤ s.phase) = false := by simpa using h
    have hl : dropS s = (0, overS) := if_neg h
    rw [hl]
    clear hl
    refine calls_all fun K hK => ?_
    go_enter Try.func101, Try.ntmps101
    go_wp2_with fail
    refine (rover_code hL).mono ?_
    rintro e w7 ⟨rfl, HL7, u7⟩
    go_wp2_with fail
    all_goals first | exact ⟨rfl, ⟨_, _, _, HL7⟩, u7⟩ | exact ⟨⟨_, _, _, HL7⟩, u7⟩
end
end Go.Proofs.Ythfeljongackcaa
