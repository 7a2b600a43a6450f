/- The document's attempt: validate, in its phase check. No conditions but what the phase says. -/
import Derived.Test.YthfeljongackcaaM7p12
set_option linter.unusedSimpArgs false
set_option linter.unusedVariables false
set_option maxRecDepth 100000
namespace Go.Proofs.Ythfeljongackcaa
open Go.RowKit
open Go.Maps
-- behind a call to going: the turn is stored
-- the end: the turn T is stored
-- a store into the attempt's block, kept up in RB, U
section
variable {w : World} {Y : RX} {sh : Sh} {acc : Int} {b : Nat} {s : AS} {F : List Nat} {rv wv : Value}
-- up to the comparison: the cell is read, its word is loaded; then: HL (at w1), RB, U, CB (block cb: the cell)
theorem cell_upd0 {w w' : World} (u : Upd [] w w') {a o : Nat} {v : Value} (h : w.cell? ⟨a, o, none⟩ = some v) : w'.cell? ⟨a, o, none⟩ = some v :=
  (World.cell?_of_block (w := w) (u.block a (World.block_lt_of_cell? w _ h) (by simp))).trans h
set_option maxHeartbeats 2000000 in
theorem rcheck_code (hL : RLive w Y sh acc b s F rv wv) (hp : s.phase = 5) (ha : 0 ≤ s.at_ ∧ s.at_ < s.reads.length) (hlen : s.reads.length ≤ 1024) :
    Calls Try.prog 125 #[.pointer (some ⟨b, 0, none⟩), .pointer (some ⟨Y.wb, 0, none⟩)] w (RStep w Y b F (checkS s sh).1 (checkS s sh).2 sh) := by
  obtain ⟨sn, rd, wr, ph, th, ad, wo, fo, at_⟩ := s
  obtain ⟨row, clock⟩ := sh
  simp only at hp ha hlen
  subst hp
  obtain ⟨j, rfl⟩ : ∃ j : Nat, at_ = j := ⟨at_.toNat, by omega⟩
  have hj : j < rd.length := by omega
  have hj' : (j : Int) < (rd.length : Int) := by omega
  obtain ⟨⟨x, y⟩, hxy⟩ : ∃ c, rd[j]? = some c := ⟨_, List.getElem?_eq_getElem hj⟩
  have hxw := hL.wide.reads (x, y) (List.mem_of_getElem? hxy)
  obtain ⟨p, cap, rfl, hcl⟩ := hL.att.rd.slc
  obtain ⟨g, o, rfl, k0, k1⟩ := hcl j x y hxy
  simp only at hL hxw ⊢
  clear hcl
  have la := hL.lt
  have lx := hL.sh.lt
  have hnr : w.heap.size ∉ b :: (F ++ Y.foot) := by
    simp only [List.mem_cons, List.mem_append, not_or]
    exact ⟨by omega, fun h => Nat.lt_irrefl _ (hL.sep _ h).1, fun h => Nat.lt_irrefl _ (lx _ h)⟩
  have hwb : b ≠ Y.wb := fun e => hL.out (by simp [RX.foot, e])
  have lb0 : b ≠ w.heap.size := by omega
  have lw0 : Y.wb ≠ w.heap.size := by have := lx Y.wb (by simp [RX.foot]); omega
  by_cases hx : x < row.length
  · have hrl : rLoad row x = (wd row x.toNat, 0) := if_pos hx
    by_cases he : wd row x.toNat = y
    · have hyy : (y != y) = false := by simp
      have HXY := Lib.hid hxy
      rw [he] at hrl
      have HE := Lib.hid he
      clear hxy he
      have hjb : (j : Int) + 1 ≤ 1024 := by omega
      by_cases hjl : j + 1 = rd.length
      · have hl : checkS ⟨sn, rd, wr, 5, th, ad, wo, fo, (j : Int)⟩ ⟨row, clock⟩ = (going, ⟨sn, rd, wr, 6, th, ad, wo, fo, 0⟩) := by
          unfold checkS
          simp only [Int.toNat_natCast, HXY.out]
          rw [if_pos ⟨hx, HE.out⟩, if_pos (by omega)]
        rw [hl]
        clear hl HXY HE
        have hq : ((j : Int) + 1 == (rd.length : Int)) = true := by rw [beq_iff_eq]; omega
        refine calls_all fun K hK => ?_
        go_enter Try.func125, Try.ntmps125
        go_upto_region 1 with (fail)
        obtain ⟨W, hW⟩ : ∃ W, W = w.alloc (.cells turn0.toArray 36) := ⟨_, rfl⟩
        have RB : Blk W w.heap.size turn0 36 := by rw [hW]; exact Blk.new w _ _
        have HU : Upd [] w W := by rw [hW]; exact (Upd.refl _ _).alloc _
        simp only [turn0, trnNone, evNone, Trn.cells] at hW
        rw [← hW]
        clear hW
        have hL1 := hL.upd0 HU
        have b3 : W.cell? ⟨b, 3, none⟩ = some (.int .i64 5) := hL1.att.head.cell 3 rfl
        go_wp2_with fail
        clear b3
        have HL0 := hL1.upd0 (Upd.refl [] _).drew
        replace RB := RB.drew
        have U : Upd (b :: (F ++ Y.foot)) w W.drew := HU.drew.mono (by simp)
        replace k0 := cell_upd0 HU.drew k0
        replace k1 := cell_upd0 HU.drew k1
        have b1 := HL0.att.head.cell 1 rfl
        have b8 := HL0.att.head.cell 8 rfl
        refine wp_region_eff (fun w' => w'.cell? ⟨b, 1, none⟩ = some (.slice (some ⟨g, o, none⟩) rd.length cap) ∧ w'.cell? ⟨b, 8, none⟩ = some (.int .i64 (j : Int)) ∧ w'.cell? ⟨g, o + j * 2, none⟩ = some (.int .u64 x) ∧ w'.cell? ⟨g, o + j * 2 + 1, none⟩ = some (.int .u64 y)) 13 (by kernel_rfl) (by kernel_rfl) ⟨b1, b8, k0, k1⟩ ?_
        have hz1 : w.heap.size < W.drew.heap.size := RB.lt
        clear hL1
        generalize W.drew = w1 at HL0 RB U b1 b8 k0 k1 hz1 ⊢
        repeat
          refine wpE_take (v := ?_) (by decide) rfl (by rfl) ?_ ?_
          rotate_left 1
          · ((intro w hSw; (try dsimp only at hSw); go_simp); try with_reducible rfl)
          try simp only [Act.put, List.setIfInBounds_toArray, List.set_cons_zero, List.set_cons_succ]
        refine wpE_eff (by decide) rfl (by kernel_rfl) (by rfl) (fun K2 hK2 => ?_)
        go_simp
        obtain ⟨W2, hW2⟩ : ∃ W2, W2 = w1.alloc (.cells #[.int .u64 0, .int .u64 0] 53) := ⟨_, rfl⟩
        have CB : Blk W2 w1.heap.size [.int .u64 0, .int .u64 0] 53 := by rw [hW2]; exact Blk.new w1 _ _
        have u2 : Upd [] w1 W2 := by rw [hW2]; exact (Upd.refl [] _).alloc _
        rw [← hW2]
        clear hW2
        have hL3 := HL0.upd0 u2
        refine hK2.out _ _ ⟨hL3.att.head.cell 1 rfl, hL3.att.head.cell 8 rfl, cell_upd0 u2 k0, cell_upd0 u2 k1⟩ ?_
        clear hK2 K2
        have d0 := CB.cell 0 rfl
        have d1 := CB.cell 1 rfl
        have e0 := CB.free 0
        have e1 := CB.free 1
        refine wpE_tail ?_
        go_wp2_with fail
        refine NoPanic.normal ?_
        have CB2 := (CB.set 0 (.int .u64 x)).set 1 (.int .u64 y)
        have u3 : Upd [w1.heap.size] W2 ((W2.setCell ⟨w1.heap.size, 0, none⟩ (.int .u64 x)).setCell ⟨w1.heap.size, 1, none⟩ (.int .u64 y)) := ((Upd.refl _ _).setCell (.inl (by simp)) _).setCell (.inl (by simp)) _
        have hnw : ∀ g ∈ b :: (F ++ Y.foot), g ∉ [w1.heap.size] := fun g hg e => by
          simp only [List.mem_singleton] at e
          subst e
          simp only [List.mem_cons, List.mem_append] at hg
          rcases hg with k | k | k
          · have := HL0.lt; omega
          · exact Nat.lt_irrefl _ (HL0.sep _ k).1
          · exact Nat.lt_irrefl _ (HL0.sh.lt _ k)
        have hL4 := hL3.upd u3 hnw
        have RB4 := (RB.upd u2 (by simp)).upd u3 (by simp; omega)
        have U4 : Upd (b :: (F ++ Y.foot)) w _ := (U.trans (u2.mono (by simp))).tr u3 (fun _ h => .inl h) (fun x hx => .inr (by simp at hx; omega))
        clear d0 d1 e0 e1 CB hL3 u2 u3 RB HL0 U b1 b8 k0 k1
        generalize hW3 : (W2.setCell ⟨w1.heap.size, 0, none⟩ (.int .u64 x)).setCell ⟨w1.heap.size, 1, none⟩ (.int .u64 y) = W4 at CB2 hL4 RB4 U4 ⊢
        clear hW3
        generalize w1.heap.size = cb at CB2 hnw hz1 ⊢
        have hnb : cb ≠ b := fun e => hnw b (by simp) (by simp [e])
        have hcy : cb ∉ Y.foot := fun e => hnw cb (by simp [e]) (by simp)
        have hcra : cb ≠ Y.ra := fun e => hcy (by simp [RX.foot, e])
        clear hnw hcy
        go_wp2_with fail
        have hL5 := hL4.upd0 (Upd.refl [] _).drew
        replace RB4 := RB4.drew
        replace U4 := U4.drew
        replace CB2 := CB2.drew
        have a0 := hL5.sh.wld.cell 0 rfl
        have c0 := CB2.cell 0 rfl
        refine wp_region_eff (fun w' => w'.cell? ⟨Y.wb, 0, none⟩ = some (.pointer (some ⟨Y.ra, 0, none⟩)) ∧ w'.cell? ⟨cb, 0, none⟩ = some (.int .u64 x)) 12 (by kernel_rfl) (by kernel_rfl) ⟨a0, c0⟩ ?_
        clear hL4
        generalize W4.drew = W5 at hL5 RB4 U4 CB2 a0 c0 ⊢
        repeat
          refine wpE_take (v := ?_) (by decide) rfl (by rfl) ?_ ?_
          rotate_left 1
          · ((intro w hSw; (try dsimp only at hSw); go_simp); try with_reducible rfl)
          try simp only [Act.put, List.setIfInBounds_toArray, List.set_cons_zero, List.set_cons_succ]
        refine wpE_eff (by decide) rfl (by kernel_rfl) (by rfl) (fun K2 hK2 => ?_)
        go_simp
        refine (rload_any hL5.sh.row x hxw.1.1).mono ?_
        rintro e w6 ⟨rfl, r1, u1⟩
        simp only [hrl]
        have HL0 := hL5.loaded r1 u1
        have CB := CB2.upd u1 (by simpa using hcra)
        refine hK2.out _ _ ⟨HL0.sh.wld.cell 0 rfl, CB.cell 0 rfl⟩ ?_
        clear hK2 K2
        repeat
          refine wpE_take (v := ?_) (by decide) rfl (by rfl) ?_ ?_
          rotate_left 1
          · ((intro w hSw; (try dsimp only at hSw); go_simp); try with_reducible rfl)
          try simp only [Act.put, List.setIfInBounds_toArray, List.set_cons_zero, List.set_cons_succ]
        refine wpE_end (NoPanic.normal ?_)
        have RB := RB4.upd u1 (fun e => by simp at e; have := lx Y.ra (by simp [RX.foot]); omega)
        have U := U4.trans (u1.mono (T := b :: (F ++ Y.foot)) (by simp [RX.foot]))
        clear hL5 CB2 RB4 U4 a0 c0 r1 u1
        have d1 : w6.cell? ⟨cb, 1, none⟩ = some (.int .u64 y) := CB.cell 1 rfl
        have hB := HL0.att.head
        have b0 := (hB).cell 0 rfl
        have b1 := (hB).cell 1 rfl
        have b2 := (hB).cell 2 rfl
        have b3 := (hB).cell 3 rfl
        have b4 := (hB).cell 4 rfl
        have b5 := (hB).cell 5 rfl
        have b6 := (hB).cell 6 rfl
        have b7 := (hB).cell 7 rfl
        have b8 := (hB).cell 8 rfl
        have f0 := (hB).free 0
        have f1 := (hB).free 1
        have f2 := (hB).free 2
        have f3 := (hB).free 3
        have f4 := (hB).free 4
        have f5 := (hB).free 5
        have f6 := (hB).free 6
        have f7 := (hB).free 7
        have f8 := (hB).free 8
        dsimp only at b0 b1 b2 b3 b4 b5 b6 b7 b8
        clear hB
        go_wp2_with fail
        clear d1
        clear b0 b1 b2 b3 b4 b5 b6 b7 b8 f0 f1 f2 f3 f4 f5 f6 f7 f8
        replace RB := RB.other ⟨b, 8, none⟩ (.int .i64 ((j : Int) + 1)) (Ne.symm lb0)
        replace U := U.setCell (p := ⟨b, 8, none⟩) (.inl (by simp)) (.int .i64 ((j : Int) + 1))
        have HL1 := HL0.setAt ((j : Int) + 1)
        have hL5 := HL1.upd0 (Upd.refl [] _).drew
        replace RB := RB.drew
        replace U := U.drew
        have b8 := hL5.att.head.cell 8 rfl
        have b1 := hL5.att.head.cell 1 rfl
        refine wp_region_eff (fun w' => w'.cell? ⟨b, 8, none⟩ = some (.int .i64 ((j : Int) + 1)) ∧ w'.cell? ⟨b, 1, none⟩ = some (.slice (some ⟨g, o, none⟩) rd.length cap)) 12 (by kernel_rfl) (by kernel_rfl) ⟨b8, b1⟩ ?_
        clear HL1 HL0
        generalize (w6.setCell ⟨b, 8, none⟩ (.int .i64 ((j : Int) + 1))).drew = w7 at hL5 RB U b8 b1 ⊢
        repeat
          refine wpE_take (v := ?_) (by decide) rfl (by rfl) ?_ ?_
          rotate_left 1
          · ((intro w hSw; (try dsimp only at hSw); go_simp); try with_reducible rfl)
          try simp only [Act.put, List.setIfInBounds_toArray, List.set_cons_zero, List.set_cons_succ]
        refine wpE_end (NoPanic.normal ?_)
        clear b8 b1
        have hB := hL5.att.head
        have b0 := (hB).cell 0 rfl
        have b1 := (hB).cell 1 rfl
        have b2 := (hB).cell 2 rfl
        have b3 := (hB).cell 3 rfl
        have b4 := (hB).cell 4 rfl
        have b5 := (hB).cell 5 rfl
        have b6 := (hB).cell 6 rfl
        have b7 := (hB).cell 7 rfl
        have b8 := (hB).cell 8 rfl
        have f0 := (hB).free 0
        have f1 := (hB).free 1
        have f2 := (hB).free 2
        have f3 := (hB).free 3
        have f4 := (hB).free 4
        have f5 := (hB).free 5
        have f6 := (hB).free 6
        have f7 := (hB).free 7
        have f8 := (hB).free 8
        dsimp only at b0 b1 b2 b3 b4 b5 b6 b7 b8
        have HL := (hL5.setPhase 6).setAt 0
        clear hB
        replace RB := RB.other ⟨b, 3, none⟩ (.int .i64 6) (Ne.symm lb0)
        replace U := U.setCell (p := ⟨b, 3, none⟩) (.inl (by simp)) (.int .i64 6)
        replace RB := RB.other ⟨b, 8, none⟩ (.int .i64 0) (Ne.symm lb0)
        replace U := U.setCell (p := ⟨b, 8, none⟩) (.inl (by simp)) (.int .i64 0)
        go_wp2_with fail
        clear b0 b1 b2 b3 b4 b5 b6 b7 b8 f0 f1 f2 f3 f4 f5 f6 f7 f8
        refine (rgoing_code _).mono ?_
        rintro e w2 ⟨rfl, u2⟩
        simp only [Trn.val, going, evNone]
        have HL2 := (HL).upd0 u2
        have RB2 := (RB).upd u2 (by simp)
        have U2 := (U).trans (u2.mono (by simp))
        have q0 := (RB2).cell 0 rfl
        have q1 := (RB2).cell 1 rfl
        have q2 := (RB2).cell 2 rfl
        have q3 := (RB2).cell 3 rfl
        have q4 := (RB2).cell 4 rfl
        have q5 := (RB2).cell 5 rfl
        have q6 := (RB2).cell 6 rfl
        have q7 := (RB2).cell 7 rfl
        have g0 := (RB2).free 0
        have g1 := (RB2).free 1
        have g2 := (RB2).free 2
        have g3 := (RB2).free 3
        have g4 := (RB2).free 4
        have g5 := (RB2).free 5
        have g6 := (RB2).free 6
        have g7 := (RB2).free 7
        go_wp2_with fail
        exact bodyPost_ret (turn_results 4 rfl _ _ _ going rfl (turn_set RB2 rfl going)) rfl (hK _ _ (rfin (Nat.le_refl _) HL2 U2 (fun g hg => .inl hg) hnr _ _ _ _ _ _ _ _))
      · have hl : checkS ⟨sn, rd, wr, 5, th, ad, wo, fo, (j : Int)⟩ ⟨row, clock⟩ = (going, ⟨sn, rd, wr, 5, th, ad, wo, fo, (j : Int) + 1⟩) := by
          unfold checkS
          simp only [Int.toNat_natCast, HXY.out]
          rw [if_pos ⟨hx, HE.out⟩, if_neg (by omega)]
        rw [hl]
        clear hl HXY HE
        have hq : ((j : Int) + 1 == (rd.length : Int)) = false := by rw [beq_eq_false_iff_ne]; omega
        refine calls_all fun K hK => ?_
        go_enter Try.func125, Try.ntmps125
        go_upto_region 1 with (fail)
        obtain ⟨W, hW⟩ : ∃ W, W = w.alloc (.cells turn0.toArray 36) := ⟨_, rfl⟩
        have RB : Blk W w.heap.size turn0 36 := by rw [hW]; exact Blk.new w _ _
        have HU : Upd [] w W := by rw [hW]; exact (Upd.refl _ _).alloc _
        simp only [turn0, trnNone, evNone, Trn.cells] at hW
        rw [← hW]
        clear hW
        have hL1 := hL.upd0 HU
        have b3 : W.cell? ⟨b, 3, none⟩ = some (.int .i64 5) := hL1.att.head.cell 3 rfl
        go_wp2_with fail
        clear b3
        have HL0 := hL1.upd0 (Upd.refl [] _).drew
        replace RB := RB.drew
        have U : Upd (b :: (F ++ Y.foot)) w W.drew := HU.drew.mono (by simp)
        replace k0 := cell_upd0 HU.drew k0
        replace k1 := cell_upd0 HU.drew k1
        have b1 := HL0.att.head.cell 1 rfl
        have b8 := HL0.att.head.cell 8 rfl
        refine wp_region_eff (fun w' => w'.cell? ⟨b, 1, none⟩ = some (.slice (some ⟨g, o, none⟩) rd.length cap) ∧ w'.cell? ⟨b, 8, none⟩ = some (.int .i64 (j : Int)) ∧ w'.cell? ⟨g, o + j * 2, none⟩ = some (.int .u64 x) ∧ w'.cell? ⟨g, o + j * 2 + 1, none⟩ = some (.int .u64 y)) 13 (by kernel_rfl) (by kernel_rfl) ⟨b1, b8, k0, k1⟩ ?_
        have hz1 : w.heap.size < W.drew.heap.size := RB.lt
        clear hL1
        generalize W.drew = w1 at HL0 RB U b1 b8 k0 k1 hz1 ⊢
        repeat
          refine wpE_take (v := ?_) (by decide) rfl (by rfl) ?_ ?_
          rotate_left 1
          · ((intro w hSw; (try dsimp only at hSw); go_simp); try with_reducible rfl)
          try simp only [Act.put, List.setIfInBounds_toArray, List.set_cons_zero, List.set_cons_succ]
        refine wpE_eff (by decide) rfl (by kernel_rfl) (by rfl) (fun K2 hK2 => ?_)
        go_simp
        obtain ⟨W2, hW2⟩ : ∃ W2, W2 = w1.alloc (.cells #[.int .u64 0, .int .u64 0] 53) := ⟨_, rfl⟩
        have CB : Blk W2 w1.heap.size [.int .u64 0, .int .u64 0] 53 := by rw [hW2]; exact Blk.new w1 _ _
        have u2 : Upd [] w1 W2 := by rw [hW2]; exact (Upd.refl [] _).alloc _
        rw [← hW2]
        clear hW2
        have hL3 := HL0.upd0 u2
        refine hK2.out _ _ ⟨hL3.att.head.cell 1 rfl, hL3.att.head.cell 8 rfl, cell_upd0 u2 k0, cell_upd0 u2 k1⟩ ?_
        clear hK2 K2
        have d0 := CB.cell 0 rfl
        have d1 := CB.cell 1 rfl
        have e0 := CB.free 0
        have e1 := CB.free 1
        refine wpE_tail ?_
        go_wp2_with fail
        refine NoPanic.normal ?_
        have CB2 := (CB.set 0 (.int .u64 x)).set 1 (.int .u64 y)
        have u3 : Upd [w1.heap.size] W2 ((W2.setCell ⟨w1.heap.size, 0, none⟩ (.int .u64 x)).setCell ⟨w1.heap.size, 1, none⟩ (.int .u64 y)) := ((Upd.refl _ _).setCell (.inl (by simp)) _).setCell (.inl (by simp)) _
        have hnw : ∀ g ∈ b :: (F ++ Y.foot), g ∉ [w1.heap.size] := fun g hg e => by
          simp only [List.mem_singleton] at e
          subst e
          simp only [List.mem_cons, List.mem_append] at hg
          rcases hg with k | k | k
          · have := HL0.lt; omega
          · exact Nat.lt_irrefl _ (HL0.sep _ k).1
          · exact Nat.lt_irrefl _ (HL0.sh.lt _ k)
        have hL4 := hL3.upd u3 hnw
        have RB4 := (RB.upd u2 (by simp)).upd u3 (by simp; omega)
        have U4 : Upd (b :: (F ++ Y.foot)) w _ := (U.trans (u2.mono (by simp))).tr u3 (fun _ h => .inl h) (fun x hx => .inr (by simp at hx; omega))
        clear d0 d1 e0 e1 CB hL3 u2 u3 RB HL0 U b1 b8 k0 k1
        generalize hW3 : (W2.setCell ⟨w1.heap.size, 0, none⟩ (.int .u64 x)).setCell ⟨w1.heap.size, 1, none⟩ (.int .u64 y) = W4 at CB2 hL4 RB4 U4 ⊢
        clear hW3
        generalize w1.heap.size = cb at CB2 hnw hz1 ⊢
        have hnb : cb ≠ b := fun e => hnw b (by simp) (by simp [e])
        have hcy : cb ∉ Y.foot := fun e => hnw cb (by simp [e]) (by simp)
        have hcra : cb ≠ Y.ra := fun e => hcy (by simp [RX.foot, e])
        clear hnw hcy
        go_wp2_with fail
        have hL5 := hL4.upd0 (Upd.refl [] _).drew
        replace RB4 := RB4.drew
        replace U4 := U4.drew
        replace CB2 := CB2.drew
        have a0 := hL5.sh.wld.cell 0 rfl
        have c0 := CB2.cell 0 rfl
        refine wp_region_eff (fun w' => w'.cell? ⟨Y.wb, 0, none⟩ = some (.pointer (some ⟨Y.ra, 0, none⟩)) ∧ w'.cell? ⟨cb, 0, none⟩ = some (.int .u64 x)) 12 (by kernel_rfl) (by kernel_rfl) ⟨a0, c0⟩ ?_
        clear hL4
        generalize W4.drew = W5 at hL5 RB4 U4 CB2 a0 c0 ⊢
        repeat
          refine wpE_take (v := ?_) (by decide) rfl (by rfl) ?_ ?_
          rotate_left 1
          · ((intro w hSw; (try dsimp only at hSw); go_simp); try with_reducible rfl)
          try simp only [Act.put, List.setIfInBounds_toArray, List.set_cons_zero, List.set_cons_succ]
        refine wpE_eff (by decide) rfl (by kernel_rfl) (by rfl) (fun K2 hK2 => ?_)
        go_simp
        refine (rload_any hL5.sh.row x hxw.1.1).mono ?_
        rintro e w6 ⟨rfl, r1, u1⟩
        simp only [hrl]
        have HL0 := hL5.loaded r1 u1
        have CB := CB2.upd u1 (by simpa using hcra)
        refine hK2.out _ _ ⟨HL0.sh.wld.cell 0 rfl, CB.cell 0 rfl⟩ ?_
        clear hK2 K2
        repeat
          refine wpE_take (v := ?_) (by decide) rfl (by rfl) ?_ ?_
          rotate_left 1
          · ((intro w hSw; (try dsimp only at hSw); go_simp); try with_reducible rfl)
          try simp only [Act.put, List.setIfInBounds_toArray, List.set_cons_zero, List.set_cons_succ]
        refine wpE_end (NoPanic.normal ?_)
        have RB := RB4.upd u1 (fun e => by simp at e; have := lx Y.ra (by simp [RX.foot]); omega)
        have U := U4.trans (u1.mono (T := b :: (F ++ Y.foot)) (by simp [RX.foot]))
        clear hL5 CB2 RB4 U4 a0 c0 r1 u1
        have d1 : w6.cell? ⟨cb, 1, none⟩ = some (.int .u64 y) := CB.cell 1 rfl
        have hB := HL0.att.head
        have b0 := (hB).cell 0 rfl
        have b1 := (hB).cell 1 rfl
        have b2 := (hB).cell 2 rfl
        have b3 := (hB).cell 3 rfl
        have b4 := (hB).cell 4 rfl
        have b5 := (hB).cell 5 rfl
        have b6 := (hB).cell 6 rfl
        have b7 := (hB).cell 7 rfl
        have b8 := (hB).cell 8 rfl
        have f0 := (hB).free 0
        have f1 := (hB).free 1
        have f2 := (hB).free 2
        have f3 := (hB).free 3
        have f4 := (hB).free 4
        have f5 := (hB).free 5
        have f6 := (hB).free 6
        have f7 := (hB).free 7
        have f8 := (hB).free 8
        dsimp only at b0 b1 b2 b3 b4 b5 b6 b7 b8
        clear hB
        go_wp2_with fail
        clear d1
        clear b0 b1 b2 b3 b4 b5 b6 b7 b8 f0 f1 f2 f3 f4 f5 f6 f7 f8
        replace RB := RB.other ⟨b, 8, none⟩ (.int .i64 ((j : Int) + 1)) (Ne.symm lb0)
        replace U := U.setCell (p := ⟨b, 8, none⟩) (.inl (by simp)) (.int .i64 ((j : Int) + 1))
        have HL1 := HL0.setAt ((j : Int) + 1)
        have hL5 := HL1.upd0 (Upd.refl [] _).drew
        replace RB := RB.drew
        replace U := U.drew
        have b8 := hL5.att.head.cell 8 rfl
        have b1 := hL5.att.head.cell 1 rfl
        refine wp_region_eff (fun w' => w'.cell? ⟨b, 8, none⟩ = some (.int .i64 ((j : Int) + 1)) ∧ w'.cell? ⟨b, 1, none⟩ = some (.slice (some ⟨g, o, none⟩) rd.length cap)) 12 (by kernel_rfl) (by kernel_rfl) ⟨b8, b1⟩ ?_
        clear HL1 HL0
        generalize (w6.setCell ⟨b, 8, none⟩ (.int .i64 ((j : Int) + 1))).drew = w7 at hL5 RB U b8 b1 ⊢
        repeat
          refine wpE_take (v := ?_) (by decide) rfl (by rfl) ?_ ?_
          rotate_left 1
          · ((intro w hSw; (try dsimp only at hSw); go_simp); try with_reducible rfl)
          try simp only [Act.put, List.setIfInBounds_toArray, List.set_cons_zero, List.set_cons_succ]
        refine wpE_end (NoPanic.normal ?_)
        clear b8 b1
        go_wp2_with fail
        refine (rgoing_code _).mono ?_
        rintro e w2 ⟨rfl, u2⟩
        simp only [Trn.val, going, evNone]
        have HL2 := (hL5).upd0 u2
        have RB2 := (RB).upd u2 (by simp)
        have U2 := (U).trans (u2.mono (by simp))
        have q0 := (RB2).cell 0 rfl
        have q1 := (RB2).cell 1 rfl
        have q2 := (RB2).cell 2 rfl
        have q3 := (RB2).cell 3 rfl
        have q4 := (RB2).cell 4 rfl
        have q5 := (RB2).cell 5 rfl
        have q6 := (RB2).cell 6 rfl
        have q7 := (RB2).cell 7 rfl
        have g0 := (RB2).free 0
        have g1 := (RB2).free 1
        have g2 := (RB2).free 2
        have g3 := (RB2).free 3
        have g4 := (RB2).free 4
        have g5 := (RB2).free 5
        have g6 := (RB2).free 6
        have g7 := (RB2).free 7
        go_wp2_with fail
        exact bodyPost_ret (turn_results 4 rfl _ _ _ going rfl (turn_set RB2 rfl going)) rfl (hK _ _ (rfin (Nat.le_refl _) HL2 U2 (fun g hg => .inl hg) hnr _ _ _ _ _ _ _ _))
    · have hl : checkS ⟨sn, rd, wr, 5, th, ad, wo, fo, (j : Int)⟩ ⟨row, clock⟩ = (⟨5, 0, ⟨7, 0, 0, false⟩⟩, overS) := by
        unfold checkS
        simp only [Int.toNat_natCast, hxy]
        rw [if_neg (fun h => he h.2)]
      rw [hl]
      have hne : (wd row x.toNat != y) = true := by simpa using he
      clear hl hxy he
      refine calls_all fun K hK => ?_
      go_enter Try.func125, Try.ntmps125
      go_upto_region 1 with (fail)
      obtain ⟨W, hW⟩ : ∃ W, W = w.alloc (.cells turn0.toArray 36) := ⟨_, rfl⟩
      have RB : Blk W w.heap.size turn0 36 := by rw [hW]; exact Blk.new w _ _
      have HU : Upd [] w W := by rw [hW]; exact (Upd.refl _ _).alloc _
      simp only [turn0, trnNone, evNone, Trn.cells] at hW
      rw [← hW]
      clear hW
      have hL1 := hL.upd0 HU
      have b3 : W.cell? ⟨b, 3, none⟩ = some (.int .i64 5) := hL1.att.head.cell 3 rfl
      go_wp2_with fail
      clear b3
      have HL0 := hL1.upd0 (Upd.refl [] _).drew
      replace RB := RB.drew
      have U : Upd (b :: (F ++ Y.foot)) w W.drew := HU.drew.mono (by simp)
      replace k0 := cell_upd0 HU.drew k0
      replace k1 := cell_upd0 HU.drew k1
      have b1 := HL0.att.head.cell 1 rfl
      have b8 := HL0.att.head.cell 8 rfl
      refine wp_region_eff (fun w' => w'.cell? ⟨b, 1, none⟩ = some (.slice (some ⟨g, o, none⟩) rd.length cap) ∧ w'.cell? ⟨b, 8, none⟩ = some (.int .i64 (j : Int)) ∧ w'.cell? ⟨g, o + j * 2, none⟩ = some (.int .u64 x) ∧ w'.cell? ⟨g, o + j * 2 + 1, none⟩ = some (.int .u64 y)) 13 (by kernel_rfl) (by kernel_rfl) ⟨b1, b8, k0, k1⟩ ?_
      have hz1 : w.heap.size < W.drew.heap.size := RB.lt
      clear hL1
      generalize W.drew = w1 at HL0 RB U b1 b8 k0 k1 hz1 ⊢
      repeat
        refine wpE_take (v := ?_) (by decide) rfl (by rfl) ?_ ?_
        rotate_left 1
        · ((intro w hSw; (try dsimp only at hSw); go_simp); try with_reducible rfl)
        try simp only [Act.put, List.setIfInBounds_toArray, List.set_cons_zero, List.set_cons_succ]
      refine wpE_eff (by decide) rfl (by kernel_rfl) (by rfl) (fun K2 hK2 => ?_)
      go_simp
      obtain ⟨W2, hW2⟩ : ∃ W2, W2 = w1.alloc (.cells #[.int .u64 0, .int .u64 0] 53) := ⟨_, rfl⟩
      have CB : Blk W2 w1.heap.size [.int .u64 0, .int .u64 0] 53 := by rw [hW2]; exact Blk.new w1 _ _
      have u2 : Upd [] w1 W2 := by rw [hW2]; exact (Upd.refl [] _).alloc _
      rw [← hW2]
      clear hW2
      have hL3 := HL0.upd0 u2
      refine hK2.out _ _ ⟨hL3.att.head.cell 1 rfl, hL3.att.head.cell 8 rfl, cell_upd0 u2 k0, cell_upd0 u2 k1⟩ ?_
      clear hK2 K2
      have d0 := CB.cell 0 rfl
      have d1 := CB.cell 1 rfl
      have e0 := CB.free 0
      have e1 := CB.free 1
      refine wpE_tail ?_
      go_wp2_with fail
      refine NoPanic.normal ?_
      have CB2 := (CB.set 0 (.int .u64 x)).set 1 (.int .u64 y)
      have u3 : Upd [w1.heap.size] W2 ((W2.setCell ⟨w1.heap.size, 0, none⟩ (.int .u64 x)).setCell ⟨w1.heap.size, 1, none⟩ (.int .u64 y)) := ((Upd.refl _ _).setCell (.inl (by simp)) _).setCell (.inl (by simp)) _
      have hnw : ∀ g ∈ b :: (F ++ Y.foot), g ∉ [w1.heap.size] := fun g hg e => by
        simp only [List.mem_singleton] at e
        subst e
        simp only [List.mem_cons, List.mem_append] at hg
        rcases hg with k | k | k
        · have := HL0.lt; omega
        · exact Nat.lt_irrefl _ (HL0.sep _ k).1
        · exact Nat.lt_irrefl _ (HL0.sh.lt _ k)
      have hL4 := hL3.upd u3 hnw
      have RB4 := (RB.upd u2 (by simp)).upd u3 (by simp; omega)
      have U4 : Upd (b :: (F ++ Y.foot)) w _ := (U.trans (u2.mono (by simp))).tr u3 (fun _ h => .inl h) (fun x hx => .inr (by simp at hx; omega))
      clear d0 d1 e0 e1 CB hL3 u2 u3 RB HL0 U b1 b8 k0 k1
      generalize hW3 : (W2.setCell ⟨w1.heap.size, 0, none⟩ (.int .u64 x)).setCell ⟨w1.heap.size, 1, none⟩ (.int .u64 y) = W4 at CB2 hL4 RB4 U4 ⊢
      clear hW3
      generalize w1.heap.size = cb at CB2 hnw hz1 ⊢
      have hnb : cb ≠ b := fun e => hnw b (by simp) (by simp [e])
      have hcy : cb ∉ Y.foot := fun e => hnw cb (by simp [e]) (by simp)
      have hcra : cb ≠ Y.ra := fun e => hcy (by simp [RX.foot, e])
      clear hnw hcy
      go_wp2_with fail
      have hL5 := hL4.upd0 (Upd.refl [] _).drew
      replace RB4 := RB4.drew
      replace U4 := U4.drew
      replace CB2 := CB2.drew
      have a0 := hL5.sh.wld.cell 0 rfl
      have c0 := CB2.cell 0 rfl
      refine wp_region_eff (fun w' => w'.cell? ⟨Y.wb, 0, none⟩ = some (.pointer (some ⟨Y.ra, 0, none⟩)) ∧ w'.cell? ⟨cb, 0, none⟩ = some (.int .u64 x)) 12 (by kernel_rfl) (by kernel_rfl) ⟨a0, c0⟩ ?_
      clear hL4
      generalize W4.drew = W5 at hL5 RB4 U4 CB2 a0 c0 ⊢
      repeat
        refine wpE_take (v := ?_) (by decide) rfl (by rfl) ?_ ?_
        rotate_left 1
        · ((intro w hSw; (try dsimp only at hSw); go_simp); try with_reducible rfl)
        try simp only [Act.put, List.setIfInBounds_toArray, List.set_cons_zero, List.set_cons_succ]
      refine wpE_eff (by decide) rfl (by kernel_rfl) (by rfl) (fun K2 hK2 => ?_)
      go_simp
      refine (rload_any hL5.sh.row x hxw.1.1).mono ?_
      rintro e w6 ⟨rfl, r1, u1⟩
      simp only [hrl]
      have HL0 := hL5.loaded r1 u1
      have CB := CB2.upd u1 (by simpa using hcra)
      refine hK2.out _ _ ⟨HL0.sh.wld.cell 0 rfl, CB.cell 0 rfl⟩ ?_
      clear hK2 K2
      repeat
        refine wpE_take (v := ?_) (by decide) rfl (by rfl) ?_ ?_
        rotate_left 1
        · ((intro w hSw; (try dsimp only at hSw); go_simp); try with_reducible rfl)
        try simp only [Act.put, List.setIfInBounds_toArray, List.set_cons_zero, List.set_cons_succ]
      refine wpE_end (NoPanic.normal ?_)
      have RB := RB4.upd u1 (fun e => by simp at e; have := lx Y.ra (by simp [RX.foot]); omega)
      have U := U4.trans (u1.mono (T := b :: (F ++ Y.foot)) (by simp [RX.foot]))
      clear hL5 CB2 RB4 U4 a0 c0 r1 u1
      have d1 : w6.cell? ⟨cb, 1, none⟩ = some (.int .u64 y) := CB.cell 1 rfl
      go_wp2_with fail
      clear d1
      refine (rover_code HL0).mono ?_
      rintro e w7 ⟨rfl, HL7, u7⟩
      replace RB := RB.upd u7 (by simp; omega)
      replace U := U.trans (u7.mono (T := b :: (F ++ Y.foot)) (by simp))
      have q0 := (RB).cell 0 rfl
      have q1 := (RB).cell 1 rfl
      have q2 := (RB).cell 2 rfl
      have q3 := (RB).cell 3 rfl
      have q4 := (RB).cell 4 rfl
      have q5 := (RB).cell 5 rfl
      have q6 := (RB).cell 6 rfl
      have q7 := (RB).cell 7 rfl
      have g0 := (RB).free 0
      have g1 := (RB).free 1
      have g2 := (RB).free 2
      have g3 := (RB).free 3
      have g4 := (RB).free 4
      have g5 := (RB).free 5
      have g6 := (RB).free 6
      have g7 := (RB).free 7
      go_wp2_with fail
      exact bodyPost_ret (turn_results 4 rfl _ _ _ (⟨5, 0, ⟨7, 0, 0, false⟩⟩ : Trn) rfl (turn_set RB rfl (⟨5, 0, ⟨7, 0, 0, false⟩⟩ : Trn))) rfl (hK _ _ (rfin (Nat.le_refl _) HL7 U (fun g hg => .inl hg) hnr _ _ _ _ _ _ _ _))
  · have hl : checkS ⟨sn, rd, wr, 5, th, ad, wo, fo, (j : Int)⟩ ⟨row, clock⟩ = (⟨5, 0, ⟨7, 0, 0, false⟩⟩, overS) := by
      unfold checkS
      simp only [Int.toNat_natCast, hxy]
      rw [if_neg (fun h => hx h.1)]
    rw [hl]
    have hrl : rLoad row x = (0, 4) := if_neg hx
    clear hl hxy
    refine calls_all fun K hK => ?_
    go_enter Try.func125, Try.ntmps125
    go_upto_region 1 with (fail)
    obtain ⟨W, hW⟩ : ∃ W, W = w.alloc (.cells turn0.toArray 36) := ⟨_, rfl⟩
    have RB : Blk W w.heap.size turn0 36 := by rw [hW]; exact Blk.new w _ _
    have HU : Upd [] w W := by rw [hW]; exact (Upd.refl _ _).alloc _
    simp only [turn0, trnNone, evNone, Trn.cells] at hW
    rw [← hW]
    clear hW
    have hL1 := hL.upd0 HU
    have b3 : W.cell? ⟨b, 3, none⟩ = some (.int .i64 5) := hL1.att.head.cell 3 rfl
    go_wp2_with fail
    clear b3
    have HL0 := hL1.upd0 (Upd.refl [] _).drew
    replace RB := RB.drew
    have U : Upd (b :: (F ++ Y.foot)) w W.drew := HU.drew.mono (by simp)
    replace k0 := cell_upd0 HU.drew k0
    replace k1 := cell_upd0 HU.drew k1
    have b1 := HL0.att.head.cell 1 rfl
    have b8 := HL0.att.head.cell 8 rfl
    refine wp_region_eff (fun w' => w'.cell? ⟨b, 1, none⟩ = some (.slice (some ⟨g, o, none⟩) rd.length cap) ∧ w'.cell? ⟨b, 8, none⟩ = some (.int .i64 (j : Int)) ∧ w'.cell? ⟨g, o + j * 2, none⟩ = some (.int .u64 x) ∧ w'.cell? ⟨g, o + j * 2 + 1, none⟩ = some (.int .u64 y)) 13 (by kernel_rfl) (by kernel_rfl) ⟨b1, b8, k0, k1⟩ ?_
    have hz1 : w.heap.size < W.drew.heap.size := RB.lt
    clear hL1
    generalize W.drew = w1 at HL0 RB U b1 b8 k0 k1 hz1 ⊢
    repeat
      refine wpE_take (v := ?_) (by decide) rfl (by rfl) ?_ ?_
      rotate_left 1
      · ((intro w hSw; (try dsimp only at hSw); go_simp); try with_reducible rfl)
      try simp only [Act.put, List.setIfInBounds_toArray, List.set_cons_zero, List.set_cons_succ]
    refine wpE_eff (by decide) rfl (by kernel_rfl) (by rfl) (fun K2 hK2 => ?_)
    go_simp
    obtain ⟨W2, hW2⟩ : ∃ W2, W2 = w1.alloc (.cells #[.int .u64 0, .int .u64 0] 53) := ⟨_, rfl⟩
    have CB : Blk W2 w1.heap.size [.int .u64 0, .int .u64 0] 53 := by rw [hW2]; exact Blk.new w1 _ _
    have u2 : Upd [] w1 W2 := by rw [hW2]; exact (Upd.refl [] _).alloc _
    rw [← hW2]
    clear hW2
    have hL3 := HL0.upd0 u2
    refine hK2.out _ _ ⟨hL3.att.head.cell 1 rfl, hL3.att.head.cell 8 rfl, cell_upd0 u2 k0, cell_upd0 u2 k1⟩ ?_
    clear hK2 K2
    have d0 := CB.cell 0 rfl
    have d1 := CB.cell 1 rfl
    have e0 := CB.free 0
    have e1 := CB.free 1
    refine wpE_tail ?_
    go_wp2_with fail
    refine NoPanic.normal ?_
    have CB2 := (CB.set 0 (.int .u64 x)).set 1 (.int .u64 y)
    have u3 : Upd [w1.heap.size] W2 ((W2.setCell ⟨w1.heap.size, 0, none⟩ (.int .u64 x)).setCell ⟨w1.heap.size, 1, none⟩ (.int .u64 y)) := ((Upd.refl _ _).setCell (.inl (by simp)) _).setCell (.inl (by simp)) _
    have hnw : ∀ g ∈ b :: (F ++ Y.foot), g ∉ [w1.heap.size] := fun g hg e => by
      simp only [List.mem_singleton] at e
      subst e
      simp only [List.mem_cons, List.mem_append] at hg
      rcases hg with k | k | k
      · have := HL0.lt; omega
      · exact Nat.lt_irrefl _ (HL0.sep _ k).1
      · exact Nat.lt_irrefl _ (HL0.sh.lt _ k)
    have hL4 := hL3.upd u3 hnw
    have RB4 := (RB.upd u2 (by simp)).upd u3 (by simp; omega)
    have U4 : Upd (b :: (F ++ Y.foot)) w _ := (U.trans (u2.mono (by simp))).tr u3 (fun _ h => .inl h) (fun x hx => .inr (by simp at hx; omega))
    clear d0 d1 e0 e1 CB hL3 u2 u3 RB HL0 U b1 b8 k0 k1
    generalize hW3 : (W2.setCell ⟨w1.heap.size, 0, none⟩ (.int .u64 x)).setCell ⟨w1.heap.size, 1, none⟩ (.int .u64 y) = W4 at CB2 hL4 RB4 U4 ⊢
    clear hW3
    generalize w1.heap.size = cb at CB2 hnw hz1 ⊢
    have hnb : cb ≠ b := fun e => hnw b (by simp) (by simp [e])
    have hcy : cb ∉ Y.foot := fun e => hnw cb (by simp [e]) (by simp)
    have hcra : cb ≠ Y.ra := fun e => hcy (by simp [RX.foot, e])
    clear hnw hcy
    go_wp2_with fail
    have hL5 := hL4.upd0 (Upd.refl [] _).drew
    replace RB4 := RB4.drew
    replace U4 := U4.drew
    replace CB2 := CB2.drew
    have a0 := hL5.sh.wld.cell 0 rfl
    have c0 := CB2.cell 0 rfl
    refine wp_region_eff (fun w' => w'.cell? ⟨Y.wb, 0, none⟩ = some (.pointer (some ⟨Y.ra, 0, none⟩)) ∧ w'.cell? ⟨cb, 0, none⟩ = some (.int .u64 x)) 12 (by kernel_rfl) (by kernel_rfl) ⟨a0, c0⟩ ?_
    clear hL4
    generalize W4.drew = W5 at hL5 RB4 U4 CB2 a0 c0 ⊢
    repeat
      refine wpE_take (v := ?_) (by decide) rfl (by rfl) ?_ ?_
      rotate_left 1
      · ((intro w hSw; (try dsimp only at hSw); go_simp); try with_reducible rfl)
      try simp only [Act.put, List.setIfInBounds_toArray, List.set_cons_zero, List.set_cons_succ]
    refine wpE_eff (by decide) rfl (by kernel_rfl) (by rfl) (fun K2 hK2 => ?_)
    go_simp
    refine (rload_any hL5.sh.row x hxw.1.1).mono ?_
    rintro e w6 ⟨rfl, r1, u1⟩
    simp only [hrl]
    have HL0 := hL5.loaded r1 u1
    have CB := CB2.upd u1 (by simpa using hcra)
    refine hK2.out _ _ ⟨HL0.sh.wld.cell 0 rfl, CB.cell 0 rfl⟩ ?_
    clear hK2 K2
    repeat
      refine wpE_take (v := ?_) (by decide) rfl (by rfl) ?_ ?_
      rotate_left 1
      · ((intro w hSw; (try dsimp only at hSw); go_simp); try with_reducible rfl)
      try simp only [Act.put, List.setIfInBounds_toArray, List.set_cons_zero, List.set_cons_succ]
    refine wpE_end (NoPanic.normal ?_)
    have RB := RB4.upd u1 (fun e => by simp at e; have := lx Y.ra (by simp [RX.foot]); omega)
    have U := U4.trans (u1.mono (T := b :: (F ++ Y.foot)) (by simp [RX.foot]))
    clear hL5 CB2 RB4 U4 a0 c0 r1 u1
    have d1 : w6.cell? ⟨cb, 1, none⟩ = some (.int .u64 y) := CB.cell 1 rfl
    go_wp2_with fail
    clear d1
    refine (rover_code HL0).mono ?_
    rintro e w7 ⟨rfl, HL7, u7⟩
    replace RB := RB.upd u7 (by simp; omega)
    replace U := U.trans (u7.mono (T := b :: (F ++ Y.foot)) (by simp))
    have q0 := (RB).cell 0 rfl
    have q1 := (RB).cell 1 rfl
    have q2 := (RB).cell 2 rfl
    have q3 := (RB).cell 3 rfl
    have q4 := (RB).cell 4 rfl
    have q5 := (RB).cell 5 rfl
    have q6 := (RB).cell 6 rfl
    have q7 := (RB).cell 7 rfl
    have g0 := (RB).free 0
    have g1 := (RB).free 1
    have g2 := (RB).free 2
    have g3 := (RB).free 3
    have g4 := (RB).free 4
    have g5 := (RB).free 5
    have g6 := (RB).free 6
    have g7 := (RB).free 7
    go_wp2_with fail
    exact bodyPost_ret (turn_results 4 rfl _ _ _ (⟨5, 0, ⟨7, 0, 0, false⟩⟩ : Trn) rfl (turn_set RB rfl (⟨5, 0, ⟨7, 0, 0, false⟩⟩ : Trn))) rfl (hK _ _ (rfin (Nat.le_refl _) HL7 U (fun g hg => .inl hg) hnr _ _ _ _ _ _ _ _))
end
end Go.Proofs.Ythfeljongackcaa
