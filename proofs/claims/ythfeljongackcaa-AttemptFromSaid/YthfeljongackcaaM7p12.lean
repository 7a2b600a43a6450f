/- The document's attempt: a log that grows; look. No conditions. The document's attempt: validate, in its phases wait and close. No conditions but what the phase says. -/
import Derived.Test.YthfeljongackcaaM7p11
import Derived.Deep.Cut
set_option linter.unusedSimpArgs false
set_option linter.unusedVariables false
set_option maxRecDepth 100000
namespace Go.Proofs.Ythfeljongackcaa
open Go.RowKit
open Go.Maps
-- behind a call to going: the turn is stored
-- the end: the turn T is stored
-- a store into the attempt's block, kept up in RB, U
section
variable {w : World} {Y : RX} {sh : Sh} {acc : Int} {b : Nat} {s : AS} {F : List Nat} {rv wv : Value}
theorem RLive.setReads {w' : World} {v' : Value} {l' : List (Int × Int)} {G : List Nat} (h : RLive w Y sh acc b s F rv wv) (u : Upd rv.ownBlock.toList w w') (h' : OwnP w' v' l' G) (hF : ∀ g ∈ F, g ∈ G) (hG : ∀ g ∈ G, g ∈ F ∨ w.heap.size ≤ g ∧ g < w'.heap.size) (hv : v'.ownBlock = rv.ownBlock ∨ ∀ g, v'.ownBlock = some g → w.heap.size ≤ g) (hW : Wide { s with reads := l' }) :
    RLive (w'.setCell ⟨b, 1, none⟩ v') Y sh acc b { s with reads := l' } G v' wv := by
  have ua : Upd [b] w' (w'.setCell ⟨b, 1, none⟩ v') := (Upd.refl _ _).setCell (.inl (by simp)) _
  have hr : ∀ g ∈ rv.ownBlock.toList, rv.ownBlock = some g := fun g hg => by simpa using hg
  have hh : Blk w' b (rheadV s rv wv) 132 := h.att.head.upd u (fun hg => h.att.not_rd (hr b hg))
  have hwr : OwnP w' wv s.writes F := h.att.wr.upd u (fun g hg e => h.att.apart g (hr g hg) e)
  have hrF : ∀ g ∈ rv.ownBlock.toList, g ∈ F := fun g hg => h.att.rd.inF g (hr g hg)
  have hsh : Y.At w' sh acc := h.sh.upd u (fun g hg k => (h.sep g (hrF g k)).2.1 hg)
  have ho := h.out
  have hlt := h.lt
  have hfl := h.sh.lt
  have hsz := u.size
  refine ⟨⟨hh.set 1 v', h'.upd ua (fun g hg e => ?_), (hwr.upd ua (fun g hg e => ?_)).mono hF, fun g hg e => ?_⟩, hsh.upd ua (fun g hg e => by simp at e; subst e; exact ho hg), fun g hg => ?_, hW⟩
  · simp at hg; subst hg; exact h'.ne_blk hh (by decide) e
  · simp at hg; subst hg; exact hwr.ne_blk hh (by decide) e
  · rcases hv with hv | hv
    · exact h.att.apart g (hv ▸ hg) e
    · have := hv g hg; have := h.att.wr.lt e; omega
  · have hs2 := ua.size
    rcases hG g hg with k | ⟨k, k2⟩
    · have := h.sep g k; exact ⟨by omega, this.2⟩
    · exact ⟨by omega, fun e => by have := hfl g e; omega, by omega⟩
theorem RLive.setWrites {w' : World} {v' : Value} {l' : List (Int × Int)} {G : List Nat} (h : RLive w Y sh acc b s F rv wv) (u : Upd wv.ownBlock.toList w w') (h' : OwnP w' v' l' G) (hF : ∀ g ∈ F, g ∈ G) (hG : ∀ g ∈ G, g ∈ F ∨ w.heap.size ≤ g ∧ g < w'.heap.size) (hv : v'.ownBlock = wv.ownBlock ∨ ∀ g, v'.ownBlock = some g → w.heap.size ≤ g) (hW : Wide { s with writes := l' }) :
    RLive (w'.setCell ⟨b, 2, none⟩ v') Y sh acc b { s with writes := l' } G rv v' := by
  have ua : Upd [b] w' (w'.setCell ⟨b, 2, none⟩ v') := (Upd.refl _ _).setCell (.inl (by simp)) _
  have hr : ∀ g ∈ wv.ownBlock.toList, wv.ownBlock = some g := fun g hg => by simpa using hg
  have hh : Blk w' b (rheadV s rv wv) 132 := h.att.head.upd u (fun hg => h.att.not_wr (hr b hg))
  have hrd : OwnP w' rv s.reads F := h.att.rd.upd u (fun g hg e => h.att.apart g e (hr g hg))
  have hrF : ∀ g ∈ wv.ownBlock.toList, g ∈ F := fun g hg => h.att.wr.inF g (hr g hg)
  have hsh : Y.At w' sh acc := h.sh.upd u (fun g hg k => (h.sep g (hrF g k)).2.1 hg)
  have ho := h.out
  have hlt := h.lt
  have hfl := h.sh.lt
  have hsz := u.size
  refine ⟨⟨hh.set 2 v', (hrd.upd ua (fun g hg e => ?_)).mono hF, h'.upd ua (fun g hg e => ?_), fun g hg e => ?_⟩, hsh.upd ua (fun g hg e => by simp at e; subst e; exact ho hg), fun g hg => ?_, hW⟩
  · simp at hg; subst hg; exact hrd.ne_blk hh (by decide) e
  · simp at hg; subst hg; exact h'.ne_blk hh (by decide) e
  · rcases hv with hv | hv
    · exact h.att.apart g hg (hv ▸ e)
    · have := hv g e; have := h.att.rd.lt hg; omega
  · have hs2 := ua.size
    rcases hG g hg with k | ⟨k, k2⟩
    · have := h.sep g k; exact ⟨by omega, this.2⟩
    · exact ⟨by omega, fun e => by have := hfl g e; omega, by omega⟩

set_option maxHeartbeats 2000000 in
theorem rlook_code (hL : RLive w Y sh acc b s F rv wv) (hlen : s.reads.length < 1024) :
    Calls Try.prog 124 #[.pointer (some ⟨b, 0, none⟩), .pointer (some ⟨Y.wb, 0, none⟩)] w (RStep w Y b F (lookS s sh).1 (lookS s sh).2 sh) := by
  obtain ⟨sn, rd, wr, ph, th, ad, wo, fo, at_⟩ := s
  obtain ⟨row, clock⟩ := sh
  have hwd := hL.wide
  simp only at hlen
  have la := hL.lt
  have lx := hL.sh.lt
  have hnr : w.heap.size ∉ b :: (F ++ Y.foot) := by
    simp only [List.mem_cons, List.mem_append, not_or]
    exact ⟨by omega, fun h => Nat.lt_irrefl _ (hL.sep _ h).1, fun h => Nat.lt_irrefl _ (lx _ h)⟩
  have hwb : b ≠ Y.wb := fun e => hL.out (by simp [RX.foot, e])
  have lb0 : b ≠ w.heap.size := by omega
  have lw0 : Y.wb ≠ w.heap.size := by have := lx Y.wb (by simp [RX.foot]); omega
  by_cases hc : clock = sn
  · subst hc
    have hl : lookS ⟨clock, rd, wr, ph, th, ad, wo, fo, at_⟩ ⟨row, clock⟩ = (⟨2, wo, ⟨2, ad, wo, false⟩⟩, ⟨clock, rd ++ [(ad, wo)], wr, 1, th, 0, 0, fo, at_⟩) := by unfold lookS; rw [if_pos rfl]
    rw [hl]
    clear hl
    have hcc : (clock != clock) = false := by simp
    refine calls_all fun K hK => ?_
    go_enter Try.func124, Try.ntmps124
    go_wp2_with fail
    obtain ⟨W, hW⟩ : ∃ W, W = w.alloc (.cells turn0.toArray 36) := ⟨_, rfl⟩
    have RB : Blk W w.heap.size turn0 36 := by rw [hW]; exact Blk.new w _ _
    have HU : Upd [] w W := by rw [hW]; exact (Upd.refl _ _).alloc _
    simp only [turn0, trnNone, evNone, Trn.cells] at hW
    rw [← hW]
    clear hW
    have hL1 := hL.upd0 HU.drew
    have a1 := hL1.sh.wld.cell 1 rfl
    have b0 := hL1.att.head.cell 0 rfl
    refine wp_region_eff (fun w' => w'.cell? ⟨Y.wb, 1, none⟩ = some (.int .u64 clock) ∧ w'.cell? ⟨b, 0, none⟩ = some (.int .u64 clock)) 10 (by kernel_rfl) (by kernel_rfl) ⟨a1, b0⟩ ?_
    repeat
      refine wpE_take (v := ?_) (by decide) rfl (by rfl) ?_ ?_
      rotate_left 1
      · ((intro w hSw; (try dsimp only at hSw); go_simp); try with_reducible rfl)
      try simp only [Act.put, List.setIfInBounds_toArray, List.set_cons_zero, List.set_cons_succ]
    refine wpE_end (NoPanic.normal ?_)
    clear b0
    replace RB := RB.drew
    have U1 : Upd (b :: (F ++ Y.foot)) w W.drew := HU.drew.mono (by simp)
    clear a1
    have hz1 : w.heap.size < W.drew.heap.size := RB.lt
    generalize W.drew = w1 at hL1 RB U1 hz1 ⊢
    go_wp2_with fail
    have b5 := hL1.att.head.cell 5 rfl
    have b6 := hL1.att.head.cell 6 rfl
    have hl1 := hL1.lt
    refine wp_region_eff (fun w' => w'.cell? ⟨b, 5, none⟩ = some (.int .u64 ad) ∧ w'.cell? ⟨b, 6, none⟩ = some (.int .u64 wo)) 13 (by kernel_rfl) (by kernel_rfl) ⟨b5, b6⟩ ?_
    repeat
      refine wpE_take (v := ?_) (by decide) rfl (by rfl) ?_ ?_
      rotate_left 1
      · ((intro w hSw; (try dsimp only at hSw); go_simp); try with_reducible rfl)
      try simp only [Act.put, List.setIfInBounds_toArray, List.set_cons_zero, List.set_cons_succ]
    refine wpE_eff (by decide) rfl (by kernel_rfl) (by rfl) (fun K2 hK2 => ?_)
    go_simp
    obtain ⟨W2, hW2⟩ : ∃ W2, W2 = (w1.alloc (.cells #[.int .u64 0, .int .u64 0] 53)).drew := ⟨_, rfl⟩
    have CB : Blk W2 w1.heap.size [.int .u64 0, .int .u64 0] 53 := by rw [hW2]; exact (Blk.new w1 _ _).drew
    have u2 : Upd [] w1 W2 := by rw [hW2]; exact ((Upd.refl [] _).alloc _).drew
    rw [← hW2]
    clear hW2
    have hL3 := hL1.upd0 u2
    refine hK2.out _ _ ⟨hL3.att.head.cell 5 rfl, hL3.att.head.cell 6 rfl⟩ ?_
    clear hK2 K2
    repeat
      refine wpE_take (v := ?_) (by decide) rfl (by rfl) ?_ ?_
      rotate_left 1
      · ((intro w hSw; (try dsimp only at hSw); go_simp); try with_reducible rfl)
      try simp only [Act.put, List.setIfInBounds_toArray, List.set_cons_zero, List.set_cons_succ]
    have k0 := CB.cell 0 rfl
    have k1 := CB.cell 1 rfl
    have j0 := CB.free 0
    have j1 := CB.free 1
    refine wpE_eff (by decide) rfl (by kernel_rfl) (by rfl) (fun K2 hK2 => ?_)
    go_simp
    have CB2 := (CB.set 0 (.int .u64 ad)).set 1 (.int .u64 wo)
    have u3 : Upd [w1.heap.size] W2 ((W2.setCell ⟨w1.heap.size, 0, none⟩ (.int .u64 ad)).setCell ⟨w1.heap.size, 1, none⟩ (.int .u64 wo)) := ((Upd.refl _ _).setCell (.inl (by simp)) _).setCell (.inl (by simp)) _
    have hnw : ∀ g ∈ b :: (F ++ Y.foot), g ∉ [w1.heap.size] := fun g hg e => by
      simp only [List.mem_singleton] at e
      subst e
      simp only [List.mem_cons, List.mem_append] at hg
      rcases hg with k | k | k
      · omega
      · exact Nat.lt_irrefl _ (hL1.sep _ k).1
      · exact Nat.lt_irrefl _ (hL1.sh.lt _ k)
    have hL4 := hL3.upd u3 hnw
    refine hK2.out _ _ ⟨hL4.att.head.cell 5 rfl, hL4.att.head.cell 6 rfl⟩ ?_
    refine wpE_end (NoPanic.normal ?_)
    have RB4 := (RB.upd u2 (by simp)).upd u3 (by simp; omega)
    have U4 : Upd (b :: (F ++ Y.foot)) w _ := (U1.trans (u2.mono (by simp))).tr u3 (fun _ h => .inl h) (fun x hx => .inr (by simp at hx; omega))
    clear hK2 K2 k0 k1 j0 j1 b5 b6 CB hL3 u2 u3 RB hL1
    generalize hW3 : (W2.setCell ⟨w1.heap.size, 0, none⟩ (.int .u64 ad)).setCell ⟨w1.heap.size, 1, none⟩ (.int .u64 wo) = W4 at CB2 hL4 RB4 U4 ⊢
    clear hW3
    generalize w1.heap.size = cb at CB2 hnw hz1 ⊢
    have hnb : cb ≠ b := fun e => hnw b (by simp) (by simp [e])
    have hcF : cb ∉ F := fun e => hnw cb (by simp [e]) (by simp)
    have a1 := hL4.att.head.cell 1 rfl
    have c0 := CB2.cell 0 rfl
    have c1 := CB2.cell 1 rfl
    have hzc := CB2.lt
    go_wp2_with fail
    refine wp_region_eff (fun w' => w'.cell? ⟨b, 1, none⟩ = some rv ∧ w'.cell? ⟨cb, 0, none⟩ = some (.int .u64 ad) ∧ w'.cell? ⟨cb, 1, none⟩ = some (.int .u64 wo)) 12 (by kernel_rfl) (by kernel_rfl) ⟨a1, c0, c1⟩ ?_
    repeat
      refine wpE_take (v := ?_) (by decide) rfl (by rfl) ?_ ?_
      rotate_left 1
      · ((intro w hSw; (try dsimp only at hSw); go_simp); try with_reducible rfl)
      try simp only [Act.put, List.setIfInBounds_toArray, List.set_cons_zero, List.set_cons_succ]
    refine wpE_eff (by decide) rfl (by kernel_rfl) (by rfl) (fun K2 hK2 => ?_)
    go_simp
    obtain ⟨W5, hW5⟩ : ∃ W5, W5 = (W4.alloc (.cells #[.int .u64 ad, .int .u64 wo] 53)).drew := ⟨_, rfl⟩
    obtain ⟨v6, W6, G6, hrun, ho6, hu6, hat6, hFG, hGF⟩ : ∃ v' w' G, (Builtin.append_ #[49, 49] 49 #[rv, .slice (some ⟨W4.heap.size, 0, none⟩) 1 1]).run Try.prog W5 = .ok v' w' ∧ OwnP w' v' (rd ++ [(ad, wo)]) G ∧ Upd rv.ownBlock.toList W5 w' ∧ (v'.ownBlock = rv.ownBlock ∨ v'.ownBlock = some (W4.heap.size + 1)) ∧
        (∀ g ∈ F, g ∈ G) ∧ (∀ g ∈ G, g ∈ F ∨ W4.heap.size < g ∧ g < w'.heap.size) := by
      rw [hW5]; exact app_pair (W := W4.drew) (hL4.att.rd.upd (Upd.refl [] _).drew (by simp)) ad wo (Nat.lt_trans hlen (by decide))
    have u5 : Upd [] W4 W5 := by rw [hW5]; exact ((Upd.refl [] _).alloc _).drew
    have hs5 : W5.heap.size = W4.heap.size + 1 := by rw [hW5]; exact World.size_alloc _ _
    rw [← hW5]
    clear hW5
    have hL6 := hL4.upd0 u5
    have CB6 := CB2.upd u5 (by simp)
    refine hK2.out _ _ ⟨hL6.att.head.cell 1 rfl, CB6.cell 0 rfl, CB6.cell 1 rfl⟩ ?_
    clear hK2 K2
    obtain ⟨p6, q6, rfl⟩ := ho6.form
    have hg6 : ∀ g ∈ rv.ownBlock.toList, g ∈ F := fun g hg => hL6.att.rd.inF g (by simpa using hg)
    have HL7 := hL6.setReads hu6 ho6 hFG (fun g hg => (hGF g hg).imp id (fun k => by omega)) (by rcases hat6 with e | e; exact .inl e; exact .inr (fun g hg => by rw [e] at hg; simp at hg; omega)) ⟨hwd.snap, fun c hc => by rcases List.mem_append.1 hc with k | k; exact hwd.reads c k; (simp at k; subst k; exact ⟨hwd.addr, hwd.word⟩), hwd.writes, hwd.addr, hwd.word, hwd.found⟩
    have hh6 := hL6.att.head.upd hu6 (fun hg => hL6.att.not_rd (by simpa using hg))
    have CB7 := CB6.upd hu6 (fun h => hcF (hg6 _ h))
    have RB7 := (RB4.upd u5 (by simp)).upd hu6 (fun h => Nat.lt_irrefl _ (hL.sep _ (hg6 _ h)).1)
    have U7 := (U4.trans (u5.mono (T := b :: (F ++ Y.foot)) (by simp))).trans (hu6.mono (T := b :: (F ++ Y.foot)) (fun g hg => .inl (by have := hg6 g hg; simp [this])))
    refine wpE_append (by decide) rfl (by kernel_rfl) (by rfl) _ _ _ _ rfl _ _ _ rfl rfl hrun ⟨hh6.cell 1 rfl, CB7.cell 0 rfl, CB7.cell 1 rfl⟩ ?_
    try simp only [Act.put, List.setIfInBounds_toArray, List.set_cons_zero, List.set_cons_succ]
    repeat
      refine wpE_take (v := ?_) (by decide) rfl (by rfl) ?_ ?_
      rotate_left 1
      · ((intro w hSw; (try dsimp only at hSw); go_simp); try with_reducible rfl)
      try simp only [Act.put, List.setIfInBounds_toArray, List.set_cons_zero, List.set_cons_succ]
    have a3' := hh6.cell 1 rfl
    have f3' := hh6.free 1
    refine wpE_tail ?_
    go_wp2_with fail
    refine NoPanic.normal ?_
    have hl6 : (rd ++ [(ad, wo)]).length = rd.length + 1 := by simp
    rw [hl6] at HL7
    have uw : Upd [b] W6 (W6.setCell ⟨b, 1, none⟩ (.slice p6 (rd.length + 1 : Nat) q6)) := (Upd.refl _ _).setCell (.inl (by simp)) _
    replace RB := RB7.upd uw (by simp; omega)
    have CB8 := CB7.upd uw (by simpa using hnb)
    have U := U7.trans (uw.mono (T := b :: (F ++ Y.foot)) (by simp))
    have hG0 : ∀ g ∈ G6, g ∈ F ∨ w.heap.size < g := fun g hg => (hGF g hg).imp id (fun k => by omega)
    clear uw a3' f3' hh6 hrun hu6 ho6 hat6 hL6 hL4 CB2 CB6 CB7 RB4 RB7 U4 U7 u5 a1 c0 c1 hGF U1
    generalize W6.setCell ⟨b, 1, none⟩ (.slice p6 (rd.length + 1 : Nat) q6) = W7 at HL7 RB CB8 U ⊢
    have c0 := CB8.cell 0 rfl
    have c1 := CB8.cell 1 rfl
    have HL := ((HL7.setPhase 1).setAddr 0 (by omega)).setWord 0 (by omega)
    have hB := HL7.att.head
    have b0 := (hB).cell 0 rfl
    have b1 := (hB).cell 1 rfl
    have b2 := (hB).cell 2 rfl
    have b3 := (hB).cell 3 rfl
    have b4 := (hB).cell 4 rfl
    have b5 := (hB).cell 5 rfl
    have b6 := (hB).cell 6 rfl
    have b7 := (hB).cell 7 rfl
    have b8 := (hB).cell 8 rfl
    have f0 := (hB).free 0
    have f1 := (hB).free 1
    have f2 := (hB).free 2
    have f3 := (hB).free 3
    have f4 := (hB).free 4
    have f5 := (hB).free 5
    have f6 := (hB).free 6
    have f7 := (hB).free 7
    have f8 := (hB).free 8
    have e1 : cb ≠ b := hnb
    have e2 : b ≠ cb := Ne.symm hnb
    replace RB := RB.other ⟨b, 3, none⟩ (.int .i64 1) (Ne.symm lb0)
    replace U := U.setCell (p := ⟨b, 3, none⟩) (.inl (by simp)) (.int .i64 1)
    replace RB := RB.other ⟨b, 5, none⟩ (.int .u64 0) (Ne.symm lb0)
    replace U := U.setCell (p := ⟨b, 5, none⟩) (.inl (by simp)) (.int .u64 0)
    replace RB := RB.other ⟨b, 6, none⟩ (.int .u64 0) (Ne.symm lb0)
    replace U := U.setCell (p := ⟨b, 6, none⟩) (.inl (by simp)) (.int .u64 0)
    have hn2 : w.heap.size ∉ b :: (G6 ++ Y.foot) := by
      simp only [List.mem_cons, List.mem_append, not_or] at hnr ⊢
      exact ⟨hnr.1, fun h => by rcases hG0 _ h with k | k; exact hnr.2.1 k; omega, hnr.2.2⟩
    clear HL7 hB
    have hcw : cb ≠ w.heap.size := by omega
    have q0 := (RB).cell 0 rfl
    have q1 := (RB).cell 1 rfl
    have q2 := (RB).cell 2 rfl
    have q3 := (RB).cell 3 rfl
    have q4 := (RB).cell 4 rfl
    have q5 := (RB).cell 5 rfl
    have q6 := (RB).cell 6 rfl
    have q7 := (RB).cell 7 rfl
    have g0 := (RB).free 0
    have g1 := (RB).free 1
    have g2 := (RB).free 2
    have g3 := (RB).free 3
    have g4 := (RB).free 4
    have g5 := (RB).free 5
    have g6 := (RB).free 6
    have g7 := (RB).free 7
    go_wp2_with fail
    exact bodyPost_ret (turn_results 4 rfl _ _ _ (⟨2, wo, ⟨2, ad, wo, false⟩⟩ : Trn) rfl (turn_set RB rfl (⟨2, wo, ⟨2, ad, wo, false⟩⟩ : Trn))) rfl (hK _ _ (rfin (Nat.le_refl _) HL U (fun g hg => (hG0 g hg).imp id Nat.le_of_lt) hn2 _ _ _ _ _ _ _ _))
  · have hl : lookS ⟨sn, rd, wr, ph, th, ad, wo, fo, at_⟩ ⟨row, clock⟩ = (going, ⟨sn, rd, wr, 4, 2, ad, 0, fo, at_⟩) := by unfold lookS; rw [if_neg hc]
    rw [hl]
    clear hl
    have hcc : (clock != sn) = true := by simpa using hc
    refine calls_all fun K hK => ?_
    go_enter Try.func124, Try.ntmps124
    go_wp2_with fail
    obtain ⟨W, hW⟩ : ∃ W, W = w.alloc (.cells turn0.toArray 36) := ⟨_, rfl⟩
    have RB : Blk W w.heap.size turn0 36 := by rw [hW]; exact Blk.new w _ _
    have HU : Upd [] w W := by rw [hW]; exact (Upd.refl _ _).alloc _
    simp only [turn0, trnNone, evNone, Trn.cells] at hW
    rw [← hW]
    clear hW
    have hL1 := hL.upd0 HU.drew
    have a1 := hL1.sh.wld.cell 1 rfl
    have b0 := hL1.att.head.cell 0 rfl
    refine wp_region_eff (fun w' => w'.cell? ⟨Y.wb, 1, none⟩ = some (.int .u64 clock) ∧ w'.cell? ⟨b, 0, none⟩ = some (.int .u64 sn)) 10 (by kernel_rfl) (by kernel_rfl) ⟨a1, b0⟩ ?_
    repeat
      refine wpE_take (v := ?_) (by decide) rfl (by rfl) ?_ ?_
      rotate_left 1
      · ((intro w hSw; (try dsimp only at hSw); go_simp); try with_reducible rfl)
      try simp only [Act.put, List.setIfInBounds_toArray, List.set_cons_zero, List.set_cons_succ]
    refine wpE_end (NoPanic.normal ?_)
    clear b0
    replace RB := RB.drew
    have U : Upd (b :: (F ++ Y.foot)) w W.drew := HU.drew.mono (by simp)
    have HL := ((hL1.setPhase 4).setThen 2).setWord 0 (by omega)
    have hB := hL1.att.head
    have b0 := (hB).cell 0 rfl
    have b1 := (hB).cell 1 rfl
    have b2 := (hB).cell 2 rfl
    have b3 := (hB).cell 3 rfl
    have b4 := (hB).cell 4 rfl
    have b5 := (hB).cell 5 rfl
    have b6 := (hB).cell 6 rfl
    have b7 := (hB).cell 7 rfl
    have b8 := (hB).cell 8 rfl
    have f0 := (hB).free 0
    have f1 := (hB).free 1
    have f2 := (hB).free 2
    have f3 := (hB).free 3
    have f4 := (hB).free 4
    have f5 := (hB).free 5
    have f6 := (hB).free 6
    have f7 := (hB).free 7
    have f8 := (hB).free 8
    clear hL1 hB
    replace RB := RB.other ⟨b, 3, none⟩ (.int .i64 4) (Ne.symm lb0)
    replace U := U.setCell (p := ⟨b, 3, none⟩) (.inl (by simp)) (.int .i64 4)
    replace RB := RB.other ⟨b, 4, none⟩ (.int .i64 2) (Ne.symm lb0)
    replace U := U.setCell (p := ⟨b, 4, none⟩) (.inl (by simp)) (.int .i64 2)
    replace RB := RB.other ⟨b, 6, none⟩ (.int .u64 0) (Ne.symm lb0)
    replace U := U.setCell (p := ⟨b, 6, none⟩) (.inl (by simp)) (.int .u64 0)
    generalize W.drew = W1 at a1 b0 b1 b2 b3 b4 b5 b6 b7 b8 f0 f1 f2 f3 f4 f5 f6 f7 f8 RB U HL ⊢
    go_wp2_with fail
    clear b0 b1 b2 b3 b4 b5 b6 b7 b8 f0 f1 f2 f3 f4 f5 f6 f7 f8
    refine (rgoing_code _).mono ?_
    rintro e w2 ⟨rfl, u2⟩
    simp only [Trn.val, going, evNone]
    have HL2 := (HL).upd0 u2
    have RB2 := (RB).upd u2 (by simp)
    have U2 := (U).trans (u2.mono (by simp))
    have q0 := (RB2).cell 0 rfl
    have q1 := (RB2).cell 1 rfl
    have q2 := (RB2).cell 2 rfl
    have q3 := (RB2).cell 3 rfl
    have q4 := (RB2).cell 4 rfl
    have q5 := (RB2).cell 5 rfl
    have q6 := (RB2).cell 6 rfl
    have q7 := (RB2).cell 7 rfl
    have g0 := (RB2).free 0
    have g1 := (RB2).free 1
    have g2 := (RB2).free 2
    have g3 := (RB2).free 3
    have g4 := (RB2).free 4
    have g5 := (RB2).free 5
    have g6 := (RB2).free 6
    have g7 := (RB2).free 7
    go_wp2_with fail
    exact bodyPost_ret (turn_results 4 rfl _ _ _ going rfl (turn_set RB2 rfl going)) rfl (hK _ _ (rfin (Nat.le_refl _) HL2 U2 (fun g hg => .inl hg) hnr _ _ _ _ _ _ _ _))
end
end Go.Proofs.Ythfeljongackcaa
set_option linter.unusedSimpArgs false
set_option linter.unusedVariables false
set_option maxRecDepth 100000
namespace Go.Proofs.Ythfeljongackcaa
open Go.RowKit
open Go.Maps
-- behind a call to going: the turn is stored
-- the end: the turn T is stored
-- a store into the attempt's block, kept up in RB, U
section
variable {w : World} {Y : RX} {sh : Sh} {acc : Int} {b : Nat} {s : AS} {F : List Nat} {rv wv : Value}
set_option maxHeartbeats 1000000 in
theorem rwait_code (hL : RLive w Y sh acc b s F rv wv) (hp : s.phase = 4) (ha : s.at_ = 0) (hlen : s.reads.length ≤ 1024) :
    Calls Try.prog 125 #[.pointer (some ⟨b, 0, none⟩), .pointer (some ⟨Y.wb, 0, none⟩)] w (RStep w Y b F (waitS s sh).1 (waitS s sh).2 sh) := by
  obtain ⟨sn, rd, wr, ph, th, ad, wo, fo, at_⟩ := s
  obtain ⟨row, clock⟩ := sh
  simp only at hp ha hlen
  subst hp ha
  have hck := hL.sh.wide.clock
  simp only at hck
  have hmod : clock.tmod 2 = clock % 2 := Int.tmod_eq_emod_of_nonneg hck.1
  obtain ⟨p1, c1, rfl⟩ := hL.att.rd.form
  simp only at hL ⊢
  have la := hL.lt
  have lx := hL.sh.lt
  have hnr : w.heap.size ∉ b :: (F ++ Y.foot) := by
    simp only [List.mem_cons, List.mem_append, not_or]
    exact ⟨by omega, fun h => Nat.lt_irrefl _ (hL.sep _ h).1, fun h => Nat.lt_irrefl _ (lx _ h)⟩
  have hwb : b ≠ Y.wb := fun e => hL.out (by simp [RX.foot, e])
  have lb0 : b ≠ w.heap.size := by omega
  have lw0 : Y.wb ≠ w.heap.size := by have := lx Y.wb (by simp [RX.foot]); omega
  by_cases hc : clock % 2 = 1
  · have hl : waitS ⟨sn, rd, wr, 4, th, ad, wo, fo, 0⟩ ⟨row, clock⟩ = (going, ⟨sn, rd, wr, 4, th, ad, wo, fo, 0⟩) := by unfold waitS; rw [if_pos hc]
    rw [hl]
    clear hl
    have hm1 : clock.tmod 2 = 1 := by rw [hmod, hc]
    clear hmod hc
    refine calls_all fun K hK => ?_
    go_enter Try.func125, Try.ntmps125
    go_upto_region 1 with (fail)
    obtain ⟨W, hW⟩ : ∃ W, W = w.alloc (.cells turn0.toArray 36) := ⟨_, rfl⟩
    have RB : Blk W w.heap.size turn0 36 := by rw [hW]; exact Blk.new w _ _
    have HU : Upd [] w W := by rw [hW]; exact (Upd.refl _ _).alloc _
    simp only [turn0, trnNone, evNone, Trn.cells] at hW
    rw [← hW]
    clear hW
    have HL0 := hL.upd0 HU
    have a1 : W.cell? ⟨Y.wb, 1, none⟩ = some (.int .u64 clock) := HL0.sh.wld.cell 1 rfl
    have b3 : W.cell? ⟨b, 3, none⟩ = some (.int .i64 4) := HL0.att.head.cell 3 rfl
    have U : Upd (b :: (F ++ Y.foot)) w W := HU.mono (by simp)
    go_wp2_with fail
    clear a1 b3
    refine (rgoing_code _).mono ?_
    rintro e w2 ⟨rfl, u2⟩
    simp only [Trn.val, going, evNone]
    have HL2 := (HL0).upd0 u2
    have RB2 := (RB).upd u2 (by simp)
    have U2 := (U).trans (u2.mono (by simp))
    have q0 := (RB2).cell 0 rfl
    have q1 := (RB2).cell 1 rfl
    have q2 := (RB2).cell 2 rfl
    have q3 := (RB2).cell 3 rfl
    have q4 := (RB2).cell 4 rfl
    have q5 := (RB2).cell 5 rfl
    have q6 := (RB2).cell 6 rfl
    have q7 := (RB2).cell 7 rfl
    have g0 := (RB2).free 0
    have g1 := (RB2).free 1
    have g2 := (RB2).free 2
    have g3 := (RB2).free 3
    have g4 := (RB2).free 4
    have g5 := (RB2).free 5
    have g6 := (RB2).free 6
    have g7 := (RB2).free 7
    go_wp2_with fail
    exact bodyPost_ret (turn_results 4 rfl _ _ _ going rfl (turn_set RB2 rfl going)) rfl (hK _ _ (rfin (Nat.le_refl _) HL2 U2 (fun g hg => .inl hg) hnr _ _ _ _ _ _ _ _))
  · have hm0 : clock.tmod 2 = 0 := by rw [hmod]; omega
    have hc' := hc
    clear hmod
    by_cases hr : rd = []
    · subst hr
      have hl : waitS ⟨sn, [], wr, 4, th, ad, wo, fo, 0⟩ ⟨row, clock⟩ = (going, ⟨sn, [], wr, 6, th, ad, wo, clock, 0⟩) := by unfold waitS; rw [if_neg hc]; rfl
      rw [hl]
      clear hl hc hc'
      refine calls_all fun K hK => ?_
      go_enter Try.func125, Try.ntmps125
      go_upto_region 1 with (fail)
      obtain ⟨W, hW⟩ : ∃ W, W = w.alloc (.cells turn0.toArray 36) := ⟨_, rfl⟩
      have RB : Blk W w.heap.size turn0 36 := by rw [hW]; exact Blk.new w _ _
      have HU : Upd [] w W := by rw [hW]; exact (Upd.refl _ _).alloc _
      simp only [turn0, trnNone, evNone, Trn.cells] at hW
      rw [← hW]
      clear hW
      have HL0 := hL.upd0 HU
      have a1 : W.cell? ⟨Y.wb, 1, none⟩ = some (.int .u64 clock) := HL0.sh.wld.cell 1 rfl
      have hB := HL0.att.head
      have b0 := (hB).cell 0 rfl
      have b1 := (hB).cell 1 rfl
      have b2 := (hB).cell 2 rfl
      have b3 := (hB).cell 3 rfl
      have b4 := (hB).cell 4 rfl
      have b5 := (hB).cell 5 rfl
      have b6 := (hB).cell 6 rfl
      have b7 := (hB).cell 7 rfl
      have b8 := (hB).cell 8 rfl
      have f0 := (hB).free 0
      have f1 := (hB).free 1
      have f2 := (hB).free 2
      have f3 := (hB).free 3
      have f4 := (hB).free 4
      have f5 := (hB).free 5
      have f6 := (hB).free 6
      have f7 := (hB).free 7
      have f8 := (hB).free 8
      dsimp only at b0 b1 b2 b3 b4 b5 b6 b7 b8
      clear hB
      have U : Upd (b :: (F ++ Y.foot)) w W := HU.mono (by simp)
      have HL := (((HL0.setFound clock hck).setAt 0).setPhase 5).setPhase 6
      replace RB := RB.other ⟨b, 7, none⟩ (.int .u64 clock) (Ne.symm lb0)
      replace U := U.setCell (p := ⟨b, 7, none⟩) (.inl (by simp)) (.int .u64 clock)
      replace RB := RB.other ⟨b, 8, none⟩ (.int .i64 0) (Ne.symm lb0)
      replace U := U.setCell (p := ⟨b, 8, none⟩) (.inl (by simp)) (.int .i64 0)
      replace RB := RB.other ⟨b, 3, none⟩ (.int .i64 5) (Ne.symm lb0)
      replace U := U.setCell (p := ⟨b, 3, none⟩) (.inl (by simp)) (.int .i64 5)
      replace RB := RB.other ⟨b, 3, none⟩ (.int .i64 6) (Ne.symm lb0)
      replace U := U.setCell (p := ⟨b, 3, none⟩) (.inl (by simp)) (.int .i64 6)
      go_wp2_with fail
      clear a1
      clear b0 b1 b2 b3 b4 b5 b6 b7 b8 f0 f1 f2 f3 f4 f5 f6 f7 f8
      refine (rgoing_code _).mono ?_
      rintro e w2 ⟨rfl, u2⟩
      simp only [Trn.val, going, evNone]
      have HL2 := (HL).upd0 u2
      have RB2 := (RB).upd u2 (by simp)
      have U2 := (U).trans (u2.mono (by simp))
      have q0 := (RB2).cell 0 rfl
      have q1 := (RB2).cell 1 rfl
      have q2 := (RB2).cell 2 rfl
      have q3 := (RB2).cell 3 rfl
      have q4 := (RB2).cell 4 rfl
      have q5 := (RB2).cell 5 rfl
      have q6 := (RB2).cell 6 rfl
      have q7 := (RB2).cell 7 rfl
      have g0 := (RB2).free 0
      have g1 := (RB2).free 1
      have g2 := (RB2).free 2
      have g3 := (RB2).free 3
      have g4 := (RB2).free 4
      have g5 := (RB2).free 5
      have g6 := (RB2).free 6
      have g7 := (RB2).free 7
      go_wp2_with fail
      exact bodyPost_ret (turn_results 4 rfl _ _ _ going rfl (turn_set RB2 rfl going)) rfl (hK _ _ (rfin (Nat.le_refl _) HL2 U2 (fun g hg => .inl hg) hnr _ _ _ _ _ _ _ _))
    · have hl : waitS ⟨sn, rd, wr, 4, th, ad, wo, fo, 0⟩ ⟨row, clock⟩ = (going, ⟨sn, rd, wr, 5, th, ad, wo, clock, 0⟩) := by unfold waitS; rw [if_neg hc]; simp [hr]
      rw [hl]
      have hpos : 0 < rd.length := List.length_pos_iff.2 hr
      have hlb : ((rd.length : Int) == 0) = false := by rw [beq_eq_false_iff_ne]; omega
      clear hl hc hc' hr
      refine calls_all fun K hK => ?_
      go_enter Try.func125, Try.ntmps125
      go_upto_region 1 with (fail)
      obtain ⟨W, hW⟩ : ∃ W, W = w.alloc (.cells turn0.toArray 36) := ⟨_, rfl⟩
      have RB : Blk W w.heap.size turn0 36 := by rw [hW]; exact Blk.new w _ _
      have HU : Upd [] w W := by rw [hW]; exact (Upd.refl _ _).alloc _
      simp only [turn0, trnNone, evNone, Trn.cells] at hW
      rw [← hW]
      clear hW
      have HL0 := hL.upd0 HU
      have a1 : W.cell? ⟨Y.wb, 1, none⟩ = some (.int .u64 clock) := HL0.sh.wld.cell 1 rfl
      have hB := HL0.att.head
      have b0 := (hB).cell 0 rfl
      have b1 := (hB).cell 1 rfl
      have b2 := (hB).cell 2 rfl
      have b3 := (hB).cell 3 rfl
      have b4 := (hB).cell 4 rfl
      have b5 := (hB).cell 5 rfl
      have b6 := (hB).cell 6 rfl
      have b7 := (hB).cell 7 rfl
      have b8 := (hB).cell 8 rfl
      have f0 := (hB).free 0
      have f1 := (hB).free 1
      have f2 := (hB).free 2
      have f3 := (hB).free 3
      have f4 := (hB).free 4
      have f5 := (hB).free 5
      have f6 := (hB).free 6
      have f7 := (hB).free 7
      have f8 := (hB).free 8
      dsimp only at b0 b1 b2 b3 b4 b5 b6 b7 b8
      clear hB
      have U : Upd (b :: (F ++ Y.foot)) w W := HU.mono (by simp)
      have HL := ((HL0.setFound clock hck).setAt 0).setPhase 5
      replace RB := RB.other ⟨b, 7, none⟩ (.int .u64 clock) (Ne.symm lb0)
      replace U := U.setCell (p := ⟨b, 7, none⟩) (.inl (by simp)) (.int .u64 clock)
      replace RB := RB.other ⟨b, 8, none⟩ (.int .i64 0) (Ne.symm lb0)
      replace U := U.setCell (p := ⟨b, 8, none⟩) (.inl (by simp)) (.int .i64 0)
      replace RB := RB.other ⟨b, 3, none⟩ (.int .i64 5) (Ne.symm lb0)
      replace U := U.setCell (p := ⟨b, 3, none⟩) (.inl (by simp)) (.int .i64 5)
      go_wp2_with fail
      clear a1
      clear b0 b1 b2 b3 b4 b5 b6 b7 b8 f0 f1 f2 f3 f4 f5 f6 f7 f8
      refine (rgoing_code _).mono ?_
      rintro e w2 ⟨rfl, u2⟩
      simp only [Trn.val, going, evNone]
      have HL2 := (HL).upd0 u2
      have RB2 := (RB).upd u2 (by simp)
      have U2 := (U).trans (u2.mono (by simp))
      have q0 := (RB2).cell 0 rfl
      have q1 := (RB2).cell 1 rfl
      have q2 := (RB2).cell 2 rfl
      have q3 := (RB2).cell 3 rfl
      have q4 := (RB2).cell 4 rfl
      have q5 := (RB2).cell 5 rfl
      have q6 := (RB2).cell 6 rfl
      have q7 := (RB2).cell 7 rfl
      have g0 := (RB2).free 0
      have g1 := (RB2).free 1
      have g2 := (RB2).free 2
      have g3 := (RB2).free 3
      have g4 := (RB2).free 4
      have g5 := (RB2).free 5
      have g6 := (RB2).free 6
      have g7 := (RB2).free 7
      go_wp2_with fail
      exact bodyPost_ret (turn_results 4 rfl _ _ _ going rfl (turn_set RB2 rfl going)) rfl (hK _ _ (rfin (Nat.le_refl _) HL2 U2 (fun g hg => .inl hg) hnr _ _ _ _ _ _ _ _))
set_option maxHeartbeats 1000000 in
theorem rclose_code (hL : RLive w Y sh acc b s F rv wv) (hp : s.phase = 6) :
    Calls Try.prog 125 #[.pointer (some ⟨b, 0, none⟩), .pointer (some ⟨Y.wb, 0, none⟩)] w (RStep w Y b F (closeS s sh).1 (closeS s sh).2 sh) := by
  obtain ⟨sn, rd, wr, ph, th, ad, wo, fo, at_⟩ := s
  obtain ⟨row, clock⟩ := sh
  simp only at hp
  subst hp
  have hfo := hL.wide.found
  simp only at hfo
  have la := hL.lt
  have lx := hL.sh.lt
  have hnr : w.heap.size ∉ b :: (F ++ Y.foot) := by
    simp only [List.mem_cons, List.mem_append, not_or]
    exact ⟨by omega, fun h => Nat.lt_irrefl _ (hL.sep _ h).1, fun h => Nat.lt_irrefl _ (lx _ h)⟩
  have hwb : b ≠ Y.wb := fun e => hL.out (by simp [RX.foot, e])
  have lb0 : b ≠ w.heap.size := by omega
  have lw0 : Y.wb ≠ w.heap.size := by have := lx Y.wb (by simp [RX.foot]); omega
  by_cases hc : clock = fo
  · subst hc
    have hl : closeS ⟨sn, rd, wr, 6, th, ad, wo, clock, at_⟩ ⟨row, clock⟩ = (⟨1, 0, ⟨4, 0, clock, false⟩⟩, ⟨clock, rd, wr, th, 0, ad, wo, 0, at_⟩) := by unfold closeS; rw [if_pos rfl]
    rw [hl]
    have hcc : (clock != clock) = false := by simp
    clear hl
    refine calls_all fun K hK => ?_
    go_enter Try.func125, Try.ntmps125
    go_upto_region 1 with (fail)
    obtain ⟨W, hW⟩ : ∃ W, W = w.alloc (.cells turn0.toArray 36) := ⟨_, rfl⟩
    have RB : Blk W w.heap.size turn0 36 := by rw [hW]; exact Blk.new w _ _
    have HU : Upd [] w W := by rw [hW]; exact (Upd.refl _ _).alloc _
    simp only [turn0, trnNone, evNone, Trn.cells] at hW
    rw [← hW]
    clear hW
    have hL1 := hL.upd0 HU
    have b3 : W.cell? ⟨b, 3, none⟩ = some (.int .i64 6) := hL1.att.head.cell 3 rfl
    go_wp2_with fail
    clear b3
    have HL0 := hL1.upd0 (Upd.refl [] _).drew
    have a1 := HL0.sh.wld.cell 1 rfl
    have b7 := HL0.att.head.cell 7 rfl
    refine wp_region_eff (fun w' => w'.cell? ⟨Y.wb, 1, none⟩ = some (.int .u64 clock) ∧ w'.cell? ⟨b, 7, none⟩ = some (.int .u64 clock)) 10 (by kernel_rfl) (by kernel_rfl) ⟨a1, b7⟩ ?_
    repeat
      refine wpE_take (v := ?_) (by decide) rfl (by rfl) ?_ ?_
      rotate_left 1
      · ((intro w hSw; (try dsimp only at hSw); go_simp); try with_reducible rfl)
      try simp only [Act.put, List.setIfInBounds_toArray, List.set_cons_zero, List.set_cons_succ]
    refine wpE_end (NoPanic.normal ?_)
    clear a1 b7 hL1
    replace RB := RB.drew
    have U : Upd (b :: (F ++ Y.foot)) w W.drew := HU.drew.mono (by simp)
    generalize W.drew = W1 at RB U HL0 ⊢
    go_wp2_with fail
    have hL2 := HL0.upd0 (Upd.refl [] _).drew
    replace RB := RB.drew
    replace U := U.drew
    have b7 := hL2.att.head.cell 7 rfl
    have b4 := hL2.att.head.cell 4 rfl
    refine wp_region_eff (fun w' => w'.cell? ⟨b, 7, none⟩ = some (.int .u64 clock) ∧ w'.cell? ⟨b, 4, none⟩ = some (.int .i64 th)) 16 (by kernel_rfl) (by kernel_rfl) ⟨b7, b4⟩ ?_
    clear HL0
    generalize W1.drew = Wd at hL2 RB U b7 b4 ⊢
    repeat
      refine wpE_take (v := ?_) (by decide) rfl (by rfl) ?_ ?_
      rotate_left 1
      · ((intro w hSw; (try dsimp only at hSw); go_simp); try with_reducible rfl)
      try simp only [Act.put, List.setIfInBounds_toArray, List.set_cons_zero, List.set_cons_succ]
    have b0 := hL2.att.head.cell 0 rfl
    have f0 := hL2.att.head.free 0
    refine wpE_eff (by decide) rfl (by kernel_rfl) (by rfl) (fun K2 hK2 => ?_)
    go_simp
    have hL3 := hL2.setSnap clock hfo
    refine hK2.out _ _ ⟨hL3.att.head.cell 7 rfl, hL3.att.head.cell 4 rfl⟩ ?_
    clear hK2 K2
    have b3 := hL2.att.head.cell 3 rfl
    have f3 := hL2.att.head.free 3
    refine wpE_tail ?_
    go_wp2_with fail
    refine NoPanic.normal ?_
    have hL4 := hL3.setPhase th
    replace RB := RB.other ⟨b, 0, none⟩ (.int .u64 clock) (Ne.symm lb0)
    replace U := U.setCell (p := ⟨b, 0, none⟩) (.inl (by simp)) (.int .u64 clock)
    replace RB := RB.other ⟨b, 3, none⟩ (.int .i64 th) (Ne.symm lb0)
    replace U := U.setCell (p := ⟨b, 3, none⟩) (.inl (by simp)) (.int .i64 th)
    clear b0 f0 b3 f3 b7 b4 hL2 hL3
    generalize (Wd.setCell ⟨b, 0, none⟩ (.int .u64 clock)).setCell ⟨b, 3, none⟩ (.int .i64 th) = W2 at RB U hL4 ⊢
    have HL := (hL4.setThen 0).setFound 0 (by omega)
    have HL0 := hL4
    have hB := HL0.att.head
    have b0 := (hB).cell 0 rfl
    have b1 := (hB).cell 1 rfl
    have b2 := (hB).cell 2 rfl
    have b3 := (hB).cell 3 rfl
    have b4 := (hB).cell 4 rfl
    have b5 := (hB).cell 5 rfl
    have b6 := (hB).cell 6 rfl
    have b7 := (hB).cell 7 rfl
    have b8 := (hB).cell 8 rfl
    have f0 := (hB).free 0
    have f1 := (hB).free 1
    have f2 := (hB).free 2
    have f3 := (hB).free 3
    have f4 := (hB).free 4
    have f5 := (hB).free 5
    have f6 := (hB).free 6
    have f7 := (hB).free 7
    have f8 := (hB).free 8
    dsimp only at b0 b1 b2 b3 b4 b5 b6 b7 b8
    clear hB
    replace RB := RB.other ⟨b, 4, none⟩ (.int .i64 0) (Ne.symm lb0)
    replace U := U.setCell (p := ⟨b, 4, none⟩) (.inl (by simp)) (.int .i64 0)
    replace RB := RB.other ⟨b, 7, none⟩ (.int .u64 0) (Ne.symm lb0)
    replace U := U.setCell (p := ⟨b, 7, none⟩) (.inl (by simp)) (.int .u64 0)
    clear HL0 hL4
    have q0 := (RB).cell 0 rfl
    have q1 := (RB).cell 1 rfl
    have q2 := (RB).cell 2 rfl
    have q3 := (RB).cell 3 rfl
    have q4 := (RB).cell 4 rfl
    have q5 := (RB).cell 5 rfl
    have q6 := (RB).cell 6 rfl
    have q7 := (RB).cell 7 rfl
    have g0 := (RB).free 0
    have g1 := (RB).free 1
    have g2 := (RB).free 2
    have g3 := (RB).free 3
    have g4 := (RB).free 4
    have g5 := (RB).free 5
    have g6 := (RB).free 6
    have g7 := (RB).free 7
    go_wp2_with fail
    exact bodyPost_ret (turn_results 4 rfl _ _ _ (⟨1, 0, ⟨4, 0, clock, false⟩⟩ : Trn) rfl (turn_set RB rfl (⟨1, 0, ⟨4, 0, clock, false⟩⟩ : Trn))) rfl (hK _ _ (rfin (Nat.le_refl _) HL U (fun g hg => .inl hg) hnr _ _ _ _ _ _ _ _))
  · have hl : closeS ⟨sn, rd, wr, 6, th, ad, wo, fo, at_⟩ ⟨row, clock⟩ = (going, ⟨sn, rd, wr, 4, th, ad, wo, 0, at_⟩) := by unfold closeS; rw [if_neg hc]
    rw [hl]
    have hcc : (clock != fo) = true := by simpa using hc
    clear hl hc
    refine calls_all fun K hK => ?_
    go_enter Try.func125, Try.ntmps125
    go_upto_region 1 with (fail)
    obtain ⟨W, hW⟩ : ∃ W, W = w.alloc (.cells turn0.toArray 36) := ⟨_, rfl⟩
    have RB : Blk W w.heap.size turn0 36 := by rw [hW]; exact Blk.new w _ _
    have HU : Upd [] w W := by rw [hW]; exact (Upd.refl _ _).alloc _
    simp only [turn0, trnNone, evNone, Trn.cells] at hW
    rw [← hW]
    clear hW
    have hL1 := hL.upd0 HU
    have b3 : W.cell? ⟨b, 3, none⟩ = some (.int .i64 6) := hL1.att.head.cell 3 rfl
    go_wp2_with fail
    clear b3
    have HL0 := hL1.upd0 (Upd.refl [] _).drew
    have a1 := HL0.sh.wld.cell 1 rfl
    have b7 := HL0.att.head.cell 7 rfl
    refine wp_region_eff (fun w' => w'.cell? ⟨Y.wb, 1, none⟩ = some (.int .u64 clock) ∧ w'.cell? ⟨b, 7, none⟩ = some (.int .u64 fo)) 10 (by kernel_rfl) (by kernel_rfl) ⟨a1, b7⟩ ?_
    repeat
      refine wpE_take (v := ?_) (by decide) rfl (by rfl) ?_ ?_
      rotate_left 1
      · ((intro w hSw; (try dsimp only at hSw); go_simp); try with_reducible rfl)
      try simp only [Act.put, List.setIfInBounds_toArray, List.set_cons_zero, List.set_cons_succ]
    refine wpE_end (NoPanic.normal ?_)
    clear a1 b7 hL1
    replace RB := RB.drew
    have U : Upd (b :: (F ++ Y.foot)) w W.drew := HU.drew.mono (by simp)
    have HL := (HL0.setPhase 4).setFound 0 (by omega)
    have hB := HL0.att.head
    have b0 := (hB).cell 0 rfl
    have b1 := (hB).cell 1 rfl
    have b2 := (hB).cell 2 rfl
    have b3 := (hB).cell 3 rfl
    have b4 := (hB).cell 4 rfl
    have b5 := (hB).cell 5 rfl
    have b6 := (hB).cell 6 rfl
    have b7 := (hB).cell 7 rfl
    have b8 := (hB).cell 8 rfl
    have f0 := (hB).free 0
    have f1 := (hB).free 1
    have f2 := (hB).free 2
    have f3 := (hB).free 3
    have f4 := (hB).free 4
    have f5 := (hB).free 5
    have f6 := (hB).free 6
    have f7 := (hB).free 7
    have f8 := (hB).free 8
    dsimp only at b0 b1 b2 b3 b4 b5 b6 b7 b8
    clear hB
    replace RB := RB.other ⟨b, 3, none⟩ (.int .i64 4) (Ne.symm lb0)
    replace U := U.setCell (p := ⟨b, 3, none⟩) (.inl (by simp)) (.int .i64 4)
    replace RB := RB.other ⟨b, 7, none⟩ (.int .u64 0) (Ne.symm lb0)
    replace U := U.setCell (p := ⟨b, 7, none⟩) (.inl (by simp)) (.int .u64 0)
    generalize W.drew = W1 at RB U HL b0 b1 b2 b3 b4 b5 b6 b7 b8 f0 f1 f2 f3 f4 f5 f6 f7 f8 ⊢
    go_wp2_with fail
    clear b0 b1 b2 b3 b4 b5 b6 b7 b8 f0 f1 f2 f3 f4 f5 f6 f7 f8
    refine (rgoing_code _).mono ?_
    rintro e w2 ⟨rfl, u2⟩
    simp only [Trn.val, going, evNone]
    have HL2 := (HL).upd0 u2
    have RB2 := (RB).upd u2 (by simp)
    have U2 := (U).trans (u2.mono (by simp))
    have q0 := (RB2).cell 0 rfl
    have q1 := (RB2).cell 1 rfl
    have q2 := (RB2).cell 2 rfl
    have q3 := (RB2).cell 3 rfl
    have q4 := (RB2).cell 4 rfl
    have q5 := (RB2).cell 5 rfl
    have q6 := (RB2).cell 6 rfl
    have q7 := (RB2).cell 7 rfl
    have g0 := (RB2).free 0
    have g1 := (RB2).free 1
    have g2 := (RB2).free 2
    have g3 := (RB2).free 3
    have g4 := (RB2).free 4
    have g5 := (RB2).free 5
    have g6 := (RB2).free 6
    have g7 := (RB2).free 7
    go_wp2_with fail
    exact bodyPost_ret (turn_results 4 rfl _ _ _ going rfl (turn_set RB2 rfl going)) rfl (hK _ _ (rfin (Nat.le_refl _) HL2 U2 (fun g hg => .inl hg) hnr _ _ _ _ _ _ _ _))
end
end Go.Proofs.Ythfeljongackcaa
