/- Line: an event's line: what is one's own; one word; none. The conditions: the library's table is laid; the event's words are words. -/
import Derived.Test.YtfldpejifpmapaaDoorELine2
set_option linter.unusedSimpArgs false
set_option linter.unusedVariables false
set_option maxRecDepth 100000
namespace Go.Proofs.YtfldpejifpmapaaDoor
open Go.RowKit
open Go.Maps
-- behind the alloc: the string's block: W6; L the line so far
-- a put: from W$A to W$B: L the line, X its word
-- the head of Line: behind region 3; W3 the world
set_option maxHeartbeats 4000000 in
theorem line_fail (w : World) (t k a d : Nat) (er : Int) (own : Bool) (ho : own = false) (he : Ev.wide ⟨t, k, a, d, false, er⟩) (hf : formE ⟨t, k, a, d, false, er⟩ = true) (ht : t < 8) (ha : a < 18446744073709551616) (hd : d < 18446744073709551616) (hk : k = 9) (hT : Tab w) :
    Calls Tryd.prog 13 #[.agg #[.int .i64 (t : Int), .int .i64 (k : Int), .int .u64 (a : Int), .int .u64 (d : Int), .bool own, .int .i64 er]] w fun r w' => r = .returned (.tuple #[.string ⟨(lineE ⟨t, k, a, d, own, er⟩).toArray⟩, .int .i64 0]) ∧ Upd [] w w' := by
  subst ho
  have HK := Lib.hid hk
  have hk9 : k < 13 := by omega
  clear hk
  have hi2 : ∀ W, (Instr.index 74 (.agg namesA) (.int .i64 (k : Int))).run Tryd.prog W = .ok (strV (nameBsE.getD k [])) W := fun W => names_at k (by omega) W
  obtain ⟨nm, hnm⟩ : ∃ nm, nameBsE.getD k [] = nm := ⟨_, rfl⟩
  have hnl := names_len k
  rw [hnm] at hi2 hnl
  have HNM := Lib.hid hnm
  unfold strV at hi2
  have hit := fun W => Tryd.strconv_Itoa_small t (by omega) W
  have hdt : (Lib.decDigits t).length = 1 := by rw [Lib.decDigits_one (by omega)]; rfl
  have HIT := Lib.hid hit
  have hfc : ∀ W, Calls Tryd.prog 38 #[.agg #[.int .i64 (t : Int), .int .i64 (k : Int), .int .u64 (a : Int), .int .u64 (d : Int), .bool false, .int .i64 er]] W fun r w' => r = .returned (.bool true) ∧ Upd [] W w' := fun W => by have h := formed_code ⟨t, k, a, d, false, er⟩ he W; rw [hf] at h; exact h
  have HFC := Lib.hid hfc
  have HTB := Lib.hid hT
  clear hnm hit hfc hT he
  refine calls_all fun K hK => ?_
  go_enter Tryd.func13, Tryd.ntmps13
  go_wp2_with fail
  refine (HFC.out _).mono ?_
  rintro e W2 ⟨rfl, u2⟩
  have HB2 := Lib.hid (Blk.upd (Blk.new w [.int .i64 (t : Int), .int .i64 (k : Int), .int .u64 (a : Int), .int .u64 (d : Int), .bool false, .int .i64 er] 27) u2 (by simp))
  have HU2 := Lib.hid (((Upd.refl [] w).alloc (.cells #[.int .i64 (t : Int), .int .i64 (k : Int), .int .u64 (a : Int), .int .u64 (d : Int), .bool false, .int .i64 er] 27)).trans u2)
  obtain ⟨eb, heb⟩ : ∃ b, w.heap.size = b := ⟨_, rfl⟩
  rw [heb] at HB2 ⊢
  clear u2
  go_wp2_with fail
  have ud : Upd [] W2 W2.drew := (Upd.refl [] _).drew
  have HB3 := Lib.hid (HB2.out.upd ud (by simp))
  have HU3 := Lib.hid (HU2.out.trans ud)
  obtain ⟨W3, hW3⟩ : ∃ W, W2.drew = W := ⟨_, rfl⟩
  have m1' := HB3.out.cell 1 rfl
  refine wp_region_br (fun w' => w'.cell? ⟨eb, 1, none⟩ = some (.int .i64 (k : Int))) [1, 2, 0, 3, 4] (by kernel_rfl) (by kernel_rfl) m1' ?_
  rw [hW3] at HB3 HU3 m1' ⊢
  clear ud hW3 HB2 HU2
  repeat
    first
      | (refine wpB_skip rfl (by kernel_rfl) (by rfl) ?_)
      | ((refine wpB_take (v := ?_) rfl rfl (by kernel_rfl) (by rfl) ?_ ?_); rotate_left 1; (· ((intro w hSw; (try dsimp only at hSw); go_simp); try with_reducible rfl)))
    try simp only [Act.put, List.setIfInBounds_toArray, List.set_cons_zero, List.set_cons_succ]
  refine wpB_eff rfl (by kernel_rfl) (by rfl) (fun K2 hK2 => ?_)
  go_simp
  refine (names_code W3).mono ?_
  rintro e W4 ⟨rfl, u4⟩
  have HB4 := Lib.hid (HB3.out.upd u4 (by simp))
  have HU4 := Lib.hid (HU3.out.trans u4)
  refine hK2.out _ _ (HB4.out.cell 1 rfl) ?_
  clear hK2 K2 u4 m1' HB3 HU3
  have hk0 : 0 ≤ (k : Int) := by omega
  have hk13 : (k : Int) < 13 := by omega
  repeat
    first
      | (refine wpB_skip rfl (by kernel_rfl) (by rfl) ?_)
      | ((refine wpB_take (v := ?_) rfl rfl (by kernel_rfl) (by rfl) ?_ ?_); rotate_left 1; (· ((intro w hSw; (try dsimp only at hSw); go_simp); try with_reducible rfl)))
    try simp only [Act.put, List.setIfInBounds_toArray, List.set_cons_zero, List.set_cons_succ]
  refine wpB_end (by kernel_rfl) (NoPanic.normal ?_)
  have m0 := HB4.out.cell 0 rfl
  have m1 := HB4.out.cell 1 rfl
  have m2 := HB4.out.cell 2 rfl
  have m3 := HB4.out.cell 3 rfl
  have m4 := HB4.out.cell 4 rfl
  have m5 := HB4.out.cell 5 rfl
  have hb1 : ¬ 9223372036854775807 < (Lib.decDigits t).length + 1 := by omega
  have hb2 : ¬ 9223372036854775807 < (Lib.decDigits t).length + 1 + nm.length := by omega
  have hk := HK.out
  have e2 : ((k : Int) == 2) = false := by simp; omega
  have e3 : ((k : Int) == 3) = false := by simp; omega
  have e10 : ((k : Int) == 10) = false := by simp; omega
  have e11 : ((k : Int) == 11) = false := by simp; omega
  have e1 : ((k : Int) == 1) = false := by simp; omega
  have e4 : ((k : Int) == 4) = false := by simp; omega
  have e6 : ((k : Int) == 6) = false := by simp; omega
  have e9 : ((k : Int) == 9) = true := by simp; omega
  obtain ⟨u, hu, hu6⟩ : ∃ u : Nat, er = u ∧ u < 7 := by
    have h := (formE_c hf).2.2.2.2.2.2
    dsimp only at h
    rw [if_pos (by omega)] at h
    exact ⟨er.toNat, by omega, by omega⟩
  subst hu
  clear hk
  go_wp2_with fail
  refine (HIT.out _).mono ?_
  rintro e W5 ⟨rfl, rfl⟩
  have helt := HB4.out.lt
  obtain ⟨sb, hsb⟩ : ∃ b, W5.heap.size = b := ⟨_, rfl⟩
  have helt2 : eb < sb := by omega
  go_wp2_with fail
  have hse := str3 (Lib.decDigits t) nm
  have HB6 := Lib.hid (HB4.out.alloc (.cells #[.string (⟨(Lib.decDigits t).toArray⟩ ++ ⟨#[32]⟩ ++ ⟨nm.toArray⟩)] 9))
  have HS6 := Lib.hid (Blk.new W5 [.string (⟨(Lib.decDigits t).toArray⟩ ++ ⟨#[32]⟩ ++ ⟨nm.toArray⟩)] 9)
  have HU6 := Lib.hid (HU4.out.alloc (.cells #[.string (⟨(Lib.decDigits t).toArray⟩ ++ ⟨#[32]⟩ ++ ⟨nm.toArray⟩)] 9))
  have HEL := Lib.hid (show eb ≠ sb by omega)
  have HSW := Lib.hid (show w.heap.size ≤ sb by omega)
  generalize W5.alloc (.cells #[.string (⟨(Lib.decDigits t).toArray⟩ ++ ⟨#[32]⟩ ++ ⟨nm.toArray⟩)] 9) = W6 at HB6 HS6 HU6 ⊢
  rw [hse, hsb] at HS6
  clear hse hsb helt helt2 m0 m1 m2 m3 m4 m5 hi2 hb1 hb2
  refine (put_code sb (Lib.decDigits t ++ 32 :: nm) u W6 HS6.out (by simp only [List.length_append, List.length_cons, List.length_nil]; omega) (by omega) (HTB.out.upd HU6.out)).mono ?_
  rintro e W7 ⟨rfl, hs7, u7⟩
  have HS7 := Lib.hid hs7
  have HB7 := Lib.hid (HB6.out.upd u7 (by simp; exact HEL.out))
  have HU7 := Lib.hid (HU6.out.tr (U := []) u7 (fun g hg => by simp at hg) (fun g hg => by simp at hg; subst hg; exact .inr HSW.out))
  clear hs7 u7
  have hX : lineE ⟨t, k, a, d, false, u⟩ = (Lib.decDigits t ++ 32 :: nm) ++ 32 :: Lib.decDigits u := by
    have hk := HK.out
    have hp : pairK (k : Int) = false := by unfold pairK; simp; omega
    have hq : singK (k : Int) = false := by unfold singK; simp; omega
    unfold lineE nameE tailE
    dsimp only
    rw [if_neg (show ¬ pairK (k : Int) = true by rw [hp]; simp), if_neg (show ¬ singK (k : Int) = true by rw [hq]; simp), if_pos (show (k : Int) = 9 by omega), if_neg (by simp)]
    simp only [Int.toNat_natCast]
    rw [HNM.out]
  obtain ⟨LL, hLL⟩ : ∃ LL, (Lib.decDigits t ++ 32 :: nm) ++ 32 :: Lib.decDigits u = LL := ⟨_, rfl⟩
  rw [hLL] at HS7 hX
  have c0 := HS7.out.cell 0 rfl
  unfold strV at c0
  have HXX := Lib.hid hX
  clear hX hLL
  go_wp2_with fail
  exact ⟨by rw [HXX.out]; rfl, HU7.out⟩
end Go.Proofs.YtfldpejifpmapaaDoor
