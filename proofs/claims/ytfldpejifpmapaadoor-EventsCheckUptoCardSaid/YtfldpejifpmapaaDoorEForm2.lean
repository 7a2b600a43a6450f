/- formed: of an event with an address and a word; of a Failed; of what is no event. No condition but that its words are words. -/
import Derived.Test.YtfldpejifpmapaaDoorEForm
set_option linter.unusedSimpArgs false
set_option linter.unusedVariables false
set_option maxRecDepth 100000
namespace Go.Proofs.YtfldpejifpmapaaDoor
open Go.RowKit
-- the ends of a walk: the answer against formE
section
variable (th ad wd er : Int) (own : Bool) (w : World) (B : Bool)
set_option maxHeartbeats 8000000 in
theorem formed_pair (k : Int) (hk : k = 2 ∨ k = 3 ∨ k = 10 ∨ k = 11) (h1 : 0 ≤ th) (h2 : th < 8) (hB : formE ⟨th, k, ad, wd, own, er⟩ = B) : Calls Tryd.prog 38 #[.agg #[.int .i64 th, .int .i64 k, .int .u64 ad, .int .u64 wd, .bool own, .int .i64 er]] w fun e w' => e = .returned (.bool B) ∧ Upd [] w w' := by
  have b1 : decide (th < 0) = false := decide_eq_false (by omega)
  have b2 : decide (8 ≤ th) = false := decide_eq_false (by omega)
  have HB := Lib.hid hB
  clear hB
  obtain ⟨o2, ho2⟩ : ∃ o2, (if k = 2 then own else false) = o2 := ⟨_, rfl⟩
  have u2 : Upd [] w ((w.alloc (.cells #[.int .i64 th, .int .i64 k, .int .u64 ad, .int .u64 wd, .bool own, .int .i64 er] 27)).alloc (.cells #[.int .i64 th, .int .i64 k, .int .u64 0, .int .u64 0, .bool o2, .int .i64 0] 27)) := ((Upd.refl [] _).alloc _).alloc _
  have B1 := (Blk.new w [.int .i64 th, .int .i64 k, .int .u64 ad, .int .u64 wd, .bool own, .int .i64 er] 27).alloc (.cells #[.int .i64 th, .int .i64 k, .int .u64 0, .int .u64 0, .bool o2, .int .i64 0] 27)
  have B2 := Blk.new (w.alloc (.cells #[.int .i64 th, .int .i64 k, .int .u64 ad, .int .u64 wd, .bool own, .int .i64 er] 27)) [.int .i64 th, .int .i64 k, .int .u64 0, .int .u64 0, .bool o2, .int .i64 0] 27
  rw [World.size_alloc] at B2
  have HX := Lib.hid (And.intro u2 (And.intro B1 B2))
  clear u2 B1 B2
  rcases hk with rfl | rfl | rfl | rfl
  all_goals
    first
      | (rw [if_pos rfl] at ho2; subst ho2)
      | (rw [if_neg (by decide)] at ho2; subst ho2)
    cases own
    all_goals
      refine calls_all fun K hK => ?_
      go_enter Tryd.func38, Tryd.ntmps38
      go_wp2_with fail
      obtain ⟨U2, B1, B2⟩ := HX.out
      clear HX
      generalize (w.alloc (.cells #[.int .i64 th, _, .int .u64 ad, .int .u64 wd, _, .int .i64 er] 27)).alloc _ = W2 at U2 B1 B2 ⊢
      have HLE := Lib.hid (show w.heap.size ≤ w.heap.size + 1 by omega)
      have HNE := Lib.hid (show w.heap.size + 1 ≠ w.heap.size by omega)
      generalize w.heap.size + 1 = hb at HLE HNE B2 ⊢
      have HLE2 := Lib.hid (Nat.le_refl w.heap.size)
      obtain ⟨eb, heb⟩ : ∃ b, w.heap.size = b := ⟨_, rfl⟩
      rw [heb] at HNE B1 ⊢
      clear heb HLE2
      have HB2 := Lib.hid B2
      have HBW := Lib.hid B1
      have HU2 := Lib.hid U2
      clear B1 B2 U2
      have v2 := HBW.out.cell 2 rfl
      have v3 := HBW.out.cell 3 rfl
      refine wp_region_br (fun w' => w'.cell? ⟨eb, 2, none⟩ = some (.int .u64 ad) ∧ w'.cell? ⟨eb, 3, none⟩ = some (.int .u64 wd)) [0, 1, 2, 3, 4, 5, 6, 7] (by kernel_rfl) (by kernel_rfl) ⟨(Upd.refl [] W2).drew.cell (by simp) v2, (Upd.refl [] W2).drew.cell (by simp) v3⟩ ?_
      have hud : Upd [] W2 W2.drew := (Upd.refl [] _).drew
      have HUD := Lib.hid (HU2.out.trans hud)
      have HB3 := Lib.hid (HB2.out.upd hud (by simp))
      have HBX := Lib.hid (HBW.out.upd hud (by simp))
      generalize W2.drew = W3 at HUD HB3 HBX ⊢
      clear hud v2 v3
      have c2 := HB3.out.cell 2 rfl
      have c3 := HB3.out.cell 3 rfl
      have f2 := HB3.out.free 2
      have f3 := HB3.out.free 3
      repeat
        first
          | (refine wpB_skip rfl (by kernel_rfl) (by rfl) ?_)
          | ((refine wpB_take (v := ?_) rfl rfl (by kernel_rfl) (by rfl) ?_ ?_); rotate_left 1; (· ((intro w hSw; (try dsimp only at hSw); go_simp); try with_reducible rfl)))
        try simp only [Act.put, List.setIfInBounds_toArray, List.set_cons_zero, List.set_cons_succ]
      refine wpB_eff rfl (by kernel_rfl) (by rfl) (fun K2 hK2 => ?_)
      go_simp
      have HB4 := Lib.hid (HB3.out.set 2 (.int .u64 ad))
      have HBY := Lib.hid (HBX.out.other ⟨hb, 2, none⟩ (.int .u64 ad) (Ne.symm HNE.out))
      have HU4 := Lib.hid (HUD.out.setCell (p := ⟨hb, 2, none⟩) (.inr HLE.out) (.int .u64 ad))
      generalize W3.setCell ⟨hb, 2, none⟩ (.int .u64 ad) = W4 at HB4 HBY HU4 ⊢
      refine hK2.out _ _ ⟨HBY.out.cell 2 rfl, HBY.out.cell 3 rfl⟩ ?_
      clear hK2 K2 c2 c3 f2 f3
      have c3 := HB4.out.cell 3 rfl
      have f3 := HB4.out.free 3
      repeat
        first
          | (refine wpB_skip rfl (by kernel_rfl) (by rfl) ?_)
          | ((refine wpB_take (v := ?_) rfl rfl (by kernel_rfl) (by rfl) ?_ ?_); rotate_left 1; (· ((intro w hSw; (try dsimp only at hSw); go_simp); try with_reducible rfl)))
        try simp only [Act.put, List.setIfInBounds_toArray, List.set_cons_zero, List.set_cons_succ]
      refine wpB_eff rfl (by kernel_rfl) (by rfl) (fun K2 hK2 => ?_)
      go_simp
      have HB5 := Lib.hid (HB4.out.set 3 (.int .u64 wd))
      have HBZ := Lib.hid (HBY.out.other ⟨hb, 3, none⟩ (.int .u64 wd) (Ne.symm HNE.out))
      have HU5 := Lib.hid (HU4.out.setCell (p := ⟨hb, 3, none⟩) (.inr HLE.out) (.int .u64 wd))
      generalize W4.setCell ⟨hb, 3, none⟩ (.int .u64 wd) = W5 at HB5 HBZ HU5 ⊢
      refine hK2.out _ _ ⟨HBZ.out.cell 2 rfl, HBZ.out.cell 3 rfl⟩ ?_
      clear hK2 K2 c3 f3
      refine wpB_end (by kernel_rfl) (NoPanic.normal ?_)
      have p0 := HB5.out.cell 0 rfl
      have p1 := HB5.out.cell 1 rfl
      have p2 := HB5.out.cell 2 rfl
      have p3 := HB5.out.cell 3 rfl
      have p4 := HB5.out.cell 4 rfl
      have p5 := HB5.out.cell 5 rfl
      have q0 := HBZ.out.cell 0 rfl
      have q1 := HBZ.out.cell 1 rfl
      have q2 := HBZ.out.cell 2 rfl
      have q3 := HBZ.out.cell 3 rfl
      have q4 := HBZ.out.cell 4 rfl
      have q5 := HBZ.out.cell 5 rfl
      go_wp2_with fail
      all_goals
        refine ⟨ret_bool ?_, HU5.out⟩
        rw [← HB.out]
        simp only [formE, formC, pairK, singK]
        first
          | (symm; apply decide_eq_true; simp_all; try omega)
          | (symm; apply decide_eq_false; simp_all; try omega)
end
end Go.Proofs.YtfldpejifpmapaaDoor
