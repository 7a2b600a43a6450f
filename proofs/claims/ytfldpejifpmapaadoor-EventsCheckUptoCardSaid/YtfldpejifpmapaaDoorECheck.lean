/- Check, Tries: a history's first event that can't be, its attempts. The conditions are sizes. -/
import Derived.Test.YtfldpejifpmapaaDoorEHist
set_option linter.unusedSimpArgs false
set_option linter.unusedVariables false
set_option maxRecDepth 100000
namespace Go.Proofs.YtfldpejifpmapaaDoor
open Go.RowKit
open Go.Maps
theorem odd_results1 {fn : Func} {m : Nat} (hr : fn.results = #[.cell m 46]) (t : Array Value) (w : World) (rb : Nat) (a b : Value) (h2 : t.getD m undef = .pointer (some ⟨rb, 0, none⟩)) (hb : Blk w rb [a, b] 46) :
    (results fn t).run Tryd.prog w = .ok (.agg #[a, b]) w := by
  have c0 := hb.cell 0 rfl
  have c1 := hb.cell 1 rfl
  have h2' : t[m]?.getD undef = .pointer (some ⟨rb, 0, none⟩) := by simpa using h2
  simp [results, hr, h2', go_sem, c0, c1]
theorem GoOk.odd {w w' : World} {l : List Ev} {e : Ending} (h : GoOk w l e w') : Upd [] w w' ∧ ∃ p, e = .returned (.tuple #[.pointer p, .agg #[.int .i64 (oddE l).1, .int .i64 (oddE l).2]]) := by
  obtain ⟨hb, h | h⟩ := h
  · obtain ⟨B, lb, S, _, hr, rfl, _⟩ := h
    exact ⟨Upd.of_below hb, some ⟨lb, 0, none⟩, by unfold oddE; rw [hr, if_pos rfl]⟩
  · obtain ⟨S, k, er, hr, hn, rfl⟩ := h
    exact ⟨Upd.of_below hb, none, by unfold oddE; rw [hr, if_neg hn]⟩
set_option maxHeartbeats 1000000 in
theorem check_code (w : World) (po : Option Addr) (cap : Nat) (l : List Ev) (hH : HistAt w po l) (hl : l.length ≤ 1000000000000) (hw : wideL l) : Calls Tryd.prog 20 #[.slice po l.length cap] w fun e w' => e = .returned (.agg #[.int .i64 (oddE l).1, .int .i64 (oddE l).2]) ∧ Upd [] w w' := by
  obtain ⟨a, ha⟩ : ∃ a, (oddE l).1 = a := ⟨_, rfl⟩
  obtain ⟨b, hb⟩ : ∃ a, (oddE l).2 = a := ⟨_, rfl⟩
  have hgo : ∀ W, Upd [] w W → Calls Tryd.prog 52 #[.slice po l.length cap] W fun e w' => Upd [] W w' ∧ ∃ p, e = .returned (.tuple #[.pointer p, .agg #[.int .i64 a, .int .i64 b]]) := fun W u => (goOver_code W po cap l (hH.upd0 u) hl hw).mono fun e w' h => by have := h.odd; rwa [ha, hb] at this
  rw [ha, hb]
  have HGO := Lib.hid hgo
  clear ha hb hgo hH hw
  obtain ⟨W1, hW1⟩ : ∃ W, w.alloc (.cells #[.int .i64 0, .int .i64 0] 46) = W := ⟨_, rfl⟩
  have u1 : Upd [] w W1 := by rw [← hW1]; exact (Upd.refl [] _).alloc _
  have B1 : Blk W1 w.heap.size [.int .i64 0, .int .i64 0] 46 := by rw [← hW1]; exact Blk.new w _ _
  have HU1 := Lib.hid u1
  have HB1 := Lib.hid B1
  clear u1 B1
  refine calls_all fun K hK => ?_
  go_enter Tryd.func20, Tryd.ntmps20
  go_wp2_with fail
  refine (HGO.out W1 HU1.out).mono ?_
  rintro e W2 ⟨u2, p, rfl⟩
  have HU2 := Lib.hid (HU1.out.trans u2)
  have HB2 := Lib.hid (HB1.out.upd u2 (by simp))
  clear u2 HU1 HB1 hW1
  have u3 : Upd [] W2 (W2.alloc (.cells #[.int .i64 a, .int .i64 b] 46)) := (Upd.refl _ _).alloc _
  have HB3 := Lib.hid (HB2.out.upd u3 (by simp))
  have q0 := HB2.out.cell 0 rfl
  have q1 := HB2.out.cell 1 rfl
  have f0 := HB2.out.free 0
  have f1 := HB2.out.free 1
  have hlt := HB2.out.lt
  have HU3 := Lib.hid (HU2.out.trans u3)
  clear u3
  go_wp2_with fail
  exact bodyPost_ret (odd_results1 rfl _ _ w.heap.size _ _ rfl (((HB2.out.set 0 _).set 1 _).alloc _)) rfl (hK _ _ ⟨rfl, ((HU2.out.setCell (.inr (Nat.le_refl _)) _).setCell (.inr (Nat.le_refl _)) _).alloc _⟩)
/-- what Tries answers -/
def TriesOk (w : World) (l : List Ev) (e : Ending) (w' : World) : Prop := Upd [] w w' ∧ ∃ v, e = .returned (.tuple #[v, .agg #[.int .i64 (oddE l).1, .int .i64 (oddE l).2]]) ∧
  ((runE ls0 0 l).2.2 = 0 → w'.ownsRow w.heap.size 52 7 v (runE ls0 0 l).1.tries.length ((runE ls0 0 l).1.tries.flatMap Try.cells) ∧ LSOk (runE ls0 0 l).1 l.length) ∧ ((runE ls0 0 l).2.2 ≠ 0 → v = .slice none 0 0)
theorem own_mono {w : World} {B B' : Nat} {e : TypeId} {size n : Nat} {v : Value} {us : List Value} (h : w.ownsRow B e size v n us) (hB : B' ≤ B) : w.ownsRow B' e size v n us := by
  obtain ⟨h1, h2⟩ := h
  refine ⟨h1, h2.imp id fun ⟨g, cap, cur, a, b, c⟩ => ⟨g, cap, cur, a, Nat.le_trans hB b, c⟩⟩
set_option maxHeartbeats 2000000 in
theorem tries_code (w : World) (po : Option Addr) (cap : Nat) (l : List Ev) (hH : HistAt w po l) (hl : l.length ≤ 1000000000000) (hw : wideL l) : Calls Tryd.prog 21 #[.slice po l.length cap] w (TriesOk w l) := by
  have hgo : ∀ W, Upd [] w W → Calls Tryd.prog 52 #[.slice po l.length cap] W (GoOk W l) := fun W u => goOver_code W po cap l (hH.upd0 u) hl hw
  have HGO := Lib.hid hgo
  clear hgo hH hw
  obtain ⟨W1, hW1⟩ : ∃ W, w.alloc (.cells #[.int .i64 0, .int .i64 0] 46) = W := ⟨_, rfl⟩
  have u1 : Upd [] w W1 := by rw [← hW1]; exact (Upd.refl [] _).alloc _
  have B1 : Blk W1 w.heap.size [.int .i64 0, .int .i64 0] 46 := by rw [← hW1]; exact Blk.new w _ _
  have HU1 := Lib.hid u1
  have HB1 := Lib.hid B1
  clear u1 B1
  refine calls_all fun K hK => ?_
  go_enter Tryd.func21, Tryd.ntmps21
  go_wp2_with fail
  refine (HGO.out W1 HU1.out).mono ?_
  rintro e W2 ⟨hb2, h | h⟩
  · obtain ⟨B, lb, S, hB, hr, rfl, hla, hok⟩ := h
    obtain ⟨C, tv, mv, hM⟩ := hla
    obtain ⟨pp, pc, htv⟩ := own_form hM.row
    subst htv
    have HM := Lib.hid hM
    have HR := Lib.hid hr
    have HOK := Lib.hid hok
    have HU2 := Lib.hid (HU1.out.trans (Upd.of_below hb2))
    have HB2 := Lib.hid (HB1.out.upd (Upd.of_below hb2) (by simp))
    have HBB := Lib.hid (show w.heap.size < B by have := HB1.out.lt; omega)
    clear hb2 HU1 HB1 hW1 hr hok hM hB
    have E1 : ∀ w, (binOp .eql 86 (.pointer (some ⟨lb, 0, none⟩)) (.pointer none)).run Tryd.prog w = .ok (.bool false) w := fun w => by kernel_rfl
    have hlb2 := HM.out.blk.lt
    go_wp2_with fail
    generalize HX : W2.alloc (.cells #[.int .i64 (-1), .int .i64 0] 46) = W3
    have u3 : Upd [] W2 W3 := by rw [← HX]; exact (Upd.refl _ _).alloc _
    have HB5 := Lib.hid (show Blk W3 W2.heap.size [.int .i64 (-1), .int .i64 0] 46 by rw [← HX]; exact Blk.new W2 _ _)
    have u4 : Upd [] W3 W3.drew := (Upd.refl _ _).drew
    have HB6 := Lib.hid (HB5.out.upd u4 (by simp))
    have HM6 := Lib.hid ((HM.out.upd0 u3).upd0 u4)
    have HB4 := Lib.hid ((HB2.out.upd u3 (by simp)).upd u4 (by simp))
    have HU4 := Lib.hid ((HU2.out.trans u3).trans u4)
    clear HX u3 u4 HM HU2 HB5 HB2
    obtain ⟨W4, hW4⟩ : ∃ W, W3.drew = W := ⟨_, rfl⟩
    refine wp_region_brT (fun w' => w' = W3.drew) [0, 1, 2, 3, 4, 5, 6] 6 (by kernel_rfl) (by kernel_rfl) (by kernel_rfl) ?_
    rw [hW4] at HB6 HM6 HB4 HU4 ⊢
    clear hW4
    have l6 := lk HM6.out.blk HM6.out.cs.tries (rfl : 86 = 86)
    have m0 := HB6.out.cell 0 rfl
    have m1 := HB6.out.cell 1 rfl
    have q0 := HB4.out.cell 0 rfl
    have q1 := HB4.out.cell 1 rfl
    have f0 := HB4.out.free 0
    have f1 := HB4.out.free 1
    repeat ((refine wpC_take (v := ?_) rfl (by decide) rfl (by kernel_rfl) (by rfl) rfl ?_ ?_); rotate_left 1; (· ((intro w hSw; (try dsimp only at hSw); go_simp); try with_reducible rfl)); try simp only [Act.put, List.setIfInBounds_toArray, List.set_cons_zero, List.set_cons_succ])
    refine wpC_eff rfl (by kernel_rfl) (by rfl) (fun K2 hK2 => ?_)
    go_simp
    refine hK2.out _ _ (.inl (by decide)) ?_
    refine wpC_end (by kernel_rfl) (NoPanic.normal ?_)
    clear hK2 K2 l6 m0 m1 q0 q1 f0 f1
    go_wp2_with fail
    have hu : Upd [w.heap.size] W4 ((W4.setCell ⟨w.heap.size, 0, none⟩ (.int .i64 (-1))).setCell ⟨w.heap.size, 1, none⟩ (.int .i64 0)) := ((Upd.refl _ _).setCell (.inl (by simp)) _).setCell (.inl (by simp)) _
    have hfin : TriesOk w l (.returned (.tuple #[.slice pp S.tries.length pc, .agg #[.int .i64 (-1), .int .i64 0]])) ((W4.setCell ⟨w.heap.size, 0, none⟩ (.int .i64 (-1))).setCell ⟨w.heap.size, 1, none⟩ (.int .i64 0)) := by
      refine ⟨(HU4.out.setCell (.inr (Nat.le_refl _)) _).setCell (.inr (Nat.le_refl _)) _, .slice pp S.tries.length pc, ?_, fun _ => ⟨?_, ?_⟩, fun k => ?_⟩
      · unfold oddE; rw [HR.out, if_pos rfl]
      · rw [HR.out]
        exact own_mono (own_upd HM6.out.row hu (fun g hg e => by have := (own_blocks HM6.out.row g (by rw [e]; simp)).1; have := HBB.out; simp at hg; omega)) (Nat.le_of_lt HBB.out)
      · rw [HR.out]; exact HOK.out
      · exact absurd (by rw [HR.out]) k
    exact bodyPost_ret (odd_results rfl _ _ w.heap.size (.slice pp S.tries.length pc) _ _ rfl rfl ((HB4.out.set 0 _).set 1 _)) rfl (hK _ _ hfin)
  · obtain ⟨S, k, er, hr, hn, rfl⟩ := h
    have HR := Lib.hid hr
    have HN := Lib.hid hn
    have HU2 := Lib.hid (HU1.out.trans (Upd.of_below hb2))
    have HB2 := Lib.hid (HB1.out.upd (Upd.of_below hb2) (by simp))
    clear hb2 HU1 HB1 hW1 hr hn
    have E1 : ∀ w, (binOp .eql 86 (.pointer none) (.pointer none)).run Tryd.prog w = .ok (.bool true) w := fun w => by kernel_rfl
    go_wp2_with fail
    generalize HX : W2.alloc (.cells #[.int .i64 (k : Int), .int .i64 er] 46) = W3
    have u3 : Upd [] W2 W3 := by rw [← HX]; exact (Upd.refl _ _).alloc _
    have HB5 := Lib.hid (show Blk W3 W2.heap.size [.int .i64 (k : Int), .int .i64 er] 46 by rw [← HX]; exact Blk.new W2 _ _)
    have u4 : Upd [] W3 W3.drew := (Upd.refl _ _).drew
    have HB6 := Lib.hid (HB5.out.upd u4 (by simp))
    have HB4 := Lib.hid ((HB2.out.upd u3 (by simp)).upd u4 (by simp))
    have HU4 := Lib.hid ((HU2.out.trans u3).trans u4)
    clear HX u3 u4 HU2 HB5 HB2
    obtain ⟨W4, hW4⟩ : ∃ W, W3.drew = W := ⟨_, rfl⟩
    refine wp_region_brT (fun w' => w' = W3.drew) [0, 1, 2] 2 (by kernel_rfl) (by kernel_rfl) (by kernel_rfl) ?_
    rw [hW4] at HB6 HB4 HU4 ⊢
    clear hW4
    have m0 := HB6.out.cell 0 rfl
    have m1 := HB6.out.cell 1 rfl
    have q0 := HB4.out.cell 0 rfl
    have q1 := HB4.out.cell 1 rfl
    have f0 := HB4.out.free 0
    have f1 := HB4.out.free 1
    repeat ((refine wpC_take (v := ?_) rfl (by decide) rfl (by kernel_rfl) (by rfl) rfl ?_ ?_); rotate_left 1; (· ((intro w hSw; (try dsimp only at hSw); go_simp); try with_reducible rfl)); try simp only [Act.put, List.setIfInBounds_toArray, List.set_cons_zero, List.set_cons_succ])
    refine wpC_eff rfl (by kernel_rfl) (by rfl) (fun K2 hK2 => ?_)
    go_simp
    refine hK2.out _ _ (.inl (by decide)) ?_
    refine wpC_end (by kernel_rfl) (NoPanic.normal ?_)
    clear hK2 K2 m0 m1 q0 q1 f0 f1
    go_wp2_with fail
    have hfin : TriesOk w l (.returned (.tuple #[.slice none 0 0, .agg #[.int .i64 (k : Int), .int .i64 er]])) ((W4.setCell ⟨w.heap.size, 0, none⟩ (.int .i64 (k : Int))).setCell ⟨w.heap.size, 1, none⟩ (.int .i64 er)) := by
      refine ⟨(HU4.out.setCell (.inr (Nat.le_refl _)) _).setCell (.inr (Nat.le_refl _)) _, .slice none 0 0, ?_, fun q => ?_, fun _ => rfl⟩
      · unfold oddE; rw [HR.out, if_neg HN.out]
      · exact absurd (by rw [HR.out] at q; exact q) HN.out
    exact bodyPost_ret (odd_results rfl _ _ w.heap.size (.slice none 0 0) _ _ rfl rfl ((HB4.out.set 0 _).set 1 _)) rfl (hK _ _ hfin)
end Go.Proofs.YtfldpejifpmapaaDoor
