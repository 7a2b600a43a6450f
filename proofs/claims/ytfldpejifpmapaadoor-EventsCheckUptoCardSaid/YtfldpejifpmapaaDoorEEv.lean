/- event: a line read. The conditions: the library's errors are laid; sizes. -/
import Derived.Test.YtfldpejifpmapaaDoorEEvP
set_option linter.unusedSimpArgs false
set_option linter.unusedVariables false
set_option maxRecDepth 100000
namespace Go.Proofs.YtfldpejifpmapaaDoor
open Go.RowKit
open Go.Maps
/-- what the reading of a line asks of the world -/
structure PreE (w : World) : Prop where
  tab : Tab w
  errs : Errs w
  max : ∃ m, w.cell? ⟨1, 0, none⟩ = some (.int .i64 m)
theorem PreE.upd {w w' : World} (h : PreE w) (u : Upd [] w w') : PreE w' := ⟨h.tab.upd u, h.errs.upd u, by obtain ⟨m, hm⟩ := h.max; exact ⟨m, u.cell (by simp) hm⟩⟩
theorem ev_results {fn : Func} {k m : Nat} (hr : fn.results = #[.cell k 27, .tmp m]) (t : Array Value) (w : World) (rb : Nat) (e : Ev) (v : Value) (h2 : t.getD k undef = .pointer (some ⟨rb, 0, none⟩)) (h3 : t.getD m undef = v) (hb : Blk w rb e.cells 27) :
    (results fn t).run Tryd.prog w = .ok (.tuple #[e.val, v]) w := by
  have c0 := hb.cell 0 rfl
  have c1 := hb.cell 1 rfl
  have c2 := hb.cell 2 rfl
  have c3 := hb.cell 3 rfl
  have c4 := hb.cell 4 rfl
  have c5 := hb.cell 5 rfl
  have h2' : t[k]?.getD undef = .pointer (some ⟨rb, 0, none⟩) := by simpa using h2
  have h3' : t[m]?.getD undef = v := by simpa using h3
  simp [results, hr, h2', h3', go_sem, c0, c1, c2, c3, c4, c5, Ev.val]
def zeroCells : List Value := [.int .i64 0, .int .i64 0, .int .u64 0, .int .u64 0, .bool false, .int .i64 0]
-- up to region 4: W5 the world, rb the result's block; N1 N2 N3: what number tells; B2 S2: the blank; NM RS FD: the cut
set_option maxHeartbeats 8000000 in
theorem event_bad1 (s : ByteArray) (hs : s.size < 4294967281) (w : World) (hP : PreE w) (hbad : (numberL s.data.toList).2.2 = false) : Calls Tryd.prog 50 #[.string s] w fun r w' => r = .returned (.tuple #[(evO (eventL s.data.toList)).val, .bool (eventL s.data.toList).isSome]) ∧ Upd [] w w' := by
  obtain ⟨W1, hW1⟩ : ∃ W, w.alloc (.cells #[.int .i64 0, .int .i64 0, .int .u64 0, .int .u64 0, .bool false, .int .i64 0] 27) = W := ⟨_, rfl⟩
  have u1 : Upd [] w W1 := by rw [← hW1]; exact (Upd.refl [] _).alloc _
  have B1 : Blk W1 w.heap.size zeroCells 27 := by rw [← hW1]; exact Blk.new w zeroCells _
  have HNUM := Lib.hid (fun (W : World) (u : Upd [] w W) => number_code s (by omega) W (hP.upd u).errs)
  have hn1 := number_lt s.data.toList
  have hn2 := number_le s.data.toList
  have HCP := Lib.hid (fun (W : World) => Tryd.strings_CutPrefix ⟨(numberL s.data.toList).2.1.toArray⟩ ⟨#[32]⟩ W)
  have HCUT := Lib.hid (fun (W : World) (u : Upd [] w W) => by obtain ⟨m, hm⟩ := (hP.upd u).max; exact Tryd.strings_Cut ⟨(Lib.trimPrefix (numberL s.data.toList).2.1 [32]).toArray⟩ ⟨#[32]⟩ m W (by have := trim_len (numberL s.data.toList).2.1 [32]; rw [Lib.size_eq] at hs ⊢; simp only [List.toList_toArray]; omega) hm)
  have HO := Lib.hid (show eventL s.data.toList = _ from by unfold eventL; exact rfl)
  have HSZ := Lib.hid hs
  have HP := Lib.hid hP
  simp only [List.toList_toArray] at HCP HCUT
  obtain ⟨o, ho⟩ : ∃ o, eventL s.data.toList = o := ⟨_, rfl⟩
  rw [ho] at HO ⊢
  generalize numberL s.data.toList = n at *
  obtain ⟨n1, n2, n3⟩ := n
  dsimp only at HNUM HCP HCUT HO hn1 hn2
  generalize hsb : Lib.hasPrefix n2 [32] = b2 at *
  have ht := trim_len n2 [32]
  generalize Lib.trimPrefix n2 [32] = s2 at *
  have hc := cut_len s2 [32]
  generalize Lib.cut s2 [32] = c at *
  obtain ⟨nm, rs, fd⟩ := c
  dsimp only at HCUT HO hc
  have HRB := Lib.hid B1
  have HU1 := Lib.hid u1
  clear ho hsb B1 u1 hP hs
  refine calls_all fun K hK => ?_
  go_enter Tryd.func50, Tryd.ntmps50
  go_wp2_with fail
  refine (HNUM.out W1 HU1.out).mono ?_
  rintro e W2 ⟨rfl, u2⟩
  have HU2 := Lib.hid (HU1.out.trans u2)
  have HR2 := Lib.hid (HRB.out.upd u2 (by simp))
  clear u2 HU1 HRB hW1 HNUM
  go_wp2_with fail
  refine (HCP.out _).mono ?_
  rintro e W3 ⟨rfl, rfl⟩
  go_wp2_with fail
  refine (HCUT.out _ HU2.out).mono ?_
  rintro e W4 ⟨rfl, nq, rfl⟩
  have ud : Upd [] W3 (W3.drewN nq) := (Upd.refl _ _).drewN _
  have HU4 := Lib.hid (HU2.out.trans ud)
  have HR4 := Lib.hid (HR2.out.upd ud (by simp))
  generalize W3.drewN nq = W4 at HU4 HR4 ⊢
  clear ud HU2 HR2 HCP HCUT
  obtain ⟨rb, hrb⟩ : ∃ b, w.heap.size = b := ⟨_, rfl⟩
  have HWR := Lib.hid (Nat.le_of_eq hrb)
  rw [hrb] at HR4 ⊢
  clear hrb
  have hg : ¬ (n3 = true ∧ b2 = true ∧ n1 < 8) := fun q => by have := hbad; (try dsimp only at this); rw [q.1] at this; cases this
  have hoN : o = none := HO.out.trans (if_neg hg)
  subst hoN
  clear HO hg
  have q0 := HR4.out.cell 0 rfl
  have q1 := HR4.out.cell 1 rfl
  have q2 := HR4.out.cell 2 rfl
  have q3 := HR4.out.cell 3 rfl
  have q4 := HR4.out.cell 4 rfl
  have q5 := HR4.out.cell 5 rfl
  have f0 := HR4.out.free 0
  have f1 := HR4.out.free 1
  have f2 := HR4.out.free 2
  have f3 := HR4.out.free 3
  have f4 := HR4.out.free 4
  have f5 := HR4.out.free 5
  try dsimp only at hbad
  subst hbad
  go_wp2_with fail
  exact bodyPost_ret (ev_results rfl _ _ rb zeroE (.bool false) rfl rfl ((((((HR4.out.set 0 _).set 1 _).set 2 _).set 3 _).set 4 _).set 5 _)) rfl (hK _ _ ⟨rfl, by repeat (first | exact HU4.out | refine Upd.setCell ?_ (.inr HWR.out) _)⟩)
set_option maxHeartbeats 8000000 in
theorem event_bad2 (s : ByteArray) (hs : s.size < 4294967281) (w : World) (hP : PreE w) (hbad : (numberL s.data.toList).2.2 = true ∧ Lib.hasPrefix (numberL s.data.toList).2.1 [32] = false) : Calls Tryd.prog 50 #[.string s] w fun r w' => r = .returned (.tuple #[(evO (eventL s.data.toList)).val, .bool (eventL s.data.toList).isSome]) ∧ Upd [] w w' := by
  obtain ⟨W1, hW1⟩ : ∃ W, w.alloc (.cells #[.int .i64 0, .int .i64 0, .int .u64 0, .int .u64 0, .bool false, .int .i64 0] 27) = W := ⟨_, rfl⟩
  have u1 : Upd [] w W1 := by rw [← hW1]; exact (Upd.refl [] _).alloc _
  have B1 : Blk W1 w.heap.size zeroCells 27 := by rw [← hW1]; exact Blk.new w zeroCells _
  have HNUM := Lib.hid (fun (W : World) (u : Upd [] w W) => number_code s (by omega) W (hP.upd u).errs)
  have hn1 := number_lt s.data.toList
  have hn2 := number_le s.data.toList
  have HCP := Lib.hid (fun (W : World) => Tryd.strings_CutPrefix ⟨(numberL s.data.toList).2.1.toArray⟩ ⟨#[32]⟩ W)
  have HCUT := Lib.hid (fun (W : World) (u : Upd [] w W) => by obtain ⟨m, hm⟩ := (hP.upd u).max; exact Tryd.strings_Cut ⟨(Lib.trimPrefix (numberL s.data.toList).2.1 [32]).toArray⟩ ⟨#[32]⟩ m W (by have := trim_len (numberL s.data.toList).2.1 [32]; rw [Lib.size_eq] at hs ⊢; simp only [List.toList_toArray]; omega) hm)
  have HO := Lib.hid (show eventL s.data.toList = _ from by unfold eventL; exact rfl)
  have HSZ := Lib.hid hs
  have HP := Lib.hid hP
  simp only [List.toList_toArray] at HCP HCUT
  obtain ⟨o, ho⟩ : ∃ o, eventL s.data.toList = o := ⟨_, rfl⟩
  rw [ho] at HO ⊢
  generalize numberL s.data.toList = n at *
  obtain ⟨n1, n2, n3⟩ := n
  dsimp only at HNUM HCP HCUT HO hn1 hn2
  generalize hsb : Lib.hasPrefix n2 [32] = b2 at *
  have ht := trim_len n2 [32]
  generalize Lib.trimPrefix n2 [32] = s2 at *
  have hc := cut_len s2 [32]
  generalize Lib.cut s2 [32] = c at *
  obtain ⟨nm, rs, fd⟩ := c
  dsimp only at HCUT HO hc
  have HRB := Lib.hid B1
  have HU1 := Lib.hid u1
  clear ho hsb B1 u1 hP hs
  refine calls_all fun K hK => ?_
  go_enter Tryd.func50, Tryd.ntmps50
  go_wp2_with fail
  refine (HNUM.out W1 HU1.out).mono ?_
  rintro e W2 ⟨rfl, u2⟩
  have HU2 := Lib.hid (HU1.out.trans u2)
  have HR2 := Lib.hid (HRB.out.upd u2 (by simp))
  clear u2 HU1 HRB hW1 HNUM
  go_wp2_with fail
  refine (HCP.out _).mono ?_
  rintro e W3 ⟨rfl, rfl⟩
  go_wp2_with fail
  refine (HCUT.out _ HU2.out).mono ?_
  rintro e W4 ⟨rfl, nq, rfl⟩
  have ud : Upd [] W3 (W3.drewN nq) := (Upd.refl _ _).drewN _
  have HU4 := Lib.hid (HU2.out.trans ud)
  have HR4 := Lib.hid (HR2.out.upd ud (by simp))
  generalize W3.drewN nq = W4 at HU4 HR4 ⊢
  clear ud HU2 HR2 HCP HCUT
  obtain ⟨rb, hrb⟩ : ∃ b, w.heap.size = b := ⟨_, rfl⟩
  have HWR := Lib.hid (Nat.le_of_eq hrb)
  rw [hrb] at HR4 ⊢
  clear hrb
  have hg : ¬ (n3 = true ∧ b2 = true ∧ n1 < 8) := fun q => by have := hbad.2; (try dsimp only at this); rw [q.2.1] at this; cases this
  have hoN : o = none := HO.out.trans (if_neg hg)
  subst hoN
  clear HO hg
  have q0 := HR4.out.cell 0 rfl
  have q1 := HR4.out.cell 1 rfl
  have q2 := HR4.out.cell 2 rfl
  have q3 := HR4.out.cell 3 rfl
  have q4 := HR4.out.cell 4 rfl
  have q5 := HR4.out.cell 5 rfl
  have f0 := HR4.out.free 0
  have f1 := HR4.out.free 1
  have f2 := HR4.out.free 2
  have f3 := HR4.out.free 3
  have f4 := HR4.out.free 4
  have f5 := HR4.out.free 5
  try dsimp only at hbad
  obtain ⟨h1, h2⟩ := hbad
  subst h1
  subst h2
  go_wp2_with fail
  exact bodyPost_ret (ev_results rfl _ _ rb zeroE (.bool false) rfl rfl ((((((HR4.out.set 0 _).set 1 _).set 2 _).set 3 _).set 4 _).set 5 _)) rfl (hK _ _ ⟨rfl, by repeat (first | exact HU4.out | refine Upd.setCell ?_ (.inr HWR.out) _)⟩)
set_option maxHeartbeats 8000000 in
theorem event_bad3 (s : ByteArray) (hs : s.size < 4294967281) (w : World) (hP : PreE w) (hbad : (numberL s.data.toList).2.2 = true ∧ Lib.hasPrefix (numberL s.data.toList).2.1 [32] = true ∧ 8 ≤ (numberL s.data.toList).1) : Calls Tryd.prog 50 #[.string s] w fun r w' => r = .returned (.tuple #[(evO (eventL s.data.toList)).val, .bool (eventL s.data.toList).isSome]) ∧ Upd [] w w' := by
  obtain ⟨W1, hW1⟩ : ∃ W, w.alloc (.cells #[.int .i64 0, .int .i64 0, .int .u64 0, .int .u64 0, .bool false, .int .i64 0] 27) = W := ⟨_, rfl⟩
  have u1 : Upd [] w W1 := by rw [← hW1]; exact (Upd.refl [] _).alloc _
  have B1 : Blk W1 w.heap.size zeroCells 27 := by rw [← hW1]; exact Blk.new w zeroCells _
  have HNUM := Lib.hid (fun (W : World) (u : Upd [] w W) => number_code s (by omega) W (hP.upd u).errs)
  have hn1 := number_lt s.data.toList
  have hn2 := number_le s.data.toList
  have HCP := Lib.hid (fun (W : World) => Tryd.strings_CutPrefix ⟨(numberL s.data.toList).2.1.toArray⟩ ⟨#[32]⟩ W)
  have HCUT := Lib.hid (fun (W : World) (u : Upd [] w W) => by obtain ⟨m, hm⟩ := (hP.upd u).max; exact Tryd.strings_Cut ⟨(Lib.trimPrefix (numberL s.data.toList).2.1 [32]).toArray⟩ ⟨#[32]⟩ m W (by have := trim_len (numberL s.data.toList).2.1 [32]; rw [Lib.size_eq] at hs ⊢; simp only [List.toList_toArray]; omega) hm)
  have HO := Lib.hid (show eventL s.data.toList = _ from by unfold eventL; exact rfl)
  have HSZ := Lib.hid hs
  have HP := Lib.hid hP
  simp only [List.toList_toArray] at HCP HCUT
  obtain ⟨o, ho⟩ : ∃ o, eventL s.data.toList = o := ⟨_, rfl⟩
  rw [ho] at HO ⊢
  generalize numberL s.data.toList = n at *
  obtain ⟨n1, n2, n3⟩ := n
  dsimp only at HNUM HCP HCUT HO hn1 hn2
  generalize hsb : Lib.hasPrefix n2 [32] = b2 at *
  have ht := trim_len n2 [32]
  generalize Lib.trimPrefix n2 [32] = s2 at *
  have hc := cut_len s2 [32]
  generalize Lib.cut s2 [32] = c at *
  obtain ⟨nm, rs, fd⟩ := c
  dsimp only at HCUT HO hc
  have HRB := Lib.hid B1
  have HU1 := Lib.hid u1
  clear ho hsb B1 u1 hP hs
  refine calls_all fun K hK => ?_
  go_enter Tryd.func50, Tryd.ntmps50
  go_wp2_with fail
  refine (HNUM.out W1 HU1.out).mono ?_
  rintro e W2 ⟨rfl, u2⟩
  have HU2 := Lib.hid (HU1.out.trans u2)
  have HR2 := Lib.hid (HRB.out.upd u2 (by simp))
  clear u2 HU1 HRB hW1 HNUM
  go_wp2_with fail
  refine (HCP.out _).mono ?_
  rintro e W3 ⟨rfl, rfl⟩
  go_wp2_with fail
  refine (HCUT.out _ HU2.out).mono ?_
  rintro e W4 ⟨rfl, nq, rfl⟩
  have ud : Upd [] W3 (W3.drewN nq) := (Upd.refl _ _).drewN _
  have HU4 := Lib.hid (HU2.out.trans ud)
  have HR4 := Lib.hid (HR2.out.upd ud (by simp))
  generalize W3.drewN nq = W4 at HU4 HR4 ⊢
  clear ud HU2 HR2 HCP HCUT
  obtain ⟨rb, hrb⟩ : ∃ b, w.heap.size = b := ⟨_, rfl⟩
  have HWR := Lib.hid (Nat.le_of_eq hrb)
  rw [hrb] at HR4 ⊢
  clear hrb
  have hg : ¬ (n3 = true ∧ b2 = true ∧ n1 < 8) := fun q => by have := hbad.2.2; (try dsimp only at this); omega
  have hoN : o = none := HO.out.trans (if_neg hg)
  subst hoN
  clear HO hg
  have q0 := HR4.out.cell 0 rfl
  have q1 := HR4.out.cell 1 rfl
  have q2 := HR4.out.cell 2 rfl
  have q3 := HR4.out.cell 3 rfl
  have q4 := HR4.out.cell 4 rfl
  have q5 := HR4.out.cell 5 rfl
  have f0 := HR4.out.free 0
  have f1 := HR4.out.free 1
  have f2 := HR4.out.free 2
  have f3 := HR4.out.free 3
  have f4 := HR4.out.free 4
  have f5 := HR4.out.free 5
  try dsimp only at hbad
  obtain ⟨h1, h2, h3⟩ := hbad
  subst h1
  subst h2
  have d8 : decide (8 ≤ (n1 : Int)) = true := decide_eq_true (by omega)
  have d8' : decide (8 ≤ n1) = true := decide_eq_true h3
  clear h3
  go_wp2_with fail
  exact bodyPost_ret (ev_results rfl _ _ rb zeroE (.bool false) rfl rfl ((((((HR4.out.set 0 _).set 1 _).set 2 _).set 3 _).set 4 _).set 5 _)) rfl (hK _ _ ⟨rfl, by repeat (first | exact HU4.out | refine Upd.setCell ?_ (.inr HWR.out) _)⟩)
end Go.Proofs.YtfldpejifpmapaaDoor
