/- The law's others, walked. No condition. The law's does: a copy takes a place, on both halves. The conditions are sizes. The law's does: places. No condition. The law's does, walked. No condition. The law's does, walked: others. No condition. The law's does, walked: an attempt's own call. No condition. The law's does, walked: Copy. No condition. -/
import Derived.Test.YthfeljongackcaaM7p33
set_option linter.unusedSimpArgs false
set_option linter.unusedVariables false
set_option maxRecDepth 100000
namespace Go.Proofs.Ythfeljongackcaa
open Go.RowKit
open Go.Maps

/-- what others leave -/
def OthOk (w0 : World) (p : Nat) (X : SX) (Y : RX) (att ratt : Atts) (e : Ending) (W' : World) : Prop :=
  e = .returned (.bool true) ∧ ∃ sh' held' tk', PS w0 p X Y sh' att ratt held' tk' W' ∧ tk' % 2 = 0
set_option maxHeartbeats 1000000 in
theorem others_store {w0 W : World} {p : Nat} {X : SX} {Y : RX} {sh : Sh} {att ratt : Atts} {held : Bool} {tk : Int} (h : PS w0 p X Y sh att ratt held tk W) (hpar : tk % 2 = 0) (who dst addr word : Int) (ha : 0 ≤ addr ∧ addr < 18446744073709551616) (hv : 0 ≤ word ∧ word < 18446744073709551616) :
    Calls Try.prog 63 #[.pointer (some ⟨p, 0, none⟩), .agg (stepC 9 who dst addr word).toArray] W (OthOk w0 p X Y att ratt) := by
  have HSM := Lib.hid h.same
  have HPAR := Lib.hid hpar
  have htk := h.tkw
  obtain ⟨W1, hW1⟩ : ∃ W1, W.alloc (.cells (stepC 9 who dst addr word).toArray 79) = W1 := ⟨_, rfl⟩
  have u1 : Upd [] W W1 := by rw [← hW1]; exact (Upd.refl [] _).alloc _
  have B1 : Blk W1 W.heap.size (stepC 9 who dst addr word) 79 := by rw [← hW1]; exact Blk.new W _ _
  have P1 := h.pl.free0 u1
  have HBX := Lib.hid (show ¬ Foot X.foot att W.heap.size from fun e => by have := (h.pl.m.out e).2; omega)
  have HBY := Lib.hid (show ¬ Foot Y.foot ratt W.heap.size from fun e => by have := (h.pl.r.out e).2; omega)
  have hpb : p ≠ W.heap.size := by have := h.pl.head.lt; omega
  have hb0 := h.pl.low.size
  simp only [stepC] at hW1 ⊢
  clear u1 h hpar
  have k0 := B1.cell 0 rfl
  have cw := P1.head.cell 2 rfl
  refine calls_all fun K hK => ?_
  go_enter Try.func63, Try.ntmps63
  go_wp2_with fail
  clear hW1 k0
  clear cw
  have ud := (Upd.refl [] W1).drew
  replace P1 := P1.free0 ud
  replace B1 := B1.drew
  generalize W.heap.size = sb at *
  have SF := Lib.hid (show ∀ (rsh' sh' : Sh) (W' : World), PL w0 p (headP X Y att ratt held tk) X Y sh' rsh' att ratt W' → Blk W' sb [.int .i64 9, .int .i64 who, .int .i64 dst, .int .u64 addr, .int .u64 word] 79 → W'.cell? ⟨p, 0, none⟩ = some (.pointer (some ⟨X.ra, 0, none⟩)) ∧ W'.cell? ⟨p, 2, none⟩ = some (.pointer (some ⟨Y.wb, 0, none⟩)) ∧ W'.cell? ⟨Y.wb, 0, none⟩ = some (.pointer (some ⟨Y.ra, 0, none⟩)) ∧ W'.cell? ⟨sb, 3, none⟩ = some (.int .u64 addr) ∧ W'.cell? ⟨sb, 4, none⟩ = some (.int .u64 word) from fun rsh' sh' W' P B => by
    obtain ⟨acc, hY⟩ := P.r.m.x
    exact ⟨P.head.cell 0 rfl, P.head.cell 2 rfl, hY.wld.cell 0 rfl, B.cell 3 rfl, B.cell 4 rfl⟩)
  refine wp_region_br (fun W' => W'.cell? ⟨p, 0, none⟩ = some (.pointer (some ⟨X.ra, 0, none⟩)) ∧ W'.cell? ⟨p, 2, none⟩ = some (.pointer (some ⟨Y.wb, 0, none⟩)) ∧ W'.cell? ⟨Y.wb, 0, none⟩ = some (.pointer (some ⟨Y.ra, 0, none⟩)) ∧ W'.cell? ⟨sb, 3, none⟩ = some (.int .u64 addr) ∧ W'.cell? ⟨sb, 4, none⟩ = some (.int .u64 word)) [0, 1, 2, 3, 4, 5, 6, 7, 10, 11, 12, 13, 14, 15, 16, 17, 18, 19, 20, 8, 9, 21, 22, 23] (by kernel_rfl) (by kernel_rfl) (SF.out _ _ _ P1 B1) ?_
  clear ud
  generalize W1.drew = W2 at P1 B1 ⊢
  repeat
    first
      | (refine wpB_skip rfl (by kernel_rfl) (by rfl) ?_)
      | ((refine wpB_take (v := ?_) rfl rfl (by kernel_rfl) (by rfl) ?_ ?_); rotate_left 1; (· ((intro w hSw; (try dsimp only at hSw); go_simp); try with_reducible rfl)))
    try simp only [Act.put, List.setIfInBounds_toArray, List.set_cons_zero, List.set_cons_succ]
  refine wpB_eff rfl (by kernel_rfl) (by rfl) (fun K2 hK2 => ?_)
  go_simp
  refine (pstore P1.m addr word ha.1 hv).mono ?_
  rintro e W3 ⟨rfl, m3, mv3⟩
  have P3 := P1.prog m3 mv3
  obtain ⟨S3, hS3, u3⟩ := mv3.u
  have B3 := B1.upd u3 (fun e => HBX.out (hS3 _ e))
  refine hK2.out _ _ (SF.out _ _ _ P3 B3) ?_
  clear hK2 K2 m3 mv3 hS3 u3 P1 B1
  refine wpB_eff rfl (by kernel_rfl) (by rfl) (fun K2 hK2 => ?_)
  go_simp
  refine (num07 _ _).mono ?_
  rintro e w' ⟨rfl, rfl⟩
  refine hK2.out _ _ (SF.out _ _ _ P3 B3) ?_
  clear hK2 K2
  refine wpB_eff rfl (by kernel_rfl) (by rfl) (fun K2 hK2 => ?_)
  go_simp
  refine (rstoreP P3.r addr word ha.1 hv).mono ?_
  rintro e W4 ⟨rfl, m4, mv4⟩
  have P4 := P3.doc m4 mv4
  obtain ⟨S4, hS4, u4⟩ := mv4.u
  have B4 := B3.upd u4 (fun e => HBY.out (hS4 _ e))
  have HP := Lib.hid (show PS w0 p X Y ⟨sh.row.set addr.toNat word, sh.clock⟩ att ratt held tk W4 from ⟨P4, HSM.out, htk⟩)
  refine hK2.out _ _ (SF.out _ _ _ P4 B4) ?_
  clear hK2 K2 m4 mv4 hS4 u4 P3 B3 P4 B4
  have hcc : ((rLoad sh.row addr).2 == (rLoad sh.row addr).2) = true := by simp
  repeat
    first
      | (refine wpB_skip rfl (by kernel_rfl) (by rfl) ?_)
      | ((refine wpB_take (v := ?_) rfl rfl (by kernel_rfl) (by rfl) ?_ ?_); rotate_left 1; (· ((intro w hSw; (try dsimp only at hSw); go_simp); try with_reducible rfl)))
    try simp only [Act.put, List.setIfInBounds_toArray, List.set_cons_zero, List.set_cons_succ]
  refine wpB_end (by kernel_rfl) (NoPanic.normal ?_)
  go_wp2_with fail
  exact ⟨rfl, _, _, _, HP.out, HPAR.out⟩

theorem u64_up {c : Int} (h : 0 ≤ c ∧ c < 18446744073709551616) (he : c % 2 = 0) : IntKind.u64.wrap (c + 1) = c + 1 := by rw [IntKind.wrap_u64]; omega
set_option maxHeartbeats 1000000 in
theorem others_take {w0 W : World} {p : Nat} {X : SX} {Y : RX} {sh : Sh} {att ratt : Atts} {held : Bool} {tk : Int} (h : PS w0 p X Y sh att ratt held tk W) (hpar : tk % 2 = 0) (who dst addr word : Int) :
    Calls Try.prog 63 #[.pointer (some ⟨p, 0, none⟩), .agg (stepC 10 who dst addr word).toArray] W (OthOk w0 p X Y att ratt) := by
  have HSM := Lib.hid h.same
  have HPAR := Lib.hid hpar
  have htk := h.tkw
  obtain ⟨W1, hW1⟩ : ∃ W1, W.alloc (.cells (stepC 10 who dst addr word).toArray 79) = W1 := ⟨_, rfl⟩
  have u1 : Upd [] W W1 := by rw [← hW1]; exact (Upd.refl [] _).alloc _
  have B1 : Blk W1 W.heap.size (stepC 10 who dst addr word) 79 := by rw [← hW1]; exact Blk.new W _ _
  have P1 := h.pl.free0 u1
  have HBX := Lib.hid (show ¬ Foot X.foot att W.heap.size from fun e => by have := (h.pl.m.out e).2; omega)
  have HBY := Lib.hid (show ¬ Foot Y.foot ratt W.heap.size from fun e => by have := (h.pl.r.out e).2; omega)
  have hpb : p ≠ W.heap.size := by have := h.pl.head.lt; omega
  have hb0 := h.pl.low.size
  simp only [stepC] at hW1 ⊢
  clear u1 h hpar
  have k0 := B1.cell 0 rfl
  obtain ⟨acc, hY⟩ := P1.r.m.x
  have hwd := hY.wide.clock
  have y1 := hY.wld.cell 1 rfl
  have cw := P1.head.cell 2 rfl
  have c9 := P1.head.cell 9 rfl
  have c10 := P1.head.cell 10 rfl
  have f9 := P1.head.free 9
  have f10 := P1.head.free 10
  have hpy : p ≠ Y.wb := fun e => P1.pf.2 (.inl (by rw [e]; simp [RX.foot]))
  have hpy2 : Y.wb ≠ p := hpy.symm
  clear hY
  by_cases he : sh.clock % 2 = 0
  · have hb : (sh.clock % 2 == 0) = true := by simp [he]
    have hup := u64_up hwd he
    have htk2 : takes sh.clock sh.clock = true := by unfold takes; rw [opn_eq hwd.1 hwd.2]; simp [he]
    have HE := Lib.hid he
    clear he
    have HT := Lib.hid htk2
    clear htk2
    refine calls_all fun K hK => ?_
    go_enter Try.func63, Try.ntmps63
    go_wp2_with fail
    clear hW1 k0 c9 c10 f9 f10 y1
    have P2 : PL w0 p (headP X Y att ratt true sh.clock) X Y sh sh att ratt ((W1.setCell ⟨p, 9, none⟩ (.bool true)).setCell ⟨p, 10, none⟩ (.int .u64 sh.clock)) := (P1.put 9 (.bool true)).put 10 (.int .u64 sh.clock)
    clear P1
    replace P2 := P2.free0 ((Upd.refl [] _).drew)
    refine wp_region_br (fun W' => W'.cell? ⟨p, 1, none⟩ = some (.pointer (some ⟨X.ca, 0, none⟩)) ∧ W'.cell? ⟨p, 10, none⟩ = some (.int .u64 sh.clock)) [0, 1, 2, 3, 4, 5, 6, 7, 8, 9, 10, 11, 12, 13] (by kernel_rfl) (by kernel_rfl) ⟨P2.head.cell 1 rfl, P2.head.cell 10 rfl⟩ ?_
    generalize ((W1.setCell ⟨p, 9, none⟩ (.bool true)).setCell ⟨p, 10, none⟩ (.int .u64 sh.clock)).drew = W2 at P2 ⊢
    repeat
      first
        | (refine wpB_skip rfl (by kernel_rfl) (by rfl) ?_)
        | ((refine wpB_take (v := ?_) rfl rfl (by kernel_rfl) (by rfl) ?_ ?_); rotate_left 1; (· ((intro w hSw; (try dsimp only at hSw); go_simp); try with_reducible rfl)))
      try simp only [Act.put, List.setIfInBounds_toArray, List.set_cons_zero, List.set_cons_succ]
    refine wpB_eff rfl (by kernel_rfl) (by rfl) (fun K2 hK2 => ?_)
    go_simp
    refine (ptake P2.m (sh.clock + 1) HT.out hup (by have := HE.out; omega)).mono ?_
    rintro e W3 ⟨rfl, m3, mv3⟩
    have P3 := P2.prog m3 mv3
    refine hK2.out _ _ ⟨P3.head.cell 1 rfl, P3.head.cell 10 rfl⟩ ?_
    clear hK2 K2 m3 mv3 P2
    repeat
      first
        | (refine wpB_skip rfl (by kernel_rfl) (by rfl) ?_)
        | ((refine wpB_take (v := ?_) rfl rfl (by kernel_rfl) (by rfl) ?_ ?_); rotate_left 1; (· ((intro w hSw; (try dsimp only at hSw); go_simp); try with_reducible rfl)))
      try simp only [Act.put, List.setIfInBounds_toArray, List.set_cons_zero, List.set_cons_succ]
    refine wpB_end (by kernel_rfl) (NoPanic.normal ?_)
    obtain ⟨acc, hY⟩ := P3.r.m.x
    have y1 := hY.wld.cell 1 rfl
    have z1 := hY.wld.free 1
    have cw := P3.head.cell 2 rfl
    clear hY
    obtain ⟨m4, mv4⟩ := P3.r.clockd (sh.clock + 1) (by have := HE.out; omega)
    have P4 := P3.doc m4 mv4
    have HP := Lib.hid (show PS w0 p X Y ⟨sh.row, sh.clock + 1⟩ att ratt true sh.clock _ from ⟨P4, HSM.out, hwd⟩)
    clear m4 mv4 P4 P3
    go_wp2_with (go_at_call 12; refine (num07 _ _).mono ?_; rintro e w' ⟨rfl, rfl⟩)
    exact ⟨rfl, _, _, _, HP.out, HE.out⟩
  · have hb : (sh.clock % 2 == 0) = false := by simp [he]
    clear he
    have HP := Lib.hid (show PS w0 p X Y sh att ratt held tk W1 from ⟨P1, HSM.out, htk⟩)
    clear P1
    refine calls_all fun K hK => ?_
    go_enter Try.func63, Try.ntmps63
    go_wp2_with fail
    exact ⟨rfl, _, _, _, HP.out, HPAR.out⟩

set_option maxHeartbeats 1000000 in
theorem others_leave {w0 W : World} {p : Nat} {X : SX} {Y : RX} {sh : Sh} {att ratt : Atts} {held : Bool} {tk : Int} (h : PS w0 p X Y sh att ratt held tk W) (hpar : tk % 2 = 0) (who dst addr word : Int) :
    Calls Try.prog 63 #[.pointer (some ⟨p, 0, none⟩), .agg (stepC 11 who dst addr word).toArray] W (OthOk w0 p X Y att ratt) := by
  have hup := u64_up h.tkw hpar
  have hop : opn tk = true := by rw [opn_eq h.tkw.1 h.tkw.2]; simp [hpar]
  have HOP := Lib.hid hop
  have HUP := Lib.hid hup
  clear hop
  have HSM := Lib.hid h.same
  have HPAR := Lib.hid hpar
  have htk := h.tkw
  obtain ⟨W1, hW1⟩ : ∃ W1, W.alloc (.cells (stepC 11 who dst addr word).toArray 79) = W1 := ⟨_, rfl⟩
  have u1 : Upd [] W W1 := by rw [← hW1]; exact (Upd.refl [] _).alloc _
  have B1 : Blk W1 W.heap.size (stepC 11 who dst addr word) 79 := by rw [← hW1]; exact Blk.new W _ _
  have P1 := h.pl.free0 u1
  have HBX := Lib.hid (show ¬ Foot X.foot att W.heap.size from fun e => by have := (h.pl.m.out e).2; omega)
  have HBY := Lib.hid (show ¬ Foot Y.foot ratt W.heap.size from fun e => by have := (h.pl.r.out e).2; omega)
  have hpb : p ≠ W.heap.size := by have := h.pl.head.lt; omega
  have hb0 := h.pl.low.size
  simp only [stepC] at hW1 ⊢
  clear u1 h hpar
  have k0 := B1.cell 0 rfl
  have SF := Lib.hid (show ∀ (rsh' sh' : Sh) (W' : World) (hl : Bool), PL w0 p (headP X Y att ratt hl tk) X Y sh' rsh' att ratt W' → W'.cell? ⟨p, 1, none⟩ = some (.pointer (some ⟨X.ca, 0, none⟩)) ∧ W'.cell? ⟨p, 2, none⟩ = some (.pointer (some ⟨Y.wb, 0, none⟩)) ∧ W'.cell? ⟨p, 9, none⟩ = some (.bool hl) ∧ W'.cell? ⟨p, 10, none⟩ = some (.int .u64 tk) ∧ W'.cell? ⟨Y.wb, 1, none⟩ = some (.int .u64 rsh'.clock) from fun rsh' sh' W' hl P => by
    obtain ⟨acc, hY⟩ := P.r.m.x
    exact ⟨P.head.cell 1 rfl, P.head.cell 2 rfl, P.head.cell 9 rfl, P.head.cell 10 rfl, hY.wld.cell 1 rfl⟩)
  have f9 := P1.head.free 9
  have c9 := P1.head.cell 9 rfl
  have f10 : (W1.drew).drawn = (W1.drew).drawn := rfl
  clear f10
  refine calls_all fun K hK => ?_
  go_enter Try.func63, Try.ntmps63
  go_wp2_with fail
  clear hW1 k0
  replace P1 := P1.free0 ((Upd.refl [] W1).drew)
  refine wp_region_br (fun W' => W'.cell? ⟨p, 1, none⟩ = some (.pointer (some ⟨X.ca, 0, none⟩)) ∧ W'.cell? ⟨p, 2, none⟩ = some (.pointer (some ⟨Y.wb, 0, none⟩)) ∧ W'.cell? ⟨p, 9, none⟩ = some (.bool held) ∧ W'.cell? ⟨p, 10, none⟩ = some (.int .u64 tk) ∧ W'.cell? ⟨Y.wb, 1, none⟩ = some (.int .u64 sh.clock)) [0, 1, 2, 3, 4, 5, 6, 7, 8, 9, 10, 11, 12, 13, 14, 15, 16, 17, 18] (by kernel_rfl) (by kernel_rfl) (SF.out _ _ _ _ P1) ?_
  replace c9 := P1.head.cell 9 rfl
  replace f9 := P1.head.free 9
  generalize W1.drew = W2 at P1 c9 f9 ⊢
  cases held with
  | false =>
    repeat
      first
        | (refine wpB_skip rfl (by kernel_rfl) (by rfl) ?_)
        | ((refine wpB_take (v := ?_) rfl rfl (by kernel_rfl) (by rfl) ?_ ?_); rotate_left 1; (· ((intro w hSw; (try dsimp only at hSw); go_simp); try with_reducible rfl)))
      try simp only [Act.put, List.setIfInBounds_toArray, List.set_cons_zero, List.set_cons_succ]
    refine wpB_end (by kernel_rfl) (NoPanic.normal ?_)
    have HP := Lib.hid (show PS w0 p X Y sh att ratt false tk W2 from ⟨P1, HSM.out, htk⟩)
    clear P1
    go_wp2_with fail
    exact ⟨rfl, _, _, _, HP.out, HPAR.out⟩
  | true =>
    by_cases hq : sh.clock = tk + 1
    · have hb : (sh.clock == tk + 1) = true := by simp [hq]
      have HQ := Lib.hid hq
      clear hq
      repeat
        first
          | (refine wpB_skip rfl (by kernel_rfl) (by rfl) ?_)
          | ((refine wpB_take (v := ?_) rfl rfl (by kernel_rfl) (by rfl) ?_ ?_); rotate_left 1; (· ((intro w hSw; (try dsimp only at hSw); go_simp); try with_reducible rfl)))
        try simp only [Act.put, List.setIfInBounds_toArray, List.set_cons_zero, List.set_cons_succ]
      refine wpB_end (by kernel_rfl) (NoPanic.normal ?_)
      go_wp2_with fail
      have P3 : PL w0 p (headP X Y att ratt false tk) X Y sh sh att ratt (W2.setCell ⟨p, 9, none⟩ (.bool false)) := P1.put 9 (.bool false)
      clear P1 c9 f9 hb
      replace P3 := P3.free0 ((Upd.refl [] _).drew)
      refine wp_region_br (fun W' => W'.cell? ⟨p, 2, none⟩ = some (.pointer (some ⟨Y.wb, 0, none⟩)) ∧ W'.cell? ⟨p, 10, none⟩ = some (.int .u64 tk)) [0, 1, 2, 3, 4, 5, 6, 7, 8, 9, 10, 11] (by kernel_rfl) (by kernel_rfl) ⟨P3.head.cell 2 rfl, P3.head.cell 10 rfl⟩ ?_
      generalize (W2.setCell ⟨p, 9, none⟩ (.bool false)).drew = W3 at P3 ⊢
      have hc2 : 0 ≤ up64b tk ∧ up64b tk < 18446744073709551616 := by unfold up64b; rw [IntKind.wrap_u64]; omega
      obtain ⟨acc, hY⟩ := P3.r.m.x
      have y1 := hY.wld.cell 1 rfl
      have z1 := hY.wld.free 1
      clear hY
      obtain ⟨m4, mv4⟩ := P3.r.clockd (up64b tk) hc2
      have P4 := P3.doc m4 mv4
      have hue : IntKind.u64.wrap (tk + 2) = up64b tk := rfl
      obtain ⟨c9, hc9⟩ : ∃ c9, up64b tk = c9 := ⟨_, rfl⟩
      rw [hc9] at hue hc2 P4
      have HC9 := Lib.hid hc9
      clear m4 mv4 hc9
      repeat
        first
          | (refine wpB_skip rfl (by kernel_rfl) (by rfl) ?_)
          | ((refine wpB_take (v := ?_) rfl rfl (by kernel_rfl) (by rfl) ?_ ?_); rotate_left 1; (· ((intro w hSw; (try dsimp only at hSw); go_simp); try with_reducible rfl)))
        try simp only [Act.put, List.setIfInBounds_toArray, List.set_cons_zero, List.set_cons_succ]
      refine wpB_eff rfl (by kernel_rfl) (by rfl) (fun K2 hK2 => ?_)
      go_simp
      refine hK2.out _ _ ⟨P4.head.cell 2 rfl, P4.head.cell 10 rfl⟩ ?_
      clear hK2 K2 y1 z1 P3
      refine wpB_end (by kernel_rfl) (NoPanic.normal ?_)
      generalize W3.setCell ⟨Y.wb, 1, none⟩ (.int .u64 c9) = W4 at P4 ⊢
      go_wp2_with fail
      replace P4 := P4.free0 ((Upd.refl [] _).drew)
      refine wp_region_br (fun W' => W'.cell? ⟨p, 1, none⟩ = some (.pointer (some ⟨X.ca, 0, none⟩)) ∧ W'.cell? ⟨p, 10, none⟩ = some (.int .u64 tk)) [0, 1, 2, 3, 4, 5, 6, 7, 8, 9, 10, 11] (by kernel_rfl) (by kernel_rfl) ⟨P4.head.cell 1 rfl, P4.head.cell 10 rfl⟩ ?_
      generalize W4.drew = W5 at P4 ⊢
      repeat
        first
          | (refine wpB_skip rfl (by kernel_rfl) (by rfl) ?_)
          | ((refine wpB_take (v := ?_) rfl rfl (by kernel_rfl) (by rfl) ?_ ?_); rotate_left 1; (· ((intro w hSw; (try dsimp only at hSw); go_simp); try with_reducible rfl)))
        try simp only [Act.put, List.setIfInBounds_toArray, List.set_cons_zero, List.set_cons_succ]
      refine wpB_eff rfl (by kernel_rfl) (by rfl) (fun K2 hK2 => ?_)
      go_simp
      have hh : holds sh.clock tk = true := by unfold holds; rw [HOP.out]; unfold up64; rw [HUP.out, HQ.out]; simp
      refine (pleave P4.m tk c9 hh HC9.out hc2).mono ?_
      rintro e W6 ⟨rfl, m6, mv6⟩
      have P6 := P4.prog m6 mv6
      refine hK2.out _ _ ⟨P6.head.cell 1 rfl, P6.head.cell 10 rfl⟩ ?_
      clear hK2 K2 m6 mv6 P4 hh
      refine wpB_eff rfl (by kernel_rfl) (by rfl) (fun K2 hK2 => ?_)
      go_simp
      refine (num07 _ _).mono ?_
      rintro e w' ⟨rfl, rfl⟩
      refine hK2.out _ _ ⟨P6.head.cell 1 rfl, P6.head.cell 10 rfl⟩ ?_
      clear hK2 K2
      have HP := Lib.hid (show PS w0 p X Y ⟨sh.row, c9⟩ att ratt false tk W6 from ⟨P6, HSM.out, htk⟩)
      clear P6
      repeat
        first
          | (refine wpB_skip rfl (by kernel_rfl) (by rfl) ?_)
          | ((refine wpB_take (v := ?_) rfl rfl (by kernel_rfl) (by rfl) ?_ ?_); rotate_left 1; (· ((intro w hSw; (try dsimp only at hSw); go_simp); try with_reducible rfl)))
        try simp only [Act.put, List.setIfInBounds_toArray, List.set_cons_zero, List.set_cons_succ]
      refine wpB_end (by kernel_rfl) (NoPanic.normal ?_)
      go_wp2_with fail
      exact ⟨rfl, _, _, _, HP.out, HPAR.out⟩
    · have hb : (sh.clock == tk + 1) = false := by simp [hq]
      clear hq
      repeat
        first
          | (refine wpB_skip rfl (by kernel_rfl) (by rfl) ?_)
          | ((refine wpB_take (v := ?_) rfl rfl (by kernel_rfl) (by rfl) ?_ ?_); rotate_left 1; (· ((intro w hSw; (try dsimp only at hSw); go_simp); try with_reducible rfl)))
        try simp only [Act.put, List.setIfInBounds_toArray, List.set_cons_zero, List.set_cons_succ]
      refine wpB_end (by kernel_rfl) (NoPanic.normal ?_)
      have HP := Lib.hid (show PS w0 p X Y sh att ratt true tk W2 from ⟨P1, HSM.out, htk⟩)
      clear P1
      go_wp2_with fail
      exact ⟨rfl, _, _, _, HP.out, HPAR.out⟩
end Go.Proofs.Ythfeljongackcaa
set_option linter.unusedSimpArgs false
set_option linter.unusedVariables false
set_option maxRecDepth 100000
namespace Go.Proofs.Ythfeljongackcaa
open Go.RowKit
open Go.Maps
section
variable {w0 W W' : World} {X : SX} {Y : RX} {sh rsh sh' : Sh} {att ratt : Atts} {p : Nat} {hd : List Value}
theorem pcopy (h : PH w0 X sh att W) (i j : Nat) {a : Nat} {s : AS} {F : List Nat} (hi : att i = some (a, s, F)) : Calls Try.prog 57 #[.pointer (ptrO (att i)), .pointer (some ⟨X.ra, 0, none⟩), .pointer (some ⟨X.ca, 0, none⟩)] W fun e W' => ∃ o, e = .returned (.pointer (ptrO o)) ∧ PTake w0 W X sh att j (some s) o W' := by
  rw [hi]
  obtain ⟨acc, st, rv, wv, mv, hL⟩ := h.m.hL i a s F hi
  refine (copy_live hL (h.may i a s F hi)).mono fun e w' ⟨q, he, a', F', hq, hL2, hu, ha, hF⟩ => ?_
  subst hq
  obtain ⟨k1, k2⟩ := h.set j hL2 (hu.mono (by simp)) (fun g hg => by rcases List.mem_cons.1 hg with e | e; omega; exact hF g e) (h.may i a s F hi)
  exact ⟨some (a', s, F'), he, k1, k2, rfl⟩
theorem rcopyP (h : RH w0 Y sh att W) (i j : Nat) {a : Nat} {s : AS} {F : List Nat} (hi : att i = some (a, s, F)) : Calls Try.prog 62 #[.pointer (ptrO (att i))] W fun e W' => ∃ o, e = .returned (.pointer (ptrO o)) ∧ RTake w0 W Y sh att j (some s) o W' := by
  rw [hi]
  obtain ⟨acc, rv, wv, hL⟩ := h.m.hL i a s F hi
  refine (rcopy_live hL (h.may i a s F hi)).mono fun e w' ⟨q, he, a', F', hq, hL2, hu, ha, hF⟩ => ?_
  subst hq
  obtain ⟨k1, k2⟩ := h.set j hL2 (hu.mono (by simp)) (fun g hg => by rcases List.mem_cons.1 hg with e | e; omega; exact hF g e) (h.may i a s F hi)
  exact ⟨some (a', s, F'), he, k1, k2, rfl⟩
end
end Go.Proofs.Ythfeljongackcaa
set_option linter.unusedSimpArgs false
set_option linter.unusedVariables false
set_option maxRecDepth 100000
namespace Go.Proofs.Ythfeljongackcaa
open Go.RowKit
open Go.Maps
def pl3 (n : Int) : Nat := (n % 3).toNat
theorem place7_any (n : Int) (w : World) (hn : -9223372036854775808 ≤ n ∧ n ≤ 9223372036854775807) : Calls Try.prog 59 #[.int .i64 n] w fun e w' => e = .returned (.int .i64 (pl3 n)) ∧ w = w' := by
  have h1 := Int.lt_tmod_of_pos n (b := 3) (by omega)
  have h2 := Int.tmod_lt_of_pos n (b := 3) (by omega)
  have ht : n = 3 * (n.tdiv 3) + n.tmod 3 := by have := Int.mul_tdiv_add_tmod n 3; omega
  by_cases h0 : n.tmod 3 < 0
  · have hd : decide (n.tmod 3 < 0) = true := by simpa using h0
    have hr : n.tmod 3 + 3 = (pl3 n : Int) := by unfold pl3; omega
    have HR := Lib.hid hr
    clear hr ht h0
    refine calls_all fun K hK => ?_
    go_enter Try.func59, Try.ntmps59
    go_wp2_with fail
    all_goals first | (refine ⟨?_, rfl⟩; rw [HR.out]) | simp only [HR.out] | (simp only [HR.out]; exact ⟨rfl, rfl⟩)
  · have hd : decide (n.tmod 3 < 0) = false := by simpa using h0
    have hr : n.tmod 3 = (pl3 n : Int) := by unfold pl3; omega
    have HR := Lib.hid hr
    clear hr ht h0
    refine calls_all fun K hK => ?_
    go_enter Try.func59, Try.ntmps59
    go_wp2_with fail
    exact HR.out
theorem pl3_lt (n : Int) : pl3 n < 3 := by unfold pl3; omega
end Go.Proofs.Ythfeljongackcaa
set_option linter.unusedSimpArgs false
set_option linter.unusedVariables false
set_option maxRecDepth 100000
namespace Go.Proofs.Ythfeljongackcaa
open Go.RowKit
open Go.Maps

def DoesOk (w0 : World) (p : Nat) (X : SX) (Y : RX) (e : Ending) (W' : World) : Prop :=
  e = .returned (.bool true) ∧ ∃ sh' att' ratt' held' tk', PS w0 p X Y sh' att' ratt' held' tk' W' ∧ tk' % 2 = 0
theorem PS.free0 {w0 W W' : World} {p : Nat} {X : SX} {Y : RX} {sh : Sh} {att ratt : Atts} {held : Bool} {tk : Int} (h : PS w0 p X Y sh att ratt held tk W) (u : Upd [] W W') : PS w0 p X Y sh att ratt held tk W' := ⟨h.pl.free0 u, h.same, h.tkw⟩
set_option maxHeartbeats 1000000 in
theorem does_begin {w0 W : World} {p : Nat} {X : SX} {Y : RX} {sh : Sh} {att ratt : Atts} {held : Bool} {tk : Int} (h : PS w0 p X Y sh att ratt held tk W) (hpar : tk % 2 = 0) (who dst addr word : Int) (hwho : -9223372036854775808 ≤ who ∧ who ≤ 9223372036854775807) (hdst : -9223372036854775808 ≤ dst ∧ dst ≤ 9223372036854775807) :
    Calls Try.prog 25 #[.pointer (some ⟨p, 0, none⟩), .agg (stepC 1 who dst addr word).toArray] W (DoesOk w0 p X Y) := by
  obtain ⟨W1, hW1⟩ : ∃ W1, W.alloc (.cells (stepC 1 who dst addr word).toArray 79) = W1 := ⟨_, rfl⟩
  have u1 : Upd [] W W1 := by rw [← hW1]; exact (Upd.refl [] _).alloc _
  have B1 : Blk W1 W.heap.size (stepC 1 who dst addr word) 79 := by rw [← hW1]; exact Blk.new W _ _
  replace h := h.free0 u1
  simp only [stepC] at hW1 ⊢
  clear u1
  refine calls_all fun K hK => ?_
  go_enter Try.func25, Try.ntmps25
  go_wp2_with fail
  clear hW1
  replace h := h.free0 ((Upd.refl [] W1).drew)
  replace B1 := B1.drew
  generalize W.heap.size = sb at *
  refine wp_region_br (fun W' => W'.cell? ⟨sb, 1, none⟩ = some (.int .i64 who) ∧ W'.cell? ⟨sb, 2, none⟩ = some (.int .i64 dst)) [0, 1, 3, 4, 2, 5, 6, 7] (by kernel_rfl) (by kernel_rfl) ⟨B1.cell 1 rfl, B1.cell 2 rfl⟩ ?_
  generalize W1.drew = W2 at h B1 ⊢
  repeat
    first
      | (refine wpB_skip rfl (by kernel_rfl) (by rfl) ?_)
      | ((refine wpB_take (v := ?_) rfl rfl (by kernel_rfl) (by rfl) ?_ ?_); rotate_left 1; (· ((intro w hSw; (try dsimp only at hSw); go_simp); try with_reducible rfl)))
    try simp only [Act.put, List.setIfInBounds_toArray, List.set_cons_zero, List.set_cons_succ]
  refine wpB_eff rfl (by kernel_rfl) (by rfl) (fun K2 hK2 => ?_)
  go_simp
  refine (place7_any who W2 hwho).mono ?_
  rintro e w' ⟨rfl, rfl⟩
  refine hK2.out _ _ ⟨B1.cell 1 rfl, B1.cell 2 rfl⟩ ?_
  clear hK2 K2
  refine wpB_eff rfl (by kernel_rfl) (by rfl) (fun K2 hK2 => ?_)
  go_simp
  refine (place7_any dst W2 hdst).mono ?_
  rintro e w' ⟨rfl, rfl⟩
  refine hK2.out _ _ ⟨B1.cell 1 rfl, B1.cell 2 rfl⟩ ?_
  clear hK2 K2
  repeat
    first
      | (refine wpB_skip rfl (by kernel_rfl) (by rfl) ?_)
      | ((refine wpB_take (v := ?_) rfl rfl (by kernel_rfl) (by rfl) ?_ ?_); rotate_left 1; (· ((intro w hSw; (try dsimp only at hSw); go_simp); try with_reducible rfl)))
    try simp only [Act.put, List.setIfInBounds_toArray, List.set_cons_zero, List.set_cons_succ]
  refine wpB_end (by kernel_rfl) (NoPanic.normal ?_)
  have k0 := B1.cell 0 rfl
  have H := Lib.hid h
  have HPAR := Lib.hid hpar
  clear h hpar
  go_wp2_with fail
  refine (begins_code H.out (pl3 who) (pl3_lt who)).mono ?_
  rintro e W3 ⟨rfl, sh3, att3, ratt3, h3⟩
  clear H k0 B1
  have H3 := Lib.hid h3
  clear h3
  go_wp2_with fail
  refine (alike_code H3.out (pl3 who) (pl3_lt who)).mono ?_
  rintro e W4 ⟨rfl, h4⟩
  have H4 := Lib.hid h4
  clear h4 H3
  go_wp2_with fail
  exact ⟨rfl, _, _, _, _, _, H4.out, HPAR.out⟩
set_option maxHeartbeats 1000000 in
theorem does_again {w0 W : World} {p : Nat} {X : SX} {Y : RX} {sh : Sh} {att ratt : Atts} {held : Bool} {tk : Int} (h : PS w0 p X Y sh att ratt held tk W) (hpar : tk % 2 = 0) (who dst addr word : Int) (hwho : -9223372036854775808 ≤ who ∧ who ≤ 9223372036854775807) (hdst : -9223372036854775808 ≤ dst ∧ dst ≤ 9223372036854775807) :
    Calls Try.prog 25 #[.pointer (some ⟨p, 0, none⟩), .agg (stepC 7 who dst addr word).toArray] W (DoesOk w0 p X Y) := by
  obtain ⟨W1, hW1⟩ : ∃ W1, W.alloc (.cells (stepC 7 who dst addr word).toArray 79) = W1 := ⟨_, rfl⟩
  have u1 : Upd [] W W1 := by rw [← hW1]; exact (Upd.refl [] _).alloc _
  have B1 : Blk W1 W.heap.size (stepC 7 who dst addr word) 79 := by rw [← hW1]; exact Blk.new W _ _
  replace h := h.free0 u1
  simp only [stepC] at hW1 ⊢
  clear u1
  refine calls_all fun K hK => ?_
  go_enter Try.func25, Try.ntmps25
  go_wp2_with fail
  clear hW1
  replace h := h.free0 ((Upd.refl [] W1).drew)
  replace B1 := B1.drew
  generalize W.heap.size = sb at *
  refine wp_region_br (fun W' => W'.cell? ⟨sb, 1, none⟩ = some (.int .i64 who) ∧ W'.cell? ⟨sb, 2, none⟩ = some (.int .i64 dst)) [0, 1, 3, 4, 2, 5, 6, 7] (by kernel_rfl) (by kernel_rfl) ⟨B1.cell 1 rfl, B1.cell 2 rfl⟩ ?_
  generalize W1.drew = W2 at h B1 ⊢
  repeat
    first
      | (refine wpB_skip rfl (by kernel_rfl) (by rfl) ?_)
      | ((refine wpB_take (v := ?_) rfl rfl (by kernel_rfl) (by rfl) ?_ ?_); rotate_left 1; (· ((intro w hSw; (try dsimp only at hSw); go_simp); try with_reducible rfl)))
    try simp only [Act.put, List.setIfInBounds_toArray, List.set_cons_zero, List.set_cons_succ]
  refine wpB_eff rfl (by kernel_rfl) (by rfl) (fun K2 hK2 => ?_)
  go_simp
  refine (place7_any who W2 hwho).mono ?_
  rintro e w' ⟨rfl, rfl⟩
  refine hK2.out _ _ ⟨B1.cell 1 rfl, B1.cell 2 rfl⟩ ?_
  clear hK2 K2
  refine wpB_eff rfl (by kernel_rfl) (by rfl) (fun K2 hK2 => ?_)
  go_simp
  refine (place7_any dst W2 hdst).mono ?_
  rintro e w' ⟨rfl, rfl⟩
  refine hK2.out _ _ ⟨B1.cell 1 rfl, B1.cell 2 rfl⟩ ?_
  clear hK2 K2
  repeat
    first
      | (refine wpB_skip rfl (by kernel_rfl) (by rfl) ?_)
      | ((refine wpB_take (v := ?_) rfl rfl (by kernel_rfl) (by rfl) ?_ ?_); rotate_left 1; (· ((intro w hSw; (try dsimp only at hSw); go_simp); try with_reducible rfl)))
    try simp only [Act.put, List.setIfInBounds_toArray, List.set_cons_zero, List.set_cons_succ]
  refine wpB_end (by kernel_rfl) (NoPanic.normal ?_)
  have k0 := B1.cell 0 rfl
  have H := Lib.hid h
  have HPAR := Lib.hid hpar
  clear h hpar
  go_wp2_with fail
  refine (again_code H.out (pl3 who) (pl3_lt who)).mono ?_
  rintro e W3 ⟨rfl, sh3, att3, ratt3, h3⟩
  clear H k0 B1
  have H3 := Lib.hid h3
  clear h3
  go_wp2_with fail
  refine (alike_code H3.out (pl3 who) (pl3_lt who)).mono ?_
  rintro e W4 ⟨rfl, h4⟩
  have H4 := Lib.hid h4
  clear h4 H3
  go_wp2_with fail
  exact ⟨rfl, _, _, _, _, _, H4.out, HPAR.out⟩
end Go.Proofs.Ythfeljongackcaa
set_option linter.unusedSimpArgs false
set_option linter.unusedVariables false
set_option maxRecDepth 100000
namespace Go.Proofs.Ythfeljongackcaa
open Go.RowKit
open Go.Maps

set_option maxHeartbeats 1000000 in
theorem does_store {w0 W : World} {p : Nat} {X : SX} {Y : RX} {sh : Sh} {att ratt : Atts} {held : Bool} {tk : Int} (h : PS w0 p X Y sh att ratt held tk W) (hpar : tk % 2 = 0) (who dst addr word : Int) (hwho : -9223372036854775808 ≤ who ∧ who ≤ 9223372036854775807) (hdst : -9223372036854775808 ≤ dst ∧ dst ≤ 9223372036854775807) (ha : 0 ≤ addr ∧ addr < 18446744073709551616) (hv : 0 ≤ word ∧ word < 18446744073709551616) :
    Calls Try.prog 25 #[.pointer (some ⟨p, 0, none⟩), .agg (stepC 9 who dst addr word).toArray] W (DoesOk w0 p X Y) := by
  obtain ⟨W1, hW1⟩ : ∃ W1, W.alloc (.cells (stepC 9 who dst addr word).toArray 79) = W1 := ⟨_, rfl⟩
  have u1 : Upd [] W W1 := by rw [← hW1]; exact (Upd.refl [] _).alloc _
  have B1 : Blk W1 W.heap.size (stepC 9 who dst addr word) 79 := by rw [← hW1]; exact Blk.new W _ _
  replace h := h.free0 u1
  simp only [stepC] at hW1 ⊢
  clear u1
  refine calls_all fun K hK => ?_
  go_enter Try.func25, Try.ntmps25
  go_wp2_with fail
  clear hW1
  replace h := h.free0 ((Upd.refl [] W1).drew)
  replace B1 := B1.drew
  generalize W.heap.size = sb at *
  refine wp_region_br (fun W' => W'.cell? ⟨sb, 1, none⟩ = some (.int .i64 who) ∧ W'.cell? ⟨sb, 2, none⟩ = some (.int .i64 dst)) [0, 1, 3, 4, 2, 5, 6, 7] (by kernel_rfl) (by kernel_rfl) ⟨B1.cell 1 rfl, B1.cell 2 rfl⟩ ?_
  generalize W1.drew = W2 at h B1 ⊢
  repeat
    first
      | (refine wpB_skip rfl (by kernel_rfl) (by rfl) ?_)
      | ((refine wpB_take (v := ?_) rfl rfl (by kernel_rfl) (by rfl) ?_ ?_); rotate_left 1; (· ((intro w hSw; (try dsimp only at hSw); go_simp); try with_reducible rfl)))
    try simp only [Act.put, List.setIfInBounds_toArray, List.set_cons_zero, List.set_cons_succ]
  refine wpB_eff rfl (by kernel_rfl) (by rfl) (fun K2 hK2 => ?_)
  go_simp
  refine (place7_any who W2 hwho).mono ?_
  rintro e w' ⟨rfl, rfl⟩
  refine hK2.out _ _ ⟨B1.cell 1 rfl, B1.cell 2 rfl⟩ ?_
  clear hK2 K2
  refine wpB_eff rfl (by kernel_rfl) (by rfl) (fun K2 hK2 => ?_)
  go_simp
  refine (place7_any dst W2 hdst).mono ?_
  rintro e w' ⟨rfl, rfl⟩
  refine hK2.out _ _ ⟨B1.cell 1 rfl, B1.cell 2 rfl⟩ ?_
  clear hK2 K2
  repeat
    first
      | (refine wpB_skip rfl (by kernel_rfl) (by rfl) ?_)
      | ((refine wpB_take (v := ?_) rfl rfl (by kernel_rfl) (by rfl) ?_ ?_); rotate_left 1; (· ((intro w hSw; (try dsimp only at hSw); go_simp); try with_reducible rfl)))
    try simp only [Act.put, List.setIfInBounds_toArray, List.set_cons_zero, List.set_cons_succ]
  refine wpB_end (by kernel_rfl) (NoPanic.normal ?_)
  have k0 := B1.cell 0 rfl
  have k1 := B1.cell 1 rfl
  have k2 := B1.cell 2 rfl
  have k3 := B1.cell 3 rfl
  have k4 := B1.cell 4 rfl
  have H := Lib.hid h
  have HPAR := Lib.hid hpar
  clear h hpar
  go_wp2_with fail
  refine (others_store H.out HPAR.out who dst addr word ha hv).mono ?_
  rintro e W3 ⟨rfl, sh3, held3, tk3, h3, hp3⟩
  clear H k0 k1 k2 k3 k4 B1
  have H3 := Lib.hid h3
  have HP3 := Lib.hid hp3
  clear h3 hp3
  go_wp2_with fail
  refine (alike_code H3.out (pl3 who) (pl3_lt who)).mono ?_
  rintro e W4 ⟨rfl, h4⟩
  have H4 := Lib.hid h4
  clear h4 H3
  go_wp2_with fail
  exact ⟨rfl, _, _, _, _, _, H4.out, HP3.out⟩
set_option maxHeartbeats 1000000 in
theorem does_take {w0 W : World} {p : Nat} {X : SX} {Y : RX} {sh : Sh} {att ratt : Atts} {held : Bool} {tk : Int} (h : PS w0 p X Y sh att ratt held tk W) (hpar : tk % 2 = 0) (who dst addr word : Int) (hwho : -9223372036854775808 ≤ who ∧ who ≤ 9223372036854775807) (hdst : -9223372036854775808 ≤ dst ∧ dst ≤ 9223372036854775807) :
    Calls Try.prog 25 #[.pointer (some ⟨p, 0, none⟩), .agg (stepC 10 who dst addr word).toArray] W (DoesOk w0 p X Y) := by
  obtain ⟨W1, hW1⟩ : ∃ W1, W.alloc (.cells (stepC 10 who dst addr word).toArray 79) = W1 := ⟨_, rfl⟩
  have u1 : Upd [] W W1 := by rw [← hW1]; exact (Upd.refl [] _).alloc _
  have B1 : Blk W1 W.heap.size (stepC 10 who dst addr word) 79 := by rw [← hW1]; exact Blk.new W _ _
  replace h := h.free0 u1
  simp only [stepC] at hW1 ⊢
  clear u1
  refine calls_all fun K hK => ?_
  go_enter Try.func25, Try.ntmps25
  go_wp2_with fail
  clear hW1
  replace h := h.free0 ((Upd.refl [] W1).drew)
  replace B1 := B1.drew
  generalize W.heap.size = sb at *
  refine wp_region_br (fun W' => W'.cell? ⟨sb, 1, none⟩ = some (.int .i64 who) ∧ W'.cell? ⟨sb, 2, none⟩ = some (.int .i64 dst)) [0, 1, 3, 4, 2, 5, 6, 7] (by kernel_rfl) (by kernel_rfl) ⟨B1.cell 1 rfl, B1.cell 2 rfl⟩ ?_
  generalize W1.drew = W2 at h B1 ⊢
  repeat
    first
      | (refine wpB_skip rfl (by kernel_rfl) (by rfl) ?_)
      | ((refine wpB_take (v := ?_) rfl rfl (by kernel_rfl) (by rfl) ?_ ?_); rotate_left 1; (· ((intro w hSw; (try dsimp only at hSw); go_simp); try with_reducible rfl)))
    try simp only [Act.put, List.setIfInBounds_toArray, List.set_cons_zero, List.set_cons_succ]
  refine wpB_eff rfl (by kernel_rfl) (by rfl) (fun K2 hK2 => ?_)
  go_simp
  refine (place7_any who W2 hwho).mono ?_
  rintro e w' ⟨rfl, rfl⟩
  refine hK2.out _ _ ⟨B1.cell 1 rfl, B1.cell 2 rfl⟩ ?_
  clear hK2 K2
  refine wpB_eff rfl (by kernel_rfl) (by rfl) (fun K2 hK2 => ?_)
  go_simp
  refine (place7_any dst W2 hdst).mono ?_
  rintro e w' ⟨rfl, rfl⟩
  refine hK2.out _ _ ⟨B1.cell 1 rfl, B1.cell 2 rfl⟩ ?_
  clear hK2 K2
  repeat
    first
      | (refine wpB_skip rfl (by kernel_rfl) (by rfl) ?_)
      | ((refine wpB_take (v := ?_) rfl rfl (by kernel_rfl) (by rfl) ?_ ?_); rotate_left 1; (· ((intro w hSw; (try dsimp only at hSw); go_simp); try with_reducible rfl)))
    try simp only [Act.put, List.setIfInBounds_toArray, List.set_cons_zero, List.set_cons_succ]
  refine wpB_end (by kernel_rfl) (NoPanic.normal ?_)
  have k0 := B1.cell 0 rfl
  have k1 := B1.cell 1 rfl
  have k2 := B1.cell 2 rfl
  have k3 := B1.cell 3 rfl
  have k4 := B1.cell 4 rfl
  have H := Lib.hid h
  have HPAR := Lib.hid hpar
  clear h hpar
  go_wp2_with fail
  refine (others_take H.out HPAR.out who dst addr word).mono ?_
  rintro e W3 ⟨rfl, sh3, held3, tk3, h3, hp3⟩
  clear H k0 k1 k2 k3 k4 B1
  have H3 := Lib.hid h3
  have HP3 := Lib.hid hp3
  clear h3 hp3
  go_wp2_with fail
  refine (alike_code H3.out (pl3 who) (pl3_lt who)).mono ?_
  rintro e W4 ⟨rfl, h4⟩
  have H4 := Lib.hid h4
  clear h4 H3
  go_wp2_with fail
  exact ⟨rfl, _, _, _, _, _, H4.out, HP3.out⟩
set_option maxHeartbeats 1000000 in
theorem does_leave {w0 W : World} {p : Nat} {X : SX} {Y : RX} {sh : Sh} {att ratt : Atts} {held : Bool} {tk : Int} (h : PS w0 p X Y sh att ratt held tk W) (hpar : tk % 2 = 0) (who dst addr word : Int) (hwho : -9223372036854775808 ≤ who ∧ who ≤ 9223372036854775807) (hdst : -9223372036854775808 ≤ dst ∧ dst ≤ 9223372036854775807) :
    Calls Try.prog 25 #[.pointer (some ⟨p, 0, none⟩), .agg (stepC 11 who dst addr word).toArray] W (DoesOk w0 p X Y) := by
  obtain ⟨W1, hW1⟩ : ∃ W1, W.alloc (.cells (stepC 11 who dst addr word).toArray 79) = W1 := ⟨_, rfl⟩
  have u1 : Upd [] W W1 := by rw [← hW1]; exact (Upd.refl [] _).alloc _
  have B1 : Blk W1 W.heap.size (stepC 11 who dst addr word) 79 := by rw [← hW1]; exact Blk.new W _ _
  replace h := h.free0 u1
  simp only [stepC] at hW1 ⊢
  clear u1
  refine calls_all fun K hK => ?_
  go_enter Try.func25, Try.ntmps25
  go_wp2_with fail
  clear hW1
  replace h := h.free0 ((Upd.refl [] W1).drew)
  replace B1 := B1.drew
  generalize W.heap.size = sb at *
  refine wp_region_br (fun W' => W'.cell? ⟨sb, 1, none⟩ = some (.int .i64 who) ∧ W'.cell? ⟨sb, 2, none⟩ = some (.int .i64 dst)) [0, 1, 3, 4, 2, 5, 6, 7] (by kernel_rfl) (by kernel_rfl) ⟨B1.cell 1 rfl, B1.cell 2 rfl⟩ ?_
  generalize W1.drew = W2 at h B1 ⊢
  repeat
    first
      | (refine wpB_skip rfl (by kernel_rfl) (by rfl) ?_)
      | ((refine wpB_take (v := ?_) rfl rfl (by kernel_rfl) (by rfl) ?_ ?_); rotate_left 1; (· ((intro w hSw; (try dsimp only at hSw); go_simp); try with_reducible rfl)))
    try simp only [Act.put, List.setIfInBounds_toArray, List.set_cons_zero, List.set_cons_succ]
  refine wpB_eff rfl (by kernel_rfl) (by rfl) (fun K2 hK2 => ?_)
  go_simp
  refine (place7_any who W2 hwho).mono ?_
  rintro e w' ⟨rfl, rfl⟩
  refine hK2.out _ _ ⟨B1.cell 1 rfl, B1.cell 2 rfl⟩ ?_
  clear hK2 K2
  refine wpB_eff rfl (by kernel_rfl) (by rfl) (fun K2 hK2 => ?_)
  go_simp
  refine (place7_any dst W2 hdst).mono ?_
  rintro e w' ⟨rfl, rfl⟩
  refine hK2.out _ _ ⟨B1.cell 1 rfl, B1.cell 2 rfl⟩ ?_
  clear hK2 K2
  repeat
    first
      | (refine wpB_skip rfl (by kernel_rfl) (by rfl) ?_)
      | ((refine wpB_take (v := ?_) rfl rfl (by kernel_rfl) (by rfl) ?_ ?_); rotate_left 1; (· ((intro w hSw; (try dsimp only at hSw); go_simp); try with_reducible rfl)))
    try simp only [Act.put, List.setIfInBounds_toArray, List.set_cons_zero, List.set_cons_succ]
  refine wpB_end (by kernel_rfl) (NoPanic.normal ?_)
  have k0 := B1.cell 0 rfl
  have k1 := B1.cell 1 rfl
  have k2 := B1.cell 2 rfl
  have k3 := B1.cell 3 rfl
  have k4 := B1.cell 4 rfl
  have H := Lib.hid h
  have HPAR := Lib.hid hpar
  clear h hpar
  go_wp2_with fail
  refine (others_leave H.out HPAR.out who dst addr word).mono ?_
  rintro e W3 ⟨rfl, sh3, held3, tk3, h3, hp3⟩
  clear H k0 k1 k2 k3 k4 B1
  have H3 := Lib.hid h3
  have HP3 := Lib.hid hp3
  clear h3 hp3
  go_wp2_with fail
  refine (alike_code H3.out (pl3 who) (pl3_lt who)).mono ?_
  rintro e W4 ⟨rfl, h4⟩
  have H4 := Lib.hid h4
  clear h4 H3
  go_wp2_with fail
  exact ⟨rfl, _, _, _, _, _, H4.out, HP3.out⟩
end Go.Proofs.Ythfeljongackcaa
set_option linter.unusedSimpArgs false
set_option linter.unusedVariables false
set_option maxRecDepth 100000
namespace Go.Proofs.Ythfeljongackcaa
open Go.RowKit
open Go.Maps

set_option maxHeartbeats 1000000 in
theorem does_own {w0 W : World} {p : Nat} {X : SX} {Y : RX} {sh : Sh} {att ratt : Atts} {held : Bool} {tk : Int} (h : PS w0 p X Y sh att ratt held tk W) (hpar : tk % 2 = 0) (kind who dst addr word : Int) (hk : (kind == 1) = false ∧ (kind == 7) = false ∧ (kind == 8) = false ∧ ¬ (9 ≤ kind ∧ kind ≤ 11)) (hwho : -9223372036854775808 ≤ who ∧ who ≤ 9223372036854775807) (hdst : -9223372036854775808 ≤ dst ∧ dst ≤ 9223372036854775807) (ha : 0 ≤ addr ∧ addr < 18446744073709551616) (hv : 0 ≤ word ∧ word < 18446744073709551616) :
    Calls Try.prog 25 #[.pointer (some ⟨p, 0, none⟩), .agg (stepC kind who dst addr word).toArray] W (DoesOk w0 p X Y) := by
  obtain ⟨W1, hW1⟩ : ∃ W1, W.alloc (.cells (stepC kind who dst addr word).toArray 79) = W1 := ⟨_, rfl⟩
  have u1 : Upd [] W W1 := by rw [← hW1]; exact (Upd.refl [] _).alloc _
  have B1 : Blk W1 W.heap.size (stepC kind who dst addr word) 79 := by rw [← hW1]; exact Blk.new W _ _
  replace h := h.free0 u1
  simp only [stepC] at hW1 ⊢
  clear u1
  refine calls_all fun K hK => ?_
  go_enter Try.func25, Try.ntmps25
  go_wp2_with fail
  clear hW1
  replace h := h.free0 ((Upd.refl [] W1).drew)
  replace B1 := B1.drew
  generalize W.heap.size = sb at *
  refine wp_region_br (fun W' => W'.cell? ⟨sb, 1, none⟩ = some (.int .i64 who) ∧ W'.cell? ⟨sb, 2, none⟩ = some (.int .i64 dst)) [0, 1, 3, 4, 2, 5, 6, 7] (by kernel_rfl) (by kernel_rfl) ⟨B1.cell 1 rfl, B1.cell 2 rfl⟩ ?_
  generalize W1.drew = W2 at h B1 ⊢
  repeat
    first
      | (refine wpB_skip rfl (by kernel_rfl) (by rfl) ?_)
      | ((refine wpB_take (v := ?_) rfl rfl (by kernel_rfl) (by rfl) ?_ ?_); rotate_left 1; (· ((intro w hSw; (try dsimp only at hSw); go_simp); try with_reducible rfl)))
    try simp only [Act.put, List.setIfInBounds_toArray, List.set_cons_zero, List.set_cons_succ]
  refine wpB_eff rfl (by kernel_rfl) (by rfl) (fun K2 hK2 => ?_)
  go_simp
  refine (place7_any who W2 hwho).mono ?_
  rintro e w' ⟨rfl, rfl⟩
  refine hK2.out _ _ ⟨B1.cell 1 rfl, B1.cell 2 rfl⟩ ?_
  clear hK2 K2
  refine wpB_eff rfl (by kernel_rfl) (by rfl) (fun K2 hK2 => ?_)
  go_simp
  refine (place7_any dst W2 hdst).mono ?_
  rintro e w' ⟨rfl, rfl⟩
  refine hK2.out _ _ ⟨B1.cell 1 rfl, B1.cell 2 rfl⟩ ?_
  clear hK2 K2
  repeat
    first
      | (refine wpB_skip rfl (by kernel_rfl) (by rfl) ?_)
      | ((refine wpB_take (v := ?_) rfl rfl (by kernel_rfl) (by rfl) ?_ ?_); rotate_left 1; (· ((intro w hSw; (try dsimp only at hSw); go_simp); try with_reducible rfl)))
    try simp only [Act.put, List.setIfInBounds_toArray, List.set_cons_zero, List.set_cons_succ]
  refine wpB_end (by kernel_rfl) (NoPanic.normal ?_)
  have k0 := B1.cell 0 rfl
  have k1 := B1.cell 1 rfl
  have k2 := B1.cell 2 rfl
  have k3 := B1.cell 3 rfl
  have k4 := B1.cell 4 rfl
  have H := Lib.hid h
  have HPAR := Lib.hid hpar
  obtain ⟨e1, e7, e8, e9⟩ := hk
  clear h hpar
  by_cases h9 : 9 ≤ kind
  · have h11 : ¬ kind ≤ 11 := fun q => e9 ⟨h9, q⟩
    have g9 : decide (9 ≤ kind) = true := by simpa using h9
    have g11 : decide (kind ≤ 11) = false := by simpa using h11
    clear e9
    go_wp2_with fail
    refine (own_any H.out (pl3 who) (pl3_lt who) kind who dst addr word ha hv).mono ?_
    rintro e W3 ⟨rfl, sh3, att3, ratt3, h3⟩
    clear H k0 k1 k2 k3 k4 B1
    have H3 := Lib.hid h3
    clear h3
    go_wp2_with fail
    refine (alike_code H3.out (pl3 who) (pl3_lt who)).mono ?_
    rintro e W4 ⟨rfl, h4⟩
    have H4 := Lib.hid h4
    clear h4 H3
    go_wp2_with fail
    exact ⟨rfl, _, _, _, _, _, H4.out, HPAR.out⟩
  · have g9 : decide (9 ≤ kind) = false := by simpa using h9
    clear e9
    go_wp2_with fail
    refine (own_any H.out (pl3 who) (pl3_lt who) kind who dst addr word ha hv).mono ?_
    rintro e W3 ⟨rfl, sh3, att3, ratt3, h3⟩
    clear H k0 k1 k2 k3 k4 B1
    have H3 := Lib.hid h3
    clear h3
    go_wp2_with fail
    refine (alike_code H3.out (pl3 who) (pl3_lt who)).mono ?_
    rintro e W4 ⟨rfl, h4⟩
    have H4 := Lib.hid h4
    clear h4 H3
    go_wp2_with fail
    exact ⟨rfl, _, _, _, _, _, H4.out, HPAR.out⟩
end Go.Proofs.Ythfeljongackcaa
set_option linter.unusedSimpArgs false
set_option linter.unusedVariables false
set_option maxRecDepth 100000
namespace Go.Proofs.Ythfeljongackcaa
open Go.RowKit
open Go.Maps

theorem pcopyA {w0 W : World} {X : SX} {sh : Sh} {att : Atts} (h : PH w0 X sh att W) (i j : Nat) : Calls Try.prog 57 #[.pointer (ptrO (att i)), .pointer (some ⟨X.ra, 0, none⟩), .pointer (some ⟨X.ca, 0, none⟩)] W fun e W' => ∃ o, e = .returned (.pointer (ptrO o)) ∧ PTake w0 W X sh att j (stO (att i)) o W' := by
  cases hi : att i with
  | none =>
    refine (copy_no (.inl rfl) _ _).mono fun e w' ⟨he, hw⟩ => ?_
    subst hw
    obtain ⟨k1, k2⟩ := h.clear j h.m.x (Upd.refl _ _)
    exact ⟨none, he, k1, k2, rfl⟩
  | some t =>
    obtain ⟨a, s, F⟩ := t
    have := pcopy h i j hi
    rw [hi] at this
    exact this
theorem rcopyA {w0 W : World} {Y : RX} {sh : Sh} {att : Atts} (h : RH w0 Y sh att W) (i j : Nat) : Calls Try.prog 62 #[.pointer (ptrO (att i))] W fun e W' => ∃ o, e = .returned (.pointer (ptrO o)) ∧ RTake w0 W Y sh att j (stO (att i)) o W' := by
  cases hi : att i with
  | none =>
    refine (rcopy_no W).mono fun e w' ⟨he, hw⟩ => ?_
    subst hw
    obtain ⟨k1, k2⟩ := h.clear j h.m.x (Upd.refl _ _)
    exact ⟨none, he, k1, k2, rfl⟩
  | some t =>
    obtain ⟨a, s, F⟩ := t
    have := rcopyP h i j hi
    rw [hi] at this
    exact this
end Go.Proofs.Ythfeljongackcaa
