/- The document's: is a program formed. The condition is a size. ThreadAlone, walked. The conditions are sizes. -/
import Derived.Test.YthfeljongackcaaT1p26
set_option linter.unusedSimpArgs false
set_option linter.unusedVariables false
set_option maxRecDepth 100000
namespace Go.Proofs.Ythfeljongackcaa
open Go.RowKit
theorem formedP_long {p : List Ins} (h : ¬ (1 ≤ p.length ∧ p.length ≤ 256)) : formedP p = false := by
  unfold formedP
  by_cases h1 : 1 ≤ p.length
  · have h2 : ¬ p.length ≤ 256 := fun k => h ⟨h1, k⟩
    simp [h2]
  · simp [h1]
set_option maxHeartbeats 1000000 in
theorem rformed_prog (w : World) (po : Option Addr) (cap : Nat) (p : List Ins) (h : CodeAt w po p) (hl : p.length ≤ 4611686018427387904) : Calls Try.prog 36 #[.slice po p.length cap] w fun e w' => e = .returned (.bool (formedP p)) ∧ Upd [] w w' := by
  by_cases h1 : 1 ≤ p.length
  rotate_left 1
  · have hf := formedP_long (p := p) (fun k => h1 k.1)
    have d1 : decide ((p.length : Int) < 1) = true := by simp; omega
    rw [hf]
    clear hf h h1
    refine calls_all fun K hK => ?_
    go_enter Try.func36, Try.ntmps36
    go_wp2_with fail
    all_goals exact ⟨rfl, Upd.refl _ _⟩
  by_cases h2 : p.length ≤ 256
  rotate_left 1
  · have hf := formedP_long (p := p) (fun k => h2 k.2)
    have d1 : decide ((p.length : Int) < 1) = false := by simp; omega
    have d2 : decide (256 < (p.length : Int)) = true := by simp; omega
    rw [hf]
    clear hf h h1 h2
    refine calls_all fun K hK => ?_
    go_enter Try.func36, Try.ntmps36
    go_wp2_with fail
    all_goals exact ⟨rfl, Upd.refl _ _⟩
  have d1 : decide ((p.length : Int) < 1) = false := by simp; omega
  have d2 : decide (256 < (p.length : Int)) = false := by simp; omega
  refine calls_all fun K hK => ?_
  go_enter Try.func36, Try.ntmps36
  go_wp2_with fail
  clear d1 d2
  go_loopw [3] (fun v7 wr => ∃ i : Nat, i ≤ p.length ∧ v7 = .int .i64 i ∧ Upd [] w wr ∧ ∀ j x, j < i → p[j]? = some x → formed x = true) (fun v7 _ => p.length - (intOf v7).toNat)
  case atStart => exact ⟨0, by omega, rfl, Upd.refl _ _, fun j x hj => by omega⟩
  case round =>
    obtain ⟨i, hi, rfl, u, hall⟩ := hrel
    have HA := Lib.hid hall
    clear hall
    by_cases hlt : i < p.length
    · have hlt' : (i : Int) < (p.length : Int) := by omega
      obtain ⟨x, hx⟩ : ∃ x, p[i]? = some x := ⟨_, List.getElem?_eq_getElem hlt⟩
      obtain ⟨b, o, rfl, h0, h1, h2, h3, h4⟩ := (h.upd0 u) i x hx
      have HX := Lib.hid hx
      clear hx
      obtain ⟨xo, xa, xb, xc, xn⟩ := x
      dsimp only at h0 h1 h2 h3 h4
      have hf := rformed ⟨xo, xa, xb, xc, xn⟩ wr
      simp only [Ins.val] at hf
      obtain ⟨f, hff⟩ : ∃ f, formed ⟨xo, xa, xb, xc, xn⟩ = f := ⟨_, rfl⟩
      rw [hff] at hf
      have HF := Lib.hid hff
      clear hff
      go_wp2_with fail
      refine hf.mono ?_
      rintro e w2 ⟨rfl, u2⟩
      have u3 := u.trans u2
      clear u u2 hf h0 h1 h2 h3 h4
      cases f with
      | false =>
        have hp := formedP_no HX.out HF.out
        go_wp2_with fail
        exact ⟨by rw [hp]; rfl, u3⟩
      | true =>
        go_wp2_with fail
        go_roundw
        case rel =>
          refine ⟨i + 1, by omega, by go_num, u3, fun j x hj hx => ?_⟩
          by_cases hji : j = i
          · subst hji
            rw [HX.out] at hx
            cases hx
            exact HF.out
          · exact HA.out j x (by omega) hx
        case measure => simp [intOf]; omega
    · obtain rfl : i = p.length := by omega
      have hall : p.all formed = true := List.all_eq_true.2 fun x hx => by
        obtain ⟨j, hj⟩ := List.getElem?_of_mem hx
        exact HA.out j x (List.getElem?_eq_some_iff.1 hj).1 hj
      have hp : formedP p = true := by unfold formedP; rw [hall, decide_eq_true h1, decide_eq_true h2]; rfl
      have HP := Lib.hid hp
      clear h hp hall
      go_wp2_with fail
      exact ⟨by rw [HP.out]; rfl, u⟩
end Go.Proofs.Ythfeljongackcaa
set_option linter.unusedSimpArgs false
set_option linter.unusedVariables false
set_option maxRecDepth 100000
namespace Go.Proofs.Ythfeljongackcaa
open Go.RowKit
open Go.Maps
/-- a program among the arguments -/
structure PD where
  po : Option Addr
  cap : Nat
  p : List Ins
structure PD.At (w : World) (d : PD) : Prop where
  code : CodeAt w d.po d.p
  num : ∀ i ∈ d.p, 0 ≤ i.n ∧ i.n < 18446744073709551616
  len : d.p.length * 40 ≤ 140737488351232
/-- the programs -/
structure Progs (w : World) (pp : Option Addr) (l : List PD) : Prop where
  cell : ∀ i d, l[i]? = some d → ∃ b o, pp = some ⟨b, o, none⟩ ∧ w.cell? ⟨b, o + i, none⟩ = some (.slice d.po d.p.length d.cap)
  at_ : ∀ d ∈ l, d.At w
theorem PD.At.upd {w w' : World} {d : PD} (h : d.At w) (u : Upd [] w w') : d.At w' := ⟨h.code.upd0 u, h.num, h.len⟩
theorem Progs.upd {w w' : World} {pp : Option Addr} {l : List PD} (h : Progs w pp l) (u : Upd [] w w') : Progs w' pp l :=
  ⟨fun i d hd => by
    obtain ⟨b, o, e, hc⟩ := h.cell i d hd
    exact ⟨b, o, e, (World.cell?_of_block (w := w) (u.block b (World.block_lt_of_cell? w _ hc) (by simp))).trans hc⟩, fun d hd => (h.at_ d hd).upd u⟩
section
variable (w : World) (p0 : Option Addr) (zs : List Int) (c0 : Nat) (c : Int) (pp : Option Addr) (l : List PD) (cp : Nat) (pk : Value) (steps : Int)
set_option maxHeartbeats 2000000 in
theorem alone_no_row (n0 : Nat) (hn : n0 < 1 ∨ 65536 < n0) (hm : n0 ≤ maxLen) (n : Nat) (hnm : n ≤ maxLen) (hc : 0 ≤ c ∧ c < 18446744073709551616) :
    Calls Try.prog 9 #[.agg #[.slice p0 n0 c0, .int .u64 c, .slice pp n cp, pk], .int .i64 steps] w fun e w' => e = .returned (.bool true) ∧ Upd [] w w' := by
  obtain ⟨W1, hW1⟩ : ∃ W, w.alloc (.cells #[.slice p0 n0 c0, .int .u64 c, .slice pp n cp, pk] 92) = W := ⟨_, rfl⟩
  have u1 : Upd [] w W1 := by rw [← hW1]; exact (Upd.refl [] _).alloc _
  have B1 : Blk W1 w.heap.size [.slice p0 n0 c0, .int .u64 c, .slice pp n cp, pk] 92 := by rw [← hW1]; exact Blk.new w _ _
  have q0 := B1.cell 0 rfl
  have q1 := B1.cell 1 rfl
  have q2 := B1.cell 2 rfl
  have U1 := Lib.hid u1
  have HB := Lib.hid B1
  clear u1 B1
  unfold maxLen at hm hnm
  refine calls_all fun K hK => ?_
  go_enter Try.func9, Try.ntmps9
  go_wp2_with fail
  refine (of_bad p0 n0 c0 W1 hn (by unfold maxLen; omega)).mono ?_
  rintro e W2 ⟨rfl, rfl⟩
  go_wp2_with fail
  refine (clkFrom (c - c % 2) W1).mono ?_
  rintro e W3 ⟨ca, cr, cb, rfl, _, _, _, _, u3⟩
  have q0' := (HB.out.upd u3 (by simp)).cell 0 rfl
  have q2' := (HB.out.upd u3 (by simp)).cell 2 rfl
  have HU := Lib.hid (U1.out.trans u3)
  clear u3 U1 HB q0 q1 q2 hW1
  have HK : ∀ K : Unit, True := fun _ => trivial
  by_cases hl0 : n = 0
  · subst hl0
    go_wp2_with (go_at_call 34; refine (works11_code _).mono ?_; rintro e W4 ⟨rfl, u4⟩)
    exact ⟨rfl, HU.out.trans u4⟩
  · have d0 : ((n : Int) == 0) = false := beq_eq_false_iff_ne.2 (by omega)
    by_cases hs : 20000 < steps
    · have ds : decide (20000 < steps) = true := decide_eq_true hs
      go_wp2_with (go_at_call 34; refine (works11_code _).mono ?_; rintro e W4 ⟨rfl, u4⟩)
      exact ⟨rfl, HU.out.trans u4⟩
    · have ds : decide (20000 < steps) = false := decide_eq_false hs
      rcases hn with h1 | h1
      · obtain rfl : n0 = 0 := by omega
        go_wp2_with (go_at_call 34; refine (works11_code _).mono ?_; rintro e W4 ⟨rfl, u4⟩)
        exact ⟨rfl, HU.out.trans u4⟩
      · have d1 : ((n0 : Int) == 0) = false := beq_eq_false_iff_ne.2 (by omega)
        have d2 : decide (65536 < (n0 : Int)) = true := decide_eq_true (by omega)
        go_wp2_with (go_at_call 34; refine (works11_code _).mono ?_; rintro e W4 ⟨rfl, u4⟩)
        exact ⟨rfl, HU.out.trans u4⟩
set_option maxHeartbeats 2000000 in
theorem alone_none (hZ : SlI w .u64 p0 zs) (HZ : RowKit.Hid (∀ v ∈ zs, 0 ≤ v ∧ v < 18446744073709551616)) (hz1 : 1 ≤ zs.length) (hz2 : zs.length ≤ 65536) (hP : Progs w pp l) (hlm : l.length ≤ maxLen) (hc : 0 ≤ c ∧ c < 18446744073709551616) (h0 : l = [] ∨ 20000 < steps) :
    Calls Try.prog 9 #[.agg #[.slice p0 zs.length c0, .int .u64 c, .slice pp l.length cp, pk], .int .i64 steps] w fun e w' => e = .returned (.bool true) ∧ Upd [] w w' := by
  obtain ⟨W1, hW1⟩ : ∃ W, w.alloc (.cells #[.slice p0 zs.length c0, .int .u64 c, .slice pp l.length cp, pk] 92) = W := ⟨_, rfl⟩
  have u1 : Upd [] w W1 := by rw [← hW1]; exact (Upd.refl [] _).alloc _
  have B1 : Blk W1 w.heap.size [.slice p0 zs.length c0, .int .u64 c, .slice pp l.length cp, pk] 92 := by rw [← hW1]; exact Blk.new w _ _
  have q0 := B1.cell 0 rfl
  have q1 := B1.cell 1 rfl
  have q2 := B1.cell 2 rfl
  have U1 := Lib.hid u1
  have HB := Lib.hid B1
  have hZ1 := hZ.upd u1 (by simp)
  have HP := Lib.hid (hP.upd u1)
  clear u1 B1 hZ hP
  have hb1 := HB.out.lt
  unfold maxLen at hlm
  refine calls_all fun K hK => ?_
  go_enter Try.func9, Try.ntmps9
  go_wp2_with fail
  refine (of_ok p0 c0 zs W1 hZ1 hz1 hz2).mono ?_
  rintro e W2 ⟨ra, rb, rfl, hR, hra, hrb, u2⟩
  have q0' := (HB.out.upd u2 (by simp)).cell 0 rfl
  have q1' := (HB.out.upd u2 (by simp)).cell 1 rfl
  have q2' := (HB.out.upd u2 (by simp)).cell 2 rfl
  go_wp2_with fail
  refine (clkFrom (c - c % 2) W2).mono ?_
  rintro e W3 ⟨ca, cr, cb, rfl, hC, k1, k2, k3, u3⟩
  have hX : XAt W3 ⟨ra, rb, ca, cr, cb⟩ ⟨zs, c - c % 2⟩ := XAt.made hR hC u3 k1 k2 k3 ⟨HZ.out, by simp only; omega⟩
  have hs1 := U1.out.size
  have hs2 := u2.size
  have U2 := Lib.hid (U1.out.trans (u2.trans u3))
  have HB3 := Lib.hid (HB.out.upd (u2.trans u3) (by simp))
  have HP3 := Lib.hid (HP.out.upd (u2.trans u3))
  have hX0 : ∀ g ∈ SX.foot ⟨ra, rb, ca, cr, cb⟩, w.heap.size < g := by simp [SX.foot]; omega
  clear hR hC u2 u3 k1 k2 k3 hra hrb hs1 hs2 U1 HB HP q0 q1 q2 q0' q1' q2' hZ1 hW1
  generalize hXe : (⟨ra, rb, ca, cr, cb⟩ : SX) = X at hX hX0
  obtain rfl : X.ra = ra := by rw [← hXe]
  obtain rfl : X.ca = ca := by rw [← hXe]
  clear hXe
  have r0 := HB3.out.cell 0 rfl
  have r2 := HB3.out.cell 2 rfl
  have E1 : ∀ w, (binOp .eql 22 (.pointer (some ⟨X.ra, 0, none⟩)) (.pointer none)).run Try.prog w = .ok (.bool false) w := fun w => by kernel_rfl
  have E2 : ∀ w, (binOp .eql 26 (.pointer (some ⟨X.ca, 0, none⟩)) (.pointer none)).run Try.prog w = .ok (.bool false) w := fun w => by kernel_rfl
  by_cases hl0 : l.length = 0
  · rw [hl0] at r2 ⊢
    go_wp2_with (first | (go_at_call 33; refine (num11_code _ _).mono ?_; rintro e w' ⟨rfl, rfl⟩) | (go_at_call 34; refine (works11_code _).mono ?_; rintro e W4 ⟨rfl, u4⟩))
    exact ⟨rfl, U2.out.trans u4⟩
  · have d0 : ((l.length : Int) == 0) = false := beq_eq_false_iff_ne.2 (by omega)
    have hs : 20000 < steps := by
      rcases h0 with h | h
      · exact absurd (by rw [h]; rfl) hl0
      · exact h
    have ds : decide (20000 < steps) = true := decide_eq_true hs
    go_wp2_with (first | (go_at_call 33; refine (num11_code _ _).mono ?_; rintro e w' ⟨rfl, rfl⟩) | (go_at_call 34; refine (works11_code _).mono ?_; rintro e W4 ⟨rfl, u4⟩))
    exact ⟨rfl, U2.out.trans u4⟩
set_option maxHeartbeats 2000000 in
theorem alone_bad (hZ : SlI w .u64 p0 zs) (HZ : RowKit.Hid (∀ v ∈ zs, 0 ≤ v ∧ v < 18446744073709551616)) (hz1 : 1 ≤ zs.length) (hz2 : zs.length ≤ 65536) (hP : Progs w pp l) (hlm : l.length ≤ maxLen) (hc : 0 ≤ c ∧ c < 18446744073709551616) (h0 : l ≠ []) (hst : steps ≤ 20000) (d : PD) (hd : l[0]? = some d) (hf : formedP d.p = false) :
    Calls Try.prog 9 #[.agg #[.slice p0 zs.length c0, .int .u64 c, .slice pp l.length cp, pk], .int .i64 steps] w fun e w' => e = .returned (.bool true) ∧ Upd [] w w' := by
  obtain ⟨W1, hW1⟩ : ∃ W, w.alloc (.cells #[.slice p0 zs.length c0, .int .u64 c, .slice pp l.length cp, pk] 92) = W := ⟨_, rfl⟩
  have u1 : Upd [] w W1 := by rw [← hW1]; exact (Upd.refl [] _).alloc _
  have B1 : Blk W1 w.heap.size [.slice p0 zs.length c0, .int .u64 c, .slice pp l.length cp, pk] 92 := by rw [← hW1]; exact Blk.new w _ _
  have q0 := B1.cell 0 rfl
  have q1 := B1.cell 1 rfl
  have q2 := B1.cell 2 rfl
  have U1 := Lib.hid u1
  have HB := Lib.hid B1
  have hZ1 := hZ.upd u1 (by simp)
  have HP := Lib.hid (hP.upd u1)
  clear u1 B1 hZ hP
  have hb1 := HB.out.lt
  unfold maxLen at hlm
  refine calls_all fun K hK => ?_
  go_enter Try.func9, Try.ntmps9
  go_wp2_with fail
  refine (of_ok p0 c0 zs W1 hZ1 hz1 hz2).mono ?_
  rintro e W2 ⟨ra, rb, rfl, hR, hra, hrb, u2⟩
  have q0' := (HB.out.upd u2 (by simp)).cell 0 rfl
  have q1' := (HB.out.upd u2 (by simp)).cell 1 rfl
  have q2' := (HB.out.upd u2 (by simp)).cell 2 rfl
  go_wp2_with fail
  refine (clkFrom (c - c % 2) W2).mono ?_
  rintro e W3 ⟨ca, cr, cb, rfl, hC, k1, k2, k3, u3⟩
  have hX : XAt W3 ⟨ra, rb, ca, cr, cb⟩ ⟨zs, c - c % 2⟩ := XAt.made hR hC u3 k1 k2 k3 ⟨HZ.out, by simp only; omega⟩
  have hs1 := U1.out.size
  have hs2 := u2.size
  have U2 := Lib.hid (U1.out.trans (u2.trans u3))
  have HB3 := Lib.hid (HB.out.upd (u2.trans u3) (by simp))
  have HP3 := Lib.hid (HP.out.upd (u2.trans u3))
  have hX0 : ∀ g ∈ SX.foot ⟨ra, rb, ca, cr, cb⟩, w.heap.size < g := by simp [SX.foot]; omega
  clear hR hC u2 u3 k1 k2 k3 hra hrb hs1 hs2 U1 HB HP q0 q1 q2 q0' q1' q2' hZ1 hW1
  generalize hXe : (⟨ra, rb, ca, cr, cb⟩ : SX) = X at hX hX0
  obtain rfl : X.ra = ra := by rw [← hXe]
  obtain rfl : X.ca = ca := by rw [← hXe]
  clear hXe
  have r0 := HB3.out.cell 0 rfl
  have r2 := HB3.out.cell 2 rfl
  have E1 : ∀ w, (binOp .eql 22 (.pointer (some ⟨X.ra, 0, none⟩)) (.pointer none)).run Try.prog w = .ok (.bool false) w := fun w => by kernel_rfl
  have E2 : ∀ w, (binOp .eql 26 (.pointer (some ⟨X.ca, 0, none⟩)) (.pointer none)).run Try.prog w = .ok (.bool false) w := fun w => by kernel_rfl
  have hl0 : 0 < l.length := List.length_pos_iff.2 h0
  have d0 : ((l.length : Int) == 0) = false := beq_eq_false_iff_ne.2 (by omega)
  have ds : decide (20000 < steps) = false := decide_eq_false (by omega)
  have hl0' : (0 : Int) < (l.length : Int) := by omega
  obtain ⟨b, o, rfl, hcell⟩ := HP3.out.cell 0 d hd
  rw [Nat.add_zero] at hcell
  have hD := HP3.out.at_ d (List.mem_of_getElem? hd)
  have hlen := hD.len
  have HN := Lib.hid (tl_new (w0 := w) (cap := d.cap) hX (fun g hg => Nat.le_of_lt (hX0 g hg)) U2.out hD.code (by omega))
  have HF := Lib.hid hf
  have HD := Lib.hid hD
  clear hD hf hX hX0 h0 hlen
  go_wp2_with (first | (go_at_call 33; refine (num11_code _ _).mono ?_; rintro e w' ⟨rfl, rfl⟩))
  refine HN.out.mono ?_
  rintro e W4 ⟨_, h2⟩
  obtain ⟨rfl, u4⟩ := h2 HF.out
  have r2' := (HB3.out.upd u4 (by simp)).cell 2 rfl
  have hcell' := (World.cell?_of_block (w := W3) (u4.block b (World.block_lt_of_cell? W3 _ hcell) (by simp))).trans hcell
  have HRF := Lib.hid (rformed_prog W4 d.po d.cap d.p (HD.out.code.upd0 u4) (by have := HD.out.len; omega))
  rw [HF.out] at HRF
  clear h2 HN HD
  go_wp2_with fail
  refine HRF.out.mono ?_
  rintro e W5 ⟨rfl, u5⟩
  go_wp2_with (first | (go_at_call 34; refine (works11_code _).mono ?_; rintro e W6 ⟨rfl, u6⟩))
  exact ⟨rfl, ((U2.out.trans u4).trans u5).trans u6⟩
end
end Go.Proofs.Ythfeljongackcaa
