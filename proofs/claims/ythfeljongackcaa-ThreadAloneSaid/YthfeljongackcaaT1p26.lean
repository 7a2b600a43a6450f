/- A new thread: From, New. The conditions are sizes. Threads in a law: what a step keeps. No conditions. ThreadAlone: a round of its loop, before the event is told. No conditions. The law's own example: works, in ten steps. No conditions. The document's: is a program formed. The condition is a size. -/
import Derived.Test.YthfeljongackcaaT1p25
import Derived.Test.YthfeljongackcaaT1p19
import Derived.Test.YthfeljongackcaaT1p18
import Derived.Test.YthfeljongackcaaT1p03
import Derived.Test.YthfeljongackcaaT1p12
set_option linter.unusedSimpArgs false
set_option linter.unusedVariables false
set_option maxRecDepth 100000
namespace Go.Proofs.Ythfeljongackcaa
open Go.RowKit
open Go.Maps
theorem Blk.range0 {w : World} {b : Nat} {vs : List Value} {t : TypeId} (h : Blk w b vs t) : w.rangeAt b 0 vs := fun j v hj => by rw [Nat.zero_add]; exact h.cell j hj
/-- what New answers -/
def NewOk (w : World) (X : SX) (sh : Sh) (acc st : Int) (p : List Ins) (e : Ending) (w' : World) : Prop :=
  (formedP p = true → ∃ tb pb cap, e = .returned (.tuple #[.pointer (some ⟨tb, 0, none⟩), .int .i64 0]) ∧ TV w' X sh acc st p pb cap tb newT none ∧ w.heap.size ≤ tb ∧ w.heap.size ≤ pb ∧ Upd [] w w')
  ∧ (formedP p = false → e = .returned (.tuple #[.pointer none, .int .i64 180]) ∧ Upd [] w w')
set_option maxHeartbeats 2000000 in
theorem from_new {w : World} {X : SX} {sh : Sh} {acc st : Int} {p : List Ins} {po : Option Addr} {cap : Nat} (hX : X.At w sh acc st) (hc : CodeAt w po p) (hl : p.length ≤ 4611686018427387904) :
    Calls Try.prog 73 #[newV, .slice po p.length cap, .pointer (some ⟨X.ra, 0, none⟩), .pointer (some ⟨X.ca, 0, none⟩)] w (NewOk w X sh acc st p) := by
  obtain ⟨W1, hW1⟩ : ∃ W, w.alloc (.cells #[.int .i64 1, .int .i64 0, .int .i64 0, .int .u64 0, .int .u64 0, .int .u64 0, .int .u64 0, .int .u64 0, .int .u64 0, .int .u64 0, .int .u64 0, .bool false, .int .i64 0, .int .u64 0, .int .u64 0, .int .u64 0, .int .u64 0, .int .u64 0, .int .u64 0, .int .u64 0, .int .u64 0, .int .i64 0, .int .u64 0, .slice none 0 0, .slice none 0 0, .int .i64 0, .int .i64 0, .int .u64 0, .int .u64 0, .int .u64 0, .int .i64 0] 103) = W := ⟨_, rfl⟩
  have u1 : Upd [] w W1 := by rw [← hW1]; exact (Upd.refl [] _).alloc _
  have B1 : Blk W1 w.heap.size [.int .i64 1, .int .i64 0, .int .i64 0, .int .u64 0, .int .u64 0, .int .u64 0, .int .u64 0, .int .u64 0, .int .u64 0, .int .u64 0, .int .u64 0, .bool false, .int .i64 0, .int .u64 0, .int .u64 0, .int .u64 0, .int .u64 0, .int .u64 0, .int .u64 0, .int .u64 0, .int .u64 0, .int .i64 0, .int .u64 0, .slice none 0 0, .slice none 0 0, .int .i64 0, .int .i64 0, .int .u64 0, .int .u64 0, .int .u64 0, .int .i64 0] 103 := by rw [← hW1]; exact Blk.new w _ 103
  have EX : ∀ w, (binOp .eql 22 (.pointer (some ⟨X.ra, 0, none⟩)) (.pointer none)).run Try.prog w = .ok (.bool false) w := fun w => by kernel_rfl
  have EC : ∀ w, (binOp .eql 26 (.pointer (some ⟨X.ca, 0, none⟩)) (.pointer none)).run Try.prog w = .ok (.bool false) w := fun w => by kernel_rfl
  have hF := formed_prog W1 po cap p (hc.upd0 u1) hl
  have HX0 := Lib.hid hX
  have HF := Lib.hid hF
  clear hF
  unfold newV
  refine calls_all fun K hK => ?_
  go_enter Try.func73, Try.ntmps73
  go_wp2_with fail
  refine HF.out.mono ?_
  rintro e W2 ⟨rfl, u2⟩
  have U2 := Lib.hid (u1.trans u2)
  have b1 := B1.lt
  have hs2 := u2.size
  replace B1 := B1.upd u2 (by simp)
  have hX2 := hX.upd U2.out (by simp)
  have hc2 := hc.upd0 U2.out
  have HC2 := Lib.hid hc2
  have HX2 := Lib.hid hX2
  clear HF u1 u2 hc hX hc2 hX2
  cases hfp : formedP p with
  | false =>
    clear B1 EX EC
    have HFP := Lib.hid hfp
    clear hfp
    go_wp2_with fail
    exact ⟨fun h => by (rw [HFP.out] at h; cases h), fun _ => ⟨rfl, U2.out⟩⟩
  | true =>
    obtain ⟨hp1, hp2⟩ := formedP_len hfp
    have HFP := Lib.hid hfp
    clear hfp
    have HR := Lib.hid B1.range0
    have HM := Lib.hid (may_new W2 (.slice po p.length cap))
    unfold newV at HM
    have HB1 := Lib.hid B1
    clear B1
    go_upto_region 5 with (fail)
    go_wp2_with (first
      | ((with_reducible refine wpList_load_mid (op := ⟨some 26, .load 103 (.tmp 4), _, _, _, _⟩) rfl 103 _ rfl w.heap.size 0 ?_ [.int .i64 1, .int .i64 0, .int .i64 0, .int .u64 0, .int .u64 0, .int .u64 0, .int .u64 0, .int .u64 0, .int .u64 0, .int .u64 0, .int .u64 0, .bool false, .int .i64 0, .int .u64 0, .int .u64 0, .int .u64 0, .int .u64 0, .int .u64 0, .int .u64 0, .int .u64 0, .int .u64 0, .int .i64 0, .int .u64 0, .slice none 0 0, .slice none 0 0, .int .i64 0, .int .i64 0, .int .u64 0, .int .u64 0, .int .u64 0, .int .i64 0] _ HR.out Try.underlying103 (by rfl) (by kernel_rfl) ?_); (· rfl)))
    refine HM.out.mono ?_
    rintro e W3 ⟨rfl, u3⟩
    have B3 := HB1.out.upd u3.drew (by simp)
    have U3 := Lib.hid (U2.out.trans u3.drew)
    obtain ⟨pb, cap', W4, hrun, hPA, u4, hpb⟩ := app_code W3.drew po cap p (HC2.out.upd0 u3.drew) hp1 hp2
    have hX3 := HX2.out.upd u3.drew (by simp)
    have hs3 := u3.size
    have hW3s : W3.drew.heap.size = W3.heap.size := rfl
    have hs4 := u4.size
    have B4 := B3.upd u4 (by simp)
    have HRUN := Lib.hid hrun
    have HPA := Lib.hid hPA
    have HB4 := Lib.hid B4
    have HX4 := Lib.hid (hX3.upd u4 (by simp))
    have HU4 := Lib.hid (U3.out.trans u4)
    clear hrun hPA B4 hX3 HB1 HM U2 HC2 HX2 HR u3 u4 U3
    go_upto_region 7 with (fail)
    refine wp_region_br (fun w' => w'.rangeAt w.heap.size 0 [.int .i64 1, .int .i64 0, .int .i64 0, .int .u64 0, .int .u64 0, .int .u64 0, .int .u64 0, .int .u64 0, .int .u64 0, .int .u64 0, .int .u64 0, .bool false, .int .i64 0, .int .u64 0, .int .u64 0, .int .u64 0, .int .u64 0, .int .u64 0, .int .u64 0, .int .u64 0, .int .u64 0, .int .i64 0, .int .u64 0, .slice none 0 0, .slice none 0 0, .int .i64 0, .int .i64 0, .int .u64 0, .int .u64 0, .int .u64 0, .int .i64 0]) [0, 1, 3, 4, 2, 5, 6, 7] (by kernel_rfl) (by kernel_rfl) B3.range0 ?_
    clear B3
    refine wpB_load_mid rfl rfl (by kernel_rfl) (by rfl) 103 _ rfl w.heap.size 0 rfl [.int .i64 1, .int .i64 0, .int .i64 0, .int .u64 0, .int .u64 0, .int .u64 0, .int .u64 0, .int .u64 0, .int .u64 0, .int .u64 0, .int .u64 0, .bool false, .int .i64 0, .int .u64 0, .int .u64 0, .int .u64 0, .int .u64 0, .int .u64 0, .int .u64 0, .int .u64 0, .int .u64 0, .int .i64 0, .int .u64 0, .slice none 0 0, .slice none 0 0, .int .i64 0, .int .i64 0, .int .u64 0, .int .u64 0, .int .u64 0, .int .i64 0] _ (fun _ h => h) Try.underlying103 rfl (by kernel_rfl) ?_
    try simp only [Act.put, List.setIfInBounds_toArray, List.set_cons_zero, List.set_cons_succ]
    repeat
      first
        | (refine wpB_skip rfl (by kernel_rfl) (by rfl) ?_)
        | ((refine wpB_take (v := ?_) rfl rfl (by kernel_rfl) (by rfl) ?_ ?_); rotate_left 1; (· ((intro w hSw; (try dsimp only at hSw); go_simp); try with_reducible rfl)))
      try simp only [Act.put, List.setIfInBounds_toArray, List.set_cons_zero, List.set_cons_succ]
    refine wpB_append rfl (by kernel_rfl) (by rfl) _ _ _ _ rfl _ _ _ rfl rfl HRUN.out HB4.out.range0 ?_
    try simp only [Act.put, List.setIfInBounds_toArray, List.set_cons_zero, List.set_cons_succ]
    repeat
      first
        | (refine wpB_skip rfl (by kernel_rfl) (by rfl) ?_)
        | ((refine wpB_take (v := ?_) rfl rfl (by kernel_rfl) (by rfl) ?_ ?_); rotate_left 1; (· ((intro w hSw; (try dsimp only at hSw); go_simp); try with_reducible rfl)))
      try simp only [Act.put, List.setIfInBounds_toArray, List.set_cons_zero, List.set_cons_succ]
    refine wpB_eff rfl (by kernel_rfl) (by rfl) (fun K2 hK2 => ?_)
    go_simp
    refine hK2.out _ _ (World.rangeAt_alloc HB4.out.range0 _) ?_
    clear hK2 K2
    repeat
      first
        | (refine wpB_skip rfl (by kernel_rfl) (by rfl) ?_)
        | ((refine wpB_take (v := ?_) rfl rfl (by kernel_rfl) (by rfl) ?_ ?_); rotate_left 1; (· ((intro w hSw; (try dsimp only at hSw); go_simp); try with_reducible rfl)))
      try simp only [Act.put, List.setIfInBounds_toArray, List.set_cons_zero, List.set_cons_succ]
    refine wpB_end (by kernel_rfl) (NoPanic.normal ?_)
    obtain ⟨W5, hW5⟩ : ∃ W, W4.alloc (.cells #[.int .i64 1, .int .i64 0, .int .i64 0, .int .u64 0, .int .u64 0, .int .u64 0, .int .u64 0, .int .u64 0, .int .u64 0, .int .u64 0, .int .u64 0, .bool false, .int .i64 0, .int .u64 0, .int .u64 0, .int .u64 0, .int .u64 0, .int .u64 0, .int .u64 0, .int .u64 0, .int .u64 0, .int .i64 0, .int .u64 0, .slice none 0 0, .slice none 0 0, .int .i64 0, .int .i64 0, .int .u64 0, .int .u64 0, .int .u64 0, .int .i64 0, .slice (some ⟨pb, 0, none⟩) p.length cap', .pointer (some ⟨X.ra, 0, none⟩), .pointer (some ⟨X.ca, 0, none⟩), .pointer none] 146) = W := ⟨_, rfl⟩
    rw [hW5]
    have B5 : Blk W5 W4.heap.size (headTV newT (progV pb cap' p) X none) 146 := by rw [← hW5]; exact Blk.new W4 _ _
    have u5 : Upd [] W4 W5 := by rw [← hW5]; exact (Upd.refl [] _).alloc _
    have c11 := (HB4.out.upd u5 (by simp)).cell 11 rfl
    have HB5 := Lib.hid B5
    obtain ⟨W6, hW6'⟩ : ∃ W, (((((((((W5.setCell ⟨W4.heap.size, 22, none⟩ (.int .u64 0)).setCell ⟨W4.heap.size, 23, none⟩ (.slice none 0 0)).setCell ⟨W4.heap.size, 24, none⟩ (.slice none 0 0)).setCell ⟨W4.heap.size, 25, none⟩ (.int .i64 0)).setCell ⟨W4.heap.size, 26, none⟩ (.int .i64 0)).setCell ⟨W4.heap.size, 27, none⟩ (.int .u64 0)).setCell ⟨W4.heap.size, 28, none⟩ (.int .u64 0)).setCell ⟨W4.heap.size, 29, none⟩ (.int .u64 0)).setCell ⟨W4.heap.size, 30, none⟩ (.int .i64 0)) = W := ⟨_, rfl⟩
    have hW6 : W5.setCells W4.heap.size 22 [.int .u64 0, .slice none 0 0, .slice none 0 0, .int .i64 0, .int .i64 0, .int .u64 0, .int .u64 0, .int .u64 0, .int .i64 0] = W6 := hW6'
    have hblt := HB4.out.lt
    have hne : w.heap.size ≠ W4.heap.size := by omega
    have u6 : Upd [W4.heap.size] W5 W6 := by rw [← hW6]; exact Upd.rows _ 22 (Upd.refl _ _) (.inl (by simp))
    have B6 : Blk W6 W4.heap.size (headTV newT (progV pb cap' p) X none) 146 := by
      have k := Blk.rows [.int .u64 0, .slice none 0 0, .slice none 0 0, .int .i64 0, .int .i64 0, .int .u64 0, .int .u64 0, .int .u64 0, .int .i64 0] 22 B5 (by show 31 ≤ 35; omega)
      rw [hW6] at k
      exact k
    have c11' := ((HB4.out.upd u5 (by simp)).upd u6 (by simpa using hne)).cell 11 rfl
    have hX6 := (HX4.out.upd u5 (by simp)).upd u6 (fun g hg e => by simp at e; subst e; have := HX4.out.lt _ hg; omega)
    have hP6 := (HPA.out.upd u5 (by simp)).upd u6 (by have := HPA.out.lt; simp; omega)
    have hXf : ∀ g ∈ X.foot, g < w.heap.size := fun g hg => (HX0.out.lt g hg)
    have HV := Lib.hid (show TV W6 X sh acc st p pb cap' W4.heap.size newT none from ⟨B6, hP6, hX6, .inl ⟨rfl, rfl⟩, rfl, rfl, by have := HPA.out.lt; omega, fun e => by have := hXf _ e; omega, fun e => by have := hXf _ e; omega, by simp [AO.foot], by simp [AO.foot]⟩)
    have HU6 := Lib.hid (show Upd [] w W6 from (HU4.out.trans u5).tr (U := []) u6 (fun g hg => by simp at hg) (fun g hg => by simp at hg; subst hg; exact .inr (by omega)))
    have HSZ := Lib.hid (show w.heap.size ≤ W4.heap.size ∧ w.heap.size ≤ pb from ⟨by omega, by omega⟩)
    clear u5 u6 B5 B6 hX6 hP6 hXf hW5 c11 hpb hs4 hs3 hs2
    clear hW6
    have q22 := HB5.out.cell 22 rfl
    have f22 := HB5.out.free 22
    have q23 := HB5.out.cell 23 rfl
    have f23 := HB5.out.free 23
    have q24 := HB5.out.cell 24 rfl
    have f24 := HB5.out.free 24
    have q25 := HB5.out.cell 25 rfl
    have f25 := HB5.out.free 25
    have q26 := HB5.out.cell 26 rfl
    have f26 := HB5.out.free 26
    have q27 := HB5.out.cell 27 rfl
    have f27 := HB5.out.free 27
    have q28 := HB5.out.cell 28 rfl
    have f28 := HB5.out.free 28
    have q29 := HB5.out.cell 29 rfl
    have f29 := HB5.out.free 29
    have q30 := HB5.out.cell 30 rfl
    have f30 := HB5.out.free 30
    go_upto_region 9 with (fail)
    clear hW6'
    go_wp2_with fail
    exact ⟨fun _ => ⟨_, _, _, rfl, HV.out, HSZ.out.1, HSZ.out.2, HU6.out⟩, fun h => by (rw [HFP.out] at h; cases h)⟩
theorem new_code {w : World} {X : SX} {sh : Sh} {acc st : Int} {p : List Ins} {po : Option Addr} {cap : Nat} (hX : X.At w sh acc st) (hc : CodeAt w po p) (hl : p.length ≤ 4611686018427387904) :
    Calls Try.prog 35 #[.slice po p.length cap, .pointer (some ⟨X.ra, 0, none⟩), .pointer (some ⟨X.ca, 0, none⟩)] w (NewOk w X sh acc st p) := by
  have HC := Lib.hid (from_new (cap := cap) hX hc hl)
  unfold newV at HC
  clear hX hc hl
  refine calls_all fun K hK => ?_
  go_enter Try.func35, Try.ntmps35
  go_wp2_with fail
  refine HC.out.mono ?_
  rintro e W2 ⟨h1, h2⟩
  cases hf : formedP p with
  | true =>
    obtain ⟨tb, pb, cap2, rfl, hV, ht, hp, u⟩ := h1 hf
    have HV := Lib.hid (And.intro hV (And.intro ht (And.intro hp u)))
    have HF := Lib.hid hf
    clear h1 h2 hf hV ht hp u HC
    go_wp2_with fail
    exact ⟨fun _ => ⟨tb, pb, cap2, rfl, HV.out⟩, fun k => by (rw [HF.out] at k; cases k)⟩
  | false =>
    obtain ⟨rfl, u⟩ := h2 hf
    have HU := Lib.hid u
    have HF := Lib.hid hf
    clear h1 h2 hf u HC
    go_wp2_with fail
    exact ⟨fun k => by (rw [HF.out] at k; cases k), fun _ => ⟨rfl, HU.out⟩⟩
end Go.Proofs.Ythfeljongackcaa
set_option linter.unusedSimpArgs false
set_option linter.unusedVariables false
set_option maxRecDepth 100000
namespace Go.Proofs.Ythfeljongackcaa
open Go.RowKit
open Go.Maps
/-- a thread of a law's own -/
structure TL (w0 : World) (X : SX) (p : List Ins) (pb cap tb : Nat) (t : TS) (sh : Sh) (o : AO) (W : World) : Prop where
  tv : ∃ acc st, TV W X sh acc st p pb cap tb t o
  may : TMay p t
  rw : RW t
  new : ∀ g, inTh X pb tb o g → w0.heap.size ≤ g
  u : Upd [] w0 W
theorem tmay_new {p : List Ins} : TMay p newT := ⟨by simp [newT], by simp [newT], by simp [newT], fun _ => ⟨rfl, rfl, rfl⟩, fun s h => by cases h⟩
theorem rw_new : RW newT := ⟨rw_zero, rw_zero⟩
section
variable {w0 W W' : World} {X : SX} {p : List Ins} {pb cap tb : Nat} {t : TS} {sh : Sh} {o : AO}
theorem TL.wide (h : TL w0 X p pb cap tb t sh o W) : TWide t := by
  obtain ⟨acc, st, hv⟩ := h.tv
  refine ⟨⟨hv.r8, h.rw.1⟩, ⟨hv.s8, h.rw.2⟩, fun s hs => ?_⟩
  rcases hv.att with ⟨k, _⟩ | ⟨s', a, F, rv, wv, mv, e, _, hL⟩
  · rw [k] at hs; cases hs
  · rw [e] at hs; cases hs; exact hL.wide
theorem TL.shw (h : TL w0 X p pb cap tb t sh o W) : WideSh sh := by
  obtain ⟨acc, st, hv⟩ := h.tv
  exact hv.xa.wide
theorem TL.lt (h : TL w0 X p pb cap tb t sh o W) {g : Nat} (hg : inTh X pb tb o g) : g < W.heap.size := by
  obtain ⟨acc, st, hv⟩ := h.tv
  exact hv.lt hg
theorem TL.upd {S : List Nat} (h : TL w0 X p pb cap tb t sh o W) (u : Upd S W W') (hS : ∀ g ∈ S, ¬ inTh X pb tb o g) (hS0 : ∀ g ∈ S, w0.heap.size ≤ g) : TL w0 X p pb cap tb t sh o W' := by
  obtain ⟨acc, st, hv⟩ := h.tv
  exact ⟨⟨acc, st, hv.updn u hS⟩, h.may, h.rw, h.new, h.u.tr (U := []) u (fun g hg => by simp at hg) (fun g hg => .inr (hS0 g hg))⟩
theorem TL.upd0 (h : TL w0 X p pb cap tb t sh o W) (u : Upd [] W W') : TL w0 X p pb cap tb t sh o W' := h.upd u (by simp) (by simp)
/-- what a step leaves -/
def TLStep (w0 : World) (X : SX) (p : List Ins) (pb cap tb : Nat) (o : AO) (W : World) (R : Told × TS × Sh) (e : Ending) (W' : World) : Prop :=
  e = .returned (.tuple #[R.1.1.val, .bool R.1.2, .int .i64 0]) ∧ ∃ o', TL w0 X p pb cap tb R.2.1 R.2.2 o' W' ∧ Upd (tb :: (o.foot ++ X.foot)) W W' ∧ ∀ g ∈ o'.foot, g ∈ o.foot ∨ W.heap.size ≤ g
theorem tl_step (h : TL w0 X p pb cap tb t sh o W) (hfp : formedP p = true) (hnum : ∀ i ∈ p, 0 ≤ i.n ∧ i.n < 18446744073709551616) : Calls Try.prog 38 #[.pointer (some ⟨tb, 0, none⟩)] W (TLStep w0 X p pb cap tb o W (StepT p t sh)) := by
  have hw := h.wide
  have hsw := h.shw
  obtain ⟨acc, st, hv⟩ := h.tv
  have hs0 := h.u.size
  refine (Step_code hv h.may hw hfp hnum).mono fun e W' ⟨he, o', acc', st', V, u, hf, _⟩ => ⟨he, o', ⟨⟨acc', st', V⟩, tmay_step h.may hfp hnum hsw, rw_step h.rw hw.att hnum hsw, fun g hg => ?_, ?_⟩, u, hf⟩
  · rcases hg with k | k | k | k
    · exact h.new g (.inl k)
    · exact h.new g (.inr (.inl k))
    · rcases hf g k with z | z
      · exact h.new g (.inr (.inr (.inl z)))
      · omega
    · exact h.new g (.inr (.inr (.inr k)))
  · refine h.u.tr (U := []) u (fun g hg => by simp at hg) (fun g hg => .inr ?_)
    rcases List.mem_cons.1 hg with k | k
    · exact h.new g (.inl k)
    · rcases List.mem_append.1 k with k | k
      · exact h.new g (.inr (.inr (.inl k)))
      · exact h.new g (.inr (.inr (.inr k)))
theorem tl_state (h : TL w0 X p pb cap tb t sh o W) : Calls Try.prog 37 #[.pointer (some ⟨tb, 0, none⟩)] W (TStateOk W t) := by
  obtain ⟨acc, st, hv⟩ := h.tv
  exact state_tv hv (fun s hs => (h.may.ins s hs).2.2.2.1)
theorem tl_status (h : TL w0 X p pb cap tb t sh o W) : Calls Try.prog 72 #[.pointer (some ⟨tb, 0, none⟩)] W fun e w' => e = .returned (.int .i64 t.st) ∧ W = w' := by
  obtain ⟨acc, st, hv⟩ := h.tv
  exact status_code hv
/-- a block of the law's own that is none of the thread's stays -/
theorem foot_in {g : Nat} (hg : g ∈ tb :: (o.foot ++ X.foot)) : inTh X pb tb o g := by
  rcases List.mem_cons.1 hg with k | k
  · exact .inl k
  · rcases List.mem_append.1 k with k | k
    · exact .inr (.inr (.inl k))
    · exact .inr (.inr (.inr k))
theorem tl_new (hX : XAt W X sh) (hn : ∀ g ∈ X.foot, w0.heap.size ≤ g) (u : Upd [] w0 W) {po : Option Addr} (hc : CodeAt W po p) (hl : p.length ≤ 4611686018427387904) : Calls Try.prog 35 #[.slice po p.length cap, .pointer (some ⟨X.ra, 0, none⟩), .pointer (some ⟨X.ca, 0, none⟩)] W fun e W' =>
    (formedP p = true → ∃ tb pb cap', e = .returned (.tuple #[.pointer (some ⟨tb, 0, none⟩), .int .i64 0]) ∧ TL w0 X p pb cap' tb newT sh none W' ∧ Upd [] W W')
    ∧ (formedP p = false → e = .returned (.tuple #[.pointer none, .int .i64 180]) ∧ Upd [] W W') := by
  obtain ⟨acc, st, hX⟩ := hX
  have hs0 := u.size
  refine (new_code (cap := cap) hX hc hl).mono fun e W' ⟨h1, h2⟩ => ⟨fun hf => ?_, h2⟩
  obtain ⟨tb, pb, cap', he, hV, ht, hp, u'⟩ := h1 hf
  refine ⟨tb, pb, cap', he, ⟨⟨acc, st, hV⟩, tmay_new, rw_new, fun g hg => ?_, u.trans u'⟩, u'⟩
  rcases hg with k | k | k | k
  · omega
  · omega
  · simp [AO.foot] at k
  · exact hn g k
/-- the cells, the clock are loaded -/
theorem TL.moved (h : TL w0 X p pb cap tb t sh o W) (hX : XAt W' X sh) (u : Upd X.foot W W') : TL w0 X p pb cap tb t sh o W' := by
  obtain ⟨acc, st, hv⟩ := h.tv
  obtain ⟨acc', st', hX⟩ := hX
  exact ⟨⟨acc', st', hv.moved hX u (fun g hg => hg)⟩, h.may, h.rw, h.new, h.u.tr (U := []) u (fun g hg => by simp at hg) (fun g hg => .inr (h.new g (.inr (.inr (.inr hg)))))⟩
theorem TL.xat (h : TL w0 X p pb cap tb t sh o W) : XAt W X sh := by
  obtain ⟨acc, st, hv⟩ := h.tv
  exact ⟨acc, st, hv.xa⟩
theorem tl_load (h : TL w0 X p pb cap tb t sh o W) (x : Int) (hx : 0 ≤ x) : Calls Try.prog 50 #[.pointer (some ⟨X.ra, 0, none⟩), .int .u64 x] W fun e w' => e = .returned (.tuple #[.int .u64 (loadW sh.row x), .int .i64 (rLoad sh.row x).2]) ∧ TL w0 X p pb cap tb t sh o w' ∧ Upd X.foot W w' :=
  (h.xat.load x hx).mono fun e w' ⟨he, hX, u⟩ => ⟨he, h.moved hX u, u⟩
theorem tl_clk (h : TL w0 X p pb cap tb t sh o W) : Calls Try.prog 42 #[.pointer (some ⟨X.ca, 0, none⟩)] W fun e w' => e = .returned (.tuple #[.int .u64 sh.clock, .int .i64 0]) ∧ TL w0 X p pb cap tb t sh o w' ∧ Upd X.foot W w' :=
  h.xat.clk.mono fun e w' ⟨he, hX, u⟩ => ⟨he, h.moved hX u, u⟩
end
end Go.Proofs.Ythfeljongackcaa
set_option linter.unusedSimpArgs false
set_option linter.unusedVariables false
set_option maxRecDepth 100000
namespace Go.Proofs.Ythfeljongackcaa
open Go.RowKit
open Go.Maps
section
variable {t : TS} {rv wv : Value}
theorem rt_len (hr : t.regs.length = 8) (hs : t.saved.length = 8) : (t.rt.cells rv wv).length = 31 := by
  unfold RT.cells
  rw [List.length_append, RT.fore_len (r := t.rt) hr hs]
  rfl
theorem rt_get (hr : t.regs.length = 8) (hs : t.saved.length = 8) : (t.rt.cells rv wv)[11]? = some (.bool t.ins) ∧ (t.rt.cells rv wv)[21]? = some (.int .i64 t.fuel) ∧ ∀ k, k < 9 → (t.rt.cells rv wv)[22 + k]? = (rheadV t.rt.a rv wv)[k]? := by
  have hl := RT.fore_len (r := t.rt) hr hs
  have hk : ∀ k, k < 9 → (t.rt.cells rv wv)[22 + k]? = (rheadV t.rt.a rv wv)[k]? := fun k _ => by
    unfold RT.cells
    rw [List.getElem?_append_right (by omega), hl]
    congr 1
    omega
  obtain ⟨st, er, at_, rs, sta, sv, fu, at2⟩ := t
  obtain ⟨r0, r1, r2, r3, r4, r5, r6, r7, rfl⟩ := list8 hr
  obtain ⟨s0, s1, s2, s3, s4, s5, s6, s7, rfl⟩ := list8 hs
  exact ⟨rfl, rfl, hk⟩
theorem rt_one (h1 : rv.oneCell' = true) (h2 : wv.oneCell' = true) : (t.rt.cells rv wv).toArray.all (·.oneCell') = true := by
  refine all_oneCell_toArray fun v hv => ?_
  rcases List.mem_append.1 hv with k | k
  · exact RT.fore_one v k
  · simp only [rheadV, List.mem_cons, List.not_mem_nil, or_false] at k
    rcases k with rfl | rfl | rfl | rfl | rfl | rfl | rfl | rfl | rfl <;> first | rfl | assumption
end
/-- a box of an api.Thread is made and filled -/
theorem tst_box {W W2 : World} (vs : List Value) (hl : vs.length = 31) (hW : W.alloc (.cells zero31 103) = W2) :
    W2.there W.heap.size 0 31 ∧ Blk (W2.setCells W.heap.size 0 vs) W.heap.size vs 103 ∧ Upd [] W (W2.setCells W.heap.size 0 vs) := by
  have u2 : Upd [] W W2 := by rw [← hW]; exact (Upd.refl [] _).alloc _
  have B2 : Blk W2 W.heap.size zero31.toList 103 := by rw [← hW]; exact Blk.new W zero31.toList 103
  refine ⟨B2.there 0 31 (by decide), ?_, Upd.rows _ 0 u2 (.inr (Nat.le_refl _))⟩
  have k := Blk.rows vs 0 B2 (by rw [hl]; decide)
  have e : rowSet zero31.toList 0 vs = vs := by unfold rowSet; rw [List.take_zero, List.nil_append, List.drop_eq_nil_of_le (by rw [hl]; decide), List.append_nil]
  rw [e] at k
  exact k
/-- a list of events that is none of the thread's -/
theorem EvL.step {W W' : World} {X : SX} {pb tb : Nat} {o : AO} {v : Value} {b : List TE} {base : Nat} (h : EvL W base v b) (hn : ∀ g, v.ownBlock = some g → ¬ inTh X pb tb o g)
    (hu : Upd (tb :: (o.foot ++ X.foot)) W W') {o' : AO} (hf : ∀ g ∈ o'.foot, g ∈ o.foot ∨ W.heap.size ≤ g) : EvL W' base v b ∧ ∀ g, v.ownBlock = some g → ¬ inTh X pb tb o' g := by
  refine ⟨h.upd hu (fun g hg e => hn g e (foot_in hg)), fun g hg hi => ?_⟩
  rcases hi with k | k | k | k
  · exact hn g hg (.inl k)
  · exact hn g hg (.inr (.inl k))
  · rcases hf g k with z | z
    · exact hn g hg (.inr (.inr (.inl z)))
    · have := (h.lt hg).2; omega
  · exact hn g hg (.inr (.inr (.inr k)))
theorem list22 {l : List Value} (h : l.length = 22) : ∃ f0 f1 f2 f3 f4 f5 f6 f7 f8 f9 f10 f11 f12 f13 f14 f15 f16 f17 f18 f19 f20 f21, l = [f0, f1, f2, f3, f4, f5, f6, f7, f8, f9, f10, f11, f12, f13, f14, f15, f16, f17, f18, f19, f20, f21] := by
  obtain _ | ⟨f0, l⟩ := l
  · simp at h
  obtain _ | ⟨f1, l⟩ := l
  · simp at h
  obtain _ | ⟨f2, l⟩ := l
  · simp at h
  obtain _ | ⟨f3, l⟩ := l
  · simp at h
  obtain _ | ⟨f4, l⟩ := l
  · simp at h
  obtain _ | ⟨f5, l⟩ := l
  · simp at h
  obtain _ | ⟨f6, l⟩ := l
  · simp at h
  obtain _ | ⟨f7, l⟩ := l
  · simp at h
  obtain _ | ⟨f8, l⟩ := l
  · simp at h
  obtain _ | ⟨f9, l⟩ := l
  · simp at h
  obtain _ | ⟨f10, l⟩ := l
  · simp at h
  obtain _ | ⟨f11, l⟩ := l
  · simp at h
  obtain _ | ⟨f12, l⟩ := l
  · simp at h
  obtain _ | ⟨f13, l⟩ := l
  · simp at h
  obtain _ | ⟨f14, l⟩ := l
  · simp at h
  obtain _ | ⟨f15, l⟩ := l
  · simp at h
  obtain _ | ⟨f16, l⟩ := l
  · simp at h
  obtain _ | ⟨f17, l⟩ := l
  · simp at h
  obtain _ | ⟨f18, l⟩ := l
  · simp at h
  obtain _ | ⟨f19, l⟩ := l
  · simp at h
  obtain _ | ⟨f20, l⟩ := l
  · simp at h
  obtain _ | ⟨f21, l⟩ := l
  · simp at h
  obtain _ | ⟨g, l⟩ := l
  · exact ⟨f0, f1, f2, f3, f4, f5, f6, f7, f8, f9, f10, f11, f12, f13, f14, f15, f16, f17, f18, f19, f20, f21, rfl⟩
  · simp at h
end Go.Proofs.Ythfeljongackcaa
set_option linter.unusedSimpArgs false
set_option linter.unusedVariables false
set_option maxRecDepth 100000
namespace Go.Proofs.Ythfeljongackcaa
open Go.RowKit
open Go.Maps
def doublesP : List Ins := [⟨12, 0, 0, 0, 0⟩, ⟨13, 1, 0, 0, 0⟩, ⟨3, 1, 1, 1, 0⟩, ⟨14, 1, 0, 0, 0⟩, ⟨15, 0, 0, 0, 0⟩, ⟨17, 0, 0, 0, 0⟩]
theorem doubles_formed : formedP doublesP = true := by decide
theorem doubles_num : ∀ i ∈ doublesP, 0 ≤ i.n ∧ i.n < 18446744073709551616 := by
  intro i hi
  simp only [doublesP, List.mem_cons, List.not_mem_nil, or_false] at hi
  rcases hi with rfl | rfl | rfl | rfl | rfl | rfl <;> simp
theorem code_of_blk {w : World} {g : Nat} {p : List Ins} {sp : List Value} (h : Blk w g (codeV p ++ sp) 144) : CodeAt w (some ⟨g, 0, none⟩) p := by
  intro i x hx
  obtain ⟨k0, k1, k2, k3, k4⟩ := codeV_get p i x hx
  have hi := (List.getElem?_eq_some_iff.1 hx).1
  have hl := codeV_len p
  refine ⟨g, 0, rfl, ?_, ?_, ?_, ?_, ?_⟩
  · rw [Nat.zero_add]; exact h.cell _ (by rw [List.getElem?_append_left (by omega)]; exact k0)
  · rw [Nat.zero_add]; exact h.cell _ (by rw [List.getElem?_append_left (by omega)]; exact k1)
  · rw [Nat.zero_add]; exact h.cell _ (by rw [List.getElem?_append_left (by omega)]; exact k2)
  · rw [Nat.zero_add]; exact h.cell _ (by rw [List.getElem?_append_left (by omega)]; exact k3)
  · rw [Nat.zero_add]; exact h.cell _ (by rw [List.getElem?_append_left (by omega)]; exact k4)
theorem doubles_code (w : World) : Calls Try.prog 71 #[] w fun e w' => ∃ g, e = .returned (.slice (some ⟨g, 0, none⟩) 6 6) ∧ Blk w' g (codeV doublesP) 144 ∧ w.heap.size ≤ g ∧ Upd [] w w' := by
  refine calls_all fun K hK => ?_
  go_enter Try.func71, Try.ntmps71
  go_wp2
  exact ⟨_, rfl, Blk.new w (codeV doublesP) 144, Nat.le_refl _, (Upd.refl [] w).alloc _⟩
theorem num11_code (n : Int) (w : World) : Calls Try.prog 33 #[.int .i64 n] w fun e w' => e = .returned (.int .i64 n) ∧ w = w' := by
  refine calls_all fun K hK => ?_
  go_enter Try.func33, Try.ntmps33
  go_wp2
  all_goals first | exact ⟨rfl, rfl⟩ | rfl
/-- the example's run -/
def runW : Nat → TS × Sh
  | 0 => (newT, ⟨[7], 0⟩)
  | k + 1 => (StepT doublesP (runW k).1 (runW k).2).2
def toldW : Nat → Nat
  | 0 => 0
  | k + 1 => toldW k + if (StepT doublesP (runW k).1 (runW k).2).1.2 = true then 1 else 0
theorem run9 : toldW 9 = 6 ∧ (runW 9).2.row = [14] ∧ (runW 9).2.clock = 2 ∧ (runW 9).1.st = 2 ∧ (runW 9).1.regs = [0, 14, 0, 0, 0, 0, 0, 0] := by
  decide
theorem toldW_le : ∀ k, toldW k ≤ k
  | 0 => Nat.le_refl _
  | k + 1 => by
    have := toldW_le k
    unfold toldW
    split <;> omega
set_option maxHeartbeats 4000000 in
theorem works11_code (w : World) : Calls Try.prog 34 #[] w fun e w' => e = .returned (.bool true) ∧ Upd [] w w' := by
  refine calls_all fun K hK => ?_
  go_enter Try.func34, Try.ntmps34
  go_wp2_with fail
  have hs : SlI (w.alloc (.cells #[.int .u64 7] 31)) .u64 (some ⟨w.heap.size, 0, none⟩) [7] := SlI.of_blk (sp := []) (t := 31) (Blk.new w [.int .u64 7] 31)
  have u0 := (Upd.refl [] w).alloc (.cells #[.int .u64 7] 31)
  refine (of_ok (some ⟨w.heap.size, 0, none⟩) 1 [7] _ hs (by simp) (by simp)).mono ?_
  rintro e W1 ⟨ra, rb, rfl, hR, hra, hrb, u1⟩
  have U1 := u0.trans u1
  rw [World.size_alloc] at hra hrb
  clear hs u0 u1
  go_wp2_with fail
  refine (clkNew W1).mono ?_
  rintro e W2 ⟨ca, cr, cb, rfl, hC, k1, k2, k3, u2⟩
  have hX : XAt W2 ⟨ra, rb, ca, cr, cb⟩ ⟨[7], 0⟩ := XAt.made hR hC u2 k1 k2 k3 ⟨by simp, by simp⟩
  have hs1 := U1.size
  have hX0 : ∀ g ∈ SX.foot ⟨ra, rb, ca, cr, cb⟩, w.heap.size ≤ g := by simp [SX.foot]; omega
  have U2 := U1.trans u2
  clear hR hC u2 k1 k2 k3 hra hrb hs1 U1
  generalize hXe : (⟨ra, rb, ca, cr, cb⟩ : SX) = X at hX hX0
  obtain rfl : X.ra = ra := by rw [← hXe]
  obtain rfl : X.ca = ca := by rw [← hXe]
  clear hXe
  go_wp2_with fail
  refine (doubles_code W2).mono ?_
  rintro e W3 ⟨g, rfl, hB, hg, u3⟩
  have hc := code_of_blk (sp := []) (by simpa using hB)
  have HN := Lib.hid (tl_new (w0 := w) (cap := 6) (hX.upd u3 (by simp)) hX0 (U2.trans u3) hc (by decide))
  clear hX hX0 U2 u3 hB hg hc
  go_wp2_with fail
  refine HN.out.mono ?_
  rintro e W4 ⟨h1, _⟩
  obtain ⟨tb, pb, cap', rfl, hT, _⟩ := h1 doubles_formed
  have HT := Lib.hid hT
  clear h1 hT HN
  have E1 : ∀ w, (binOp .eql 22 (.pointer (some ⟨X.ra, 0, none⟩)) (.pointer none)).run Try.prog w = .ok (.bool false) w := fun w => by kernel_rfl
  have E2 : ∀ w, (binOp .eql 26 (.pointer (some ⟨X.ca, 0, none⟩)) (.pointer none)).run Try.prog w = .ok (.bool false) w := fun w => by kernel_rfl
  have E3 : ∀ w, (binOp .eql 94 (.pointer (some ⟨tb, 0, none⟩)) (.pointer none)).run Try.prog w = .ok (.bool false) w := fun w => by kernel_rfl
  go_wp2_with (go_at_call 33; refine (num11_code _ _).mono ?_; rintro e w' ⟨rfl, rfl⟩)
  clear E1 E2 E3
  go_loopw [6, 7] (fun v6 v7 wr => ∃ (k : Nat) (o : AO), k ≤ 9 ∧ v7 = .int .i64 (k : Int) ∧ v6 = .int .i64 (toldW k : Int) ∧ TL w X doublesP pb cap' tb (runW k).1 (runW k).2 o wr) (fun _ v7 _ => 9 - (intOf v7).toNat)
  case atStart => exact ⟨0, none, by omega, rfl, rfl, HT.out⟩
  case round =>
    clear HT
    obtain ⟨k, o, hk, rfl, rfl, hT⟩ := hrel
    have HT := Lib.hid hT
    clear hT
    by_cases hlt : k < 9
    · have hlt' : (k : Int) < 9 := by omega
      have hb := toldW_le k
      obtain ⟨c, hc⟩ : ∃ c, toldW k = c := ⟨_, rfl⟩
      rw [hc] at hb
      have HS := tl_step HT.out doubles_formed doubles_num
      obtain ⟨R, hR⟩ : ∃ R, StepT doublesP (runW k).1 (runW k).2 = R := ⟨_, rfl⟩
      rw [hR] at HS
      have h1 : (runW (k + 1)) = R.2 := by rw [← hR]; rfl
      have h2 : toldW (k + 1) = c + if R.1.2 = true then 1 else 0 := by rw [← hR, ← hc]; rfl
      rw [hc]
      have H1 := Lib.hid h1
      have H2 := Lib.hid h2
      have HC := Lib.hid HS
      clear h1 h2 hR hc HS
      go_wp2_with fail
      refine HC.out.mono ?_
      rintro e W5 ⟨rfl, o', hT, _, _⟩
      have HT5 := Lib.hid hT
      obtain ⟨⟨⟨ek, ea, ew, eo, ee⟩, tl⟩, t2, sh2⟩ := R
      dsimp only at HT5 H1 H2
      simp only [TE.val]
      clear hT HT HC
      cases tl with
      | true =>
        go_wp2_with fail
        go_roundw
        case rel => exact ⟨k + 1, o', by omega, by go_num, by rw [H2.out]; simp, by rw [H1.out]; exact HT5.out.upd0 ((Upd.refl [] _).alloc _)⟩
        case measure => simp [intOf]; omega
      | false =>
        go_wp2_with fail
        go_roundw
        case rel => exact ⟨k + 1, o', by omega, by go_num, by rw [H2.out]; simp, by rw [H1.out]; exact HT5.out.upd0 ((Upd.refl [] _).alloc _)⟩
        case measure => simp [intOf]; omega
    · obtain rfl : k = 9 := by omega
      obtain ⟨r1, r2, r3, r4, r5⟩ := run9
      obtain ⟨q, hq⟩ : ∃ q, runW 9 = q := ⟨_, rfl⟩
      rw [hq] at HT r2 r3 r4 r5
      rw [r1]
      obtain ⟨⟨st, er, at_, rs, sta, sv, fu, att⟩, ⟨row, clk⟩⟩ := q
      dsimp only at r2 r3 r4 r5 HT
      subst r2 r3 r4 r5
      clear hq r1
      go_wp2_with fail
      refine (tl_load HT.out 0 (by omega)).mono ?_
      rintro e W5 ⟨rfl, hT, _⟩
      have HT5 := Lib.hid hT
      clear hT HT
      have e1 : loadW [14] 0 = 14 := by decide
      have e2 : (rLoad [14] 0).2 = 0 := by decide
      dsimp only
      rw [e1, e2]
      clear e1 e2
      go_wp2_with fail
      refine (tl_clk HT5.out).mono ?_
      rintro e W6 ⟨rfl, hT, _⟩
      have HT6 := Lib.hid hT
      clear hT HT5
      go_wp2_with fail
      refine (tl_status HT6.out).mono ?_
      rintro e W7 ⟨rfl, rfl⟩
      go_wp2_with fail
      refine (tl_state HT6.out).mono ?_
      rintro e W8 ⟨rv, wv, rfl, hT⟩
      have hU := HT6.out.u.trans hT.u
      have hs8 : sv.length = 8 := by obtain ⟨acc, st, hv⟩ := HT6.out.tv; exact hv.s8
      obtain ⟨s0, s1, s2, s3, s4, s5, s6, s7, rfl⟩ := list8 hs8
      clear hs8 hT HT6
      obtain ⟨a, ha⟩ : ∃ a : AS, att.getD zeroS = a := ⟨_, rfl⟩
      obtain ⟨b, hb⟩ : ∃ b : Bool, (TS.mk 2 er at_ [0, 14, 0, 0, 0, 0, 0, 0] sta [s0, s1, s2, s3, s4, s5, s6, s7] fu att).ins = b := ⟨_, rfl⟩
      simp only [RT.val, RT.cells, RT.fore, TS.rt, rheadV, ha, hb, List.map_cons, List.map_nil, List.cons_append, List.nil_append]
      clear ha hb
      have EF : ∀ w, (Instr.field 103 (.agg #[.int .i64 2, .int .i64 er, .int .i64 at_, .int .u64 0, .int .u64 14, .int .u64 0, .int .u64 0, .int .u64 0, .int .u64 0, .int .u64 0, .int .u64 0, .bool b, .int .i64 sta, .int .u64 s0, .int .u64 s1, .int .u64 s2, .int .u64 s3, .int .u64 s4, .int .u64 s5, .int .u64 s6, .int .u64 s7, .int .i64 fu, .int .u64 a.snap, rv, wv, .int .i64 a.phase, .int .i64 a.thn, .int .u64 a.addr, .int .u64 a.word, .int .u64 a.found, .int .i64 a.at_]) 3).run Try.prog w = .ok (.agg #[.int .u64 0, .int .u64 14, .int .u64 0, .int .u64 0, .int .u64 0, .int .u64 0, .int .u64 0, .int .u64 0]) w := fun w => by kernel_rfl
      have EI : ∀ w, (Instr.index 101 (.agg #[.int .u64 0, .int .u64 14, .int .u64 0, .int .u64 0, .int .u64 0, .int .u64 0, .int .u64 0, .int .u64 0]) (.int .i64 1)).run Try.prog w = .ok (.int .u64 14) w := fun w => by kernel_rfl
      go_wp2_with fail
      exact ⟨rfl, hU⟩
end Go.Proofs.Ythfeljongackcaa
set_option linter.unusedSimpArgs false
set_option linter.unusedVariables false
set_option maxRecDepth 100000
namespace Go.Proofs.Ythfeljongackcaa
open Go.RowKit
def nameBs : List (List UInt8) := [[], [99, 111, 110, 115, 116], [109, 111, 118, 101], [97, 100, 100], [115, 117, 98], [109, 117, 108], [108, 101, 115, 115], [101, 113, 117, 97, 108], [106, 117, 109, 112], [122, 101, 114, 111], [108, 111, 97, 100], [115, 116, 111, 114, 101], [98, 101, 103, 105, 110], [103, 101, 116], [112, 117, 116], [101, 110, 100], [97, 98, 111, 114, 116], [104, 97, 108, 116]]
def strV (l : List UInt8) : Value := .string ⟨l.toArray⟩
def nameI (op : Int) : List UInt8 := if op < 0 then [] else nameBs.getD op.toNat []
set_option maxHeartbeats 8000000 in
/-- the reference's name: no table -/
theorem rname_at (op : Int) (w : World) : Calls Try.prog 128 #[.int .i64 op] w fun e w' => e = .returned (strV (nameI op)) ∧ ∃ o, w' = w.alloc o := by
  by_cases h : 0 ≤ op ∧ op < 18
  · have hc : op = 0 ∨ op = 1 ∨ op = 2 ∨ op = 3 ∨ op = 4 ∨ op = 5 ∨ op = 6 ∨ op = 7 ∨ op = 8 ∨ op = 9 ∨ op = 10 ∨ op = 11 ∨ op = 12 ∨ op = 13 ∨ op = 14 ∨ op = 15 ∨ op = 16 ∨ op = 17 := by omega
    clear h
    rcases hc with rfl | rfl | rfl | rfl | rfl | rfl | rfl | rfl | rfl | rfl | rfl | rfl | rfl | rfl | rfl | rfl | rfl | rfl
    all_goals
      refine calls_all fun K hK => ?_
      go_enter Try.func128, Try.ntmps128
      go_wp2
      first | exact ⟨rfl, _, rfl⟩ | exact ⟨_, rfl⟩
  · by_cases hn : op < 0
    · have e1 : decide (op < 0) = true := decide_eq_true hn
      have en : nameI op = [] := if_pos hn
      rw [en]
      clear h
      refine calls_all fun K hK => ?_
      go_enter Try.func128, Try.ntmps128
      go_wp2
      first | exact ⟨rfl, _, rfl⟩ | exact ⟨_, rfl⟩
    · obtain ⟨n, rfl⟩ : ∃ n : Nat, op = n := ⟨op.toNat, by omega⟩
      have hge : 18 ≤ n := by omega
      have en : nameI n = [] := by
        unfold nameI
        rw [if_neg hn]
        rw [List.getD_eq_getElem?_getD, List.getElem?_eq_none (by simp [nameBs]; omega)]
        rfl
      rw [en]
      clear h hn
      refine calls_all fun K hK => ?_
      go_enter Try.func128, Try.ntmps128
      go_wp2
      first | exact ⟨rfl, _, rfl⟩ | exact ⟨_, rfl⟩


set_option maxHeartbeats 40000000 in
theorem rinfo (op : Int) (w : World) : Calls Try.prog 108 #[.int .i64 op] w fun e w' => e = .returned (.tuple #[(formI op).val, .bool (isOp op)]) ∧ Upd [] w w' := by
  have HM := fun w => rname_at op w
  by_cases h : 1 ≤ op ∧ op ≤ 17
  · have hc : op = 1 ∨ op = 2 ∨ op = 3 ∨ op = 4 ∨ op = 5 ∨ op = 6 ∨ op = 7 ∨ op = 8 ∨ op = 9 ∨ op = 10 ∨ op = 11 ∨ op = 12 ∨ op = 13 ∨ op = 14 ∨ op = 15 ∨ op = 16 ∨ op = 17 := by omega
    clear h
    rcases hc with rfl | rfl | rfl | rfl | rfl | rfl | rfl | rfl | rfl | rfl | rfl | rfl | rfl | rfl | rfl | rfl | rfl
    all_goals
      simp [strV, nameI, nameBs] at HM
      refine calls_all fun K hK => ?_
      go_enter Try.func108, Try.ntmps108
      go_wp2_with fail
      refine (HM _).mono ?_
      rintro e w1 ⟨rfl, o, rfl⟩
      go_wp2
      all_goals first | exact ⟨rfl, ((((Upd.refl _ _).alloc _).alloc _).alloc _)⟩ | (go_returns; exact hK _ _ ⟨rfl, ((((Upd.refl _ _).alloc _).alloc _).alloc _)⟩)
  · have ef : formI op = ⟨0, false, false, false, false⟩ := if_neg h
    have ei : isOp op = false := decide_eq_false h
    have en : nameI op = [] := by
      unfold nameI
      by_cases hn : op < 0
      · rw [if_pos hn]
      · rw [if_neg hn]
        obtain ⟨n, rfl⟩ : ∃ n : Nat, op = n := ⟨op.toNat, by omega⟩
        have hn' : n = 0 ∨ 18 ≤ n := by omega
        rcases hn' with rfl | hn'
        · rfl
        · rw [Int.toNat_natCast, List.getD_eq_getElem?_getD, List.getElem?_eq_none (by simp [nameBs]; omega)]
          rfl
    rw [en] at HM
    rw [ef, ei]
    simp [strV] at HM
    clear h ef ei en
    refine calls_all fun K hK => ?_
    go_enter Try.func108, Try.ntmps108
    go_wp2_with fail
    refine (HM _).mono ?_
    rintro e w1 ⟨rfl, o, rfl⟩
    go_wp2
    all_goals first | exact ⟨rfl, ((((Upd.refl _ _).alloc _).alloc _).alloc _)⟩ | (go_returns; exact hK _ _ ⟨rfl, ((((Upd.refl _ _).alloc _).alloc _).alloc _)⟩)
theorem rregs (i : Ins) (w : World) : Calls Try.prog 109 #[i.val] w fun e w' => e = .returned (.agg #[.int .i64 i.a, .int .i64 i.b, .int .i64 i.c]) ∧ Upd [] w w' := by
  obtain ⟨op, a, b, c, n⟩ := i
  simp only [Ins.val]
  refine calls_all fun K hK => ?_
  go_enter Try.func109, Try.ntmps109
  go_wp2
  go_returns
  exact hK _ _ ⟨rfl, ((Upd.refl _ _).alloc _).alloc _⟩

set_option maxHeartbeats 8000000 in
theorem rformed (i : Ins) (w : World) : Calls Try.prog 74 #[i.val] w fun e w' => e = .returned (.bool (formed i)) ∧ Upd [] w w' := by
  obtain ⟨f, hf⟩ : ∃ f, formI i.op = f := ⟨_, rfl⟩
  obtain ⟨ok, hok⟩ : ∃ ok, isOp i.op = ok := ⟨_, rfl⟩
  have HI : ∀ w, Calls Try.prog 108 #[.int .i64 i.op] w fun e w' => e = .returned (.tuple #[f.val, .bool ok]) ∧ Upd [] w w' := fun w => by rw [← hf, ← hok]; exact rinfo i.op w
  have HR := fun w => rregs i w
  have hform : formed i = formedF f.regs i.reg (ok && (f.num || decide (i.n = 0))) := by
    unfold formed; rw [hf, hok]
  have hrc := reg_cell i
  have HF := Lib.hid hform
  clear hf hok hform
  obtain ⟨op, a, b, c, n⟩ := i
  simp only [Ins.val] at HR HI ⊢
  obtain ⟨R, nm, tg, ou, is⟩ := f
  simp only [Form.val] at HI
  obtain ⟨reg, hreg⟩ : ∃ reg, Ins.reg ⟨op, a, b, c, n⟩ = reg := ⟨_, rfl⟩
  rw [hreg] at hrc HF
  clear hreg
  obtain ⟨F, hFF⟩ : ∃ F, formed ⟨op, a, b, c, n⟩ = F := ⟨_, rfl⟩
  rw [hFF] at HF ⊢
  clear hFF
  refine calls_all fun K hK => ?_
  go_enter Try.func74, Try.ntmps74
  go_wp2_with fail
  refine (HI _).mono ?_
  rintro e w1 ⟨rfl, u1⟩
  have u0 : Upd [] w w1 := ((Upd.refl _ _).alloc _).trans u1
  have hb : Blk w1 w.heap.size [.int .i64 op, .int .i64 a, .int .i64 b, .int .i64 c, .int .u64 n] 144 := (Blk.new w _ _).upd u1 (by simp)
  clear u1
  have hbA := hb.alloc (.cells #[.int .i64 (R : Int), .bool nm, .bool tg, .bool ou, .bool is] 175)
  have d0 := hbA.cell 0 rfl
  have d1 := hbA.cell 1 rfl
  have d2 := hbA.cell 2 rfl
  have d3 := hbA.cell 3 rfl
  have d4 := hbA.cell 4 rfl
  clear hbA
  have HB := Lib.hid hb
  have U0 := Lib.hid u0
  clear hb u0
  go_wp2_with fail
  refine (HR _).mono ?_
  rintro e w2 ⟨rfl, u2⟩
  have hf2 := ((Blk.new w1 [.int .i64 (R : Int), .bool nm, .bool tg, .bool ou, .bool is] 175).upd u2 (by simp)).alloc (.cells #[.int .i64 a, .int .i64 b, .int .i64 c] 178)
  have hb2 := ((HB.out.alloc (.cells #[.int .i64 (R : Int), .bool nm, .bool tg, .bool ou, .bool is] 175)).upd u2 (by simp)).alloc (.cells #[.int .i64 a, .int .i64 b, .int .i64 c] 178)
  have hg2 := Blk.new w2 [.int .i64 a, .int .i64 b, .int .i64 c] 178
  have U2 := Lib.hid (((U0.out.alloc (.cells #[.int .i64 (R : Int), .bool nm, .bool tg, .bool ou, .bool is] 175)).trans u2).alloc (.cells #[.int .i64 a, .int .i64 b, .int .i64 c] 178))
  clear d0 d1 d2 d3 d4 u2 HB U0
  go_wp2_with fail
  obtain ⟨W, hW⟩ : ∃ W, w2.alloc (.cells #[.int .i64 a, .int .i64 b, .int .i64 c] 178) = W := ⟨_, rfl⟩
  rw [hW] at hf2 hb2 hg2 U2 ⊢
  clear hW
  have f0 := hf2.cell 0 rfl
  have f1 := hf2.cell 1 rfl
  have b4 := hb2.cell 4 rfl
  clear hf2 hb2
  go_loop [6] (fun v16 => ∃ k : Nat, k ≤ 3 ∧ v16 = .int .i64 k ∧ ∀ j, j < k → okReg R reg j = true) (fun v16 => 3 - (intOf v16).toNat)
  case atStart => exact ⟨0, by omega, rfl, by omega⟩
  case round =>
    obtain ⟨k, hk, rfl, hall⟩ := hrel
    have HA := Lib.hid hall
    clear hall
    by_cases hlt : k < 3
    · have hc := hg2.cell k (hrc k hlt)
      have hkl : (k : Int) < 3 := by omega
      have HN : Hid (okReg R reg k = false → F = false) := Lib.hid fun h => HF.out.trans (formedF_no h hlt)
      obtain ⟨r, hr⟩ : ∃ r, reg k = r := ⟨_, rfl⟩
      rw [hr] at hc
      have HK := Lib.hid hr
      clear hr hrc
      by_cases hkR : k < R
      · by_cases h0 : r < 0
        · have e0 := HN.out (okReg_neg (by rw [HK.out]; exact h0))
          subst e0
          clear HN HF
          go_wp2
          all_goals first | exact U2.out | exact ⟨rfl, U2.out⟩
        · by_cases h8 : 8 ≤ r
          · have e0 := HN.out (okReg_big (by rw [HK.out]; exact h8))
            subst e0
            clear HN HF
            go_wp2
            all_goals first | exact U2.out | exact ⟨rfl, U2.out⟩
          · have HY := Lib.hid (okReg_in hkR (show 0 ≤ reg k by rw [HK.out]; omega) (show reg k < 8 by rw [HK.out]; omega))
            have hnk : decide (R ≤ k) = false := decide_eq_false (by omega)
            clear HN
            go_wp2
            go_round
            case rel => exact ⟨k + 1, by omega, by go_num, fun j hj => by rcases Nat.lt_succ_iff_lt_or_eq.1 hj with h | rfl; exact HA.out j h; exact HY.out⟩
            case measure => simp [intOf]; omega
      · have hRk : R ≤ k := by omega
        by_cases hz : r = 0
        · have HY := Lib.hid (okReg_zero hkR (show reg k = 0 by rw [HK.out]; exact hz))
          subst hz
          clear HN
          go_wp2
          go_round
          case rel => exact ⟨k + 1, by omega, by go_num, fun j hj => by rcases Nat.lt_succ_iff_lt_or_eq.1 hj with h | rfl; exact HA.out j h; exact HY.out⟩
          case measure => simp [intOf]; omega
        · have e0 := HN.out (okReg_more hkR (by rw [HK.out]; exact hz))
          subst e0
          have hzz : (r != 0) = true := by simpa using hz
          clear HN HF
          go_wp2
          all_goals first | exact U2.out | exact ⟨rfl, U2.out⟩
    · obtain rfl : k = 3 := by omega
      have eF := HF.out.trans (formedF_yes HA.out)
      have HE := Lib.hid eF
      clear eF HF
      by_cases hn : n = 0
      · subst hn
        cases ok <;> cases nm
        all_goals
          go_wp2
          all_goals first | exact ⟨by rw [HE.out]; rfl, U2.out⟩ | (rw [HE.out]; exact ⟨rfl, U2.out⟩) | (rw [HE.out]; exact U2.out)
      · have hnn : (n == 0) = false := beq_eq_false_iff_ne.2 hn
        have hdn : decide (n = 0) = false := decide_eq_false hn
        cases ok <;> cases nm
        all_goals
          go_wp2
          all_goals first | exact ⟨by rw [HE.out, hdn]; rfl, U2.out⟩ | (rw [HE.out]; exact ⟨rfl, U2.out⟩) | (rw [HE.out]; exact U2.out)

end Go.Proofs.Ythfeljongackcaa
