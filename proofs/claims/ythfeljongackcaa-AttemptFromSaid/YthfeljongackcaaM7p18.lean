/- The document's Twin, From and Copy; the program's kept. The conditions are sizes. Which states may be: as the program asks it, as the document asks it. Plain; no program in sight. No condition. A map that counts addresses, of the call's own: what it answers, what a store makes of it. No condition. The program's may: it says of each state whether it may be. The conditions are sizes. The document's twice: does an address stand twice? The condition is a size. -/
import Derived.Test.YthfeljongackcaaM7p17
import Derived.Test.YthfeljongackcaaM7p00
import Derived.Test.YthfeljongackcaaM7p07
import Derived.Test.YthfeljongackcaaM7p11
import Derived.Deep.Cut
import Derived.Deep.CutRange
import Derived.Deep.CutBlock
import Derived.Deep.DeepCutAuto
import Derived.BigFrame
set_option linter.unusedSimpArgs false
set_option linter.unusedVariables false
set_option maxRecDepth 100000
namespace Go.Proofs.Ythfeljongackcaa
open Go.RowKit
open Go.Maps
def zeroS : AS := ⟨0, [], [], 0, 0, 0, 0, 0, 0⟩
/-- the nine cells, all stored -/
theorem nine_set {W : World} {b : Nat} (h : Blk W b (rheadV zeroS (.slice none 0 0) (.slice none 0 0)) 60) (s : AS) (rv wv : Value) :
    Blk ((((((((((W.setCell ⟨b, 0, none⟩ (.int .u64 s.snap)).setCell ⟨b, 1, none⟩ rv).setCell ⟨b, 2, none⟩ wv).setCell ⟨b, 3, none⟩ (.int .i64 s.phase)).setCell ⟨b, 4, none⟩ (.int .i64 s.thn)).setCell ⟨b, 5, none⟩ (.int .u64 s.addr)).setCell ⟨b, 6, none⟩ (.int .u64 s.word)).setCell ⟨b, 7, none⟩ (.int .u64 s.found)).setCell ⟨b, 8, none⟩ (.int .i64 s.at_))) b (rheadV s rv wv) 60 :=
  ((((((((h.set 0 _).set 1 _).set 2 _).set 3 _).set 4 _).set 5 _).set 6 _).set 7 _).set 8 _
theorem nine_upd {S : List Nat} {w W : World} {b : Nat} (u : Upd S w W) (hb : b ∈ S ∨ w.heap.size ≤ b) (v0 v1 v2 v3 v4 v5 v6 v7 v8 : Value) :
    Upd S w ((((((((((W.setCell ⟨b, 0, none⟩ v0).setCell ⟨b, 1, none⟩ v1).setCell ⟨b, 2, none⟩ v2).setCell ⟨b, 3, none⟩ v3).setCell ⟨b, 4, none⟩ v4).setCell ⟨b, 5, none⟩ v5).setCell ⟨b, 6, none⟩ v6).setCell ⟨b, 7, none⟩ v7).setCell ⟨b, 8, none⟩ v8)) :=
  ((((((((u.setCell hb _).setCell hb _).setCell hb _).setCell hb _).setCell hb _).setCell hb _).setCell hb _).setCell hb _).setCell hb _
-- the state in the box at w.heap.size goes into the result's cells; world W4
theorem TwoNew.more {w w' w2 : World} {s : AS} {rv wv : Value} {b : Nat} (h : TwoNew w w' s rv wv) (u : Upd [b] w' w2) (hb : ∀ g, g = b → w.heap.size ≤ g ∧ rv.ownBlock ≠ some g ∧ wv.ownBlock ≠ some g) : TwoNew w w2 s rv wv :=
  ⟨h.rd.upd u (fun g hg => by simp at hg; exact (hb g hg).2.1), h.wr.upd u (fun g hg => by simp at hg; exact (hb g hg).2.2), h.ap, h.nr, h.nw, h.u.tr u (by simp) (fun x hx => by simp at hx; exact .inr (hb x hx).1)⟩
/-- a state in new memory -/
theorem twin_code (w : World) (s : AS) (rv wv : Value) (h1 : SlC w rv s.reads) (h2 : SlC w wv s.writes) (hl1 : s.reads.length * 16 ≤ 140737488355328) (hl2 : s.writes.length * 16 ≤ 140737488355328) : Calls Try.prog 29 #[stateV s rv wv] w (NewState w s) := by
  have HA := Lib.hid fun (W : World) (u : Upd [] w W) => app_cells W rv s.reads (h1.upd0 u) hl1
  have HB := Lib.hid fun (W : World) (u : Upd [] w W) => app_cells W wv s.writes (h2.upd0 u) hl2
  obtain ⟨p, c, rfl, _⟩ := h1
  obtain ⟨q, d, rfl, _⟩ := h2
  obtain ⟨sn, rd, wl, ph, th, ad, wo, fo, at_⟩ := s
  dsimp only at HA HB hl1 hl2
  simp only [stateV]
  obtain ⟨W, hW⟩ : ∃ W, (w.alloc (.cells #[.int .u64 sn, .slice p rd.length c, .slice q wl.length d, .int .i64 ph, .int .i64 th, .int .u64 ad, .int .u64 wo, .int .u64 fo, .int .i64 at_] 60)).alloc (.cells (rheadV zeroS (.slice none 0 0) (.slice none 0 0)).toArray 60) = W := ⟨_, rfl⟩
  have uW : Upd [] w W := by rw [← hW]; exact ((Upd.refl [] _).alloc _).alloc _
  have BW : Blk W w.heap.size [.int .u64 sn, .slice p rd.length c, .slice q wl.length d, .int .i64 ph, .int .i64 th, .int .u64 ad, .int .u64 wo, .int .u64 fo, .int .i64 at_] 60 := by rw [← hW]; exact (Blk.new w _ _).alloc _
  have RW : Blk W (w.heap.size + 1) (rheadV zeroS (.slice none 0 0) (.slice none 0 0)) 60 := by
    have := Blk.new (w.alloc (.cells #[.int .u64 sn, .slice p rd.length c, .slice q wl.length d, .int .i64 ph, .int .i64 th, .int .u64 ad, .int .u64 wo, .int .u64 fo, .int .i64 at_] 60)) (rheadV zeroS (.slice none 0 0) (.slice none 0 0)) 60
    rw [World.size_alloc] at this
    rw [← hW]; exact this
  simp only [rheadV, zeroS] at hW
  have b1' := BW.cell 1 rfl
  obtain ⟨v1, W1, hr1, n1⟩ := HA.out W uW
  obtain ⟨p1, k1, e1⟩ := n1.own.form
  (try dsimp only at e1)
  subst e1
  have B1 := BW.upd n1.u (by simp)
  have R1 := RW.upd n1.u (by simp)
  have c1 := B1.cell 1 rfl
  have f1 := B1.free 1
  have B2 := B1.set 1 (.slice p1 rd.length k1)
  have us : Upd [w.heap.size] W1 (W1.setCell ⟨w.heap.size, 1, none⟩ (.slice p1 rd.length k1)) := (Upd.refl _ _).setCell (.inl (by simp)) _
  have R2 := R1.upd us (by simp)
  have u2 : Upd [] w (W1.setCell ⟨w.heap.size, 1, none⟩ (.slice p1 rd.length k1)) := (uW.trans n1.u).tr us (by simp) (by simp)
  have c2 := B2.cell 2 rfl
  obtain ⟨v2, W3, hr2, n2⟩ := HB.out _ u2
  obtain ⟨p2, k2, e2⟩ := n2.own.form
  (try dsimp only at e2)
  subst e2
  have B3 := B2.upd n2.u (by simp)
  have R3 := R2.upd n2.u (by simp)
  have c3 := B3.cell 2 rfl
  have f3 := B3.free 2
  have hz := BW.lt
  have zs := uW.size
  have z1 := n1.u.size
  have HR1 := Lib.hid hr1
  have HR2 := Lib.hid hr2
  have zz : W1.heap.size ≤ (W1.setCell ⟨w.heap.size, 1, none⟩ (.slice p1 rd.length k1)).heap.size := us.size
  have B4 := B3.set 2 (.slice p2 wl.length k2)
  have us4 : Upd [w.heap.size] W3 (W3.setCell ⟨w.heap.size, 2, none⟩ (.slice p2 wl.length k2)) := (Upd.refl _ _).setCell (.inl (by simp)) _
  have R4 := R3.upd us4 (by simp)
  have hv1 : (Value.slice p1 rd.length k1).ownBlock ≠ some w.heap.size := fun e => by have := n1.new _ e; omega
  have hv2 : (Value.slice p2 wl.length k2).ownBlock ≠ some w.heap.size := fun e => by have := n2.new _ e; omega
  have hv3 : (Value.slice p1 rd.length k1).ownBlock ≠ some (w.heap.size + 1) := fun e => by have := n1.new _ e; have := RW.lt; omega
  have hv4 : (Value.slice p2 wl.length k2).ownBlock ≠ some (w.heap.size + 1) := fun e => by have := n2.new _ e; have := RW.lt; omega
  have TN : TwoNew w (W3.setCell ⟨w.heap.size, 2, none⟩ (.slice p2 wl.length k2)) (⟨sn, rd, wl, ph, th, ad, wo, fo, at_⟩ : AS) (.slice p1 rd.length k1) (.slice p2 wl.length k2) :=
    ⟨((n1.own.upd us (fun g hg e => by simp at hg; subst hg; exact hv1 e)).upd n2.u (by simp)).upd us4 (fun g hg e => by simp at hg; subst hg; exact hv1 e), n2.own.upd us4 (fun g hg e => by simp at hg; subst hg; exact hv2 e),
      fun g hg e => by have h1 := n1.own.lt hg; have h2 := n2.new g e; omega, fun g hg => by have := n1.new g hg; omega, fun g hg => by have := n2.new g hg; omega, ((u2.trans n2.u).tr us4 (by simp) (by simp))⟩
  have HTN : ∀ g, g = w.heap.size + 1 → w.heap.size ≤ g ∧ (Value.slice p1 rd.length k1).ownBlock ≠ some g ∧ (Value.slice p2 wl.length k2).ownBlock ≠ some g := fun g hg => by subst hg; exact ⟨by omega, hv3, hv4⟩
  clear n1 n2 u2 us us4 hr1 hr2 R1 R2 R3 B1 B2 B3 hv1 hv2 hv3 hv4
  refine calls_all fun K hK => ?_
  go_enter Try.func29, Try.ntmps29
  have b0 := B4.cell 0 rfl
  have b1 := B4.cell 1 rfl
  have b2 := B4.cell 2 rfl
  have b3 := B4.cell 3 rfl
  have b4 := B4.cell 4 rfl
  have b5 := B4.cell 5 rfl
  have b6 := B4.cell 6 rfl
  have b7 := B4.cell 7 rfl
  have b8 := B4.cell 8 rfl
  have q0 := R4.cell 0 rfl
  have q1 := R4.cell 1 rfl
  have q2 := R4.cell 2 rfl
  have q3 := R4.cell 3 rfl
  have q4 := R4.cell 4 rfl
  have q5 := R4.cell 5 rfl
  have q6 := R4.cell 6 rfl
  have q7 := R4.cell 7 rfl
  have q8 := R4.cell 8 rfl
  have g0 := R4.free 0
  have g1 := R4.free 1
  have g2 := R4.free 2
  have g3 := R4.free 3
  have g4 := R4.free 4
  have g5 := R4.free 5
  have g6 := R4.free 6
  have g7 := R4.free 7
  have g8 := R4.free 8
  go_wp2_with (first | (at_builtin; refine wpList_append_eq rfl (.const (.slice none 0 0)) (.tmp 4) _ _ rfl _ _ _ rfl rfl HR1.out ?_; clear hW b1') | (at_builtin; refine wpList_append_eq rfl (.const (.slice none 0 0)) (.tmp 8) _ _ rfl _ _ _ rfl rfl HR2.out ?_; clear c1 f1 c2))
  refine bodyPost_ret (state_results 2 rfl _ _ (w.heap.size + 1) (⟨sn, rd, wl, ph, th, ad, wo, fo, at_⟩ : AS) (.slice p1 rd.length k1) (.slice p2 wl.length k2) rfl (nine_set R4 (⟨sn, rd, wl, ph, th, ad, wo, fo, at_⟩ : AS) (.slice p1 rd.length k1) (.slice p2 wl.length k2))) rfl (hK _ _ ⟨_, _, rfl, ?_⟩)
  exact TN.more (nine_upd (S := [w.heap.size + 1]) (Upd.refl _ _) (.inl (by simp)) _ _ _ _ _ _ _ _ _) HTN

/-- the program's: a state in new memory -/
theorem kept_code (w : World) (s : AS) (rv wv : Value) (h1 : SlC w rv s.reads) (h2 : SlC w wv s.writes) (n1 : s.reads = [] → rv = .slice none 0 0) (n2 : s.writes = [] → wv = .slice none 0 0) (hl1 : s.reads.length * 16 ≤ 140737488355328) (hl2 : s.writes.length * 16 ≤ 140737488355328) : Calls Try.prog 54 #[stateV s rv wv] w (NewState w s) := by
  have HA := Lib.hid fun (W : World) (u : Upd [] w W) => clone_cells W rv s.reads (h1.upd0 u) n1 hl1
  have HB := Lib.hid fun (W : World) (u : Upd [] w W) => clone_cells W wv s.writes (h2.upd0 u) n2 hl2
  clear n1 n2
  obtain ⟨p, c, rfl, _⟩ := h1
  obtain ⟨q, d, rfl, _⟩ := h2
  obtain ⟨sn, rd, wl, ph, th, ad, wo, fo, at_⟩ := s
  dsimp only at HA HB hl1 hl2
  simp only [stateV]
  obtain ⟨W, hW⟩ : ∃ W, (w.alloc (.cells #[.int .u64 sn, .slice p rd.length c, .slice q wl.length d, .int .i64 ph, .int .i64 th, .int .u64 ad, .int .u64 wo, .int .u64 fo, .int .i64 at_] 60)).alloc (.cells (rheadV zeroS (.slice none 0 0) (.slice none 0 0)).toArray 60) = W := ⟨_, rfl⟩
  have uW : Upd [] w W := by rw [← hW]; exact ((Upd.refl [] _).alloc _).alloc _
  have BW : Blk W w.heap.size [.int .u64 sn, .slice p rd.length c, .slice q wl.length d, .int .i64 ph, .int .i64 th, .int .u64 ad, .int .u64 wo, .int .u64 fo, .int .i64 at_] 60 := by rw [← hW]; exact (Blk.new w _ _).alloc _
  have RW : Blk W (w.heap.size + 1) (rheadV zeroS (.slice none 0 0) (.slice none 0 0)) 60 := by
    have := Blk.new (w.alloc (.cells #[.int .u64 sn, .slice p rd.length c, .slice q wl.length d, .int .i64 ph, .int .i64 th, .int .u64 ad, .int .u64 wo, .int .u64 fo, .int .i64 at_] 60)) (rheadV zeroS (.slice none 0 0) (.slice none 0 0)) 60
    rw [World.size_alloc] at this
    rw [← hW]; exact this
  simp only [rheadV, zeroS] at hW
  have hz := BW.lt
  refine calls_all fun K hK => ?_
  go_enter Try.func54, Try.ntmps54
  go_wp2_with fail
  clear hW
  have uD := uW.drew
  have BD := BW.drew
  have RD := RW.drew
  have hzD : w.heap.size + 1 < W.drew.heap.size := RD.lt
  refine wp_region_ordT (fun w' => w'.cell? ⟨w.heap.size, 1, none⟩ = some (.slice p rd.length c) ∧ w'.cell? ⟨w.heap.size, 2, none⟩ = some (.slice q wl.length d)) [0, 1, 3, 4, 2, 6, 5, 7, 8, 9] [7, 8, 9] (by kernel_rfl) (by kernel_rfl) ?_
  clear uW BW RW hz
  generalize W.drew = W0 at uD BD RD hzD ⊢
  have hS0 : W0.cell? ⟨w.heap.size, 1, none⟩ = some (.slice p rd.length c) ∧ W0.cell? ⟨w.heap.size, 2, none⟩ = some (.slice q wl.length d) := ⟨BD.cell 1 rfl, BD.cell 2 rfl⟩
  repeat
    first
      | (refine wpT_skip rfl (by decide) (by assumption) (by rfl) ?_)
      | ((refine wpT_take (v := ?_) rfl (by decide) (by assumption) rfl (by rfl) ?_ ?_); rotate_left 1; (· ((intro w hSw; (try dsimp only at hSw); go_simp); try with_reducible rfl)))
    try simp only [Act.put, List.setIfInBounds_toArray, List.set_cons_zero, List.set_cons_succ]
  refine wpT_eff rfl (by kernel_rfl) (by rfl) (fun K2 hK2 => ?_)
  go_simp
  refine (HA.out W0 uD).mono ?_
  rintro e W1 ⟨v1, rfl, m1⟩
  obtain ⟨p1, k1, e1⟩ := m1.own.form
  (try dsimp only at e1)
  subst e1
  have B1 := BD.upd m1.u (by simp)
  have R1 := RD.upd m1.u (by simp)
  have z1 := m1.u.size
  have hS1 : W1.cell? ⟨w.heap.size, 1, none⟩ = some (.slice p rd.length c) ∧ W1.cell? ⟨w.heap.size, 2, none⟩ = some (.slice q wl.length d) := ⟨B1.cell 1 rfl, B1.cell 2 rfl⟩
  refine hK2.out _ _ hS1 ?_
  clear hK2 K2 hS0
  repeat
    first
      | (refine wpT_skip rfl (by decide) (by assumption) (by rfl) ?_)
      | ((refine wpT_take (v := ?_) rfl (by decide) (by assumption) rfl (by rfl) ?_ ?_); rotate_left 1; (· ((intro w hSw; (try dsimp only at hSw); go_simp); try with_reducible rfl)))
    try simp only [Act.put, List.setIfInBounds_toArray, List.set_cons_zero, List.set_cons_succ]
  refine wpT_eff rfl (by kernel_rfl) (by rfl) (fun K2 hK2 => ?_)
  go_simp
  refine (HB.out W1 (uD.trans m1.u)).mono ?_
  rintro e W2 ⟨v2, rfl, m2⟩
  obtain ⟨p2, k2, e2⟩ := m2.own.form
  (try dsimp only at e2)
  subst e2
  have B2 := B1.upd m2.u (by simp)
  have R2 := R1.upd m2.u (by simp)
  have hS2 : W2.cell? ⟨w.heap.size, 1, none⟩ = some (.slice p rd.length c) ∧ W2.cell? ⟨w.heap.size, 2, none⟩ = some (.slice q wl.length d) := ⟨B2.cell 1 rfl, B2.cell 2 rfl⟩
  refine hK2.out _ _ hS2 ?_
  clear hK2 K2 hS1 hS2
  have c1 := B2.cell 1 rfl
  have f1 := B2.free 1
  have c2 := (B2.set 1 (.slice p1 rd.length k1)).cell 2 rfl
  have f2 := (B2.set 1 (.slice p1 rd.length k1)).free 2
  refine wpT_last rfl (by decide) (by kernel_rfl) (by rfl) (fun K2 hK2 => ?_)
  go_simp
  refine hK2.out _ _ ?_
  clear hK2 K2 c1 f1
  refine wpT_last rfl (by decide) (by kernel_rfl) (by rfl) (fun K2 hK2 => ?_)
  go_simp
  refine hK2.out _ _ ?_
  clear hK2 K2
  refine wpT_last rfl (by decide) (by kernel_rfl) (by rfl) (fun K2 hK2 => ?_)
  go_simp
  refine hK2.out _ _ ?_
  clear hK2 K2 c2 f2
  refine wpT_end (NoPanic.normal ?_)
  have hv1 : (Value.slice p1 rd.length k1).ownBlock ≠ some w.heap.size := fun e => by have := m1.new _ e; omega
  have hv2 : (Value.slice p2 wl.length k2).ownBlock ≠ some w.heap.size := fun e => by have := m2.new _ e; omega
  have hv3 : (Value.slice p1 rd.length k1).ownBlock ≠ some (w.heap.size + 1) := fun e => by have := m1.new _ e; omega
  have hv4 : (Value.slice p2 wl.length k2).ownBlock ≠ some (w.heap.size + 1) := fun e => by have := m2.new _ e; omega
  have B4 := (B2.set 1 (.slice p1 rd.length k1)).set 2 (.slice p2 wl.length k2)
  have us : Upd [w.heap.size] W2 ((W2.setCell ⟨w.heap.size, 1, none⟩ (.slice p1 rd.length k1)).setCell ⟨w.heap.size, 2, none⟩ (.slice p2 wl.length k2)) := ((Upd.refl _ _).setCell (.inl (by simp)) _).setCell (.inl (by simp)) _
  have R4 := R2.upd us (by simp)
  have TN : TwoNew w ((W2.setCell ⟨w.heap.size, 1, none⟩ (.slice p1 rd.length k1)).setCell ⟨w.heap.size, 2, none⟩ (.slice p2 wl.length k2)) (⟨sn, rd, wl, ph, th, ad, wo, fo, at_⟩ : AS) (.slice p1 rd.length k1) (.slice p2 wl.length k2) :=
    ⟨(m1.own.upd m2.u (by simp)).upd us (fun g hg e => by simp at hg; subst hg; exact hv1 e), m2.own.upd us (fun g hg e => by simp at hg; subst hg; exact hv2 e),
      fun g hg e => by have h1 := m1.own.lt hg; have h2 := m2.new g e; omega, fun g hg => by have := m1.new g hg; omega, fun g hg => by have := m2.new g hg; omega, (((uD.trans m1.u).trans m2.u).tr us (by simp) (by simp))⟩
  have HTN : ∀ g, g = w.heap.size + 1 → w.heap.size ≤ g ∧ (Value.slice p1 rd.length k1).ownBlock ≠ some g ∧ (Value.slice p2 wl.length k2).ownBlock ≠ some g := fun g hg => by subst hg; exact ⟨by omega, hv3, hv4⟩
  clear uD BD RD R1 B1 B2 R2 m1 m2 us hv1 hv2 hv3 hv4
  have b0 := B4.cell 0 rfl
  have b1 := B4.cell 1 rfl
  have b2 := B4.cell 2 rfl
  have b3 := B4.cell 3 rfl
  have b4 := B4.cell 4 rfl
  have b5 := B4.cell 5 rfl
  have b6 := B4.cell 6 rfl
  have b7 := B4.cell 7 rfl
  have b8 := B4.cell 8 rfl
  have q0 := R4.cell 0 rfl
  have q1 := R4.cell 1 rfl
  have q2 := R4.cell 2 rfl
  have q3 := R4.cell 3 rfl
  have q4 := R4.cell 4 rfl
  have q5 := R4.cell 5 rfl
  have q6 := R4.cell 6 rfl
  have q7 := R4.cell 7 rfl
  have q8 := R4.cell 8 rfl
  have g0 := R4.free 0
  have g1 := R4.free 1
  have g2 := R4.free 2
  have g3 := R4.free 3
  have g4 := R4.free 4
  have g5 := R4.free 5
  have g6 := R4.free 6
  have g7 := R4.free 7
  have g8 := R4.free 8
  go_wp2_with fail
  refine bodyPost_ret (state_results 2 rfl _ _ (w.heap.size + 1) (⟨sn, rd, wl, ph, th, ad, wo, fo, at_⟩ : AS) (.slice p1 rd.length k1) (.slice p2 wl.length k2) rfl (nine_set R4 (⟨sn, rd, wl, ph, th, ad, wo, fo, at_⟩ : AS) (.slice p1 rd.length k1) (.slice p2 wl.length k2))) rfl (hK _ _ ⟨_, _, rfl, ?_⟩)
  exact TN.more (nine_upd (S := [w.heap.size + 1]) (Upd.refl _ _) (.inl (by simp)) _ _ _ _ _ _ _ _ _) HTN
end Go.Proofs.Ythfeljongackcaa
set_option linter.unusedSimpArgs false
set_option linter.unusedVariables false
set_option maxRecDepth 100000
namespace Go.Proofs.Ythfeljongackcaa
open Go.RowKit
def most (s : AS) : Int := if s.phase = 5 then s.reads.length else if s.phase = 8 then s.writes.length else 1
def lockP (s : AS) : Bool := (decide (7 ≤ s.phase) && decide (s.phase < 10)) || s.thn == 7
/-- the state's head -/
structure HeadP (s : AS) : Prop where
  ph : 1 ≤ s.phase ∧ s.phase ≤ 10
  val : validB s = (s.thn != 0)
  thn : s.thn = 0 ∨ s.thn = 2 ∨ s.thn = 7
/-- an attempt that is over -/
structure OverP (s : AS) : Prop where
  snap : s.snap = 0
  addr : s.addr = 0
  word : s.word = 0
  found : s.found = 0
  at_ : s.at_ = 0
  len : s.reads.length + s.writes.length = 0
/-- one that is not -/
structure GoesP (s : AS) : Prop where
  at0 : 0 ≤ s.at_
  at1 : s.at_ < most s
  addr : getsB s = false → s.addr = 0
  word : s.phase ≠ 3 → s.word = 0
  found : s.phase ≠ 5 → s.phase ≠ 6 → s.found = 0
  snap2 : s.snap % 2 = 0
  found2 : s.found % 2 = 0
  lenR : s.reads.length ≤ 1024
  lenW : s.writes.length ≤ 1024
  lock : lockP s = true → s.writes ≠ []
  get1 : getsB s = true → s.reads.length ≠ 1024
  get2 : getsB s = true → s.addr ∉ s.writes.map (·.1)

theorem may_prog (s : AS) : May s ↔ HeadP s ∧ (s.writes.map (·.1)).Nodup ∧ (s.phase = 10 → OverP s) ∧ (s.phase ≠ 10 → GoesP s) := by
  constructor
  · intro h
    have hph := h.ph
    have hthn := h.thn
    refine ⟨⟨hph, ?_, ?_⟩, h.nodup, fun h10 => ?_, fun h10 => ?_⟩
    · cases hv : validB s
      · rw [hv] at hthn; simp at hthn; simp [hthn]
      · rw [hv] at hthn; simp at hthn; rcases hthn with e | e <;> simp [e]
    · cases hv : validB s
      · rw [hv] at hthn; simp at hthn; exact .inl hthn
      · rw [hv] at hthn; simp at hthn; exact .inr hthn
    · obtain ⟨o1, o2, o3⟩ := h.over h10
      have hv : validB s = false := by simp [validB, h10]
      rw [hv] at hthn
      simp at hthn
      have hg : getsB s = false := by simp [getsB, h10, hthn]
      exact ⟨o1, h.addr hg, h.word (by omega), h.found (by omega) (by omega), h.at0 (by omega) (by omega), by simp [o2, o3]⟩
    · have hm : 0 ≤ s.at_ ∧ s.at_ < most s := by
        unfold most
        by_cases h5 : s.phase = 5
        · rw [if_pos h5]; exact h.at5 h5
        · by_cases h8 : s.phase = 8
          · rw [if_neg h5, if_pos h8]; exact h.at8 h8
          · rw [if_neg h5, if_neg h8]; have := h.at0 h5 h8; omega
      refine ⟨hm.1, hm.2, h.addr, h.word, h.found, h.even.1, h.even.2, h.lenR, h.lenW, fun hl => h.locks ?_, fun hg => by have := (h.gets hg).1; omega, fun hg => (h.gets hg).2⟩
      simp only [lockP, Bool.or_eq_true, Bool.and_eq_true, decide_eq_true_eq, beq_iff_eq] at hl
      simp only [locksB, Bool.or_eq_true, beq_iff_eq]
      omega
  · rintro ⟨⟨hph, hval, hthn⟩, hnd, ho, hg⟩
    by_cases h10 : s.phase = 10
    · have o := ho h10
      have hv : validB s = false := by simp [validB, h10]
      have ht : s.thn = 0 := by rw [hv] at hval; simpa using hval.symm
      have hl := o.len
      have hr : s.reads = [] := List.length_eq_zero_iff.1 (by omega)
      have hw : s.writes = [] := List.length_eq_zero_iff.1 (by omega)
      refine ⟨hph, by rw [hv]; simpa using ht, fun _ => o.addr, fun _ => o.word, fun _ _ => o.found, fun _ _ => o.at_, fun h => by omega, fun h => by omega, fun _ => ⟨o.snap, hr, hw⟩, by rw [o.snap, o.found]; decide, by simp [hr], by simp [hw], hnd, fun hl => ?_, fun hl => ?_⟩
      · simp [locksB, h10, ht] at hl
      · simp [getsB, h10, ht] at hl
    · have g := hg h10
      have hat0 := g.at0
      have hat1 := g.at1
      unfold most at hat1
      refine ⟨hph, ?_, g.addr, g.word, g.found, fun h5 h8 => by rw [if_neg h5, if_neg h8] at hat1; omega, fun h5 => by rw [if_pos h5] at hat1; exact ⟨hat0, hat1⟩, fun h8 => by rw [if_neg (by omega), if_pos h8] at hat1; exact ⟨hat0, hat1⟩, fun h => absurd h h10, ⟨g.snap2, g.found2⟩, g.lenR, g.lenW, hnd, fun hl => g.lock ?_, fun hl => ⟨by have h1 := g.get1 hl; have h2 := g.lenR; omega, g.get2 hl⟩⟩
      · cases hv : validB s
        · rw [hv] at hval
          simpa using hval.symm
        · rw [hv] at hval
          have : s.thn ≠ 0 := by simpa using hval.symm
          simp
          omega
      · simp only [locksB, Bool.or_eq_true, beq_iff_eq] at hl
        simp only [lockP, Bool.or_eq_true, Bool.and_eq_true, decide_eq_true_eq, beq_iff_eq]
        omega
end Go.Proofs.Ythfeljongackcaa
set_option linter.unusedSimpArgs false
set_option linter.unusedVariables false
set_option maxRecDepth 100000
namespace Go.Proofs.Ythfeljongackcaa
open Go.RowKit
open Go.Maps
/-- block m is a map from u64 to int that answers f -/
def CountAt (w : World) (m n : Nat) (f : Int → Int) : Prop :=
  ∃ D : DataW Unit, w.ownsMap Try.prog 31 (plainElem Try.prog 3) m n D ∧ ∀ x : Int, 0 ≤ x → x < 18446744073709551616 → D.atKey (.int .u64 x) (.lit (.int .i64 0)) = .lit (.int .i64 (f x))
section
variable {w w' : World} {m n : Nat} {f : Int → Int}
theorem CountAt.upd {S : List Nat} (h : CountAt w m n f) (u : Upd S w w') (hS : m ∉ S) : CountAt w' m n f := by
  obtain ⟨D, ⟨es, cl, hb, r⟩, h2⟩ := h
  have hlt : m < w.heap.size := by
    by_cases hb' : m < w.heap.size
    · exact hb'
    · rw [Array.getElem?_eq_none (by omega)] at hb; cases hb
  exact ⟨D, ⟨es, cl, by rw [u.block m hlt hS]; exact hb, r⟩, h2⟩
theorem CountAt.lt (h : CountAt w m n f) : m < w.heap.size := by
  obtain ⟨D, h, _⟩ := h
  exact h.lt
theorem count_nil (W : World) : CountAt (W.alloc (.map #[] 0)) W.heap.size 0 (fun _ => 0) :=
  ⟨.map [], World.ownsMap_made _ _ _ _, fun x _ _ => rfl⟩
theorem count_look (h : CountAt w m n f) {x : Int} (hx : 0 ≤ x ∧ x < 18446744073709551616) : (Instr.lookup 62 (.map (some m)) (.int .u64 x) false).run Try.prog w = .ok (.int .i64 (f x)) w := by
  obtain ⟨D, ho, hD⟩ := h
  obtain ⟨c, hr, hc, _⟩ := ho.lookup_int law_u64 Try.underlying62 Try.underlying3 (zero_int w) (key_u64 hx)
  rw [hr]
  have h1 := hD x hx.1 hx.2
  rw [hc] at h1
  simp at h1
  rw [h1]
theorem count_store (h : CountAt w m n f) {x : Int} (c : Int) (hx : 0 ≤ x ∧ x < 18446744073709551616) (hc : (Lit.int .i64 c).wf = true) (hn : n < 9223372036854775807) :
    ∃ w', (Instr.mapUpdate 62 (.map (some m)) (.int .u64 x) (.int .i64 c)).run Try.prog w = .ok () w' ∧ CountAt w' m (n + 1) (fun y => if y = x then c else f y) ∧ Upd [m] w w' := by
  obtain ⟨D, ho, hD⟩ := h
  have hM := ho.isMap
  have hK : WideAt.IsKeyLit (.int .u64 x) := trivial
  obtain ⟨w', hr, ho', hg⟩ := ho.update law_u64 Try.underlying62 (by unfold maxLen; omega) (key_u64 hx) (val := .int .i64 c) (d := .lit (.int .i64 c)) (ps := []) (plainElem_int Try.underlying3 hc)
  refine ⟨w', hr, ⟨_, ho', fun y hy0 hy1 => ?_⟩, (Upd.own hg).mono (by simp)⟩
  have h1 := hD y hy0 hy1
  dsimp only
  by_cases hxy : y = x
  · subst hxy
    rw [if_pos rfl, atKey_put_same hM hK]
  · have hne : (Lit.int .u64 y) ≠ Lit.int .u64 x := fun e => hxy (by injection e)
    rw [if_neg hxy, atKey_put_other hne, h1]
end
end Go.Proofs.Ythfeljongackcaa
set_option linter.unusedSimpArgs false
set_option linter.unusedVariables false
set_option maxRecDepth 100000
namespace Go.Proofs.Ythfeljongackcaa
open Go.RowKit
open Go.Maps
/-- is it a phase of a validation? -/
def vB (p : Int) : Bool := p == 4 || p == 5 || p == 6
theorem vB_eq (s : AS) : vB s.phase = validB s := rfl
theorem valid_any (p : Int) (w : World) : Calls Try.prog 91 #[.int .i64 p] w fun e w' => e = .returned (.bool (vB p)) ∧ w = w' := by
  by_cases h4 : 4 ≤ p
  · have d4 : decide (4 ≤ p) = true := by simpa using h4
    by_cases h6 : p ≤ 6
    · have d6 : decide (p ≤ 6) = true := by simpa using h6
      have hv : vB p = true := by simp only [vB, Bool.or_eq_true, beq_iff_eq]; omega
      rw [hv]
      clear hv
      refine calls_all fun K hK => ?_
      go_enter Try.func91, Try.ntmps91
      go_wp2
      all_goals exact ⟨rfl, rfl⟩
    · have d6 : decide (p ≤ 6) = false := by simpa using h6
      have hv : vB p = false := by simp only [vB, Bool.or_eq_false_iff, beq_eq_false_iff_ne]; omega
      rw [hv]
      clear hv
      refine calls_all fun K hK => ?_
      go_enter Try.func91, Try.ntmps91
      go_wp2
      all_goals exact ⟨rfl, rfl⟩
  · have d4 : decide (4 ≤ p) = false := by simpa using h4
    have hv : vB p = false := by simp only [vB, Bool.or_eq_false_iff, beq_eq_false_iff_ne]; omega
    rw [hv]
    clear hv
    refine calls_all fun K hK => ?_
    go_enter Try.func91, Try.ntmps91
    go_wp2
    all_goals exact ⟨rfl, rfl⟩

/-- the answer, right -/
def MayOk (w : World) (s : AS) (e : Ending) (w' : World) : Prop := (∃ b : Bool, e = .returned (.bool b) ∧ (b = true ↔ May s)) ∧ Upd [] w w'


set_option maxHeartbeats 1000000 in
theorem may_head_no (s : AS) (rv wv : Value) (w : World) (h1 : SlC w rv s.reads) (h2 : SlC w wv s.writes) (hH : ¬ HeadP s) : Calls Try.prog 53 #[stateV s rv wv] w (MayOk w s) := by
  have hno : ¬ May s := fun h => hH ((may_prog s).1 h).1
  refine calls_to (R := fun e w' => e = .returned (.bool false) ∧ Upd [] w w') ?_ (fun e w' ⟨he, hu⟩ => ⟨⟨false, he, by simp [hno]⟩, hu⟩)
  clear hno
  obtain ⟨p, c, rfl, _⟩ := h1
  obtain ⟨q, d, rfl, _⟩ := h2
  have HH := Lib.hid hH
  clear hH
  obtain ⟨sn, rd, wr, ph, th, ad, wo, fo, at_⟩ := s
  simp only [stateV]
  have hvb : vB ph = validB ⟨sn, rd, wr, ph, th, ad, wo, fo, at_⟩ := rfl
  by_cases h1 : ph < 1
  · have d1 : decide (ph < 1) = true := by simpa using h1
    refine calls_all fun K hK => ?_
    go_enter Try.func53, Try.ntmps53
    go_wp2_with fail
    obtain ⟨W, hW⟩ : ∃ W, w.alloc (.cells #[.int .u64 sn, .slice p rd.length c, .slice q wr.length d, .int .i64 ph, .int .i64 th, .int .u64 ad, .int .u64 wo, .int .u64 fo, .int .i64 at_] 60) = W := ⟨_, rfl⟩
    have uW : Upd [] w W := by rw [← hW]; exact (Upd.refl [] _).alloc _
    have BW : Blk W w.heap.size [.int .u64 sn, .slice p rd.length c, .slice q wr.length d, .int .i64 ph, .int .i64 th, .int .u64 ad, .int .u64 wo, .int .u64 fo, .int .i64 at_] 60 := by rw [← hW]; exact Blk.new w _ _
    rw [hW]
    clear hW
    have ud := uW.drew
    have k3 := BW.drew.cell 3 rfl
    have k4 := BW.drew.cell 4 rfl
    refine wp_region_ord (fun w' => w'.cell? ⟨w.heap.size, 3, none⟩ = some (.int .i64 ph) ∧ w'.cell? ⟨w.heap.size, 4, none⟩ = some (.int .i64 th)) [0, 1, 2, 3, 4, 5, 6, 7, 8, 9, 10, 12, 13, 14, 11, 15, 16] (by kernel_rfl) (by kernel_rfl) ⟨k3, k4⟩ ?_
    have BD := BW.drew
    clear BW uW
    generalize W.drew = W2 at ud k3 k4 BD ⊢
    repeat
      first
        | (refine wpL_skip rfl (by rfl) ?_)
        | ((refine wpL_take (v := ?_) rfl rfl (by rfl) ?_ ?_); rotate_left 1; (· ((intro w hSw; (try dsimp only at hSw); go_simp); try with_reducible rfl)))
      try simp only [Act.put, List.setIfInBounds_toArray, List.set_cons_zero, List.set_cons_succ]
    refine wpO_end (NoPanic.normal ?_)
    go_wp2_with fail
    all_goals exact ⟨rfl, ud⟩
  · have d1 : decide (ph < 1) = false := by simpa using h1
    by_cases h10 : 10 < ph
    · have d10 : decide (10 < ph) = true := by simpa using h10
      refine calls_all fun K hK => ?_
      go_enter Try.func53, Try.ntmps53
      go_wp2_with fail
      obtain ⟨W, hW⟩ : ∃ W, w.alloc (.cells #[.int .u64 sn, .slice p rd.length c, .slice q wr.length d, .int .i64 ph, .int .i64 th, .int .u64 ad, .int .u64 wo, .int .u64 fo, .int .i64 at_] 60) = W := ⟨_, rfl⟩
      have uW : Upd [] w W := by rw [← hW]; exact (Upd.refl [] _).alloc _
      have BW : Blk W w.heap.size [.int .u64 sn, .slice p rd.length c, .slice q wr.length d, .int .i64 ph, .int .i64 th, .int .u64 ad, .int .u64 wo, .int .u64 fo, .int .i64 at_] 60 := by rw [← hW]; exact Blk.new w _ _
      rw [hW]
      clear hW
      have ud := uW.drew
      have k3 := BW.drew.cell 3 rfl
      have k4 := BW.drew.cell 4 rfl
      refine wp_region_ord (fun w' => w'.cell? ⟨w.heap.size, 3, none⟩ = some (.int .i64 ph) ∧ w'.cell? ⟨w.heap.size, 4, none⟩ = some (.int .i64 th)) [0, 1, 2, 3, 4, 5, 6, 7, 8, 9, 10, 12, 13, 14, 11, 15, 16] (by kernel_rfl) (by kernel_rfl) ⟨k3, k4⟩ ?_
      have BD := BW.drew
      clear BW uW
      generalize W.drew = W2 at ud k3 k4 BD ⊢
      repeat
        first
          | (refine wpL_skip rfl (by rfl) ?_)
          | ((refine wpL_take (v := ?_) rfl rfl (by rfl) ?_ ?_); rotate_left 1; (· ((intro w hSw; (try dsimp only at hSw); go_simp); try with_reducible rfl)))
        try simp only [Act.put, List.setIfInBounds_toArray, List.set_cons_zero, List.set_cons_succ]
      refine wpO_end (NoPanic.normal ?_)
      go_wp2_with fail
      all_goals exact ⟨rfl, ud⟩
    · have d10 : decide (10 < ph) = false := by simpa using h10
      have HV := valid_any ph
      generalize hV : vB ph = V at HV hvb
      by_cases hv : V = (th != 0)
      · have hno3 : th ≠ 0 ∧ th ≠ 2 ∧ th ≠ 7 := ⟨fun e => HH.out ⟨by simp only; omega, by simp only; rw [← hvb]; exact hv, .inl e⟩, fun e => HH.out ⟨by simp only; omega, by simp only; rw [← hvb]; exact hv, .inr (.inl e)⟩, fun e => HH.out ⟨by simp only; omega, by simp only; rw [← hvb]; exact hv, .inr (.inr e)⟩⟩
        obtain ⟨t0, t2, t7⟩ := hno3
        have e0 : (th != 0) = true := by simpa using t0
        have e2 : (th != 2) = true := by simpa using t2
        have e7 : (th != 7) = true := by simpa using t7
        rw [e0] at hv
        subst hv
        clear hV hvb
        have HV := Lib.hid HV
        refine calls_all fun K hK => ?_
        go_enter Try.func53, Try.ntmps53
        go_wp2_with fail
        obtain ⟨W, hW⟩ : ∃ W, w.alloc (.cells #[.int .u64 sn, .slice p rd.length c, .slice q wr.length d, .int .i64 ph, .int .i64 th, .int .u64 ad, .int .u64 wo, .int .u64 fo, .int .i64 at_] 60) = W := ⟨_, rfl⟩
        have uW : Upd [] w W := by rw [← hW]; exact (Upd.refl [] _).alloc _
        have BW : Blk W w.heap.size [.int .u64 sn, .slice p rd.length c, .slice q wr.length d, .int .i64 ph, .int .i64 th, .int .u64 ad, .int .u64 wo, .int .u64 fo, .int .i64 at_] 60 := by rw [← hW]; exact Blk.new w _ _
        rw [hW]
        clear hW
        have ud := uW.drew
        have k3 := BW.drew.cell 3 rfl
        have k4 := BW.drew.cell 4 rfl
        refine wp_region_ord (fun w' => w'.cell? ⟨w.heap.size, 3, none⟩ = some (.int .i64 ph) ∧ w'.cell? ⟨w.heap.size, 4, none⟩ = some (.int .i64 th)) [0, 1, 2, 3, 4, 5, 6, 7, 8, 9, 10, 12, 13, 14, 11, 15, 16] (by kernel_rfl) (by kernel_rfl) ⟨k3, k4⟩ ?_
        have BD := BW.drew
        clear BW uW
        generalize W.drew = W2 at ud k3 k4 BD ⊢
        repeat
          first
            | (refine wpL_skip rfl (by rfl) ?_)
            | ((refine wpL_take (v := ?_) rfl rfl (by rfl) ?_ ?_); rotate_left 1; (· ((intro w hSw; (try dsimp only at hSw); go_simp); try with_reducible rfl)))
          try simp only [Act.put, List.setIfInBounds_toArray, List.set_cons_zero, List.set_cons_succ]
        refine wpL_eff rfl (by kernel_rfl) (by rfl) (fun K2 hK2 => ?_)
        go_simp
        refine (HV.out _).mono ?_
        rintro e w' ⟨rfl, rfl⟩
        refine hK2.out _ _ ⟨k3, k4⟩ ?_
        clear hK2 K2
        repeat
          first
            | (refine wpL_skip rfl (by rfl) ?_)
            | ((refine wpL_take (v := ?_) rfl rfl (by rfl) ?_ ?_); rotate_left 1; (· ((intro w hSw; (try dsimp only at hSw); go_simp); try with_reducible rfl)))
          try simp only [Act.put, List.setIfInBounds_toArray, List.set_cons_zero, List.set_cons_succ]
        refine wpO_end (NoPanic.normal ?_)
        go_wp2_with fail
        all_goals exact ⟨rfl, ud⟩
      · have hne : (V != (th != 0)) = true := by simpa using hv
        have HV := Lib.hid HV
        clear hV hvb hv
        generalize he : (th != 0) = E at hne
        have HE := Lib.hid he
        cases V <;> cases E <;> simp at hne
        all_goals
          have e0 := HE.out
          refine calls_all fun K hK => ?_
          go_enter Try.func53, Try.ntmps53
          go_wp2_with fail
          obtain ⟨W, hW⟩ : ∃ W, w.alloc (.cells #[.int .u64 sn, .slice p rd.length c, .slice q wr.length d, .int .i64 ph, .int .i64 th, .int .u64 ad, .int .u64 wo, .int .u64 fo, .int .i64 at_] 60) = W := ⟨_, rfl⟩
          have uW : Upd [] w W := by rw [← hW]; exact (Upd.refl [] _).alloc _
          have BW : Blk W w.heap.size [.int .u64 sn, .slice p rd.length c, .slice q wr.length d, .int .i64 ph, .int .i64 th, .int .u64 ad, .int .u64 wo, .int .u64 fo, .int .i64 at_] 60 := by rw [← hW]; exact Blk.new w _ _
          rw [hW]
          clear hW
          have ud := uW.drew
          have k3 := BW.drew.cell 3 rfl
          have k4 := BW.drew.cell 4 rfl
          refine wp_region_ord (fun w' => w'.cell? ⟨w.heap.size, 3, none⟩ = some (.int .i64 ph) ∧ w'.cell? ⟨w.heap.size, 4, none⟩ = some (.int .i64 th)) [0, 1, 2, 3, 4, 5, 6, 7, 8, 9, 10, 12, 13, 14, 11, 15, 16] (by kernel_rfl) (by kernel_rfl) ⟨k3, k4⟩ ?_
          have BD := BW.drew
          clear BW uW
          generalize W.drew = W2 at ud k3 k4 BD ⊢
          repeat
            first
              | (refine wpL_skip rfl (by rfl) ?_)
              | ((refine wpL_take (v := ?_) rfl rfl (by rfl) ?_ ?_); rotate_left 1; (· ((intro w hSw; (try dsimp only at hSw); go_simp); try with_reducible rfl)))
            try simp only [Act.put, List.setIfInBounds_toArray, List.set_cons_zero, List.set_cons_succ]
          refine wpL_eff rfl (by kernel_rfl) (by rfl) (fun K2 hK2 => ?_)
          go_simp
          refine (HV.out _).mono ?_
          rintro e w' ⟨rfl, rfl⟩
          refine hK2.out _ _ ⟨k3, k4⟩ ?_
          clear hK2 K2
          repeat
            first
              | (refine wpL_skip rfl (by rfl) ?_)
              | ((refine wpL_take (v := ?_) rfl rfl (by rfl) ?_ ?_); rotate_left 1; (· ((intro w hSw; (try dsimp only at hSw); go_simp); try with_reducible rfl)))
            try simp only [Act.put, List.setIfInBounds_toArray, List.set_cons_zero, List.set_cons_succ]
          refine wpO_end (NoPanic.normal ?_)
          go_wp2_with fail
          all_goals exact ⟨rfl, ud⟩

theorem nodup_take {l : List Int} {k : Nat} {x : Int} (hx : l[k]? = some x) : ((l.take (k + 1)).Nodup ↔ (l.take k).Nodup ∧ x ∉ l.take k) := by
  rw [List.take_add_one, hx]
  simp only [Option.toList_some, List.nodup_append, List.mem_singleton]
  constructor
  · rintro ⟨h1, _, h2⟩
    exact ⟨h1, fun hm => h2 x hm x rfl rfl⟩
  · rintro ⟨h1, h2⟩
    exact ⟨h1, by simp, fun a ha b hb e => by subst hb; subst e; exact h2 ha⟩
theorem nodup_of_take {l : List Int} {k : Nat} (h : l.Nodup) : (l.take k).Nodup := h.sublist (List.take_sublist k l)
def one01 (l : List Int) (y : Int) : Int := if y ∈ l then 1 else 0

theorem wpList_lookup_want {P : Program} {ops : Array Oper} {rest : List Oper} {o : Oper} {a : Act} {w : World} {Q : Exit → Act → World → Prop} (hw : Region.wanted o (yielded ops a.tmps) = true) (m x : Operand) (t : TypeId) (c : Bool) (hop : o.op = Op.lookup t m x c)
    (mv xv v : Value) (hm : a.eval m = mv) (hx : a.eval x = xv) (hrun : (Instr.lookup t mv xv c).run P w = .ok v w) (h : wpList P ops Q rest (a.put o.dst v) w) : wpList P ops Q (o :: rest) a w := by
  refine BigFrame.wpList_want hw fun K hK => ?_
  unfold Oper.wp
  simp only [execOp, hop, hm, hx, Sem.run_bind, hrun, Result.andThen_ok, Sem.run_pure]
  exact hK _ _ h
theorem opn_not {n : Int} (h : (!opn n) = false) : opn n = true := by simpa using h
theorem le_1024 {n : Nat} (h : (n : Int) ≤ 1024) : n ≤ 1024 := by omega
theorem ne_nil_len {l : List (Int × Int)} (h : ((l.length : Int) == 0) = false) : l ≠ [] := fun e => by rw [e] at h; simp at h
theorem ne_1024 {n : Nat} (h : ((n : Int) == 1024) = false) : n ≠ 1024 := fun e => by rw [e] at h; simp at h
theorem one01_pos {l : List Int} {y : Int} (h : 0 < one01 l y) : y ∈ l := by
  unfold one01 at h
  by_cases hy : y ∈ l
  · exact hy
  · rw [if_neg hy] at h; omega
theorem one01_not {l : List Int} {y : Int} (h : one01 l y ≤ 0) : y ∉ l := by
  unfold one01 at h
  intro hy
  rw [if_pos hy] at h
  omega
theorem not_opn {n : Int} (h0 : 0 ≤ n ∧ n < 18446744073709551616) (he : n % 2 = 0) : ¬ opn n = true → False := fun h => h (by rw [opn_eq h0.1 h0.2]; simpa using he)
theorem opn_even {n : Int} (h0 : 0 ≤ n ∧ n < 18446744073709551616) (h : opn n = true) : n % 2 = 0 := by rw [opn_eq h0.1 h0.2] at h; exact of_decide_eq_true h
end Go.Proofs.Ythfeljongackcaa
set_option linter.unusedSimpArgs false
set_option linter.unusedVariables false
set_option maxRecDepth 100000
namespace Go.Proofs.Ythfeljongackcaa
open Go.RowKit
open Go.Maps
theorem place_first {l : List (Int × Int)} {k : Nat} {x v : Int} (h : l[k]? = some (x, v)) (hn : ((l.take k).map (·.1)).Nodup) (hx : x ∉ (l.take k).map (·.1)) : place l x = some k := by
  have hk : k < l.length := (List.getElem?_eq_some_iff.1 h).1
  refine place_at hk (fun j hj e => hx ?_) (by rw [List.getElem?_map, h]; rfl)
  rw [List.getElem?_map] at e
  cases hl : l[j]? with
  | none => rw [hl] at e; cases e
  | some c =>
    rw [hl] at e
    simp at e
    rw [List.mem_map]
    exact ⟨c, List.mem_of_getElem? (i := j) (by rw [List.getElem?_take_of_lt hj]; exact hl), e⟩
theorem place_dup {l : List (Int × Int)} {k : Nat} {x : Int} (hx : x ∈ (l.take k).map (·.1)) : place l x ≠ some k := by
  intro h
  unfold place at h
  rw [List.findIdx?_eq_some_iff_getElem] at h
  obtain ⟨hk, _, h2⟩ := h
  rw [List.mem_map] at hx
  obtain ⟨c, hc, rfl⟩ := hx
  obtain ⟨j, hj, he⟩ := List.getElem_of_mem hc
  have hj2 : j < k := by simp at hj; omega
  have := h2 j hj2
  simp at he
  simp [he] at this
def TwiceOk (w : World) (l : List (Int × Int)) (e : Ending) (w' : World) : Prop := (∃ b : Bool, e = .returned (.bool b) ∧ (b = true ↔ ¬ (l.map (·.1)).Nodup)) ∧ w = w'
theorem rtwice (w : World) (v : Value) (l : List (Int × Int)) (h : SlC w v l) (hl : l.length ≤ 4611686018427387904) : Calls Try.prog 104 #[v] w (TwiceOk w l) := by
  have hw := fun (x : Int) => rwritten w v l x h hl
  have HW := Lib.hid hw
  clear hw
  obtain ⟨p, cap, rfl, hc⟩ := h
  have HC := Lib.hid hc
  clear hc
  have h0 : (0 : Int) ≤ (l.length : Int) := by omega
  refine calls_all fun K hK => ?_
  go_enter Try.func104, Try.ntmps104
  go_wp2_with fail
  go_loopw [3] (fun v3 wr => ∃ k : Nat, k ≤ l.length ∧ v3 = .int .i64 k ∧ w = wr ∧ ((l.take k).map (·.1)).Nodup) (fun v3 _ => l.length - (intOf v3).toNat)
  case atStart => exact ⟨0, by omega, rfl, rfl, by simp⟩
  case round =>
    obtain ⟨k, hk, rfl, rfl, hn⟩ := hrel
    have HN := Lib.hid hn
    clear hn
    by_cases hlt : k < l.length
    · have hlt' : (k : Int) < (l.length : Int) := by omega
      obtain ⟨⟨x, y⟩, hxy⟩ : ∃ c, l[k]? = some c := ⟨_, List.getElem?_eq_getElem hlt⟩
      obtain ⟨b, o, rfl, c0, _⟩ := HC.out k x y hxy
      have HT := Lib.hid (@nodup_take (l.map (·.1)) k x (by rw [List.getElem?_map, hxy]; rfl))
      have HXY := Lib.hid hxy
      clear hxy
      go_wp2_with fail
      refine (HW.out x).mono ?_
      rintro e w' ⟨rfl, rfl⟩
      clear c0
      by_cases hd : x ∈ (l.take k).map (·.1)
      · have hne : (placeI l x != (k : Int)) = true := by
          have := place_dup hd
          rw [bne_iff_ne]
          unfold placeI
          intro e
          cases hp : place l x with
          | none => rw [hp] at e; simp only at e; omega
          | some j =>
            rw [hp] at e
            simp only at e
            exact this (by rw [hp]; congr 1; omega)
        generalize placeI l x = pl at hne ⊢
        have HNM := Lib.hid (show ¬ (l.map (·.1)).Nodup from fun h => by
          have h5 := nodup_of_take (k := k + 1) h
          have h6 := (HT.out.1 h5).2
          rw [← List.map_take] at h6
          exact h6 hd)
        clear hd
        go_wp2_with fail
        exact ⟨⟨true, rfl, by simpa using HNM.out⟩, rfl⟩
      · have hne : (placeI l x != (k : Int)) = false := by
          unfold placeI
          rw [place_first HXY.out HN.out hd]
          simp
        have HN2 := Lib.hid (show ((l.take (k + 1)).map (·.1)).Nodup by
          have h6 := HT.out.2 ⟨by rw [← List.map_take]; exact HN.out, by rw [← List.map_take]; exact hd⟩
          rw [← List.map_take] at h6
          exact h6)
        generalize placeI l x = pl at hne ⊢
        clear hd
        go_wp2_with fail
        go_roundw
        case rel => exact ⟨k + 1, by omega, by go_num, trivial, HN2.out⟩
        case measure => simp [intOf]; omega
    · obtain rfl : k = l.length := by omega
      rw [List.take_length] at HN
      go_wp2_with fail
      exact ⟨⟨false, rfl, by simpa using HN.out⟩, rfl⟩
end Go.Proofs.Ythfeljongackcaa
