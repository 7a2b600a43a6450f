/- An attempt's state in memory: its nine cells. No conditions. Lists of cells in new memory: slices.Clone, and append to nil. The condition is a size. The program's kept. The conditions are sizes. A thread alone, plainly: it is never stale, and takes just so many steps. No program in sight. No conditions. A thread's State, its cells as a list. No conditions. -/
import Derived.Test.YthfeljongackcaaT1p17
import Derived.Test.YthfeljongackcaaT1p11
import Derived.Test.YthfeljongackcaaT1p13
import Derived.Deep.CutRange
set_option linter.unusedSimpArgs false
set_option linter.unusedVariables false
set_option maxRecDepth 100000
namespace Go.Proofs.Ythfeljongackcaa
open Go.RowKit
open Go.Maps
/-- a state's nine cells -/
def rheadV (s : AS) (rv wv : Value) : List Value := [.int .u64 s.snap, rv, wv, .int .i64 s.phase, .int .i64 s.thn, .int .u64 s.addr, .int .u64 s.word, .int .u64 s.found, .int .i64 s.at_]
theorem own_nil (w : World) (F : List Nat) : OwnP w (.slice none 0 0) [] F := ⟨⟨rfl, .inl ⟨rfl, rfl⟩⟩, fun _ => rfl, fun g hg => by simp [Value.ownBlock] at hg⟩
theorem state_results {fn : Func} (k : Nat) (hr : fn.results = #[.cell k 60]) (t : Array Value) (w : World) (rb : Nat) (s : AS) (rv wv : Value) (h2 : t.getD k undef = .pointer (some ⟨rb, 0, none⟩)) (hb : Blk w rb (rheadV s rv wv) 60) :
    (results fn t).run Try.prog w = .ok (stateV s rv wv) w := by
  have c0 := hb.cell 0 rfl
  have c1 := hb.cell 1 rfl
  have c2 := hb.cell 2 rfl
  have c3 := hb.cell 3 rfl
  have c4 := hb.cell 4 rfl
  have c5 := hb.cell 5 rfl
  have c6 := hb.cell 6 rfl
  have c7 := hb.cell 7 rfl
  have c8 := hb.cell 8 rfl
  have h2' : t[k]?.getD undef = .pointer (some ⟨rb, 0, none⟩) := by simpa using h2
  simp [results, hr, h2', go_sem, c0, c1, c2, c3, c4, c5, c6, c7, c8, stateV]
end Go.Proofs.Ythfeljongackcaa
set_option linter.unusedSimpArgs false
set_option linter.unusedVariables false
set_option maxRecDepth 100000
namespace Go.Proofs.Ythfeljongackcaa
open Go.RowKit
open Go.Maps
theorem SlC.srcC {w : World} {l : List (Int × Int)} {p : Option Addr} {cap : Nat} (h : SlC w (.slice p l.length cap) l) (hl : l ≠ []) : ∃ ad, p = some ad ∧ ∀ j u, (pcells l)[j]? = some u → w.cell? (ad.add j) = some u := by
  obtain ⟨p', cap', e, hc⟩ := h
  cases e
  have hpos := List.length_pos_iff.2 hl
  obtain ⟨b, o, rfl, _, _⟩ := hc 0 (l[0]).1 (l[0]).2 (List.getElem?_eq_getElem hpos)
  refine ⟨_, rfl, fun j u hj => ?_⟩
  have hjl : j < 2 * l.length := by
    by_cases h : j < 2 * l.length
    · exact h
    · rw [List.getElem?_eq_none (by rw [pcells_len]; omega)] at hj; cases hj
  rw [addr_add]
  obtain ⟨k, hk⟩ : ∃ k, j = k * 2 ∨ j = k * 2 + 1 := ⟨j / 2, by omega⟩
  have hkl : k < l.length := by omega
  have hxy : l[k]? = some ((l[k]).1, (l[k]).2) := List.getElem?_eq_getElem hkl
  obtain ⟨b', o', e, c0, c1⟩ := hc k _ _ hxy
  cases e
  obtain ⟨h1, h2⟩ := pcells_get l k _ _ hxy
  rcases hk with rfl | rfl
  · rw [h1] at hj; cases hj; exact c0
  · rw [h2] at hj; cases hj; rw [← Nat.add_assoc]; exact c1

/-- a list in new memory -/
structure NewL (w w' : World) (v : Value) (l : List (Int × Int)) : Prop where
  own : OwnP w' v l v.ownBlock.toList
  new : ∀ g, v.ownBlock = some g → w.heap.size ≤ g
  u : Upd [] w w'
def Cloned (w : World) (l : List (Int × Int)) (e : Ending) (w' : World) : Prop := ∃ v, e = .returned v ∧ NewL w w' v l

theorem pcells_one {l : List (Int × Int)} {u : Value} (hu : u ∈ pcells l) : u.oneCell' = true := by
  unfold pcells at hu
  simp only [List.mem_flatMap, List.mem_cons, List.not_mem_nil, or_false] at hu
  obtain ⟨c, _, rfl | rfl⟩ := hu <;> rfl

theorem clone_cells (w : World) (v : Value) (l : List (Int × Int)) (h : SlC w v l) (hn : l = [] → v = .slice none 0 0) (hl : l.length * 16 ≤ 140737488355328) : Calls Try.prog 92 #[v] w (Cloned w l) := by
  obtain ⟨i0, hi, hz0, hz1, hz2⟩ := info_parts info_cell
  by_cases hz : l = []
  · rw [hn hz]
    subst hz
    have hnil : ∀ (w : World), (binOp .eql 49 (.slice none 0 0) (.slice none 0 0)).run Try.prog w = .ok (.bool true) w := fun w => Lib.run_eql_slice_nil w _ _ none 0 0 0 0 Try.underlying49
    refine calls_all fun K hK => ?_
    go_enter Try.func92, Try.ntmps92
    go_wp2
    exact ⟨_, rfl, own_nil w _, by simp [Value.ownBlock], Upd.refl _ _⟩
  · obtain ⟨p, cap, rfl, hc⟩ := id h
    obtain ⟨ad, rfl, hsrc⟩ := h.srcC hz
    clear hc hn
    have hnil : ∀ (w : World), (binOp .eql 49 (.slice (some ad) l.length cap) (.slice none 0 0)).run Try.prog w = .ok (.bool false) w := fun w => Lib.run_eql_slice_nil w _ _ (some ad) l.length cap 0 0 Try.underlying49
    have own0 : (w.alloc (.cells #[] 53)).ownsRow 0 53 2 (.slice (some ⟨w.heap.size, 0, none⟩) 0 0) 0 [] := ⟨rfl, .inr ⟨_, 0, #[], rfl, Nat.zero_le _, heap_alloc_new w _, Nat.le_refl _, Nat.zero_le _, rfl, rfl⟩⟩
    obtain ⟨v', w', hr, ho, hg, _, hor⟩ := run_append_own_at (P := Try.prog) (w := w.alloc (.cells #[] 53)) 0 49 49 53 i0 (.agg #[.int .u64 0, .int .u64 0]) 2 16 Try.underlying49 hi hz0 hz1 hz2 rfl (by omega)
      (.slice (some ⟨w.heap.size, 0, none⟩) 0 0) 0 [] own0 ad l.length cap (pcells l) (by rw [pcells_len]; omega)
      (fun j u hj => by have hc := hsrc j u hj; rw [World.cell?_alloc_lt _ _ _ (World.block_lt_of_cell? w _ hc)]; exact hc) (fun u hu => pcells_one hu) (by unfold maxLen; omega) (by omega) (Nat.zero_le _)
    rw [Nat.zero_add, List.nil_append] at ho
    have hu : Upd [] w w' := ((Upd.refl [] w).alloc (.cells #[] 53)).tr (Upd.of_grown (S := [w.heap.size]) hg (fun k e => by simp [Value.ownBlock] at e; exact .inl (by simp [e]))) (by simp) (by simp)
    have hnew : ∀ g, v'.ownBlock = some g → w.heap.size ≤ g := fun g hg => by
      rcases hor with e | e <;> (rw [hg] at e; simp [Value.ownBlock] at e; omega)
    refine calls_all fun K hK => ?_
    go_enter Try.func92, Try.ntmps92
    go_wp2_with (at_builtin; refine wpList_append_eq rfl _ _ _ _ rfl _ _ _ rfl rfl hr ?_)
    go_wp2
    exact ⟨_, rfl, ⟨ho, fun e => absurd e hz, fun g hg => by simpa using hg⟩, hnew, hu⟩

theorem app_cells (W : World) (v : Value) (l : List (Int × Int)) (h : SlC W v l) (hl : l.length * 16 ≤ 140737488355328) :
    ∃ v' W', (Builtin.append_ #[49, 49] 49 #[.slice none 0 0, v]).run Try.prog W = .ok v' W' ∧ NewL W W' v' l := by
  obtain ⟨i0, hi, hz0, hz1, hz2⟩ := info_parts info_cell
  obtain ⟨p, cap, rfl, hc⟩ := id h
  by_cases hz : l = []
  · subst hz
    refine ⟨.slice none 0 0, W, ?_, own_nil W _, by simp [Value.ownBlock], Upd.refl _ _⟩
    cases p with
    | none => simp [Builtin.append_, run_underlying Try.underlying49, sizeOf, typeInfo, hi, Builtin.lenOf, Builtin.firstCells]
    | some a => simp [Builtin.append_, run_underlying Try.underlying49, sizeOf, typeInfo, hi, Builtin.lenOf, Builtin.firstCells, loadCells, loadCellsFrom]
  · obtain ⟨ad, rfl, hsrc⟩ := h.srcC hz
    have hpos := List.length_pos_iff.2 hz
    obtain ⟨v', w', hr, ho, hg, _, hor⟩ := run_append_own_at (P := Try.prog) (w := W) 0 49 49 53 i0 (.agg #[.int .u64 0, .int .u64 0]) 2 16 Try.underlying49 hi hz0 hz1 hz2 rfl (by omega)
      (.slice none 0 0) 0 [] ⟨rfl, .inl ⟨rfl, rfl⟩⟩ ad l.length cap (pcells l) (by rw [pcells_len]; omega) hsrc (fun u hu => pcells_one hu) (by unfold maxLen; omega) (by omega) (Nat.zero_le _)
    rw [Nat.zero_add, List.nil_append] at ho
    refine ⟨v', w', hr, ⟨ho, fun e => absurd e hz, fun g hg => by simpa using hg⟩, fun g hg => ?_, Upd.of_grown hg (fun k e => by simp [Value.ownBlock] at e)⟩
    rcases hor with e | e <;> (rw [hg] at e; simp [Value.ownBlock] at e)
    omega

/-- a state in new memory -/
structure TwoNew (w w' : World) (s : AS) (rv wv : Value) : Prop where
  rd : OwnP w' rv s.reads rv.ownBlock.toList
  wr : OwnP w' wv s.writes wv.ownBlock.toList
  ap : ∀ g, rv.ownBlock = some g → wv.ownBlock ≠ some g
  nr : ∀ g, rv.ownBlock = some g → w.heap.size ≤ g
  nw : ∀ g, wv.ownBlock = some g → w.heap.size ≤ g
  u : Upd [] w w'
def NewState (w : World) (s : AS) (e : Ending) (w' : World) : Prop := ∃ rv wv, e = .returned (stateV s rv wv) ∧ TwoNew w w' s rv wv
theorem NewL.two {w w1 w2 w' : World} {s : AS} {rv wv : Value} (h : NewL w w1 rv s.reads) (k : NewL w1 w2 wv s.writes) (u : Upd [] w2 w') : TwoNew w w' s rv wv :=
  ⟨(h.own.upd k.u (by simp)).upd u (by simp), k.own.upd u (by simp), fun g hg e => by have h1 := h.own.lt hg; have h2 := k.new g e; omega, h.new, fun g hg => by have h1 := h.u.size; have h2 := k.new g hg; omega, (h.u.trans k.u).trans u⟩
theorem TwoNew.later {w w' w2 : World} {s : AS} {rv wv : Value} {S : List Nat} (h : TwoNew w w' s rv wv) (u : Upd S w' w2) (hS : ∀ g ∈ S, g < w.heap.size ∨ w'.heap.size ≤ g) : OwnP w2 rv s.reads rv.ownBlock.toList ∧ OwnP w2 wv s.writes wv.ownBlock.toList :=
  ⟨h.rd.upd u (fun g hg e => by have h1 := h.nr g e; have h2 := h.rd.lt e; rcases hS g hg with k | k <;> omega), h.wr.upd u (fun g hg e => by have h1 := h.nw g e; have h2 := h.wr.lt e; rcases hS g hg with k | k <;> omega)⟩
end Go.Proofs.Ythfeljongackcaa
set_option linter.unusedSimpArgs false
set_option linter.unusedVariables false
set_option maxRecDepth 100000
namespace Go.Proofs.Ythfeljongackcaa
open Go.RowKit
open Go.Maps
def zeroS : AS := ⟨0, [], [], 0, 0, 0, 0, 0, 0⟩
/-- the nine cells, all stored -/
theorem nine_set {W : World} {b : Nat} (h : Blk W b (rheadV zeroS (.slice none 0 0) (.slice none 0 0)) 60) (s : AS) (rv wv : Value) :
    Blk ((((((((((W.setCell ⟨b, 0, none⟩ (.int .u64 s.snap)).setCell ⟨b, 1, none⟩ rv).setCell ⟨b, 2, none⟩ wv).setCell ⟨b, 3, none⟩ (.int .i64 s.phase)).setCell ⟨b, 4, none⟩ (.int .i64 s.thn)).setCell ⟨b, 5, none⟩ (.int .u64 s.addr)).setCell ⟨b, 6, none⟩ (.int .u64 s.word)).setCell ⟨b, 7, none⟩ (.int .u64 s.found)).setCell ⟨b, 8, none⟩ (.int .i64 s.at_))) b (rheadV s rv wv) 60 :=
  ((((((((h.set 0 _).set 1 _).set 2 _).set 3 _).set 4 _).set 5 _).set 6 _).set 7 _).set 8 _
theorem nine_upd {S : List Nat} {w W : World} {b : Nat} (u : Upd S w W) (hb : b ∈ S ∨ w.heap.size ≤ b) (v0 v1 v2 v3 v4 v5 v6 v7 v8 : Value) :
    Upd S w ((((((((((W.setCell ⟨b, 0, none⟩ v0).setCell ⟨b, 1, none⟩ v1).setCell ⟨b, 2, none⟩ v2).setCell ⟨b, 3, none⟩ v3).setCell ⟨b, 4, none⟩ v4).setCell ⟨b, 5, none⟩ v5).setCell ⟨b, 6, none⟩ v6).setCell ⟨b, 7, none⟩ v7).setCell ⟨b, 8, none⟩ v8)) :=
  ((((((((u.setCell hb _).setCell hb _).setCell hb _).setCell hb _).setCell hb _).setCell hb _).setCell hb _).setCell hb _).setCell hb _
-- the state in the box at w.heap.size goes into the result's cells; world W4
theorem TwoNew.more {w w' w2 : World} {s : AS} {rv wv : Value} {b : Nat} (h : TwoNew w w' s rv wv) (u : Upd [b] w' w2) (hb : ∀ g, g = b → w.heap.size ≤ g ∧ rv.ownBlock ≠ some g ∧ wv.ownBlock ≠ some g) : TwoNew w w2 s rv wv :=
  ⟨h.rd.upd u (fun g hg => by simp at hg; exact (hb g hg).2.1), h.wr.upd u (fun g hg => by simp at hg; exact (hb g hg).2.2), h.ap, h.nr, h.nw, h.u.tr u (by simp) (fun x hx => by simp at hx; exact .inr (hb x hx).1)⟩
/-- the program's: a state in new memory -/
theorem kept_code (w : World) (s : AS) (rv wv : Value) (h1 : SlC w rv s.reads) (h2 : SlC w wv s.writes) (n1 : s.reads = [] → rv = .slice none 0 0) (n2 : s.writes = [] → wv = .slice none 0 0) (hl1 : s.reads.length * 16 ≤ 140737488355328) (hl2 : s.writes.length * 16 ≤ 140737488355328) : Calls Try.prog 54 #[stateV s rv wv] w (NewState w s) := by
  have HA := Lib.hid fun (W : World) (u : Upd [] w W) => clone_cells W rv s.reads (h1.upd0 u) n1 hl1
  have HB := Lib.hid fun (W : World) (u : Upd [] w W) => clone_cells W wv s.writes (h2.upd0 u) n2 hl2
  clear n1 n2
  obtain ⟨p, c, rfl, _⟩ := h1
  obtain ⟨q, d, rfl, _⟩ := h2
  obtain ⟨sn, rd, wl, ph, th, ad, wo, fo, at_⟩ := s
  dsimp only at HA HB hl1 hl2
  simp only [stateV]
  obtain ⟨W, hW⟩ : ∃ W, (w.alloc (.cells #[.int .u64 sn, .slice p rd.length c, .slice q wl.length d, .int .i64 ph, .int .i64 th, .int .u64 ad, .int .u64 wo, .int .u64 fo, .int .i64 at_] 60)).alloc (.cells (rheadV zeroS (.slice none 0 0) (.slice none 0 0)).toArray 60) = W := ⟨_, rfl⟩
  have uW : Upd [] w W := by rw [← hW]; exact ((Upd.refl [] _).alloc _).alloc _
  have BW : Blk W w.heap.size [.int .u64 sn, .slice p rd.length c, .slice q wl.length d, .int .i64 ph, .int .i64 th, .int .u64 ad, .int .u64 wo, .int .u64 fo, .int .i64 at_] 60 := by rw [← hW]; exact (Blk.new w _ _).alloc _
  have RW : Blk W (w.heap.size + 1) (rheadV zeroS (.slice none 0 0) (.slice none 0 0)) 60 := by
    have := Blk.new (w.alloc (.cells #[.int .u64 sn, .slice p rd.length c, .slice q wl.length d, .int .i64 ph, .int .i64 th, .int .u64 ad, .int .u64 wo, .int .u64 fo, .int .i64 at_] 60)) (rheadV zeroS (.slice none 0 0) (.slice none 0 0)) 60
    rw [World.size_alloc] at this
    rw [← hW]; exact this
  simp only [rheadV, zeroS] at hW
  have hz := BW.lt
  refine calls_all fun K hK => ?_
  go_enter Try.func54, Try.ntmps54
  go_wp2_with fail
  clear hW
  have uD := uW.drew
  have BD := BW.drew
  have RD := RW.drew
  have hzD : w.heap.size + 1 < W.drew.heap.size := RD.lt
  refine wp_region_ordT (fun w' => w'.cell? ⟨w.heap.size, 1, none⟩ = some (.slice p rd.length c) ∧ w'.cell? ⟨w.heap.size, 2, none⟩ = some (.slice q wl.length d)) [0, 1, 3, 4, 2, 6, 5, 7, 8, 9] [7, 8, 9] (by kernel_rfl) (by kernel_rfl) ?_
  clear uW BW RW hz
  generalize W.drew = W0 at uD BD RD hzD ⊢
  have hS0 : W0.cell? ⟨w.heap.size, 1, none⟩ = some (.slice p rd.length c) ∧ W0.cell? ⟨w.heap.size, 2, none⟩ = some (.slice q wl.length d) := ⟨BD.cell 1 rfl, BD.cell 2 rfl⟩
  repeat
    first
      | (refine wpT_skip rfl (by decide) (by assumption) (by rfl) ?_)
      | ((refine wpT_take (v := ?_) rfl (by decide) (by assumption) rfl (by rfl) ?_ ?_); rotate_left 1; (· ((intro w hSw; (try dsimp only at hSw); go_simp); try with_reducible rfl)))
    try simp only [Act.put, List.setIfInBounds_toArray, List.set_cons_zero, List.set_cons_succ]
  refine wpT_eff rfl (by kernel_rfl) (by rfl) (fun K2 hK2 => ?_)
  go_simp
  refine (HA.out W0 uD).mono ?_
  rintro e W1 ⟨v1, rfl, m1⟩
  obtain ⟨p1, k1, e1⟩ := m1.own.form
  (try dsimp only at e1)
  subst e1
  have B1 := BD.upd m1.u (by simp)
  have R1 := RD.upd m1.u (by simp)
  have z1 := m1.u.size
  have hS1 : W1.cell? ⟨w.heap.size, 1, none⟩ = some (.slice p rd.length c) ∧ W1.cell? ⟨w.heap.size, 2, none⟩ = some (.slice q wl.length d) := ⟨B1.cell 1 rfl, B1.cell 2 rfl⟩
  refine hK2.out _ _ hS1 ?_
  clear hK2 K2 hS0
  repeat
    first
      | (refine wpT_skip rfl (by decide) (by assumption) (by rfl) ?_)
      | ((refine wpT_take (v := ?_) rfl (by decide) (by assumption) rfl (by rfl) ?_ ?_); rotate_left 1; (· ((intro w hSw; (try dsimp only at hSw); go_simp); try with_reducible rfl)))
    try simp only [Act.put, List.setIfInBounds_toArray, List.set_cons_zero, List.set_cons_succ]
  refine wpT_eff rfl (by kernel_rfl) (by rfl) (fun K2 hK2 => ?_)
  go_simp
  refine (HB.out W1 (uD.trans m1.u)).mono ?_
  rintro e W2 ⟨v2, rfl, m2⟩
  obtain ⟨p2, k2, e2⟩ := m2.own.form
  (try dsimp only at e2)
  subst e2
  have B2 := B1.upd m2.u (by simp)
  have R2 := R1.upd m2.u (by simp)
  have hS2 : W2.cell? ⟨w.heap.size, 1, none⟩ = some (.slice p rd.length c) ∧ W2.cell? ⟨w.heap.size, 2, none⟩ = some (.slice q wl.length d) := ⟨B2.cell 1 rfl, B2.cell 2 rfl⟩
  refine hK2.out _ _ hS2 ?_
  clear hK2 K2 hS1 hS2
  have c1 := B2.cell 1 rfl
  have f1 := B2.free 1
  have c2 := (B2.set 1 (.slice p1 rd.length k1)).cell 2 rfl
  have f2 := (B2.set 1 (.slice p1 rd.length k1)).free 2
  refine wpT_last rfl (by decide) (by kernel_rfl) (by rfl) (fun K2 hK2 => ?_)
  go_simp
  refine hK2.out _ _ ?_
  clear hK2 K2 c1 f1
  refine wpT_last rfl (by decide) (by kernel_rfl) (by rfl) (fun K2 hK2 => ?_)
  go_simp
  refine hK2.out _ _ ?_
  clear hK2 K2
  refine wpT_last rfl (by decide) (by kernel_rfl) (by rfl) (fun K2 hK2 => ?_)
  go_simp
  refine hK2.out _ _ ?_
  clear hK2 K2 c2 f2
  refine wpT_end (NoPanic.normal ?_)
  have hv1 : (Value.slice p1 rd.length k1).ownBlock ≠ some w.heap.size := fun e => by have := m1.new _ e; omega
  have hv2 : (Value.slice p2 wl.length k2).ownBlock ≠ some w.heap.size := fun e => by have := m2.new _ e; omega
  have hv3 : (Value.slice p1 rd.length k1).ownBlock ≠ some (w.heap.size + 1) := fun e => by have := m1.new _ e; omega
  have hv4 : (Value.slice p2 wl.length k2).ownBlock ≠ some (w.heap.size + 1) := fun e => by have := m2.new _ e; omega
  have B4 := (B2.set 1 (.slice p1 rd.length k1)).set 2 (.slice p2 wl.length k2)
  have us : Upd [w.heap.size] W2 ((W2.setCell ⟨w.heap.size, 1, none⟩ (.slice p1 rd.length k1)).setCell ⟨w.heap.size, 2, none⟩ (.slice p2 wl.length k2)) := ((Upd.refl _ _).setCell (.inl (by simp)) _).setCell (.inl (by simp)) _
  have R4 := R2.upd us (by simp)
  have TN : TwoNew w ((W2.setCell ⟨w.heap.size, 1, none⟩ (.slice p1 rd.length k1)).setCell ⟨w.heap.size, 2, none⟩ (.slice p2 wl.length k2)) (⟨sn, rd, wl, ph, th, ad, wo, fo, at_⟩ : AS) (.slice p1 rd.length k1) (.slice p2 wl.length k2) :=
    ⟨(m1.own.upd m2.u (by simp)).upd us (fun g hg e => by simp at hg; subst hg; exact hv1 e), m2.own.upd us (fun g hg e => by simp at hg; subst hg; exact hv2 e),
      fun g hg e => by have h1 := m1.own.lt hg; have h2 := m2.new g e; omega, fun g hg => by have := m1.new g hg; omega, fun g hg => by have := m2.new g hg; omega, (((uD.trans m1.u).trans m2.u).tr us (by simp) (by simp))⟩
  have HTN : ∀ g, g = w.heap.size + 1 → w.heap.size ≤ g ∧ (Value.slice p1 rd.length k1).ownBlock ≠ some g ∧ (Value.slice p2 wl.length k2).ownBlock ≠ some g := fun g hg => by subst hg; exact ⟨by omega, hv3, hv4⟩
  clear uD BD RD R1 B1 B2 R2 m1 m2 us hv1 hv2 hv3 hv4
  have b0 := B4.cell 0 rfl
  have b1 := B4.cell 1 rfl
  have b2 := B4.cell 2 rfl
  have b3 := B4.cell 3 rfl
  have b4 := B4.cell 4 rfl
  have b5 := B4.cell 5 rfl
  have b6 := B4.cell 6 rfl
  have b7 := B4.cell 7 rfl
  have b8 := B4.cell 8 rfl
  have q0 := R4.cell 0 rfl
  have q1 := R4.cell 1 rfl
  have q2 := R4.cell 2 rfl
  have q3 := R4.cell 3 rfl
  have q4 := R4.cell 4 rfl
  have q5 := R4.cell 5 rfl
  have q6 := R4.cell 6 rfl
  have q7 := R4.cell 7 rfl
  have q8 := R4.cell 8 rfl
  have g0 := R4.free 0
  have g1 := R4.free 1
  have g2 := R4.free 2
  have g3 := R4.free 3
  have g4 := R4.free 4
  have g5 := R4.free 5
  have g6 := R4.free 6
  have g7 := R4.free 7
  have g8 := R4.free 8
  go_wp2_with fail
  refine bodyPost_ret (state_results 2 rfl _ _ (w.heap.size + 1) (⟨sn, rd, wl, ph, th, ad, wo, fo, at_⟩ : AS) (.slice p1 rd.length k1) (.slice p2 wl.length k2) rfl (nine_set R4 (⟨sn, rd, wl, ph, th, ad, wo, fo, at_⟩ : AS) (.slice p1 rd.length k1) (.slice p2 wl.length k2))) rfl (hK _ _ ⟨_, _, rfl, ?_⟩)
  exact TN.more (nine_upd (S := [w.heap.size + 1]) (Upd.refl _ _) (.inl (by simp)) _ _ _ _ _ _ _ _ _) HTN
end Go.Proofs.Ythfeljongackcaa
set_option linter.unusedSimpArgs false
set_option linter.unusedVariables false
set_option maxRecDepth 100000
namespace Go.Proofs.Ythfeljongackcaa
open Go.RowKit
/-- the reads of a block that are not of its own words -/
def nrB (b : List TE) : Nat := b.countP fun e => e.kind == 2 && !e.own
def hasLock (b : List TE) : Bool := b.any fun e => e.kind == 5
def nextB (b : List TE) (x : Told) : List TE := if x.2 = false then b else if x.1.kind = 1 then [x.1] else b ++ [x.1]
def nextN (n : Int) (x : Told) : Int := if x.2 = true ∧ x.1.kind = 1 then 1 else n + 1
/-- the law's count -/
def countedP (b : List TE) (n fuel : Int) (a : AS) : Bool :=
  let w : Int := if hasLock b then a.writes.length else 0
  if 0 < w then n == 1 + fuel + nrB b + w + 1 else n == 1 + fuel + nrB b + 1
/-- alone: the clock; the steps since a block's beginning -/
structure AI (t : TS) (sh : Sh) (b : List TE) (n : Int) : Prop where
  out : t.att = none → sh.clock % 2 = 0
  ins : ∀ s, t.att = some s → ((s.phase = 1 ∨ s.phase = 3) ∧ sh.clock = s.snap ∧ n = 1 + t.fuel + nrB b)
    ∨ (s.phase = 8 ∧ sh.clock = s.snap + 1 ∧ hasLock b = true ∧ n = 1 + t.fuel + nrB b + s.at_)
    ∨ (s.phase = 9 ∧ sh.clock = s.snap + 1 ∧ hasLock b = true ∧ n = 1 + t.fuel + nrB b + s.writes.length)
theorem nextB_quiet {b : List TE} {e : TE} : nextB b (e, false) = b := rfl
theorem nextN_quiet {n : Int} {e : TE} : nextN n (e, false) = n + 1 := rfl
theorem nextB_app {b : List TE} {e : TE} (h : e.kind ≠ 1) : nextB b (e, true) = b ++ [e] := by unfold nextB; rw [if_neg (by simp), if_neg h]
theorem nextN_app {n : Int} {e : TE} {q : Bool} (h : e.kind ≠ 1) : nextN n (e, q) = n + 1 := by unfold nextN; rw [if_neg (by simp [h])]
theorem nrB_app {b : List TE} {e : TE} : nrB (b ++ [e]) = nrB b + if e.kind == 2 && !e.own then 1 else 0 := by
  unfold nrB
  rw [List.countP_append]
  simp [List.countP_cons]
theorem hasLock_app {b : List TE} {e : TE} : hasLock (b ++ [e]) = (hasLock b || e.kind == 5) := by
  unfold hasLock
  simp
/-- what a told event is: none of what may not be -/
def FineK (b : List TE) (n : Int) (t : TS) (x : Told) : Prop :=
  x.1.kind ≠ 7 ∧ x.1.kind ≠ 4 ∧ (x.2 = true → x.1.kind = 6 → countedP (nextB b x) (nextN n x) t.fuel (t.att.getD zeroS) = true)
def Good (b : List TE) (n : Int) (t : TS) (r : Told × TS × Sh) : Prop := FineK b n t r.1 ∧ AI r.2.1 r.2.2 (nextB b r.1) (nextN n r.1)
section
variable {p : List Ins} {t : TS} {sh : Sh} {b : List TE} {n : Int}
theorem fineK (x : Told) (h : x.1.kind ≠ 7 ∧ x.1.kind ≠ 4 ∧ x.1.kind ≠ 6) : FineK b n t x := ⟨h.1, h.2.1, fun _ k => absurd k h.2.2⟩
/-- out of the block -/
theorem good_out {x : Told} {t' : TS} {sh' : Sh} (hf : FineK b n t x) (ha : t'.att = none) (hc : sh'.clock % 2 = 0) : Good b n t (x, t', sh') :=
  ⟨hf, fun _ => hc, fun s k => by rw [show t'.att = none from ha] at k; cases k⟩
theorem AI.even (h : AI t sh b n) (hM : TMay p t) (hidle : ∀ s, t.att = some s → s.phase = 1) : sh.clock % 2 = 0 := by
  cases ha : t.att with
  | none => exact h.out ha
  | some s =>
    rcases h.ins s ha with ⟨_, k, _⟩ | ⟨k, _⟩ | ⟨k, _⟩
    · rw [k]; exact (hM.ins s ha).2.2.2.1.even.1
    · have := hidle s ha; omega
    · have := hidle s ha; omega
theorem good_fail (h : AI t sh b n) (hM : TMay p t) (hidle : ∀ s, t.att = some s → s.phase = 1) {u : TS} (hu : u.att = none → t.att = none) (k : Int) : Good b n t ((failT u k).1, (failT u k).2, sh) := by
  refine good_out (fineK _ ⟨by simp [failT], by simp [failT], by simp [failT]⟩) ?_ (h.even hM hidle)
  unfold failT
  split
  · rfl
  · rename_i hi
    unfold TS.ins at hi
    show u.att = none
    cases ha : u.att with
    | none => rfl
    | some s => rw [ha] at hi; simp at hi
theorem fuelT_ins {s : AS} (ha : t.att = some s) : fuelT t = { t with fuel := t.fuel + 1 } := by
  unfold fuelT TS.ins; rw [ha]; rfl
theorem fuelT_out (ha : t.att = none) : fuelT t = t := by
  unfold fuelT TS.ins; rw [ha]; rfl
theorem turned_going (u : TS) : turnedT p u going 0 = ((evNone.te, false), u) := rfl
/-- the attempt moves on by what makes no difference -/
theorem good_in (h : AI t sh b n) (hidle : ∀ s, t.att = some s → s.phase = 1) {x : Told} {t' : TS} {sh' : Sh} (hx : x.1.kind ≠ 7 ∧ x.1.kind ≠ 4 ∧ x.1.kind ≠ 6 ∧ x.1.kind ≠ 1) (hx2 : x.1.kind = 2 → x.1.own = true)
    (hc : sh'.clock = sh.clock) (hf : t'.fuel = (fuelT t).fuel) (ha0 : t.att = none → t'.att = none)
    (ha : ∀ s, t.att = some s → ∃ s', t'.att = some s' ∧ (s'.phase = 1 ∨ s'.phase = 3) ∧ s'.snap = s.snap) : Good b n t (x, t', sh') := by
  refine ⟨fineK _ ⟨hx.1, hx.2.1, hx.2.2.1⟩, ?_, ?_⟩
  · intro k
    show sh'.clock % 2 = 0
    rw [hc]
    cases hat : t.att with
    | none => exact h.out hat
    | some s => obtain ⟨s', e, _⟩ := ha s hat; rw [show t'.att = none from k] at e; cases e
  · intro s' k
    have k : t'.att = some s' := k
    cases hat : t.att with
    | none => rw [ha0 hat] at k; cases k
    | some s =>
      obtain ⟨s2, e, h1, h2⟩ := ha s hat
      rw [e] at k
      cases k
      rcases h.ins s hat with ⟨_, k1, k2⟩ | ⟨k, _⟩ | ⟨k, _⟩
      · refine .inl ⟨h1, by show sh'.clock = _; rw [hc, h2]; exact k1, ?_⟩
        have hb : nrB (nextB b x) = nrB b := by
          unfold nextB
          split
          · rfl
          · rw [if_neg hx.2.2.2, nrB_app]
            by_cases e2 : x.1.kind = 2
            · rw [hx2 e2]; simp
            · rw [if_neg (by simp [e2])]; omega
        show nextN n x = 1 + t'.fuel + nrB (nextB b x)
        rw [hb, hf, fuelT_ins hat]
        obtain ⟨xe, xq⟩ := x
        rw [nextN_app hx.2.2.2]
        simp only
        omega
      · have := hidle s hat; omega
      · have := hidle s hat; omega
theorem good_shared (h : AI t sh b n) (hM : TMay p t) (hidle : ∀ s, t.att = some s → s.phase = 1) (hop : 10 ≤ opAt p t.at_ ∧ opAt p t.at_ ≤ 17)
    (hin : opAt p t.at_ = 13 ∨ opAt p t.at_ = 14 ∨ opAt p t.at_ = 15 → ∃ s, t.att = some s) (hout : opAt p t.at_ = 12 ∨ opAt p t.at_ = 17 → t.att = none) : Good b n t (sharedT p (fuelT t) sh (insAt p t.at_)) := by
  have hopi : (insAt p t.at_).op = opAt p t.at_ := rfl
  generalize hi : insAt p t.at_ = i at *
  have hA : (fuelT t).att = t.att := by unfold fuelT; split <;> rfl
  have hsame : ∀ s, t.att = some s → ∃ s', t.att = some s' ∧ (s'.phase = 1 ∨ s'.phase = 3) ∧ s'.snap = s.snap := fun s hs => ⟨s, hs, .inl (hidle s hs), rfl⟩
  unfold sharedT
  by_cases e10 : i.op = 10
  · rw [if_pos e10]
    split
    · exact good_in h hidle (by simp [telling]) (by simp [telling]) rfl rfl (fun k => hA.trans k) (fun s hs => by obtain ⟨s', a, c⟩ := hsame s hs; exact ⟨s', hA.trans a, c⟩)
    · exact good_fail h hM hidle (fun k => hA ▸ k) _
  rw [if_neg e10]
  by_cases e11 : i.op = 11
  · rw [if_pos e11]
    split
    · exact good_in h hidle (by simp [telling]) (by simp [telling]) rfl rfl (fun k => hA.trans k) (fun s hs => by obtain ⟨s', a, c⟩ := hsame s hs; exact ⟨s', hA.trans a, c⟩)
    · exact good_fail h hM hidle (fun k => hA ▸ k) _
  rw [if_neg e11]
  by_cases e17 : i.op = 17
  · rw [if_pos e17]
    exact good_in h hidle (by simp [telling]) (by simp [telling]) rfl rfl (fun k => hA.trans k) (fun s hs => by obtain ⟨s', a, c⟩ := hsame s hs; exact ⟨s', hA.trans a, c⟩)
  rw [if_neg e17]
  by_cases e12 : i.op = 12
  · rw [if_pos e12]
    have ha := hout (.inl (by omega))
    have hev := h.out ha
    rw [if_pos hev]
    refine ⟨fineK _ (by simp [telling]), fun k => by (cases k), fun s k => ?_⟩
    cases k
    refine .inl ⟨.inl rfl, rfl, ?_⟩
    show nextN n (telling 1 0 sh.clock) = 1 + (fuelT t).fuel + nrB (nextB b (telling 1 0 sh.clock))
    have h1 : nextN n (telling 1 0 sh.clock) = 1 := rfl
    have h2 : nrB (nextB b (telling 1 0 sh.clock)) = 0 := rfl
    rw [h1, h2, fuelT_out ha, (hM.out ha).2.2]
    rfl
  rw [if_neg e12]
  by_cases e13 : i.op = 13
  · rw [if_pos e13]
    obtain ⟨s, hs⟩ := hin (.inl (by omega))
    have h1 := hidle s hs
    have ha : attS (fuelT t) = s := by unfold attS; rw [hA, hs]; rfl
    simp only [ha]
    unfold getS
    rw [if_neg (by omega)]
    cases hpl : place s.writes (rg (fuelT t) i.b) with
    | some k =>
      simp only [turnedT]
      rw [if_neg (by simp), if_pos (by simp)]
      exact good_in h hidle (by simp [Ev.te]) (by simp [Ev.te]) rfl rfl (fun k => by rw [hs] at k; cases k) (fun s2 hs2 => by rw [hs] at hs2; cases hs2; exact ⟨s, rfl, .inl h1, rfl⟩)
    | none =>
      simp only
      split
      · simp only [turnedT]
        rw [if_pos (by simp)]
        exact good_fail h hM hidle (fun k => by cases k) _
      · split
        · simp only [turnedT]
          rw [if_pos (by simp)]
          exact good_fail h hM hidle (fun k => by cases k) _
        · show Good b n t ((turnedT p (withA (fuelT t) (loadS { s with addr := rg (fuelT t) i.b } sh).2) going 0).1, (turnedT p (withA (fuelT t) (loadS { s with addr := rg (fuelT t) i.b } sh).2) going 0).2, sh)
          rw [turned_going]
          exact good_in h hidle (by simp [evNone, Ev.te]) (by simp [evNone, Ev.te]) rfl rfl (fun k => by rw [hs] at k; cases k) (fun s2 hs2 => by rw [hs] at hs2; cases hs2; exact ⟨_, rfl, .inr rfl, rfl⟩)
  rw [if_neg e13]
  by_cases e14 : i.op = 14
  · rw [if_pos e14]
    obtain ⟨s, hs⟩ := hin (.inr (.inl (by omega)))
    have h1 := hidle s hs
    have ha : attS (fuelT t) = s := by unfold attS; rw [hA, hs]; rfl
    simp only [ha]
    unfold putS
    rw [if_neg (by omega)]
    split
    · simp only [turnedT]
      rw [if_pos (by simp)]
      exact good_fail h hM hidle (fun k => by cases k) _
    · cases hpl : place s.writes (rg (fuelT t) i.b) with
      | some k =>
        simp only [turnedT]
        rw [if_neg (by simp), if_neg (by simp), if_pos (by simp)]
        exact good_in h hidle (by simp [Ev.te]) (by simp [Ev.te]) rfl rfl (fun k => by rw [hs] at k; cases k) (fun s2 hs2 => by rw [hs] at hs2; cases hs2; exact ⟨_, rfl, .inl h1, rfl⟩)
      | none =>
        simp only
        split
        · simp only [turnedT]
          rw [if_neg (by simp), if_neg (by simp), if_pos (by simp)]
          exact good_in h hidle (by simp [Ev.te]) (by simp [Ev.te]) rfl rfl (fun k => by rw [hs] at k; cases k) (fun s2 hs2 => by rw [hs] at hs2; cases hs2; exact ⟨_, rfl, .inl h1, rfl⟩)
        · simp only [turnedT]
          rw [if_pos (by simp)]
          exact good_fail h hM hidle (fun k => by cases k) _
  rw [if_neg e14]
  by_cases e16 : i.op = 16
  · rw [if_pos e16]
    exact good_out (fineK _ (by simp [telling])) rfl (h.even hM hidle)
  rw [if_neg e16]
  obtain ⟨s, hs⟩ := hin (.inr (.inr (by omega)))
  have h1 := hidle s hs
  have ha : attS (fuelT t) = s := by unfold attS; rw [hA, hs]; rfl
  have hMs := (hM.ins s hs).2.2.2.1
  have hsn : sh.clock = s.snap ∧ n = 1 + t.fuel + nrB b := by
    rcases h.ins s hs with ⟨_, k1, k2⟩ | ⟨k, _⟩ | ⟨k, _⟩
    · exact ⟨k1, k2⟩
    · omega
    · omega
  simp only [ha]
  unfold endS
  rw [if_neg (by omega)]
  split
  · rename_i hw
    simp only [turnedT]
    rw [if_neg (by simp), if_neg (by simp), if_neg (by simp), if_pos (by simp)]
    refine good_out ⟨by simp [Ev.te], by simp [Ev.te], fun _ _ => ?_⟩ rfl (h.even hM hidle)
    rw [nextN_app (by simp [Ev.te])]
    unfold countedP
    simp only [hs, Option.getD_some, hw, List.length_nil]
    have hb : nrB (nextB b (({ kind := 6, addr := 0, word := s.snap / 2, own := false } : Ev).te, ((6 : Int) != 0))) = nrB b := by
      show nrB (nextB b (({ kind := 6, addr := 0, word := s.snap / 2, own := false } : Ev).te, true)) = _
      rw [nextB_app (by simp [Ev.te]), nrB_app]
      simp [Ev.te]
    rw [hb]
    simp
    omega
  · rename_i hw
    unfold lockS
    rw [if_pos hsn.1]
    simp only [turnedT]
    rw [if_neg (by simp), if_neg (by simp), if_neg (by simp), if_neg (by simp), if_neg (by simp)]
    refine ⟨fineK _ (by simp [Ev.te]), fun k => by (cases k), fun s2 k => ?_⟩
    cases k
    refine .inr (.inl ⟨rfl, ?_, ?_, ?_⟩)
    · show sh.clock + 1 = s.snap + 1
      rw [hsn.1]
    · show hasLock (nextB b (({ kind := 5, addr := 0, word := 0, own := false } : Ev).te, true)) = true
      rw [nextB_app (by simp [Ev.te]), hasLock_app]
      simp [Ev.te]
    · show nextN n (({ kind := 5, addr := 0, word := 0, own := false } : Ev).te, true) = 1 + (fuelT t).fuel + nrB (nextB b (({ kind := 5, addr := 0, word := 0, own := false } : Ev).te, true)) + s.at_
      rw [nextN_app (by simp [Ev.te]), nextB_app (by simp [Ev.te]), nrB_app, hMs.at0 (by omega) (by omega), fuelT_ins hs]
      simp [Ev.te]
      omega
/-- a step that goes on with the attempt -/
theorem good_turn (h : AI t sh b n) (hM : TMay p t) {s : AS} (hs : t.att = some s) (h1 : s.phase ≠ 1) : Good b n t ((turnedT p (withA t (stepS s sh).2.2.1) (stepS s sh).1 (stepS s sh).2.1).1, (turnedT p (withA t (stepS s sh).2.2.1) (stepS s sh).1 (stepS s sh).2.1).2, (stepS s sh).2.2.2) := by
  have hMs := (hM.ins s hs).2.2.2.1
  rcases h.ins s hs with ⟨h3, k1, k2⟩ | ⟨h8, k1, k2, k3⟩ | ⟨h9, k1, k2, k3⟩
  · have e3 : s.phase = 3 := by omega
    rw [step3 e3]
    unfold lookS
    rw [if_pos k1]
    simp only [turnedT]
    rw [if_neg (by simp), if_pos (by simp)]
    refine ⟨fineK _ (by simp [Ev.te]), fun k => by (cases k), fun s2 k => ?_⟩
    cases k
    refine .inl ⟨.inl rfl, k1, ?_⟩
    show nextN n (({ kind := 2, addr := s.addr, word := s.word, own := false } : Ev).te, true) = 1 + t.fuel + nrB (nextB b (({ kind := 2, addr := s.addr, word := s.word, own := false } : Ev).te, true))
    rw [nextN_app (by simp [Ev.te]), nextB_app (by simp [Ev.te]), nrB_app]
    simp [Ev.te]
    omega
  · have h88 := hMs.at8 h8
    rw [step8 h8]
    unfold storeS
    have hl : s.at_.toNat < s.writes.length := by omega
    rw [List.getElem?_eq_getElem hl]
    simp only [turned_going]
    refine ⟨fineK _ (by simp [evNone, Ev.te]), fun k => by (cases k), fun s2 k => ?_⟩
    cases k
    show _ ∨ ((if s.at_ + 1 = s.writes.length then ({ s with at_ := 0, phase := 9 } : AS) else { s with at_ := s.at_ + 1 }).phase = 8 ∧ sh.clock = (if s.at_ + 1 = s.writes.length then ({ s with at_ := 0, phase := 9 } : AS) else { s with at_ := s.at_ + 1 }).snap + 1 ∧ hasLock b = true ∧ n + 1 = 1 + t.fuel + nrB b + (if s.at_ + 1 = s.writes.length then ({ s with at_ := 0, phase := 9 } : AS) else { s with at_ := s.at_ + 1 }).at_)
      ∨ ((if s.at_ + 1 = s.writes.length then ({ s with at_ := 0, phase := 9 } : AS) else { s with at_ := s.at_ + 1 }).phase = 9 ∧ sh.clock = (if s.at_ + 1 = s.writes.length then ({ s with at_ := 0, phase := 9 } : AS) else { s with at_ := s.at_ + 1 }).snap + 1 ∧ hasLock b = true ∧ n + 1 = 1 + t.fuel + nrB b + (if s.at_ + 1 = s.writes.length then ({ s with at_ := 0, phase := 9 } : AS) else { s with at_ := s.at_ + 1 }).writes.length)
    split
    · exact .inr (.inr ⟨rfl, k1, k2, by simp only; omega⟩)
    · exact .inr (.inl ⟨h8, k1, k2, by simp only; omega⟩)
  · have hw := hMs.locks (by simp [locksB, h9])
    have hwl : 0 < s.writes.length := List.length_pos_iff.2 hw
    rw [step9 h9]
    unfold freeS
    simp only [turnedT]
    rw [if_neg (by simp), if_neg (by simp), if_neg (by simp), if_pos (by simp), if_pos k1]
    refine good_out ⟨by simp [Ev.te], by simp [Ev.te], fun _ _ => ?_⟩ rfl ?_
    · rw [nextN_app (by simp [Ev.te])]
      have hb : nextB b (({ kind := 6, addr := 0, word := (s.snap + 2) % 18446744073709551616 / 2, own := false } : Ev).te, ((6 : Int) != 0)) = b ++ [({ kind := 6, addr := 0, word := (s.snap + 2) % 18446744073709551616 / 2, own := false } : Ev).te] := nextB_app (by simp [Ev.te])
      rw [hb]
      unfold countedP
      have hk : hasLock (b ++ [({ kind := 6, addr := 0, word := (s.snap + 2) % 18446744073709551616 / 2, own := false } : Ev).te]) = true := by
        rw [hasLock_app, k2]; rfl
      simp only [hs, Option.getD_some, hk, if_true, nrB_app]
      rw [if_pos (by omega)]
      simp [Ev.te]
      omega
    · have := hMs.even.1
      simp only
      omega
theorem ai_step (h : AI t sh b n) (hM : TMay p t) : Good b n t (StepT p t sh) := by
  have hquiet : ∀ {t' : TS}, t'.att = none → sh.clock % 2 = 0 → Good b n t (quiet, t', sh) := fun ha hc => good_out (fineK _ (by simp [quiet, teNone])) ha hc
  unfold StepT
  split
  · rename_i hst
    have ha : t.att = none := by
      cases ha : t.att with
      | none => rfl
      | some s => exact absurd (hM.ins s ha).1 hst
    exact hquiet ha (h.out ha)
  · by_cases hrun : ∃ s, t.att = some s ∧ s.phase ≠ 1
    · obtain ⟨s, hs, h1⟩ := hrun
      have ha : attS t = s := by unfold attS; rw [hs]; rfl
      have hi : t.ins = true := by unfold TS.ins; rw [hs]; rfl
      unfold stepT
      rw [if_pos ⟨hi, by rw [ha]; exact h1⟩, ha]
      exact good_turn h hM hs h1
    · have hidle : ∀ s, t.att = some s → s.phase = 1 := fun s hs => by
        by_cases e : s.phase = 1
        · exact e
        · exact absurd ⟨s, hs, e⟩ hrun
      by_cases hb : badIns t (opAt p t.at_)
      · rw [stepT_bad hidle hb]; exact good_fail h hM hidle (fun k => k) _
      by_cases hf : t.ins = true ∧ t.fuel = 4096
      · rw [stepT_full hidle hb hf]; exact good_fail h hM hidle (fun k => k) _
      rw [stepT_go hidle hb hf]
      have hop : 1 ≤ opAt p t.at_ ∧ opAt p t.at_ ≤ 17 := by
        have : isOp (opAt p t.at_) = true := by
          cases h : isOp (opAt p t.at_) with
          | true => rfl
          | false => exact absurd (.inl h) hb
        simpa [isOp] using this
      cases he : plainT (fuelT t) (insAt p t.at_) with
      | some t' =>
        have hk : t'.att = (fuelT t).att ∧ t'.fuel = (fuelT t).fuel := by
          unfold plainT at he
          repeat' split at he
          all_goals first
            | (cases he; exact ⟨rfl, rfl⟩)
            | (cases he; split <;> exact ⟨rfl, rfl⟩)
            | cases he
        rw [fuelT_att] at hk
        exact good_in h hidle (by simp [quiet, teNone]) (by simp [quiet, teNone]) rfl hk.2 (fun k => hk.1.trans k) (fun s hs => ⟨s, hk.1.trans hs, .inl (hidle s hs), rfl⟩)
      | none =>
        have h10 : 10 ≤ opAt p t.at_ := by
          rcases Int.lt_or_le (opAt p t.at_) 10 with k | k
          · have hc : (insAt p t.at_).op = 1 ∨ (insAt p t.at_).op = 2 ∨ (insAt p t.at_).op = 3 ∨ (insAt p t.at_).op = 4 ∨ (insAt p t.at_).op = 5 ∨ (insAt p t.at_).op = 6 ∨ (insAt p t.at_).op = 7 ∨ (insAt p t.at_).op = 8 ∨ (insAt p t.at_).op = 9 := by
              have : (insAt p t.at_).op = opAt p t.at_ := rfl
              omega
            unfold plainT at he
            rcases hc with e | e | e | e | e | e | e | e | e <;> simp [e] at he
          · exact k
        refine good_shared h hM hidle ⟨h10, hop.2⟩ (fun hk => ?_) (fun hk => ?_)
        · cases ha : t.att with
          | some s => exact ⟨s, rfl⟩
          | none =>
            refine absurd (.inr (.inr ⟨by unfold TS.ins; rw [ha]; rfl, ?_⟩)) hb
            rcases hk with k | k | k <;> (rw [k]; rfl)
        · cases ha : t.att with
          | none => rfl
          | some s =>
            refine absurd (.inr (.inl ⟨by unfold TS.ins; rw [ha]; rfl, ?_⟩)) hb
            rcases hk with k | k <;> (rw [k]; rfl)
/-- never in a validation -/
theorem AI.valid (h : AI t sh b n) : ¬ (t.ins = true ∧ 4 ≤ (t.att.getD zeroS).phase ∧ (t.att.getD zeroS).phase ≤ 6) := by
  rintro ⟨hi, h4, h6⟩
  cases ha : t.att with
  | none => unfold TS.ins at hi; rw [ha] at hi; cases hi
  | some s =>
    rw [ha] at h4 h6
    simp only [Option.getD_some] at h4 h6
    rcases h.ins s ha with ⟨k, _⟩ | ⟨k, _⟩ | ⟨k, _⟩ <;> omega
end
end Go.Proofs.Ythfeljongackcaa
set_option linter.unusedSimpArgs false
set_option linter.unusedVariables false
set_option maxRecDepth 100000
namespace Go.Proofs.Ythfeljongackcaa
open Go.RowKit
open Go.Maps
theorem tst_results {fn : Func} (hr : fn.results = #[.cell 2 103]) (t : Array Value) (w : World) (rb : Nat) (cs : List Value) (h2 : t.getD 2 undef = .pointer (some ⟨rb, 0, none⟩)) (hb : w.rangeAt rb 0 cs) (hl : cs.length = 31) :
    (results fn t).run Try.prog w = .ok (.agg cs.toArray) w := by
  have h2' : t[2]?.getD undef = .pointer (some ⟨rb, 0, none⟩) := by simpa using h2
  have h3 := run_loadVar_mid (P := Try.prog) w rb 0 103 cs _ hb Try.underlying103 rfl (by rw [hl]; kernel_rfl)
  simp [results, hr, h2', h3, Sem.run_bind, asAddr]
section
variable {w w' : World} {tb : Nat}
def zero31 : Array Value := #[.int .i64 0, .int .i64 0, .int .i64 0, .int .u64 0, .int .u64 0, .int .u64 0, .int .u64 0, .int .u64 0, .int .u64 0, .int .u64 0, .int .u64 0, .bool false, .int .i64 0, .int .u64 0, .int .u64 0, .int .u64 0, .int .u64 0, .int .u64 0, .int .u64 0, .int .u64 0, .int .u64 0, .int .i64 0, .int .u64 0, .slice none 0 0, .slice none 0 0, .int .i64 0, .int .i64 0, .int .u64 0, .int .u64 0, .int .u64 0, .int .i64 0]
set_option maxHeartbeats 2000000 in
theorem state_abs_none {vs : List Value} (hl : vs.length = 31) (h1 : vs.toArray.all (·.oneCell') = true) (hr : w.rangeAt tb 0 vs) (c34 : w.cell? ⟨tb, 34, none⟩ = some (.pointer none)) : Calls Try.prog 37 #[.pointer (some ⟨tb, 0, none⟩)] w fun e w' => e = .returned (.agg vs.toArray) ∧ Upd [] w w' := by
  have htb : tb < w.heap.size := World.block_lt_of_cell? w _ c34
  obtain ⟨W1, hW1⟩ : ∃ W, w.alloc (.cells zero31 103) = W := ⟨_, rfl⟩
  have u1 : Upd [] w W1 := by rw [← hW1]; exact (Upd.refl [] _).alloc _
  have B1 : Blk W1 w.heap.size zero31.toList 103 := by rw [← hW1]; exact Blk.new w zero31.toList 103
  obtain ⟨W2, hW2⟩ : ∃ W, W1.alloc (.cells zero31 103) = W := ⟨_, rfl⟩
  have u2 : Upd [] W1 W2 := by rw [← hW2]; exact (Upd.refl [] _).alloc _
  have B2 : Blk W2 W1.heap.size zero31.toList 103 := by rw [← hW2]; exact Blk.new W1 zero31.toList 103
  have th1 : W1.there w.heap.size 0 31 := B1.there 0 31 (by decide)
  have th2 : W2.there W1.heap.size 0 31 := B2.there 0 31 (by decide)
  have r1 : W1.rangeAt tb 0 vs := by rw [← hW1]; exact World.rangeAt_alloc hr _
  have hs1 : w.heap.size < W1.heap.size := by rw [← hW1]; simp
  have HR := Lib.hid r1
  have HT2 := Lib.hid th2
  obtain ⟨W3, hW3⟩ : ∃ W, W2.setCells W1.heap.size 0 vs = W := ⟨_, rfl⟩
  have E3 : ∀ w, (binOp .neq 29 (.pointer none) (.pointer none)).run Try.prog w = .ok (.bool false) w := fun w => by kernel_rfl
  have r3 : W3.rangeAt W1.heap.size 0 vs := by rw [← hW3]; exact World.rangeAt_setCells_same W2 _ 0 vs (by rw [hl]; exact th2)
  have th3 : W3.there w.heap.size 0 31 := by rw [← hW3]; refine World.there_setCells ?_ _ _ _; rw [← hW2]; exact World.there_alloc th1 _
  have u3 : Upd [] w W3 := by rw [← hW3]; exact Upd.rows _ 0 (u1.trans u2) (.inr (by omega))
  have c3 : W3.cell? ⟨tb, 34, none⟩ = some (.pointer none) := by
    rw [← c34]; exact World.cell?_of_block (u3.block tb htb (by simp))
  clear hr c34 B1 B2 th1 th2 r1 u1 u2
  simp only [zero31] at hW1 hW2
  refine calls_all fun K hK => ?_
  go_enter Try.func37, Try.ntmps37
  go_upto_region 3 with (fail)
  go_upto_region 4 with (first
    | ((with_reducible refine wpList_load_mid (op := ⟨some 10, .load 103 (.tmp 9), _, _, _, _⟩) rfl 103 _ rfl tb 0 ?_ vs _ HR.out Try.underlying103 (by rfl) (by rw [hl]; kernel_rfl) ?_); (· rfl))
    | ((with_reducible refine wpList_store_mid (op := ⟨none, .store 103 (.tmp 3) (.tmp 10), _, _, _, _⟩) rfl 103 _ _ rfl W1.heap.size 0 vs.toArray ?_ ?_ (by simpa [hl] using HT2.out) (by simp only [List.size_toArray, hl]; kernel_rfl) h1 ?_); (· rfl); (· rfl)))
  rw [hW3]
  clear hW3
  have HR3 := Lib.hid r3
  have HT3 := Lib.hid th3
  have HU3 := Lib.hid u3
  clear r3 th3 u3
  go_upto_region 6 with (fail)
  go_wp2_with (first
    | ((with_reducible refine wpList_load_mid (op := ⟨some 22, .load 103 (.tmp 3), _, _, _, _⟩) rfl 103 _ rfl W1.heap.size 0 ?_ vs _ HR3.out Try.underlying103 (by rfl) (by rw [hl]; kernel_rfl) ?_); (· rfl))
    | ((with_reducible refine wpList_store_mid (op := ⟨none, .store 103 (.tmp 2) (.tmp 22), _, _, _, _⟩) rfl 103 _ _ rfl w.heap.size 0 vs.toArray ?_ ?_ (by simpa [hl] using HT3.out) (by simp only [List.size_toArray, hl]; kernel_rfl) h1 ?_); (· rfl); (· rfl)))
  refine bodyPost_ret (tst_results rfl _ _ w.heap.size vs rfl (World.rangeAt_setCells_same W3 _ 0 vs (by rw [hl]; exact HT3.out)) hl) rfl (hK _ _ ⟨rfl, Upd.rows _ 0 HU3.out (.inr (Nat.le_refl _))⟩)
end
end Go.Proofs.Ythfeljongackcaa
