/- goOver: a history as far as it can be. The conditions are sizes. -/
import Derived.Test.YtfldpejifpmapaaDoorETab
import Derived.Laws.OwnMore
set_option linter.unusedSimpArgs false
set_option linter.unusedVariables false
set_option maxRecDepth 100000
namespace Go.Proofs.YtfldpejifpmapaaDoor
open Go.RowKit
open Go.Maps
/-- po reads as these events -/
def HistAt (w : World) (po : Option Addr) (l : List Ev) : Prop := ∀ i x, l[i]? = some x → ∃ b o, po = some ⟨b, o, none⟩ ∧ w.cell? ⟨b, o + i * 6, none⟩ = some (.int .i64 x.th) ∧ w.cell? ⟨b, o + i * 6 + 1, none⟩ = some (.int .i64 x.kd) ∧ w.cell? ⟨b, o + i * 6 + 2, none⟩ = some (.int .u64 x.ad) ∧ w.cell? ⟨b, o + i * 6 + 3, none⟩ = some (.int .u64 x.wd) ∧ w.cell? ⟨b, o + i * 6 + 4, none⟩ = some (.bool x.own) ∧ w.cell? ⟨b, o + i * 6 + 5, none⟩ = some (.int .i64 x.er)
theorem HistAt.upd {w w' : World} {po : Option Addr} {p : List Ev} {S : List Nat} (h : HistAt w po p) (u : Upd S w w') (hS : ∀ b o, po = some ⟨b, o, none⟩ → b ∉ S) : HistAt w' po p := by
  intro i x hx
  obtain ⟨b, o, rfl, h0, h1, h2, h3, h4, h5⟩ := h i x hx
  have hb : b < w.heap.size := World.block_lt_of_cell? w _ h0
  have he := u.block b hb (hS b o rfl)
  exact ⟨b, o, rfl, (World.cell?_of_block (w := w) he).trans h0, (World.cell?_of_block (w := w) he).trans h1, (World.cell?_of_block (w := w) he).trans h2, (World.cell?_of_block (w := w) he).trans h3, (World.cell?_of_block (w := w) he).trans h4, (World.cell?_of_block (w := w) he).trans h5⟩
theorem HistAt.upd0 {w w' : World} {po : Option Addr} {p : List Ev} (h : HistAt w po p) (u : Upd [] w w') : HistAt w' po p := h.upd u (by simp)
theorem HistAt.below {B : Nat} {w w' : World} {po : Option Addr} {p : List Ev} (h : HistAt w po p) (u : Below B w w') (hB : ∀ b o, po = some ⟨b, o, none⟩ → p ≠ [] → b < B) : HistAt w' po p := by
  intro i x hx
  obtain ⟨b, o, rfl, h0, h1, h2, h3, h4, h5⟩ := h i x hx
  have hb := hB b o rfl (by rintro rfl; simp at hx)
  exact ⟨b, o, rfl, (u.cell (p := ⟨b, o + i * 6, none⟩) hb).trans h0, (u.cell (p := ⟨b, o + i * 6 + 1, none⟩) hb).trans h1, (u.cell (p := ⟨b, o + i * 6 + 2, none⟩) hb).trans h2, (u.cell (p := ⟨b, o + i * 6 + 3, none⟩) hb).trans h3, (u.cell (p := ⟨b, o + i * 6 + 4, none⟩) hb).trans h4, (u.cell (p := ⟨b, o + i * 6 + 5, none⟩) hb).trans h5⟩
theorem HistAt.lt {w : World} {po : Option Addr} {p : List Ev} (h : HistAt w po p) : ∀ b o, po = some ⟨b, o, none⟩ → p ≠ [] → b < w.heap.size := by
  intro b o e hne
  obtain ⟨x, hx⟩ : ∃ x, p[0]? = some x := ⟨_, List.getElem?_eq_getElem (List.length_pos_iff.2 hne)⟩
  obtain ⟨b', o', e', h0, _⟩ := h 0 x hx
  rw [e] at e'
  cases e'
  exact World.block_lt_of_cell? w _ h0
theorem LookAt.upd0 {w w' : World} {B lb n : Nat} {S : LS} (h : LookAt w B lb n S) (u : Upd [] w w') : LookAt w' B lb n S := by
  obtain ⟨C, tv, mv, hM⟩ := h
  exact ⟨C, tv, mv, hM.upd0 u⟩
/-- a block ahead of it is written -/
theorem LookAt.other {w : World} {B lb n : Nat} {S : LS} (h : LookAt w B lb n S) (ob : Nat) (ho : ob < B) (u v : Value) : LookAt ((w.setCell ⟨ob, 0, none⟩ u).setCell ⟨ob, 1, none⟩ v) B lb n S := by
  obtain ⟨C, tv, mv, hM⟩ := h
  have hu : Upd [ob] w ((w.setCell ⟨ob, 0, none⟩ u).setCell ⟨ob, 1, none⟩ v) := ((Upd.refl _ _).setCell (.inl (by simp)) _).setCell (.inl (by simp)) _
  have h1 := hM.low
  exact ⟨C, tv, mv, hM.blk.upd hu (by simp; omega), hM.cs, hM.low, own_upd hM.row hu (fun g hg e => by have := (own_blocks hM.row g (by rw [e]; simp)).1; simp at hg; omega), fun j hj hl => by
    obtain ⟨m, e1, e2, e3⟩ := hM.maps j hj hl
    exact ⟨m, e1, e2, e3.upd hu (by simp; omega)⟩, hM.apart⟩
theorem runE_more {S S2 : LS} {i k : Nat} {a l : List Ev} (h : runE S i a = (S2, k, 0)) : runE S i (a ++ l) = runE S2 k l := by
  induction a generalizing S i with
  | nil =>
    simp only [runE, Prod.mk.injEq] at h
    obtain ⟨rfl, rfl, _⟩ := h
    rfl
  | cons x a ih =>
    rw [runE] at h
    rw [List.cons_append, runE]
    split at h
    · rename_i hx
      rw [if_pos hx]
      exact ih h
    · rename_i hx
      simp only [Prod.mk.injEq] at h
      exact absurd h.2.2 hx
def wideL (l : List Ev) : Prop := ∀ x ∈ l, x.wide
/-- what goOver answers -/
def GoOk (w : World) (l : List Ev) (e : Ending) (w' : World) : Prop := Below w.heap.size w w' ∧
  ((∃ B lb S, w.heap.size ≤ B ∧ runE ls0 0 l = (S, l.length, 0) ∧ e = .returned (.tuple #[.pointer (some ⟨lb, 0, none⟩), .agg #[.int .i64 (-1), .int .i64 0]]) ∧ LookAt w' B lb l.length S ∧ LSOk S l.length) ∨
   (∃ S k er, runE ls0 0 l = (S, k, er) ∧ er ≠ 0 ∧ e = .returned (.tuple #[.pointer none, .agg #[.int .i64 (k : Int), .int .i64 er]])))
def turnA : Array Value := (turnL.map fun n : Nat => Value.int .i64 (n : Int)).toArray
def look0 : List Value := [.int .i64 0, .int .i64 2, .int .i64 0, .int .i64 0, .int .i64 0, .int .i64 0, .int .i64 0, .int .i64 0, .int .i64 0, .int .i64 4, .int .i64 1, .int .i64 1, .int .i64 4, .int .i64 0, .int .i64 0, .int .i64 2, .int .i64 2, .int .i64 2, .int .i64 3, .int .i64 1, .int .i64 1, .int .i64 1, .int .i64 4, .int .i64 0, .int .i64 0, .int .i64 0, .int .i64 0, .int .i64 0, .int .i64 0, .int .i64 0, .int .i64 0, .int .i64 0, .int .i64 1, .int .i64 0, .int .i64 0, .int .i64 0, .int .i64 0, .int .i64 0, .int .i64 0, .int .i64 0, .int .i64 0, .int .i64 0, .int .i64 0, .int .i64 0, .int .i64 0, .int .i64 0, .int .i64 0, .int .i64 0, .int .i64 0, .int .i64 0, .int .i64 0, .int .i64 0, .int .i64 0, .int .u64 0, .map none, .int .i64 0, .int .i64 0, .int .u64 0, .map none, .int .i64 0, .int .i64 0, .int .u64 0, .map none, .int .i64 0, .int .i64 0, .int .u64 0, .map none, .int .i64 0, .int .i64 0, .int .u64 0, .map none, .int .i64 0, .int .i64 0, .int .u64 0, .map none, .int .i64 0, .int .i64 0, .int .u64 0, .map none, .int .i64 0, .int .i64 0, .int .u64 0, .map none, .int .i64 0, .int .u64 0, .int .i64 (-1), .slice none 0 0]
theorem look0_c : LookC look0 ls0 (.slice none 0 0) (fun _ => .map none) := by
  refine ⟨rfl, ?_, ?_, ?_, ?_, ?_, rfl, rfl, rfl⟩
  · intro h k hh hk
    have h1 : h = 0 ∨ h = 1 ∨ h = 2 ∨ h = 3 := by omega
    have h2 : k = 0 ∨ k = 1 ∨ k = 2 ∨ k = 3 ∨ k = 4 ∨ k = 5 ∨ k = 6 ∨ k = 7 ∨ k = 8 ∨ k = 9 ∨ k = 10 ∨ k = 11 ∨ k = 12 := by omega
    rcases h1 with rfl | rfl | rfl | rfl <;> rcases h2 with rfl | rfl | rfl | rfl | rfl | rfl | rfl | rfl | rfl | rfl | rfl | rfl | rfl <;> rfl
  all_goals
    intro i hi
    have h1 : i = 0 ∨ i = 1 ∨ i = 2 ∨ i = 3 ∨ i = 4 ∨ i = 5 ∨ i = 6 ∨ i = 7 := by omega
    rcases h1 with rfl | rfl | rfl | rfl | rfl | rfl | rfl | rfl <;> rfl
theorem look0_at {w : World} {B : Nat} (hB : B ≤ w.heap.size) : LookAt (w.alloc (.cells look0.toArray 97)) B w.heap.size 0 ls0 :=
  ⟨look0, _, _, Blk.new w _ _, look0_c, hB, ⟨rfl, .inl ⟨rfl, rfl⟩⟩, fun j hj hl => by simp [ls0, th0] at hl, fun i j m hi hj hij hl => by simp [ls0, th0] at hl⟩
theorem odd_results {fn : Func} {k m : Nat} (hr : fn.results = #[.tmp k, .cell m 46]) (t : Array Value) (w : World) (rb : Nat) (v a b : Value) (h1 : t.getD k undef = v) (h2 : t.getD m undef = .pointer (some ⟨rb, 0, none⟩)) (hb : Blk w rb [a, b] 46) :
    (results fn t).run Tryd.prog w = .ok (.tuple #[v, .agg #[a, b]]) w := by
  have c0 := hb.cell 0 rfl
  have c1 := hb.cell 1 rfl
  have h1' : t[k]?.getD undef = v := by simpa using h1
  have h2' : t[m]?.getD undef = .pointer (some ⟨rb, 0, none⟩) := by simpa using h2
  simp [results, hr, h1', h2', go_sem, c0, c1]
set_option maxHeartbeats 4000000 in
theorem goOver_code (w : World) (po : Option Addr) (cap : Nat) (l : List Ev) (hH : HistAt w po l) (hl : l.length ≤ 1000000000000) (hw : wideL l) : Calls Tryd.prog 52 #[.slice po l.length cap] w (GoOk w l) := by
  obtain ⟨W1, hW1⟩ : ∃ W, w.alloc (.cells #[.int .i64 0, .int .i64 0] 46) = W := ⟨_, rfl⟩
  have u1 : Upd [] w W1 := by rw [← hW1]; exact (Upd.refl [] _).alloc _
  have B1 : Blk W1 w.heap.size [.int .i64 0, .int .i64 0] 46 := by rw [← hW1]; exact Blk.new w _ _
  have HU1 := Lib.hid u1
  have HB1 := Lib.hid B1
  clear u1 B1
  refine calls_all fun K hK => ?_
  go_enter Tryd.func52, Tryd.ntmps52
  go_wp2_with fail
  refine (table_code _).mono ?_
  rintro e W2 ⟨rfl, u2⟩
  rw [show (turnL.map fun n : Nat => Value.int .i64 (n : Int)).toArray = turnA from rfl]
  have HU2 := Lib.hid (HU1.out.trans u2)
  have HB2 := Lib.hid (HB1.out.upd u2 (by simp))
  clear u2 HU1 HB1 hW1
  go_wp2_with fail
  generalize hX : (Array.foldl (fun (cs : Array Value) (x : Value × Nat) => cs.setIfInBounds x.2 x.1) Tryd.zeroCells97 turnA.zipIdx 0 turnA.size).setIfInBounds 85 (.int .i64 (-1)) = X
  have hX2 : X = look0.toArray := by rw [← hX]; rfl
  clear hX
  subst hX2
  have HL3 := Lib.hid (look0_at (w := W2) (B := W2.heap.size) (Nat.le_refl _))
  have hs2 := HU2.out.size
  have hob := HB2.out.lt
  have u3 : Upd [] W2 (W2.alloc (.cells look0.toArray 97)) := (Upd.refl _ _).alloc _
  have HU3 := Lib.hid (HU2.out.trans u3)
  have HB3 := Lib.hid (HB2.out.upd u3 (by simp))
  have HBL3 := Lib.hid (Below.refl W2.heap.size (W2.alloc (.cells look0.toArray 97)))
  have HPO := Lib.hid hH.lt
  have HH3 := Lib.hid (hH.upd0 HU3.out)
  have HW := Lib.hid hw
  have HSW := Lib.hid hs2
  have HOB := Lib.hid hob
  have HS3 := Lib.hid (show W2.heap.size ≤ (W2.alloc (.cells look0.toArray 97)).heap.size from u3.size)
  generalize W2.alloc (.cells look0.toArray 97) = W3 at HL3 HU3 HB3 HBL3 HH3 HS3 ⊢
  generalize W2.heap.size = lb at HL3 HBL3 HSW HOB HS3 ⊢
  obtain ⟨ob, hob2⟩ : ∃ b, w.heap.size = b := ⟨_, rfl⟩
  have HBS := Lib.hid hob2
  rw [hob2] at HB3 HPO HSW HOB ⊢
  clear u3 hs2 hob HU2 HB2 hH hw hob2
  have hl9 : (l.length : Int) ≤ 1000000000000 := by omega
  go_loopw [13] (fun v13 wr => ∃ (k : Nat) (S : LS), k ≤ l.length ∧ v13 = .int .i64 k ∧ runE ls0 0 (l.take k) = (S, k, 0) ∧ LookAt wr lb lb k S ∧ LSOk S k ∧ Below lb W3 wr) (fun v13 _ => l.length - (intOf v13).toNat)
  case atStart => exact ⟨0, ls0, by omega, rfl, rfl, HL3.out, ls0_ok, HBL3.out⟩
  case round =>
    obtain ⟨k, S, hk, rfl, hr, hla, hok, hbl⟩ := hrel
    have HR := Lib.hid hr
    have HLA := Lib.hid hla
    have HOK := Lib.hid hok
    have HBL := Lib.hid hbl
    clear hr hla hok hbl
    by_cases hlt : k < l.length
    · have hlt' : (k : Int) < (l.length : Int) := by omega
      have hk0 : 0 ≤ (k : Int) := by omega
      obtain ⟨x, hx⟩ : ∃ x, l[k]? = some x := ⟨_, List.getElem?_eq_getElem hlt⟩
      have hhw := HH3.out.below HBL.out (fun b o e hne => by have := HPO.out b o e hne; have := HOB.out; omega)
      obtain ⟨b, o, hpo, h0, h1, h2, h3, h4, h5⟩ := hhw k x hx
      have HX := Lib.hid hx
      have hxw := HW.out x (List.mem_of_getElem? hx)
      have HTK := Lib.hid (show l.take (k + 1) = l.take k ++ [x] by rw [List.take_add_one, hx]; rfl)
      subst hpo
      have hwr := fun (W : World) (u : Upd [] wr W) => wrong_code HOK.out (by omega) (HLA.out.upd0 u) x hxw
      have htk := fun (W : World) (u : Upd [] wr W) (hz : wrongE S x = 0) => take_code (q := k) HOK.out (by omega) (by omega) (HLA.out.upd0 u) x hxw hz
      have HWR := Lib.hid hwr
      have HTC := Lib.hid htk
      have HXW := Lib.hid hxw
      clear hx hhw hwr htk hxw
      obtain ⟨th, kd, ad, wd, own, er⟩ := x
      simp only [Ev.val] at HWR HTC
      dsimp only at h0 h1 h2 h3 h4 h5
      have HUA := Lib.hid (show Upd [] wr (wr.alloc (.cells #[.int .i64 th, .int .i64 kd, .int .u64 ad, .int .u64 wd, .bool own, .int .i64 er] 27)) from (Upd.refl _ _).alloc _)
      have HEB := Lib.hid (Blk.new wr [.int .i64 th, .int .i64 kd, .int .u64 ad, .int .u64 wd, .bool own, .int .i64 er] 27)
      go_wp2_with fail
      refine (HWR.out _ HUA.out).mono ?_
      rintro e W5 ⟨rfl, u5⟩
      obtain ⟨wv, hwv⟩ : ∃ v, wrongE S ⟨th, kd, ad, wd, own, er⟩ = v := ⟨_, rfl⟩
      rw [hwv]
      have HWV := Lib.hid hwv
      have HE5 := Lib.hid (HEB.out.upd u5 (by simp))
      have HU5 := Lib.hid (HUA.out.trans u5)
      clear hwv u5 h0 h1 h2 h3 h4 h5 HEB HUA
      have HB5 := Lib.hid ((HB3.out.below HBL.out HOB.out).upd HU5.out (by simp))
      have HBW5 := Lib.hid (show Below w.heap.size w W5 from ((HU3.out.below (Nat.le_refl _) (by simp)).trans (HBL.out.mono (by have := HBS.out; have := HOB.out; omega))).trans (HU5.out.below (by have := (HU3.out.below (Nat.le_refl _) (by simp) : Below w.heap.size w W3).size; have := HBL.out.size; omega) (by simp)))
      by_cases hz : wv = 0
      · have HZ := Lib.hid (HWV.out.trans hz)
        subst hz
        have m0 := HE5.out.cell 0 rfl
        have m1 := HE5.out.cell 1 rfl
        have m2 := HE5.out.cell 2 rfl
        have m3 := HE5.out.cell 3 rfl
        have m4 := HE5.out.cell 4 rfl
        have m5 := HE5.out.cell 5 rfl
        go_wp2_with fail
        refine (HTC.out W5 HU5.out HZ.out).mono ?_
        rintro e W6 ⟨rfl, hl6, hb6⟩
        have HL6 := Lib.hid hl6
        have HB6 := Lib.hid (HBL.out.trans ((HU5.out.below (B := lb) (by have := HS3.out; have := HBL.out.size; omega) (by simp)).trans hb6))
        clear hl6 hb6 m0 m1 m2 m3 m4 m5
        go_wp2_with fail
        go_roundw
        case rel => exact ⟨k + 1, _, by omega, by go_num, by rw [HTK.out, (runE_snoc HR.out).2, if_pos HZ.out], HL6.out, take_ok HOK.out HZ.out HXW.out, HB6.out⟩
        case measure => simp [intOf]; omega
      · have hz1 : (wv != 0) = true := by simp [hz]
        have HZ := Lib.hid hz
        have q0 := HB5.out.cell 0 rfl
        have q1 := HB5.out.cell 1 rfl
        have f0 := HB5.out.free 0
        have f1 := HB5.out.free 1
        clear hz
        go_wp2_with fail
        refine bodyPost_ret (odd_results rfl _ _ ob _ _ _ rfl rfl ((HB5.out.set 0 _).set 1 _)) rfl (hK _ _ ⟨((HBW5.out.setCell (by dsimp only; have := HBS.out; omega) _).setCell (by dsimp only; have := HBS.out; omega) _), .inr ⟨S, k, wv, ?_, HZ.out, rfl⟩⟩)
        have h1 := runE_more (l := l.drop k) HR.out
        rw [List.take_append_drop] at h1
        have h2 : l.drop k = ⟨th, kd, ad, wd, own, er⟩ :: l.drop (k + 1) := by
          rw [List.drop_eq_getElem_cons hlt]
          congr 1
          have := HX.out
          rw [List.getElem?_eq_getElem hlt] at this
          exact Option.some.inj this
        rw [h1, h2, runE, if_neg (by rw [HWV.out]; exact HZ.out), HWV.out]
    · obtain rfl : k = l.length := by omega
      have HB5 := Lib.hid (HB3.out.below HBL.out HOB.out)
      have HBW5 := Lib.hid (show Below w.heap.size w wr from ((HU3.out.below (Nat.le_refl _) (by simp)).trans (HBL.out.mono (by have := HBS.out; have := HOB.out; omega))))
      have q0 := HB5.out.cell 0 rfl
      have q1 := HB5.out.cell 1 rfl
      have f0 := HB5.out.free 0
      have f1 := HB5.out.free 1
      go_wp2_with fail
      have hR := HR.out
      rw [List.take_length] at hR
      refine bodyPost_ret (odd_results rfl _ _ ob _ _ _ rfl rfl ((HB5.out.set 0 _).set 1 _)) rfl (hK _ _ ⟨((HBW5.out.setCell (by dsimp only; have := HBS.out; omega) _).setCell (by dsimp only; have := HBS.out; omega) _), .inl ⟨lb, lb, S, by have := HBS.out; have := HOB.out; omega, hR, rfl, ?_, HOK.out⟩⟩)
      exact HLA.out.other ob (by have := HOB.out; omega) _ _
end Go.Proofs.YtfldpejifpmapaaDoor
