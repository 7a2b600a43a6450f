/- Two states are the same: the reference's Same, where they are. No conditions. -/
import Derived.Test.YthfeljongackcaaAKnown
set_option linter.unusedSimpArgs false
set_option linter.unusedVariables false
set_option maxRecDepth 100000
namespace Go.Proofs.Ythfeljongackcaa
open Go.RowKit
open Go.Maps
/-- v reads as these cells -/
def SlC (w : World) (v : Value) (l : List (Int × Int)) : Prop :=
  ∃ p cap, v = .slice p l.length cap ∧ ∀ j x y, l[j]? = some (x, y) → ∃ b o, p = some ⟨b, o, none⟩ ∧ w.cell? ⟨b, o + j * 2, none⟩ = some (.int .u64 x) ∧ w.cell? ⟨b, o + j * 2 + 1, none⟩ = some (.int .u64 y)
theorem SlC.nil (w : World) : SlC w (.slice none 0 0) [] := ⟨none, 0, rfl, fun j x y h => by simp at h⟩
theorem OwnP.slc {w : World} {v : Value} {l : List (Int × Int)} {F : List Nat} (h : OwnP w v l F) : SlC w v l := by
  by_cases hl : l = []
  · subst hl; rw [h.nil rfl]; exact SlC.nil w
  · obtain ⟨g, cap, sp, rfl, hc, hb, _⟩ := h.open hl
    refine ⟨_, _, rfl, fun j x y hj => ⟨g, 0, rfl, ?_⟩⟩
    have hjl : j < l.length := by
      by_cases hh : j < l.length
      · exact hh
      · rw [List.getElem?_eq_none (by omega)] at hj; cases hj
    obtain ⟨h1, h2⟩ := pcells_get l j x y hj
    rw [Nat.zero_add]
    exact ⟨hb.cell _ (by rw [List.getElem?_append_left (by rw [pcells_len]; omega)]; exact h1), hb.cell _ (by rw [List.getElem?_append_left (by rw [pcells_len]; omega)]; exact h2)⟩
theorem SlC.upd {w w' : World} {v : Value} {l : List (Int × Int)} {S : List Nat} (h : SlC w v l) (u : Upd S w w') (hS : ∀ g, v.ownBlock = some g → g ∉ S) : SlC w' v l := by
  obtain ⟨p, cap, rfl, hc⟩ := h
  refine ⟨p, cap, rfl, fun j x y hj => ?_⟩
  obtain ⟨b, o, rfl, h1, h2⟩ := hc j x y hj
  have hb : b < w.heap.size := World.block_lt_of_cell? w _ h1
  have he := u.block b hb (hS b rfl)
  exact ⟨b, o, rfl, (World.cell?_of_block (w := w) he).trans h1, (World.cell?_of_block (w := w) he).trans h2⟩
theorem SlC.upd0 {w w' : World} {v : Value} {l : List (Int × Int)} (h : SlC w v l) (u : Upd [] w w') : SlC w' v l := h.upd u (by simp)

set_option maxHeartbeats 1000000 in
theorem same_cells (w : World) (v v' : Value) (l : List (Int × Int)) (h : SlC w v l) (h' : SlC w v' l) (hl : l.length ≤ 4611686018427387904) : Calls Try.prog 70 #[v, v'] w fun e w' => e = .returned (.bool true) ∧ Upd [] w w' := by
  obtain ⟨p, cap, rfl, hc⟩ := h
  obtain ⟨p', cap', rfl, hc'⟩ := h'
  have HC := Lib.hid hc
  have HC' := Lib.hid hc'
  clear hc hc'
  have h0 : (0 : Int) ≤ (l.length : Int) := by omega
  refine calls_all fun K hK => ?_
  go_enter Try.func70, Try.ntmps70
  go_wp2_with fail
  go_loopw [5] (fun v5 wr => ∃ k : Nat, k ≤ l.length ∧ v5 = .int .i64 k ∧ Upd [] w wr) (fun v5 _ => l.length - (intOf v5).toNat)
  case atStart => exact ⟨0, by omega, rfl, Upd.refl _ _⟩
  case round =>
    obtain ⟨k, hk, rfl, hu⟩ := hrel
    have HU := Lib.hid hu
    clear hu
    by_cases hlt : k < l.length
    · have hlt' : (k : Int) < (l.length : Int) := by omega
      obtain ⟨⟨x, y⟩, hxy⟩ : ∃ c, l[k]? = some c := ⟨_, List.getElem?_eq_getElem hlt⟩
      obtain ⟨b, o, rfl, c0, c1⟩ := HC.out k x y hxy
      obtain ⟨b', o', rfl, d0, d1⟩ := HC'.out k x y hxy
      have hcell : ∀ (b' o' : Nat) (v : Value), w.cell? ⟨b', o', none⟩ = some v → wr.cell? ⟨b', o', none⟩ = some v := fun b' o' v h => (World.cell?_of_block (w := w) (HU.out.block b' (World.block_lt_of_cell? w _ h) (by simp))).trans h
      replace c0 := hcell _ _ _ c0
      replace c1 := hcell _ _ _ c1
      replace d0 := hcell _ _ _ d0
      replace d1 := hcell _ _ _ d1
      clear hcell hxy
      have hxx : (x != x) = false := by simp
      have hyy : (y != y) = false := by simp
      go_wp2_with fail
      refine wp_region_eff (fun w' => w'.cell? ⟨b, o + k * 2, none⟩ = some (.int .u64 x) ∧ w'.cell? ⟨b, o + k * 2 + 1, none⟩ = some (.int .u64 y) ∧ w'.cell? ⟨b', o' + k * 2, none⟩ = some (.int .u64 x) ∧ w'.cell? ⟨b', o' + k * 2 + 1, none⟩ = some (.int .u64 y)) 9 (by kernel_rfl) (by kernel_rfl) ⟨c0, c1, d0, d1⟩ ?_
      repeat
        refine wpE_take (v := ?_) (by decide) rfl (by rfl) ?_ ?_
        rotate_left 1
        · ((intro w hSw; (try dsimp only at hSw); go_simp); try with_reducible rfl)
        try simp only [Act.put, List.setIfInBounds_toArray, List.set_cons_zero, List.set_cons_succ]
      refine wpE_end (NoPanic.normal ?_)
      have HU2 := Lib.hid HU.out.drew
      clear c0 c1 d0 d1
      generalize wr.drew = wr2 at HU2 ⊢
      go_wp2_with fail
      go_roundw
      case rel => exact ⟨k + 1, by omega, by go_num, HU2.out⟩
      case measure => simp [intOf]; omega
    · obtain rfl : k = l.length := by omega
      go_wp2_with fail
      all_goals exact ⟨rfl, HU.out⟩

/-- a state as a value -/
def stateV (s : AS) (rv wv : Value) : Value := .agg #[.int .u64 s.snap, rv, wv, .int .i64 s.phase, .int .i64 s.thn, .int .u64 s.addr, .int .u64 s.word, .int .u64 s.found, .int .i64 s.at_]
set_option maxHeartbeats 2000000 in
theorem same_state (w : World) (s : AS) (r1 w1 r2 w2 : Value) (h1 : SlC w r1 s.reads) (k1 : SlC w w1 s.writes) (h2 : SlC w r2 s.reads) (k2 : SlC w w2 s.writes) (hl : s.reads.length ≤ 4611686018427387904) (hm : s.writes.length ≤ 4611686018427387904) :
    Calls Try.prog 31 #[stateV s r1 w1, stateV s r2 w2] w fun e w' => e = .returned (.bool true) ∧ Upd [] w w' := by
  have HS := Lib.hid fun (W : World) (u : Upd [] w W) => same_cells W r1 r2 s.reads (h1.upd0 u) (h2.upd0 u) hl
  have HT := Lib.hid fun (W : World) (u : Upd [] w W) => same_cells W w1 w2 s.writes (k1.upd0 u) (k2.upd0 u) hm
  obtain ⟨p1, c1, rfl, _⟩ := h1
  obtain ⟨p2, c2, rfl, _⟩ := h2
  obtain ⟨q1, d1, rfl, _⟩ := k1
  obtain ⟨q2, d2, rfl, _⟩ := k2
  obtain ⟨sn, rd, wr, ph, th, ad, wo, fo, at_⟩ := s
  simp only [stateV] at *
  have e0 : (sn == sn) = true := by simp
  have e1 : (ph == ph) = true := by simp
  have e2 : (th == th) = true := by simp
  have e3 : (ad == ad) = true := by simp
  have e4 : (wo == wo) = true := by simp
  have e5 : (fo == fo) = true := by simp
  have e6 : (at_ == at_) = true := by simp
  refine calls_all fun K hK => ?_
  go_enter Try.func31, Try.ntmps31
  go_wp2_with fail
  have B1 := (Blk.new w [.int .u64 sn, .slice p1 rd.length c1, .slice q1 wr.length d1, .int .i64 ph, .int .i64 th, .int .u64 ad, .int .u64 wo, .int .u64 fo, .int .i64 at_] 60).alloc (.cells #[.int .u64 sn, .slice p2 rd.length c2, .slice q2 wr.length d2, .int .i64 ph, .int .i64 th, .int .u64 ad, .int .u64 wo, .int .u64 fo, .int .i64 at_] 60)
  have B2 := Blk.new (w.alloc (.cells #[.int .u64 sn, .slice p1 rd.length c1, .slice q1 wr.length d1, .int .i64 ph, .int .i64 th, .int .u64 ad, .int .u64 wo, .int .u64 fo, .int .i64 at_] 60)) [.int .u64 sn, .slice p2 rd.length c2, .slice q2 wr.length d2, .int .i64 ph, .int .i64 th, .int .u64 ad, .int .u64 wo, .int .u64 fo, .int .i64 at_] 60
  have u1 : Upd [] w ((w.alloc (.cells #[.int .u64 sn, .slice p1 rd.length c1, .slice q1 wr.length d1, .int .i64 ph, .int .i64 th, .int .u64 ad, .int .u64 wo, .int .u64 fo, .int .i64 at_] 60)).alloc (.cells #[.int .u64 sn, .slice p2 rd.length c2, .slice q2 wr.length d2, .int .i64 ph, .int .i64 th, .int .u64 ad, .int .u64 wo, .int .u64 fo, .int .i64 at_] 60)) := ((Upd.refl [] _).alloc _).alloc _
  rw [World.size_alloc] at B2
  generalize (w.alloc (.cells #[.int .u64 sn, .slice p1 rd.length c1, .slice q1 wr.length d1, .int .i64 ph, .int .i64 th, .int .u64 ad, .int .u64 wo, .int .u64 fo, .int .i64 at_] 60)).alloc (.cells #[.int .u64 sn, .slice p2 rd.length c2, .slice q2 wr.length d2, .int .i64 ph, .int .i64 th, .int .u64 ad, .int .u64 wo, .int .u64 fo, .int .i64 at_] 60) = W at B1 B2 u1 ⊢
  refine (HS.out W u1).mono ?_
  rintro e W2 ⟨rfl, u2⟩
  have b1 := (B1.upd u2 (by simp)).cell 2 rfl
  have b2 := (B2.upd u2 (by simp)).cell 2 rfl
  have u3 := u1.trans u2
  clear B1 B2 u1 u2
  go_wp2_with fail
  refine (HT.out W2 u3).mono ?_
  rintro e W3 ⟨rfl, u4⟩
  go_wp2_with fail
  all_goals exact ⟨rfl, u3.trans u4⟩
end Go.Proofs.Ythfeljongackcaa
