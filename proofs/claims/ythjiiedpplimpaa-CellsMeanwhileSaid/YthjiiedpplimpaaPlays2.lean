/- Fill and Slice held against the document's (parts), and the steps 5 and 6. The conditions are sizes. -/
import Derived.Test.YthjiiedpplimpaaPlays1
set_option linter.unusedSimpArgs false
set_option linter.unusedVariables false
set_option maxRecDepth 100000
namespace Go.Proofs.Ythjiiedpplimpaa
open Go.RowKit

/-- what Fill answers, and leaves -/
def fillRes (ws : List Int) (i : Int) (n : Nat) : Int := if n = 0 then 0 else if i + n ≤ ws.length then 0 else 4
def fillNew (ws : List Int) (i : Int) (zs : List Int) : List Int := if zs.length = 0 then ws else if i + zs.length ≤ ws.length then fillAt ws i.toNat zs else ws

theorem AllW.filled {ws zs : List Int} (h : AllW ws) (k : AllW zs) (i : Int) : AllW (fillNew ws i zs) := by
  unfold fillNew
  split
  · exact h
  · split
    · exact h.fill k _
    · exact h

theorem fill_any {w : World} {a b : Nat} {ws : List Int} {acc : Int} (h : RowAt w a b ws acc) (i : Int) (hi : 0 ≤ i) (p : Option Addr) (c : Nat) (zs : List Int) (hs : SlI w .u64 p zs) (hm : zs.length ≤ maxLen) :
    Calls Try.prog 68 #[.pointer (some ⟨a, 0, none⟩), .int .u64 i, .slice p zs.length c] w fun e w' => e = .returned (.int .i64 (fillRes ws i zs.length)) ∧ RowAt w' a b (fillNew ws i zs) acc ∧ Upd [b] w w' := by
  by_cases hn : zs.length = 0
  · rw [fillRes, fillNew, if_pos hn, if_pos hn, hn]
    exact (fill_zero h i p c).mono fun e w' ⟨he, hw⟩ => ⟨he, by subst hw; exact h, by subst hw; exact Upd.refl _ _⟩
  · by_cases hb : i + zs.length ≤ ws.length
    · rw [fillRes, fillNew, if_neg hn, if_neg hn, if_pos hb, if_pos hb]
      obtain ⟨j, rfl⟩ := Int.eq_ofNat_of_zero_le hi
      exact fill_ok h j p c zs hs (by omega) (by omega)
    · rw [fillRes, fillNew, if_neg hn, if_neg hn, if_neg hb, if_neg hb]
      exact (fill_bad h i p zs.length c (by omega) hm hi (by omega)).mono fun e w' ⟨he, hw⟩ => ⟨he, by subst hw; exact h, by subst hw; exact Upd.refl _ _⟩

theorem rfill_any {w : World} {a b : Nat} {ws : List Int} {acc : Int} (h : RRow w a b ws acc) (i : Int) (hi : 0 ≤ i) (p : Option Addr) (c : Nat) (zs : List Int) (hs : SlI w .u64 p zs) (hp : ∀ b' o, p = some ⟨b', o, none⟩ → zs ≠ [] → b' ≠ b) (hm : zs.length ≤ maxLen) :
    Calls Try.prog 84 #[.pointer (some ⟨a, 0, none⟩), .int .u64 i, .slice p zs.length c] w fun e w' => e = .returned (.int .i64 (fillRes ws i zs.length)) ∧ RRow w' a b (fillNew ws i zs) acc ∧ Upd [b] w w' := by
  by_cases hn : zs.length = 0
  · rw [fillRes, fillNew, if_pos hn, if_pos hn, hn]
    exact (rfill_zero h i p c).mono fun e w' ⟨he, hw⟩ => ⟨he, by subst hw; exact h, by subst hw; exact Upd.refl _ _⟩
  · by_cases hb : i + zs.length ≤ ws.length
    · rw [fillRes, fillNew, if_neg hn, if_neg hn, if_pos hb, if_pos hb]
      obtain ⟨j, rfl⟩ := Int.eq_ofNat_of_zero_le hi
      exact rfill_ok h j p c zs hs (fun b' o e => hp b' o e (fun hz => by rw [hz] at hn; exact hn rfl)) (by omega) (by omega)
    · rw [fillRes, fillNew, if_neg hn, if_neg hn, if_neg hb, if_neg hb]
      exact (rfill_bad h i p zs.length c (by omega) hm hi (by omega)).mono fun e w' ⟨he, hw⟩ => ⟨he, by subst hw; exact h, by subst hw; exact Upd.refl _ _⟩

section
variable {w : World} {x : Rw}

theorem blk_not_foot {w w' : World} {g : Nat} {x : Rw} (h : x.At w) (hg : w.heap.size ≤ g) : g ∉ x.foot := fun hm => by have := h.lt hm; omega

theorem parts_5 (s : StepV) (hk : s.kind = 5) (ok : s.Ok w x.foot) (h : x.At w) : Calls Try.prog 77 #[.pointer (some ⟨x.a, 0, none⟩), .pointer (some ⟨x.ra, 0, none⟩), .agg s.cells.toArray] w (RpOut w x) := by
  obtain ⟨kind, who, to, leave, A, W, O, B, p, zs, cap⟩ := s
  obtain rfl : kind = 5 := hk
  have hs := (Blk.new w [.int .i64 5, .int .i64 who, .int .i64 to, .int .i64 leave, .int .u64 A, .int .u64 W, .int .u64 O, .int .u64 B, .slice p zs.length cap] 95)
  have u0 : Upd [] w (w.alloc (.cells #[.int .i64 5, .int .i64 who, .int .i64 to, .int .i64 leave, .int .u64 A, .int .u64 W, .int .u64 O, .int .u64 B, .slice p zs.length cap] 95)) := ((Upd.refl [] w).alloc _)
  have hx := h.upd0 u0
  obtain ⟨⟨a1, a2⟩, ⟨a3, a4⟩⟩ := h.apart
  have la := h.row.lta
  have lb := h.row.ltb
  have lra := h.ref.lta
  have lrb := h.ref.ltb
  obtain ⟨oA, oW, oO, oB, osl, olow, oz, oreach, ocap⟩ := ok
  dsimp only at oA oW oO oB osl olow oz oreach ocap
  show Calls Try.prog _ #[_, _, .agg #[.int .i64 5, .int .i64 who, .int .i64 to, .int .i64 leave, .int .u64 A, .int .u64 W, .int .u64 O, .int .u64 B, .slice p zs.length cap]] _ _
  have hm : zs.length ≤ maxLen := by unfold maxLen; omega
  have olow2 : ∀ b o, p = some ⟨b, o, none⟩ → zs ≠ [] → b ≠ x.a ∧ b ≠ x.b ∧ b ≠ x.ra ∧ b ≠ x.rb := fun b o e hz => by have := olow b o e hz; simpa [Rw.foot] using this
  obtain ⟨fr, hfr⟩ : ∃ fr, fillRes x.ws A zs.length = fr := ⟨_, rfl⟩
  have e1 : (fr != fr) = false := by simp
  have HFR := Lib.hid hfr
  clear hfr
  have hall := h.allw.filled oz A
  obtain ⟨ws2, hw2⟩ : ∃ ws2, fillNew x.ws A zs = ws2 := ⟨_, rfl⟩
  rw [hw2] at hall
  have HW := Lib.hid hw2
  clear hw2
  have osl0 := osl.upd u0 (by simp)
  refine calls_all fun K hK => ?_
  go_enter Try.func77, Try.ntmps77
  go_wp2_with fail
  refine (lent_any p cap zs _ osl0 oreach).mono ?_
  rintro e w1 ⟨g, sp, rfl, hB, hg, u1⟩
  simp only [World.size_alloc] at hg
  have gne : g ≠ x.a ∧ g ≠ x.b ∧ g ≠ x.ra ∧ g ≠ x.rb := by omega
  have hx1 := hx.upd0 u1
  have hs1 := hs.upd u1 (by simp)
  have osl1 := osl0.upd u1 (by simp)
  have ud : Upd [] w1 w1.drew := (Upd.refl _ _).drew
  have hx2 := hx1.upd0 ud
  have hs2 := hs1.drew
  have hB2 := hB.drew
  have osl2 := osl1.upd ud (by simp)
  have c4 := hs2.cell 4 rfl
  have c8 := hs2.cell 8 rfl
  have k1 := fill_any hx2.row A oA.1 (some ⟨g, 0, none⟩) (zs.length + 2 + sp.length) zs (SlI.of_blk hB2) hm
  rw [HFR.out, HW.out] at k1
  have U1 : Upd [] w w1.drew := (u0.trans u1).trans ud
  have gw : w.heap.size ≤ g := by omega
  have lg := hB.lt
  have cc := hs1.cell 8 rfl
  clear osl0 osl1 hx1 hB
  go_wp2_with fail
  go_region_held3 (fun w' => w'.cell? ⟨w.heap.size, 4, none⟩ = some (.int .u64 A) ∧ w'.cell? ⟨w.heap.size, 8, none⟩ = some (.slice p zs.length cap)) (first | exact ⟨c4, c8⟩ | exact ⟨d4, d8⟩ | exact ⟨e4, e8⟩ | exact ⟨f4, f8⟩) (first | (go_at_call 68; refine (k1).mono ?_; rintro e w3 ⟨rfl, h3, u3⟩; have r3 := hx2.ref.upd u3 (by simp; omega) (by simp; omega); have hs3 := hs2.upd u3 (by simp; omega); have d4 := hs3.cell 4 rfl; have d8 := hs3.cell 8 rfl; have osl3 := osl2.upd2 u3 (fun b o e hz => by have := olow2 b o e hz; simp; omega); have hB3 := hB2.upd u3 (by simp; omega); have k2 := rfill_any r3 A oA.1 p cap zs osl3 (fun b o e hz => (olow2 b o e hz).2.2.2) hm; rw [HFR.out, HW.out] at k2) | (go_at_call 13; refine (num_any _ _).mono ?_; rintro e w' ⟨rfl, rfl⟩) | (go_at_call 84; refine (k2).mono ?_; rintro e w4 ⟨rfl, h4, u4⟩; have hs4 := hs3.upd u4 (by simp; omega); have e4 := hs4.cell 4 rfl; have e8 := hs4.cell 8 rfl; have osl4 := osl3.upd2 u4 (fun b o e hz => by have := olow2 b o e hz; simp; omega); have hB4 := hB3.upd u4 (by simp; omega); have k4 := left_any (c := zs.length + 2 + sp.length) (c' := cap) hB4 (by omega) oreach osl4) | (go_at_call 49; refine (k4).mono ?_; rintro e w5 ⟨rfl, q5⟩; have hs5 := hs4.upd q5.upd (by simp); have f4 := hs5.cell 4 rfl; have f8 := hs5.cell 8 rfl))
  have h5 := (h3.upd u4 (by simp; omega) (by simp; omega)).upd q5.upd (by simp) (by simp)
  have r5 := h4.upd q5.upd (by simp) (by simp)
  have hB5 := hB4.upd q5.upd (by simp)
  have U5 : Upd x.foot w w5 := ((U1.mono (by simp)).trans (u3.mono (by simp [Rw.foot]))).trans ((u4.mono (by simp [Rw.foot])).trans (q5.upd.mono (by simp)))
  have hcl : (zs.map (Value.int .u64)).length = zs.length := by simp
  go_wp2_with fail
  refine (spoil_own hB5 hcl (.inr rfl) hm (by omega)).mono ?_
  rintro e w6 ⟨rfl, u6⟩
  go_wp2
  exact ⟨rfl, ⟨x.a, x.b, x.ra, x.rb, ws2, x.acc⟩, rfl, ⟨h5.upd u6 (by simp; omega) (by simp; omega), r5.upd u6 (by simp; omega) (by simp; omega), hall, h.apart⟩, U5.tr u6 (fun _ h => .inl h) (by simp; omega)⟩

theorem parts_6 (s : StepV) (hk : s.kind ≠ 5) (ok : s.Ok w x.foot) (h : x.At w) : Calls Try.prog 77 #[.pointer (some ⟨x.a, 0, none⟩), .pointer (some ⟨x.ra, 0, none⟩), .agg s.cells.toArray] w (RpOut w x) := by
  obtain ⟨kind, who, to, leave, A, W, O, B, p, zs, cap⟩ := s
  have hkb : (kind == 5) = false := by simpa using hk
  have hs := (Blk.new w [.int .i64 kind, .int .i64 who, .int .i64 to, .int .i64 leave, .int .u64 A, .int .u64 W, .int .u64 O, .int .u64 B, .slice p zs.length cap] 95)
  have u0 : Upd [] w (w.alloc (.cells #[.int .i64 kind, .int .i64 who, .int .i64 to, .int .i64 leave, .int .u64 A, .int .u64 W, .int .u64 O, .int .u64 B, .slice p zs.length cap] 95)) := ((Upd.refl [] w).alloc _)
  have hx := h.upd0 u0
  have h64 := h.row.len2
  obtain ⟨oA, oW, oO, oB, osl, olow, oz, oreach, ocap⟩ := ok
  dsimp only at oA oW oO oB osl olow oz oreach ocap
  show Calls Try.prog _ #[_, _, .agg #[.int .i64 kind, .int .i64 who, .int .i64 to, .int .i64 leave, .int .u64 A, .int .u64 W, .int .u64 O, .int .u64 B, .slice p zs.length cap]] _ _
  by_cases h1 : B < A
  · refine calls_all fun K hK => ?_
    go_enter Try.func77, Try.ntmps77
    go_wp2_with ((go_at_call 13; refine (num_any _ _).mono ?_; rintro e w' ⟨rfl, rfl⟩))
    refine (slice_row_arg hx.row A B h1).mono ?_
    rintro e w1 ⟨rfl, rfl⟩
    go_wp2_with ((go_at_call 13; refine (num_any _ _).mono ?_; rintro e w' ⟨rfl, rfl⟩))
    refine (rslice_arg hx.ref A B h1).mono ?_
    rintro e w1 ⟨rfl, rfl⟩
    go_wp2_with ((go_at_call 13; refine (num_any _ _).mono ?_; rintro e w' ⟨rfl, rfl⟩))
    refine (sw_nil _).mono ?_
    rintro e w2 ⟨rfl, q2⟩
    go_wp2_with ((go_at_call 13; refine (num_any _ _).mono ?_; rintro e w' ⟨rfl, rfl⟩))
    refine (spoil_nil _).mono ?_
    rintro e w3 ⟨rfl, u3⟩
    go_wp2
    exact ⟨rfl, x, rfl, (hx.upd0 q2.upd).upd0 u3, ((u0.trans q2.upd).trans u3).mono (by simp)⟩
  · by_cases h2 : (x.ws.length : Int) < B
    · refine calls_all fun K hK => ?_
      go_enter Try.func77, Try.ntmps77
      go_wp2_with ((go_at_call 13; refine (num_any _ _).mono ?_; rintro e w' ⟨rfl, rfl⟩))
      refine (slice_row_range hx.row A B (by omega) h2).mono ?_
      rintro e w1 ⟨rfl, rfl⟩
      go_wp2_with ((go_at_call 13; refine (num_any _ _).mono ?_; rintro e w' ⟨rfl, rfl⟩))
      refine (rslice_range hx.ref A B (by omega) h2).mono ?_
      rintro e w1 ⟨rfl, rfl⟩
      go_wp2_with ((go_at_call 13; refine (num_any _ _).mono ?_; rintro e w' ⟨rfl, rfl⟩))
      refine (sw_nil _).mono ?_
      rintro e w2 ⟨rfl, q2⟩
      go_wp2_with ((go_at_call 13; refine (num_any _ _).mono ?_; rintro e w' ⟨rfl, rfl⟩))
      refine (spoil_nil _).mono ?_
      rintro e w3 ⟨rfl, u3⟩
      go_wp2
      exact ⟨rfl, x, rfl, (hx.upd0 q2.upd).upd0 u3, ((u0.trans q2.upd).trans u3).mono (by simp)⟩
    · obtain ⟨i, rfl⟩ := Int.eq_ofNat_of_zero_le oA.1
      obtain ⟨j, rfl⟩ := Int.eq_ofNat_of_zero_le oB.1
      have k1 := slice_row_ok hx.row i j (by omega) (by omega)
      have hzl : ((x.ws.drop i).take (j - i)).length = j - i := by simp; omega
      obtain ⟨ys, hys⟩ : ∃ ys, (x.ws.drop i).take (j - i) = ys := ⟨_, rfl⟩
      rw [hys] at hzl k1
      have hyl : ys.length ≤ 65536 := by omega
      have HY := Lib.hid hys
      have HL := Lib.hid hzl
      clear hys hzl
      refine calls_all fun K hK => ?_
      go_enter Try.func77, Try.ntmps77
      go_wp2_with ((go_at_call 13; refine (num_any _ _).mono ?_; rintro e w' ⟨rfl, rfl⟩))
      refine (k1).mono ?_
      rintro e w1 ⟨g, sp, rfl, hg, hB, u1⟩
      simp only [World.size_alloc] at hg
      have hx1 := hx.upd0 u1
      have hs1 := hs.upd u1 (by simp)
      have c4 := hs1.cell 4 rfl
      have c7 := hs1.cell 7 rfl
      have k2 := rslice_any hx1.ref i j (by omega) (by omega)
      rw [HY.out, ← HL.out] at k2
      go_wp2_with ((go_at_call 13; refine (num_any _ _).mono ?_; rintro e w' ⟨rfl, rfl⟩))
      refine (k2).mono ?_
      rintro e w2 ⟨p2, cap2, rfl, sl2, rfl⟩
      go_wp2_with ((go_at_call 13; refine (num_any _ _).mono ?_; rintro e w' ⟨rfl, rfl⟩))
      refine (sw_true _ _ (SlI.of_blk hB) sl2 (by omega)).mono ?_
      rintro e w3 ⟨rfl, q3⟩
      have hB3 := hB.upd q3.upd (by simp)
      have hx3 := hx1.upd0 q3.upd
      have hgf : g ∉ x.foot := fun hm => by have := h.lt hm; omega
      go_wp2_with ((go_at_call 13; refine (num_any _ _).mono ?_; rintro e w' ⟨rfl, rfl⟩))
      refine (spoil_own hB3 (by simp) (.inl rfl) hg.2 (by omega)).mono ?_
      rintro e w4 ⟨rfl, u4⟩
      go_wp2
      exact ⟨rfl, x, rfl, hx3.upd u4 (fun k hk hm => by simp at hm; subst hm; exact hgf hk), (((u0.trans u1).trans q3.upd).mono (by simp)).tr u4 (fun _ h => .inl h) (by simp; omega)⟩
end

end Go.Proofs.Ythjiiedpplimpaa
