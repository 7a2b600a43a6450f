/- The statement SeqTurns of layer 6 (seq): its walk: whoever takes the clock holds it alone. No condition. -/
import Derived.Test.YthjiiedpplimpaaSeqWords
import Derived.Test.YthjiiedpplimpaaOpen
set_option linter.unusedSimpArgs false
set_option linter.unusedVariables false
set_option maxRecDepth 100000
namespace Go.Proofs.Ythjiiedpplimpaa
open Go.RowKit

theorem up64_lt {x : Int} (h0 : 0 ≤ x) (h1 : x < 18446744073709551615) : up64 x = x + 1 := by unfold up64; rw [IntKind.wrap_u64]; omega
theorem up64b_eq (x : Int) : up64b x = (x + 2) % 18446744073709551616 := by unfold up64b; rw [IntKind.wrap_u64]

/-- the plain law of a turn: what even and odd words allow -/
theorem turn_odd {x : Int} (h0 : 0 ≤ x) (h1 : x < 18446744073709551616) (hm : x % 2 = 1) :
    opn x = false ∧ takes x x = false ∧ holds x (x - 1) = true ∧ up64b (x - 1) = (x + 1) % 18446744073709551616 ∧ (x / 2 + 1) % 9223372036854775808 = (x + 1) % 18446744073709551616 / 2 := by
  have ho : opn x = false := by rw [opn_eq h0 h1]; simp; omega
  have ho' : opn (x - 1) = true := by rw [opn_eq (by omega) (by omega)]; simp; omega
  refine ⟨ho, by simp [takes, ho], ?_, by rw [up64b_eq]; congr 1; omega, by omega⟩
  rw [holds, ho', up64_lt (by omega) (by omega)]
  simp

theorem turn_even {x : Int} (h0 : 0 ≤ x) (h1 : x < 18446744073709551616) (hm : x % 2 = 0) :
    opn x = true ∧ takes x x = true ∧ up64 x = x + 1 ∧ holds (x + 1) x = true ∧ holds (up64b x) x = false ∧ (x / 2 + 1) % 9223372036854775808 = (x + 2) % 18446744073709551616 / 2 := by
  have ho : opn x = true := by rw [opn_eq h0 h1]; simp; omega
  have hu := up64_lt h0 (by omega : x < 18446744073709551615)
  refine ⟨ho, by simp [takes, ho], hu, by simp [holds, ho, hu], ?_, by omega⟩
  rw [holds, hu, up64b_eq]
  simp
  intro _
  omega

theorem turn_other {x t : Int} (h0 : 0 ≤ x) (h1 : x < 18446744073709551616) (hm : x % 2 = 0) (t0 : 0 ≤ t) (t1 : t < 18446744073709551616) :
    takes (x + 1) t = false ∧ (t ≠ x → holds (x + 1) t = false) := by
  by_cases ht : t % 2 = 0
  · have ho : opn t = true := by rw [opn_eq t0 t1]; simp; omega
    refine ⟨by simp [takes, ho]; omega, fun hne => ?_⟩
    rw [holds, ho, up64_lt t0 (by omega)]
    simp
    omega
  · have ho : opn t = false := by rw [opn_eq t0 t1]; simp; omega
    exact ⟨by simp [takes, ho], fun _ => by simp [holds, ho]⟩

set_option maxHeartbeats 1000000 in
theorem turns_walk (first : Int) (w : World) (hb : 0 ≤ first ∧ first < 18446744073709551616) (p q : Option Addr) (ts : List Int) (B : Nat → Bool) (cap m cap2 : Nat) (hs : SlI w .u64 p ts) (hts : ∀ n ∈ ts, 0 ≤ n ∧ n < 18446744073709551616)
    (hq : SlV w q m (fun i => .bool (B i))) (hcap : cap ≤ maxLen) (hl : ts.length ≤ cap) (hcap2 : cap2 ≤ maxLen) (hl2 : m ≤ cap2) :
   Calls Try.prog 4 #[.int .u64 first, .slice p ts.length cap, .slice q m cap2] w fun e w' => e = .returned (.bool true) ∧ Upd [] w w' := by
  have hlen : ts.length ≤ 9223372036854775807 := by unfold maxLen at hcap; omega
  have hlen2 : m ≤ 9223372036854775807 := by unfold maxLen at hcap2; omega
  clear hcap hcap2
  refine calls_all fun K hK => ?_
  go_enter Try.func4, Try.ntmps4
  go_wp2_with fail
  refine (clkFrom first w).mono ?_
  rintro e w1 ⟨c, a, b, rfl, h1, hc, ha, hb', u1⟩
  go_wp2_with fail
  refine (number_any _ _ (by omega) (by omega)).mono ?_
  rintro e w2 ⟨rfl, rfl⟩
  go_wp2_with fail
  have hcab : ∀ x ∈ [c, a, b], w.heap.size ≤ x := by simp; omega
  have B1 : Below w.heap.size w w1 := u1.below (Nat.le_refl _) (by simp)
  go_loopw [8, 9] (fun v8 v9 wr => ∃ (k : Nat) (x st : Int), k ≤ ts.length ∧ v9 = .int .i64 k ∧ v8 = .int .u64 (x / 2) ∧ 0 ≤ x ∧ x < 18446744073709551616 ∧ ClockAt wr c a b x st ∧ Below w.heap.size w wr)
    (fun _ i _ => ts.length - (intOf i).toNat)
  case atStart => exact ⟨0, first, 0, Nat.zero_le _, rfl, rfl, by omega, by omega, h1, B1⟩
  case round =>
    obtain ⟨k, x, st, hk, rfl, rfl, hx0, hx1, hC, hB⟩ := hrel
    rename_i wr
    have next : ∀ {wa wb : World}, Below w.heap.size w wa → Upd [c, a, b] wa wb → Below w.heap.size w wb := fun hB hu => hB.trans (hu.below hB.size hcab)
    by_cases hlt : k < ts.length
    · go_wp2_with fail
      refine (clkLoad hC).mono ?_
      rintro e w2 ⟨rfl, h2, u2⟩
      go_wp2_with fail
      refine (number_any _ _ (by omega) (by omega)).mono ?_
      rintro e w2' ⟨rfl, rfl⟩
      go_wp2_with fail
      refine (open_any _ _).mono ?_
      rintro e w2' ⟨rfl, rfl⟩
      by_cases hm : x % 2 = 1
      · obtain ⟨e1, e2, e3, e4, e5⟩ := turn_odd hx0 hx1 hm
        have hmb : (x % 2 == 0) = false := by simp; omega
        have hx2 : 1 ≤ x := by omega
        have E5 := Lib.hid e5
        rw [e1]
        clear e5
        go_wp2_with fail
        refine (clkTake_no h2 x e2).mono ?_
        rintro e w3 ⟨rfl, h3, u3⟩
        go_wp2_with fail
        refine (open_any _ _).mono ?_
        rintro e w2' ⟨rfl, rfl⟩
        rw [e1]
        go_wp2_with fail
        refine (clkLeave_yes h3 (x - 1) _ e3 e4).mono ?_
        rintro e w4 ⟨rfl, h4, u4⟩
        clear e1 e2 e3 e4
        go_wp2
        go_roundw
        case rel => exact ⟨k + 1, _, _, by omega, by go_num, by rw [E5.out], by omega, by omega, h4, next (next (next hB u2) u3) u4⟩
        case measure => simp [intOf]; omega
      · have hm0 : x % 2 = 0 := by omega
        obtain ⟨e1, e2, e3, e4, e5, e6⟩ := turn_even hx0 hx1 hm0
        have hmb : (x % 2 == 0) = true := by simp; omega
        have hts' := hts (wd ts k) (by rw [wd_get hlt]; exact List.getElem_mem _)
        obtain ⟨o1, o2⟩ := turn_other hx0 hx1 hm0 hts'.1 hts'.2
        have hne : ts ≠ [] := fun h0 => by subst h0; simp at hlt
        obtain ⟨tb, to, hp⟩ := hs.ne hne
        have hcell : ∀ (wx : World), Below w.heap.size w wx → wx.cell? ⟨tb, to + k, none⟩ = some (.int .u64 (wd ts k)) := fun wx hBx =>
          (hBx.cell (p := ⟨tb, to + k, none⟩) (World.block_lt_of_cell? w _ (hs.cells tb to hp k hlt))).trans (hs.cells tb to hp k hlt)
        have HC := Lib.hid hcell
        have E6 := Lib.hid e6
        have O2 := Lib.hid o2
        obtain ⟨t, ht⟩ : ∃ t, t = wd ts k := ⟨_, rfl⟩
        rw [← ht] at o1 O2 HC
        clear hcell e6 o2 hts' ht
        subst hp
        rw [e1]
        have B2 := next hB u2
        go_wp2_with fail
        refine (clkTake_yes h2 x _ e2 e3).mono ?_
        rintro e w3 ⟨rfl, h3, u3⟩
        have B3 := next B2 u3
        go_wp2_with fail
        refine (open_any _ _).mono ?_
        rintro e w2' ⟨rfl, rfl⟩
        rw [e1]
        have c3 := HC.out _ B3
        go_wp2_with fail
        refine (clkTake_no h3 t o1).mono ?_
        rintro e w4 ⟨rfl, h4, u4⟩
        have B4 := next B3 u4
        have c4 := HC.out _ B4
        have o3 := O2.out
        have hbk : (∃ qb qo, q = some ⟨qb, qo, none⟩ ∧ (k : Int) < m ∧ (∀ wx : World, Below w.heap.size w wx → wx.cell? ⟨qb, qo + k, none⟩ = some (.bool (B k)))) ∨ m ≤ k := by
          by_cases hkm : k < m
          · obtain ⟨qb, qo, hqe⟩ := hq.ne (by omega)
            exact .inl ⟨qb, qo, hqe, by omega, fun wx hBx => (hBx.cell (p := ⟨qb, qo + k, none⟩) (World.block_lt_of_cell? w _ (hq.cells qb qo hqe k hkm))).trans (hq.cells qb qo hqe k hkm)⟩
          · exact .inr (by omega)
        by_cases htx : t = x
        · subst htx
          have h5 := h4
          have B5 := B4
          rcases hbk with ⟨qb, qo, rfl, hkm, hbc⟩ | hkm
          · have hbc5 := hbc _ B5
            clear hbc
            cases hB' : B k
            · rw [hB'] at hbc5
              clear hB'
              go_wp2_with fail
              refine (clkLeave_yes h5 t _ e4 rfl).mono ?_
              rintro e w6 ⟨rfl, h6, u6⟩
              have B6 := next B5 u6
              go_wp2_with fail
              refine (clkLeave_no h6 t e5).mono ?_
              rintro e w7 ⟨rfl, h7, u7⟩
              rw [up64b_eq] at h7
              have E7 := Lib.hid h7
              clear e1 e2 e3 e4 e5 o1 o3 h7 h6
              go_wp2
              go_roundw
              case rel => exact ⟨k + 1, _, _, by omega, by go_num, by rw [E6.out], by omega, by omega, E7.out, next B6 u7⟩
              case measure => simp [intOf]; omega
            · rw [hB'] at hbc5
              clear hB'
              go_wp2_with fail
              refine (clkBack_yes h5 t e4).mono ?_
              rintro e w6 ⟨rfl, h6, u6⟩
              clear e1 e2 e3 e4 e5 o1 o3
              go_wp2
              go_roundw
              case rel => exact ⟨k + 1, t, _, by omega, by go_num, rfl, by omega, by omega, h6, next B5 u6⟩
              case measure => simp [intOf]; omega
          · have hd : decide (k < m) = false := by simp; omega
            go_wp2_with fail
            refine (clkLeave_yes h5 t _ e4 rfl).mono ?_
            rintro e w6 ⟨rfl, h6, u6⟩
            have B6 := next B5 u6
            go_wp2_with fail
            refine (clkLeave_no h6 t e5).mono ?_
            rintro e w7 ⟨rfl, h7, u7⟩
            rw [up64b_eq] at h7
            have E7 := Lib.hid h7
            clear e1 e2 e3 e4 e5 o1 o3 h7 h6
            go_wp2
            go_roundw
            case rel => exact ⟨k + 1, _, _, by omega, by go_num, by rw [E6.out], by omega, by omega, E7.out, next B6 u7⟩
            case measure => simp [intOf]; omega
        · have htb : (t != x) = true := by simp [htx]
          have e8 := o3 htx
          clear o3
          have o3 := True.intro
          go_wp2_with fail
          refine (clkLeave_no h4 t e8).mono ?_
          rintro e w4' ⟨rfl, h4', u4'⟩
          have B4' := next B4 u4'
          have c4' := HC.out _ B4'
          go_wp2_with fail
          refine (clkBack_no h4' t e8).mono ?_
          rintro e w5 ⟨rfl, h5, u5⟩
          have B5 := next B4' u5
          clear e8 htb htx
          rcases hbk with ⟨qb, qo, rfl, hkm, hbc⟩ | hkm
          · have hbc5 := hbc _ B5
            clear hbc
            cases hB' : B k
            · rw [hB'] at hbc5
              clear hB'
              go_wp2_with fail
              refine (clkLeave_yes h5 x _ e4 rfl).mono ?_
              rintro e w6 ⟨rfl, h6, u6⟩
              have B6 := next B5 u6
              go_wp2_with fail
              refine (clkLeave_no h6 x e5).mono ?_
              rintro e w7 ⟨rfl, h7, u7⟩
              rw [up64b_eq] at h7
              have E7 := Lib.hid h7
              clear e1 e2 e3 e4 e5 o1 o3 h7 h6
              go_wp2
              go_roundw
              case rel => exact ⟨k + 1, _, _, by omega, by go_num, by rw [E6.out], by omega, by omega, E7.out, next B6 u7⟩
              case measure => simp [intOf]; omega
            · rw [hB'] at hbc5
              clear hB'
              go_wp2_with fail
              refine (clkBack_yes h5 x e4).mono ?_
              rintro e w6 ⟨rfl, h6, u6⟩
              clear e1 e2 e3 e4 e5 o1 o3
              go_wp2
              go_roundw
              case rel => exact ⟨k + 1, x, _, by omega, by go_num, rfl, by omega, by omega, h6, next B5 u6⟩
              case measure => simp [intOf]; omega
          · have hd : decide (k < m) = false := by simp; omega
            go_wp2_with fail
            refine (clkLeave_yes h5 x _ e4 rfl).mono ?_
            rintro e w6 ⟨rfl, h6, u6⟩
            have B6 := next B5 u6
            go_wp2_with fail
            refine (clkLeave_no h6 x e5).mono ?_
            rintro e w7 ⟨rfl, h7, u7⟩
            rw [up64b_eq] at h7
            have E7 := Lib.hid h7
            clear e1 e2 e3 e4 e5 o1 o3 h7 h6
            go_wp2
            go_roundw
            case rel => exact ⟨k + 1, _, _, by omega, by go_num, by rw [E6.out], by omega, by omega, E7.out, next B6 u7⟩
            case measure => simp [intOf]; omega
    · go_wp2_with fail
      refine (known06 _).mono ?_
      rintro e w' ⟨rfl, hu⟩
      go_wp2
      exact ⟨rfl, Upd.of_below (hB.trans (hu.below hB.size (by simp)))⟩

end Go.Proofs.Ythjiiedpplimpaa
