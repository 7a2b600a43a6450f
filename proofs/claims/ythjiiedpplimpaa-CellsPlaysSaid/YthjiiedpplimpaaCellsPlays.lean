/- CellsPlays' walk: three rows, one of n cells, one of words, one that is not there, under any steps: every answer; what is handed in stays; a copy goes on apart. The conditions are sizes. -/
import Derived.Test.YthjiiedpplimpaaCPl1
set_option linter.unusedSimpArgs false
set_option linter.unusedVariables false
set_option maxRecDepth 100000
namespace Go.Proofs.Ythjiiedpplimpaa
open Go.RowKit


set_option maxHeartbeats 2000000 in
theorem plays01_walk (w : World) (n : Int) (hn : -9223372036854775808 ≤ n ∧ n ≤ 9223372036854775807) (p1 p2 : Option Addr) (zs : List Int) (c1 c2 n2 : Nat) (V2 : Nat → Value) (h1 : SlI w .u64 p1 zs) (hz : AllW zs) (hr : zs.length * 8 ≤ 140737488351232)
    (hp1 : ∀ b o, p1 = some ⟨b, o, none⟩ → zs ≠ [] → b < w.heap.size) (h2 : SlV w p2 (n2 * 9) V2) (hV2 : StepsAt w n2 V2) (hc2 : n2 ≤ c2) (hm2 : c2 ≤ maxLen) :
    Calls Try.prog 11 #[.int .i64 n, .slice p1 zs.length c1, .slice p2 n2 c2] w fun e w' => e = .returned (.bool true) ∧ Upd [] w w' := by
  have hl2 : n2 ≤ 9223372036854775807 := by unfold maxLen at hm2; omega
  clear hm2
  have sl : ∀ {w' : World}, Below w.heap.size w w' → SlI w' .u64 p1 zs := fun hB => ⟨h1.ne, fun b o e i hi => (hB.cell (p := ⟨b, o + i, none⟩) (hp1 b o e (fun h => by subst h; simp at hi))).trans (h1.cells b o e i hi)⟩
  have hm0 : zs.length ≤ maxLen := by unfold maxLen; omega
  obtain ⟨ok0, hk0⟩ : ∃ ok, ok = decide (1 ≤ n ∧ n ≤ 65536) := ⟨_, rfl⟩
  obtain ⟨ok1, hk1⟩ : ∃ ok, ok = decide (1 ≤ zs.length ∧ zs.length ≤ 65536) := ⟨_, rfl⟩
  have K0 := Lib.hid hk0
  have K1 := Lib.hid hk1
  clear hk0 hk1
  have t1 : ∀ b, (erB b != erB b) = false := by simp
  have t2 : ∀ b : Bool, (b != b) = false := by simp
  have g1 := fun p => eql_row p
  have g2 := fun p => eql_rrow p
  refine calls_all fun K hK => ?_
  go_enter Try.func11, Try.ntmps11
  go_wp2_with ((go_at_call 13; refine (num_any _ _).mono ?_; rintro e w' ⟨rfl, rfl⟩))
  refine (lent_any _ _ _ _ h1 hr).mono ?_
  rintro e w1 ⟨g, sp, rfl, hb1, hg1, u1⟩
  have T1 := Lib.hid t1
  have T2 := Lib.hid t2
  have G1 := Lib.hid g1
  have G2 := Lib.hid g2
  clear t1 t2 g1 g2
  go_wp2_with ((go_at_call 13; refine (num_any _ _).mono ?_; rintro e w' ⟨rfl, rfl⟩))
  refine (new_gen n _ ok0 K0.out).mono ?_
  rintro e w2 ⟨q0, rfl, R0⟩
  go_wp2_with ((go_at_call 13; refine (num_any _ _).mono ?_; rintro e w' ⟨rfl, rfl⟩))
  refine (of_gen _ _ _ _ ok1 K1.out ((SlI.of_blk hb1).upd R0.u (by simp)) hm0).mono ?_
  rintro e w3 ⟨q1, rfl, R1⟩
  go_wp2_with ((go_at_call 13; refine (num_any _ _).mono ?_; rintro e w' ⟨rfl, rfl⟩))
  refine (rnew_gen n _ ok0 K0.out).mono ?_
  rintro e w4 ⟨r0, rfl, Q0⟩
  have U4 : Upd [] w w4 := ((u1.trans R0.u).trans R1.u).trans Q0.u
  go_wp2_with ((go_at_call 13; refine (num_any _ _).mono ?_; rintro e w' ⟨rfl, rfl⟩))
  refine (rof_gen _ _ _ _ ok1 K1.out (sl (U4.below (Nat.le_refl _) (by simp))) hm0).mono ?_
  rintro e w5 ⟨r1, rfl, Q1⟩
  have U5 := U4.trans Q1.u
  have hb5 := (((hb1.upd R0.u (by simp)).upd R1.u (by simp)).upd Q0.u (by simp)).upd Q1.u (by simp)
  have n0 := R0.none_iff.trans Q0.none_iff.symm
  have n1 := R1.none_iff.trans Q1.none_iff.symm
  have t1 := T1.out
  have g1 := G1.out q0
  have g2 := G1.out q1
  have g3 := G2.out r0
  have g4 := G2.out r1
  have t4 : (q0.isNone != r0.isNone) = false := by rw [n0]; simp
  have t5 : (q1.isNone != r1.isNone) = false := by rw [n1]; simp
  have osl5 := sl (U5.below (Nat.le_refl _) (by simp))
  have lg := hb5.lt
  have N0 := Lib.hid n0
  have N1 := Lib.hid n1
  clear n0 n1
  go_wp2_with ((go_at_call 13; refine (num_any _ _).mono ?_; rintro e w' ⟨rfl, rfl⟩))
  refine (left_any hb5 (by omega) hr osl5).mono ?_
  rintro e w6 ⟨rfl, q6⟩
  have hb6 := hb5.upd q6.upd (by simp)
  have U6 := U5.trans q6.upd
  clear t1 t4 t5 g1 g2 g3 g4
  go_wp2_with ((go_at_call 13; refine (num_any _ _).mono ?_; rintro e w' ⟨rfl, rfl⟩))
  go_loopw [16] (fun v16 wr => ∃ i : Nat, i ≤ zs.length ∧ v16 = .int .i64 i ∧ Blk wr g (part99 (zs.map (Value.int .u64)) i ++ ([.int .u64 77, .int .u64 78] ++ sp)) 27 ∧ Upd [g] w6 wr) (fun v16 _ => zs.length - (intOf v16).toNat)
  case atStart => exact ⟨0, by omega, rfl, by rw [part99_zero]; exact hb6, Upd.refl _ _⟩
  case round =>
    obtain ⟨i, hi, rfl, hb, hu⟩ := hrel
    clear hb5 osl5 hb6
    by_cases hlt : i < zs.length
    · have hl := part99_len (us := zs.map (Value.int .u64)) (i := i) (by simp; omega)
      have hlm : (zs.map (Value.int .u64)).length = zs.length := by simp
      have hc3 := hb.cell i (v := (part99 (zs.map (Value.int .u64)) i)[i]'(by omega)) (by rw [List.getElem?_append_left (by omega)]; exact List.getElem?_eq_getElem _)
      have hf := hb.free i
      have hset := hb.set i (.int .u64 99)
      rw [List.set_append_left _ _ (by omega), part99_set (by omega)] at hset
      have hil : (i : Int) < (zs.length : Int) := by omega
      generalize (part99 (zs.map (Value.int .u64)) i)[i] = z at hc3
      clear hl hlm
      go_wp2
      go_roundw
      case rel => exact ⟨i + 1, by omega, by go_num, hset, hu.setCell (.inl (by simp)) _⟩
      case measure => simp [intOf]; omega
    · obtain rfl : i = zs.length := by omega
      clear hb hi hlt
      have lg1 := hb1.lt
      have g5 := R0.u.size
      have g6 := R1.u.size
      have g7 := Q0.u.size
      have g8 := Q1.u.size
      have g9 := q6.upd.size
      have ug : Upd [g] w1 wr := (((((R0.u.trans R1.u).trans Q0.u).trans Q1.u).trans q6.upd).mono (by simp)).trans hu
      have U7 : Upd [] w wr := u1.tr ug (by simp) (by simp; omega)
      have Q1u : Upd [g] w5 wr := (q6.upd.mono (by simp)).trans hu
      obtain ⟨x0, e0, f0, a0, n0, m0⟩ := rows_of R0 Q0 u1 R1.u (Upd.refl [] _) (by simp) (by simp) (fun v hv => by rw [List.eq_of_mem_replicate hv]; omega)
      obtain ⟨x1, e1, f1, a1, n1, m1⟩ := rows_of R1 Q1 (u1.trans R0.u) Q0.u (Upd.refl [] _) (by simp) (by simp) hz
      have ax0 : AtO wr x0 := fun r e => ((a0 r e).upd0 Q1.u).upd Q1u (fun k hk hm => by simp at hm; subst hm; have h3 := m0 k (by subst e; exact hk); omega)
      have ax1 : AtO wr x1 := fun r e => (a1 r e).upd Q1u (fun k hk hm => by simp at hm; subst hm; have h3 := m1 k (by subst e; exact hk); omega)
      have RI0 := ri_start U7 ax0 ax1 n0 n1 (fun k h1 h2 => by have h3 := m0 k h1; have h4 := m1 k h2; omega) e0 e1 f0 f1
      clear lg1 g5 g6 g7 g8 g9 ug Q1u a0 n0 m0 a1 n1 m1 ax0 ax1 e0 e1 f0 f1 hu U6 U5 U4 q6 R0 R1 Q0 Q1 N0 N1 u1 hb1 hg1 lg
      go_wp2_with fail
      obtain ⟨WS, hWS⟩ : ∃ WS, ((wr.alloc (.cells #[.pointer q0, .pointer q1, .pointer none] 92)).alloc (.cells #[.pointer r0, .pointer r1, .pointer none] 93)) = WS := ⟨_, rfl⟩
      obtain ⟨bt, hbt⟩ : ∃ bt, wr.heap.size = bt := ⟨_, rfl⟩
      obtain ⟨br, hbr⟩ : ∃ br, bt + 1 = br := ⟨_, rfl⟩
      rw [hWS, hbt, hbr] at RI0
      change Code.wp _ _ _ _ ((wr.alloc (.cells #[.pointer q0, .pointer q1, .pointer none] 92)).alloc (.cells #[.pointer r0, .pointer r1, .pointer none] 93))
      rw [hWS, hbt, hbr]
      clear hWS hbt hbr
      go_loopw [19] (fun v19 wr => ∃ (i : Nat) (xs : List (Option Rw)), i ≤ n2 ∧ v19 = .int .i64 i ∧ RI w bt br xs wr) (fun v19 _ => n2 - (intOf v19).toNat)
      case atStart => exact ⟨0, _, by omega, rfl, RI0⟩
      case round =>
        obtain ⟨i, xs, hi, rfl, hI⟩ := hrel
        clear RI0
        by_cases hlt : i < n2
        · obtain ⟨b2, o2, rfl⟩ := h2.ne (by omega)
          obtain ⟨s, hcell, hwho, hto, hok, hblk⟩ := hV2 i hlt
          have hlw : b2 < w.heap.size := h2.lt (by omega) rfl
          have cell9 : ∀ j v, s.cells[j]? = some v → wr.cell? ⟨b2, o2 + (i * 9 + j), none⟩ = some v := fun j v hj => by
            rw [← hcell j v hj]
            have hj9 : j < 9 := by have := (List.getElem?_eq_some_iff.1 hj).1; simpa [StepV.cells] using this
            exact (hI.low.cell (p := ⟨b2, o2 + (i * 9 + j), none⟩) hlw).trans (h2.cells b2 o2 rfl (i * 9 + j) (by omega))
          obtain ⟨kind, who, to, leave, A, W0, O, B, p, ys, cap⟩ := s
          dsimp only at hwho hto hblk
          have s0 := cell9 0 (.int .i64 kind) rfl
          have s1 := cell9 1 (.int .i64 who) rfl
          have s2 := cell9 2 (.int .i64 to) rfl
          have s3 := cell9 3 (.int .i64 leave) rfl
          have s4 := cell9 4 (.int .u64 A) rfl
          have s5 := cell9 5 (.int .u64 W0) rfl
          have s6 := cell9 6 (.int .u64 O) rfl
          have s7 := cell9 7 (.int .u64 B) rfl
          have s8 := cell9 8 (.slice p ys.length cap) rfl
          simp only [Nat.add_zero] at s0
          simp only [← Nat.add_assoc] at s0 s1 s2 s3 s4 s5 s6 s7 s8
          clear cell9 hcell
          have hil : (i : Int) < (n2 : Int) := by omega
          have hBX := Blk.new wr [.int .i64 kind, .int .i64 who, .int .i64 to, .int .i64 leave, .int .u64 A, .int .u64 W0, .int .u64 O, .int .u64 B, .slice p ys.length cap] 95
          have uBX : Upd [] wr (wr.alloc (.cells #[.int .i64 kind, .int .i64 who, .int .i64 to, .int .i64 leave, .int .u64 A, .int .u64 W0, .int .u64 O, .int .u64 B, .slice p ys.length cap] 95)) := (Upd.refl _ _).alloc _
          go_wp2_with fail
          go_quiet ((go_at_call 50; refine Calls.quiet_of_same ((place_any _ _ (by omega)).mono fun _ _ h => ⟨h.1, h.2.symm⟩)))
          have hBX2 := hBX.drewN nq
          have uBX2 := uBX.drewN nq
          generalize (wr.alloc (.cells #[.int .i64 kind, .int .i64 who, .int .i64 to, .int .i64 leave, .int .u64 A, .int .u64 W0, .int .u64 O, .int .u64 B, .slice p ys.length cap] 95)).drewN nq = W3 at *
          obtain ⟨sb, hsb⟩ : ∃ sb, wr.heap.size = sb := ⟨_, rfl⟩
          rw [hsb] at hBX2 ⊢
          have hI3 := hI.upd0 uBX2
          have hsbn : sb ≠ bt ∧ sb ≠ br := by have := hI.tb.lt; have := hI.rb.lt; omega
          have hsbw : w.heap.size ≤ sb := by have := hI.low.size; omega
          have hsbf : ∀ (j : Nat) (z : Rw), xs[j]? = some (some z) → sb ∉ z.foot := fun j z hz hm => by have := (hI.at_ j z hz).1.lt hm; omega
          clear hBX uBX uBX2 hI s0 s1 s2 s3 s4 s5 s6 s7 s8 hsb
          obtain ⟨x, hx⟩ : ∃ x, xs[pl3 who]? = some x := ⟨xs[pl3 who]'(by have := hI3.three; have := pl3_lt who; omega), List.getElem?_eq_getElem _⟩
          obtain ⟨y, hy⟩ : ∃ y, xs[pl3 to]? = some y := ⟨xs[pl3 to]'(by have := hI3.three; have := pl3_lt to; omega), List.getElem?_eq_getElem _⟩
          have hw3 := pl3_lt who
          have ht3 := pl3_lt to
          have HX := Lib.hid hx
          have HY := Lib.hid hy
          clear hx hy
          generalize pl3 who = iw at *
          generalize pl3 to = it at *
          have hwl : (iw : Int) < 3 := by omega
          have htl : (it : Int) < 3 := by omega
          have hok2 := Lib.hid hok
          have hblk2 := Lib.hid hblk
          have hi2 := Lib.hid hi
          clear hok hblk
          have k0 := hBX2.cell 0 rfl
          by_cases h9 : kind = 9
          · subst h9
            have cx := copy_opt x (hI3.atO HX.out)
            obtain ⟨rp, hrp⟩ : ∃ p, rowP x = .pointer p := by cases x; exact ⟨_, rfl⟩; exact ⟨_, rfl⟩
            obtain ⟨qp, hqp⟩ : ∃ p, refP x = .pointer p := by cases x; exact ⟨_, rfl⟩; exact ⟨_, rfl⟩
            have ct := hI3.ct HX.out
            rw [hrp] at ct cx
            have CX := Lib.hid cx
            have HR := Lib.hid hrp
            have HQ := Lib.hid hqp
            clear cx hrp hqp
            go_wp2_with fail
            refine CX.out.mono ?_
            rintro e w4 ⟨p4, rfl, R4⟩
            clear ct CX
            have hI4 := hI3.upd0 R4.u
            have ft := hI4.tb.free it
            have ct := hI4.ct HY.out
            have hbt := hI4.tb.set it (.pointer p4)
            have hbr := hI4.rb.other ⟨bt, it, none⟩ (.pointer p4) hI4.ne.symm
            have u5 : Upd [bt] w4 (w4.setCell ⟨bt, it, none⟩ (.pointer p4)) := (Upd.refl _ _).setCell (.inl (by simp)) _
            have hat5 : AtO (w4.setCell ⟨bt, it, none⟩ (.pointer p4)) x := fun r e => ((hI4.atO HX.out) r e).upd u5 (fun k hk hm => by simp at hm; subst hm; subst e; exact (hI4.tn HX.out).1 hk)
            have cr : (w4.setCell ⟨bt, it, none⟩ (.pointer p4)).cell? ⟨br, iw, none⟩ = some (refP x) := hbr.cell iw (by rw [List.getElem?_map, HX.out]; rfl)
            have cx := rcopy_opt x hat5
            rw [HQ.out] at cr cx
            have CX := Lib.hid cx
            clear cx
            go_wp2_with fail
            refine CX.out.mono ?_
            rintro e w6 ⟨q7, rfl, Q6⟩
            clear ct cr ft CX
            have l4 := hI4.tb.lt
            have l5 := hI4.rb.lt
            have hb6t := hbt.upd Q6.u (by simp)
            have hb6r := hbr.upd Q6.u (by simp)
            have fr := hb6r.free it
            have cr := hb6r.cell it (v := refP y) (by rw [List.getElem?_map, HY.out]; rfl)
            have u67 : Upd [br] w6 (w6.setCell ⟨br, it, none⟩ (.pointer q7)) := (Upd.refl _ _).setCell (.inl (by simp)) _
            have lt3 : bt < W3.heap.size ∧ br < W3.heap.size := ⟨hI3.tb.lt, hI3.rb.lt⟩
            have hwx : AllW (wsO x) := by
              have hat := hI3.atO HX.out
              cases x with
              | none => intro v hv; simp [wsO] at hv
              | some z => exact (hat z rfl).allw
            obtain ⟨y', ey, fy, ay, ny, _⟩ := rows_of R4 Q6 (Upd.refl [] W3) u5 u67 (by simp; omega) (by simp; omega) hwx
            have hne := hI4.ne
            have hb7t : Blk (w6.setCell ⟨br, it, none⟩ (.pointer q7)) bt ((xs.map rowP).set it (rowP y')) 92 := by rw [ey]; exact hb6t.other _ _ hne
            have hb7r : Blk (w6.setCell ⟨br, it, none⟩ (.pointer q7)) br ((xs.map refP).set it (refP y')) 93 := by rw [fy]; exact hb6r.set it _
            have u37 : Upd [bt, br] W3 (w6.setCell ⟨br, it, none⟩ (.pointer q7)) := ((((R4.u.mono (by simp)).trans (u5.mono (by simp))).trans (Q6.u.mono (by simp))).trans (u67.mono (by simp)))
            have hI7 := hI3.put hb7t hb7r u37 ay ny
            have hB7 := hBX2.upd u37 (by simp; exact hsbn)
            have hlen : xs.length = 3 := hI3.three
            have c22 : (w6.setCell ⟨br, it, none⟩ (.pointer q7)).drew.cell? ⟨bt, it, none⟩ = some (.pointer p4) ∧ (w6.setCell ⟨br, it, none⟩ (.pointer q7)).drew.cell? ⟨br, it, none⟩ = some (.pointer q7) := ⟨hb7t.drew.cell it (by rw [List.getElem?_set_self (by simp; omega), ey]), hb7r.drew.cell it (by rw [List.getElem?_set_self (by simp; omega), fy])⟩
            have nn := R4.none_iff.trans Q6.none_iff.symm
            have hy2 : (xs.set it y')[it]? = some y' := List.getElem?_set_self (by omega)
            obtain ⟨x2, hx2⟩ : ∃ x2, (xs.set it y')[iw]? = some x2 := ⟨(xs.set it y')[iw]'(by rw [List.length_set]; omega), List.getElem?_eq_getElem _⟩
            clear hwx hat5 hb6t hb6r u67 ay ny u5 hne hb7t hb7r u37 hbt hbr l4 l5 hI4 lt3 HR HQ R4 Q6
            go_wp2_with fail
            have g1 := G1.out p4
            have g2 := G2.out q7
            rw [← nn] at g2
            generalize p4.isNone = c4 at g1 g2
            have t2 : (c4 != c4) = false := by simp
            clear hBX2 hI3 HX HY k0 ey fy nn cr fr
            refine wp_region_eff (fun w' => w'.cell? ⟨bt, it, none⟩ = some (.pointer p4) ∧ w'.cell? ⟨br, it, none⟩ = some (.pointer q7)) 9 (by kernel_rfl) (by kernel_rfl) c22 ?_
            clear c22
            have hI3 := hI7.upd0 (Upd.refl [] _).drew
            have hBX2 := hB7.drew
            generalize (w6.setCell ⟨br, it, none⟩ (.pointer q7)).drew = W3 at hI3 hBX2 ⊢
            clear hI7 hB7
            repeat
              first
                | (refine wpE_skip (by decide) (by rfl) ?_)
                | ((refine wpE_take (v := ?_) (by decide) rfl (by rfl) ?_ ?_); rotate_left 1; (· ((intro w hSw; (try dsimp only at hSw); go_simp); try with_reducible rfl)))
              try simp only [Act.put, List.setIfInBounds_toArray, List.set_cons_zero, List.set_cons_succ]
            refine wpE_end (NoPanic.normal ?_)
            clear g1 g2 t2
            have HX := Lib.hid hx2
            have HY := Lib.hid hy2
            clear hx2 hy2 x y
            obtain ⟨y, hyy⟩ : ∃ y, y = y' := ⟨_, rfl⟩
            subst hyy
            obtain ⟨x, hxx⟩ : ∃ x, x = x2 := ⟨_, rfl⟩
            subst hxx
            have k0 := hBX2.cell 0 rfl
            go_wp2_with fail
            have hx := HX.out
            have pl : ∀ W, Upd [] W3 W → Calls Try.prog 53 #[rowP x, refP x, .agg #[.int .i64 9, .int .i64 who, .int .i64 to, .int .i64 leave, .int .u64 A, .int .u64 W0, .int .u64 O, .int .u64 B, .slice p ys.length cap]] W (OutO W x) := fun W u => by
              have okx : StepV.Ok W3 (footO x) ⟨9, who, to, leave, A, W0, O, B, p, ys, cap⟩ := ⟨hok2.out.A, hok2.out.W, hok2.out.O, hok2.out.B, hok2.out.below hblk2.out hI3.low, fun b o e hz hm => by have h6 := hblk2.out b o e hz; have h7 := hI3.lowO hx b hm; omega, hok2.out.allz, hok2.out.reach, hok2.out.cap⟩
              exact plays_opt x ⟨9, who, to, leave, A, W0, O, B, p, ys, cap⟩ (okx.upd u (by simp)) ((hI3.upd0 u).atO hx)
            obtain ⟨rp, hrp⟩ : ∃ p, rowP x = .pointer p := by cases x; exact ⟨_, rfl⟩; exact ⟨_, rfl⟩
            obtain ⟨qp, hqp⟩ : ∃ p, refP x = .pointer p := by cases x; exact ⟨_, rfl⟩; exact ⟨_, rfl⟩
            have ce : ∀ W, Upd [] W3 W → (W.cell? ⟨sb, 0, none⟩ = some (.int .i64 9) ∧ W.cell? ⟨sb, 1, none⟩ = some (.int .i64 who) ∧ W.cell? ⟨sb, 2, none⟩ = some (.int .i64 to) ∧ W.cell? ⟨sb, 3, none⟩ = some (.int .i64 leave) ∧ W.cell? ⟨sb, 4, none⟩ = some (.int .u64 A) ∧ W.cell? ⟨sb, 5, none⟩ = some (.int .u64 W0) ∧ W.cell? ⟨sb, 6, none⟩ = some (.int .u64 O) ∧ W.cell? ⟨sb, 7, none⟩ = some (.int .u64 B) ∧ W.cell? ⟨sb, 8, none⟩ = some (.slice p ys.length cap)) ∧ W.cell? ⟨bt, iw, none⟩ = some (.pointer rp) ∧ W.cell? ⟨br, iw, none⟩ = some (.pointer qp) := fun W u => by
              have hB := hBX2.upd u (by simp)
              have hIu := hI3.upd0 u
              exact ⟨⟨hB.cell 0 rfl, hB.cell 1 rfl, hB.cell 2 rfl, hB.cell 3 rfl, hB.cell 4 rfl, hB.cell 5 rfl, hB.cell 6 rfl, hB.cell 7 rfl, hB.cell 8 rfl⟩, hrp ▸ hIu.ct hx, hqp ▸ hIu.cr hx⟩
            rw [hrp, hqp] at pl
            have CE := Lib.hid ce
            have PL := Lib.hid pl
            clear hrp hqp hx pl ce
            have ud := (Upd.refl [] W3).drew
            have c24 := CE.out _ ud
            refine wp_region_eff (fun w' => (w'.cell? ⟨sb, 0, none⟩ = some (.int .i64 9) ∧ w'.cell? ⟨sb, 1, none⟩ = some (.int .i64 who) ∧ w'.cell? ⟨sb, 2, none⟩ = some (.int .i64 to) ∧ w'.cell? ⟨sb, 3, none⟩ = some (.int .i64 leave) ∧ w'.cell? ⟨sb, 4, none⟩ = some (.int .u64 A) ∧ w'.cell? ⟨sb, 5, none⟩ = some (.int .u64 W0) ∧ w'.cell? ⟨sb, 6, none⟩ = some (.int .u64 O) ∧ w'.cell? ⟨sb, 7, none⟩ = some (.int .u64 B) ∧ w'.cell? ⟨sb, 8, none⟩ = some (.slice p ys.length cap)) ∧ w'.cell? ⟨bt, iw, none⟩ = some (.pointer rp) ∧ w'.cell? ⟨br, iw, none⟩ = some (.pointer qp)) 27 (by kernel_rfl) (by kernel_rfl) c24 ?_
            clear c24
            generalize W3.drew = W4 at ud ⊢
            repeat
              first
                | (refine wpE_skip (by decide) (by rfl) ?_)
                | ((refine wpE_take (v := ?_) (by decide) rfl (by rfl) ?_ ?_); rotate_left 1; (· ((intro w hSw; (try dsimp only at hSw); go_simp); try with_reducible rfl)))
              try simp only [Act.put, List.setIfInBounds_toArray, List.set_cons_zero, List.set_cons_succ]
            refine wpE_tail ?_
            go_wp2_with fail
            refine (PL.out _ ud).mono ?_
            rintro e w9 ⟨rfl, x', hf, hr1, hq1, hx9, u9⟩
            have hI9 := (hI3.upd0 ud).step HX.out hf hr1 hq1 hx9 u9
            go_wp2_with fail
            refine NoPanic.normal ?_
            go_wp2_with fail
            go_roundw
            case rel => exact ⟨i + 1, _, by omega, by go_num, hI9⟩
            case measure => simp [intOf]; omega
          · have hk9 : (kind == 9) = false := by simp [h9]
            by_cases h10 : kind = 10
            · subst h10
              go_wp2_with fail
              have hx := HX.out
              have pl : ∀ W, Upd [] W3 W → Calls Try.prog 53 #[rowP x, refP x, .agg #[.int .i64 10, .int .i64 who, .int .i64 to, .int .i64 leave, .int .u64 A, .int .u64 W0, .int .u64 O, .int .u64 B, .slice p ys.length cap]] W (OutO W x) := fun W u => by
                have okx : StepV.Ok W3 (footO x) ⟨10, who, to, leave, A, W0, O, B, p, ys, cap⟩ := ⟨hok2.out.A, hok2.out.W, hok2.out.O, hok2.out.B, hok2.out.below hblk2.out hI3.low, fun b o e hz hm => by have h6 := hblk2.out b o e hz; have h7 := hI3.lowO hx b hm; omega, hok2.out.allz, hok2.out.reach, hok2.out.cap⟩
                exact plays_opt x ⟨10, who, to, leave, A, W0, O, B, p, ys, cap⟩ (okx.upd u (by simp)) ((hI3.upd0 u).atO hx)
              obtain ⟨rp, hrp⟩ : ∃ p, rowP x = .pointer p := by cases x; exact ⟨_, rfl⟩; exact ⟨_, rfl⟩
              obtain ⟨qp, hqp⟩ : ∃ p, refP x = .pointer p := by cases x; exact ⟨_, rfl⟩; exact ⟨_, rfl⟩
              have ce : ∀ W, Upd [] W3 W → (W.cell? ⟨sb, 0, none⟩ = some (.int .i64 10) ∧ W.cell? ⟨sb, 1, none⟩ = some (.int .i64 who) ∧ W.cell? ⟨sb, 2, none⟩ = some (.int .i64 to) ∧ W.cell? ⟨sb, 3, none⟩ = some (.int .i64 leave) ∧ W.cell? ⟨sb, 4, none⟩ = some (.int .u64 A) ∧ W.cell? ⟨sb, 5, none⟩ = some (.int .u64 W0) ∧ W.cell? ⟨sb, 6, none⟩ = some (.int .u64 O) ∧ W.cell? ⟨sb, 7, none⟩ = some (.int .u64 B) ∧ W.cell? ⟨sb, 8, none⟩ = some (.slice p ys.length cap)) ∧ W.cell? ⟨bt, iw, none⟩ = some (.pointer rp) ∧ W.cell? ⟨br, iw, none⟩ = some (.pointer qp) := fun W u => by
                have hB := hBX2.upd u (by simp)
                have hIu := hI3.upd0 u
                exact ⟨⟨hB.cell 0 rfl, hB.cell 1 rfl, hB.cell 2 rfl, hB.cell 3 rfl, hB.cell 4 rfl, hB.cell 5 rfl, hB.cell 6 rfl, hB.cell 7 rfl, hB.cell 8 rfl⟩, hrp ▸ hIu.ct hx, hqp ▸ hIu.cr hx⟩
              rw [hrp, hqp] at pl
              have CE := Lib.hid ce
              have PL := Lib.hid pl
              clear hrp hqp hx pl ce
              have df : ∀ W, Upd [] W3 W → Calls Try.prog 52 #[rowP x, rowP y, refP x, refP y] W fun e w' => e = .returned (.bool true) ∧ Upd [] W w' := fun W u => differs_any x y ((hI3.upd0 u).atO HX.out) ((hI3.upd0 u).atO HY.out)
              obtain ⟨rx, hrx⟩ : ∃ p, rowP x = .pointer p := by cases x; exact ⟨_, rfl⟩; exact ⟨_, rfl⟩
              obtain ⟨qx, hqx⟩ : ∃ p, refP x = .pointer p := by cases x; exact ⟨_, rfl⟩; exact ⟨_, rfl⟩
              obtain ⟨ry, hry⟩ : ∃ p, rowP y = .pointer p := by cases y; exact ⟨_, rfl⟩; exact ⟨_, rfl⟩
              obtain ⟨qy, hqy⟩ : ∃ p, refP y = .pointer p := by cases y; exact ⟨_, rfl⟩; exact ⟨_, rfl⟩
              have dx : ∀ W, Upd [] W3 W → W.cell? ⟨bt, iw, none⟩ = some (.pointer rx) ∧ W.cell? ⟨br, iw, none⟩ = some (.pointer qx) ∧ W.cell? ⟨bt, it, none⟩ = some (.pointer ry) ∧ W.cell? ⟨br, it, none⟩ = some (.pointer qy) := fun W u =>
                ⟨hrx ▸ (hI3.upd0 u).ct HX.out, hqx ▸ (hI3.upd0 u).cr HX.out, hry ▸ (hI3.upd0 u).ct HY.out, hqy ▸ (hI3.upd0 u).cr HY.out⟩
              obtain rfl : rp = rx := by
                have h1 := (CE.out _ (Upd.refl [] W3)).2.1
                have h2 := (dx _ (Upd.refl [] W3)).1
                rw [h1] at h2
                simpa using h2
              obtain rfl : qp = qx := by
                have h1 := (CE.out _ (Upd.refl [] W3)).2.2
                have h2 := (dx _ (Upd.refl [] W3)).2.1
                rw [h1] at h2
                simpa using h2
              rw [hrx, hry, hqx, hqy] at df
              have DX := Lib.hid dx
              have DF := Lib.hid df
              clear dx df hrx hqx hry hqy
              have ud := (Upd.refl [] W3).drew
              have c24 := CE.out _ ud
              have c25 := DX.out _ ud
              refine wp_region_eff (fun w' => ((w'.cell? ⟨sb, 0, none⟩ = some (.int .i64 10) ∧ w'.cell? ⟨sb, 1, none⟩ = some (.int .i64 who) ∧ w'.cell? ⟨sb, 2, none⟩ = some (.int .i64 to) ∧ w'.cell? ⟨sb, 3, none⟩ = some (.int .i64 leave) ∧ w'.cell? ⟨sb, 4, none⟩ = some (.int .u64 A) ∧ w'.cell? ⟨sb, 5, none⟩ = some (.int .u64 W0) ∧ w'.cell? ⟨sb, 6, none⟩ = some (.int .u64 O) ∧ w'.cell? ⟨sb, 7, none⟩ = some (.int .u64 B) ∧ w'.cell? ⟨sb, 8, none⟩ = some (.slice p ys.length cap)) ∧ w'.cell? ⟨bt, iw, none⟩ = some (.pointer rp) ∧ w'.cell? ⟨br, iw, none⟩ = some (.pointer qp)) ∧ w'.cell? ⟨bt, iw, none⟩ = some (.pointer rp) ∧ w'.cell? ⟨br, iw, none⟩ = some (.pointer qp) ∧ w'.cell? ⟨bt, it, none⟩ = some (.pointer ry) ∧ w'.cell? ⟨br, it, none⟩ = some (.pointer qy)) 27 (by kernel_rfl) (by kernel_rfl) ⟨c24, c25⟩ ?_
              clear c24 c25
              generalize W3.drew = W4 at ud ⊢
              repeat
                first
                  | (refine wpE_skip (by decide) (by rfl) ?_)
                  | ((refine wpE_take (v := ?_) (by decide) rfl (by rfl) ?_ ?_); rotate_left 1; (· ((intro w hSw; (try dsimp only at hSw); go_simp); try with_reducible rfl)))
                try simp only [Act.put, List.setIfInBounds_toArray, List.set_cons_zero, List.set_cons_succ]
              refine wpE_eff (by decide) rfl (by kernel_rfl) (by rfl) (fun K2 hK2 => ?_)
              go_simp
              refine (DF.out _ ud).mono ?_
              rintro e w8 ⟨rfl, u8⟩
              have u38 := ud.trans u8
              refine hK2.out _ _ ⟨CE.out _ u38, DX.out _ u38⟩ ?_
              clear hK2 K2 DF u8 ud
              repeat
                first
                  | (refine wpE_skip (by decide) (by rfl) ?_)
                  | ((refine wpE_take (v := ?_) (by decide) rfl (by rfl) ?_ ?_); rotate_left 1; (· ((intro w hSw; (try dsimp only at hSw); go_simp); try with_reducible rfl)))
                try simp only [Act.put, List.setIfInBounds_toArray, List.set_cons_zero, List.set_cons_succ]
              refine wpE_tail ?_
              go_wp2_with fail
              refine (PL.out _ u38).mono ?_
              rintro e w9 ⟨rfl, x', hf, hr1, hq1, hx9, u9⟩
              have hI9 := (hI3.upd0 u38).step HX.out hf hr1 hq1 hx9 u9
              go_wp2_with fail
              refine NoPanic.normal ?_
              go_wp2_with fail
              go_roundw
              case rel => exact ⟨i + 1, _, by omega, by go_num, hI9⟩
              case measure => simp [intOf]; omega
            · have hk10 : (kind == 10) = false := by simp [h10]
              go_wp2_with fail
              have hx := HX.out
              have pl : ∀ W, Upd [] W3 W → Calls Try.prog 53 #[rowP x, refP x, .agg #[.int .i64 kind, .int .i64 who, .int .i64 to, .int .i64 leave, .int .u64 A, .int .u64 W0, .int .u64 O, .int .u64 B, .slice p ys.length cap]] W (OutO W x) := fun W u => by
                have okx : StepV.Ok W3 (footO x) ⟨kind, who, to, leave, A, W0, O, B, p, ys, cap⟩ := ⟨hok2.out.A, hok2.out.W, hok2.out.O, hok2.out.B, hok2.out.below hblk2.out hI3.low, fun b o e hz hm => by have h6 := hblk2.out b o e hz; have h7 := hI3.lowO hx b hm; omega, hok2.out.allz, hok2.out.reach, hok2.out.cap⟩
                exact plays_opt x ⟨kind, who, to, leave, A, W0, O, B, p, ys, cap⟩ (okx.upd u (by simp)) ((hI3.upd0 u).atO hx)
              obtain ⟨rp, hrp⟩ : ∃ p, rowP x = .pointer p := by cases x; exact ⟨_, rfl⟩; exact ⟨_, rfl⟩
              obtain ⟨qp, hqp⟩ : ∃ p, refP x = .pointer p := by cases x; exact ⟨_, rfl⟩; exact ⟨_, rfl⟩
              have ce : ∀ W, Upd [] W3 W → (W.cell? ⟨sb, 0, none⟩ = some (.int .i64 kind) ∧ W.cell? ⟨sb, 1, none⟩ = some (.int .i64 who) ∧ W.cell? ⟨sb, 2, none⟩ = some (.int .i64 to) ∧ W.cell? ⟨sb, 3, none⟩ = some (.int .i64 leave) ∧ W.cell? ⟨sb, 4, none⟩ = some (.int .u64 A) ∧ W.cell? ⟨sb, 5, none⟩ = some (.int .u64 W0) ∧ W.cell? ⟨sb, 6, none⟩ = some (.int .u64 O) ∧ W.cell? ⟨sb, 7, none⟩ = some (.int .u64 B) ∧ W.cell? ⟨sb, 8, none⟩ = some (.slice p ys.length cap)) ∧ W.cell? ⟨bt, iw, none⟩ = some (.pointer rp) ∧ W.cell? ⟨br, iw, none⟩ = some (.pointer qp) := fun W u => by
                have hB := hBX2.upd u (by simp)
                have hIu := hI3.upd0 u
                exact ⟨⟨hB.cell 0 rfl, hB.cell 1 rfl, hB.cell 2 rfl, hB.cell 3 rfl, hB.cell 4 rfl, hB.cell 5 rfl, hB.cell 6 rfl, hB.cell 7 rfl, hB.cell 8 rfl⟩, hrp ▸ hIu.ct hx, hqp ▸ hIu.cr hx⟩
              rw [hrp, hqp] at pl
              have CE := Lib.hid ce
              have PL := Lib.hid pl
              clear hrp hqp hx pl ce
              have ud := (Upd.refl [] W3).drew
              have c24 := CE.out _ ud
              refine wp_region_eff (fun w' => (w'.cell? ⟨sb, 0, none⟩ = some (.int .i64 kind) ∧ w'.cell? ⟨sb, 1, none⟩ = some (.int .i64 who) ∧ w'.cell? ⟨sb, 2, none⟩ = some (.int .i64 to) ∧ w'.cell? ⟨sb, 3, none⟩ = some (.int .i64 leave) ∧ w'.cell? ⟨sb, 4, none⟩ = some (.int .u64 A) ∧ w'.cell? ⟨sb, 5, none⟩ = some (.int .u64 W0) ∧ w'.cell? ⟨sb, 6, none⟩ = some (.int .u64 O) ∧ w'.cell? ⟨sb, 7, none⟩ = some (.int .u64 B) ∧ w'.cell? ⟨sb, 8, none⟩ = some (.slice p ys.length cap)) ∧ w'.cell? ⟨bt, iw, none⟩ = some (.pointer rp) ∧ w'.cell? ⟨br, iw, none⟩ = some (.pointer qp)) 27 (by kernel_rfl) (by kernel_rfl) c24 ?_
              clear c24
              generalize W3.drew = W4 at ud ⊢
              repeat
                first
                  | (refine wpE_skip (by decide) (by rfl) ?_)
                  | ((refine wpE_take (v := ?_) (by decide) rfl (by rfl) ?_ ?_); rotate_left 1; (· ((intro w hSw; (try dsimp only at hSw); go_simp); try with_reducible rfl)))
                try simp only [Act.put, List.setIfInBounds_toArray, List.set_cons_zero, List.set_cons_succ]
              refine wpE_tail ?_
              go_wp2_with fail
              refine (PL.out _ ud).mono ?_
              rintro e w9 ⟨rfl, x', hf, hr1, hq1, hx9, u9⟩
              have hI9 := (hI3.upd0 ud).step HX.out hf hr1 hq1 hx9 u9
              go_wp2_with fail
              refine NoPanic.normal ?_
              go_wp2_with fail
              go_roundw
              case rel => exact ⟨i + 1, _, by omega, by go_num, hI9⟩
              case measure => simp [intOf]; omega
        · obtain rfl : i = n2 := by omega
          clear hlt hi hV2 h2
          go_wp2_with fail
          go_loopw [23] (fun v23 wr => ∃ k : Nat, k ≤ 3 ∧ v23 = .int .i64 k ∧ RI w bt br xs wr) (fun v23 _ => 3 - (intOf v23).toNat)
          case atStart => exact ⟨0, by omega, rfl, hI⟩
          case round =>
            obtain ⟨k, hk, rfl, hI2⟩ := hrel
            clear hI
            by_cases h3 : k < 3
            · have hkl : (k : Int) < 3 := by omega
              obtain ⟨x, hx⟩ : ∃ x, xs[k]? = some x := ⟨xs[k]'(by have := hI2.three; omega), List.getElem?_eq_getElem _⟩
              have ud := (Upd.refl [] wr).drew
              have hI3 := hI2.upd0 ud
              have tl := tells_opt x (hI3.atO hx)
              obtain ⟨rp, hrp⟩ : ∃ p, rowP x = .pointer p := by cases x; exact ⟨_, rfl⟩; exact ⟨_, rfl⟩
              obtain ⟨qp, hqp⟩ : ∃ p, refP x = .pointer p := by cases x; exact ⟨_, rfl⟩; exact ⟨_, rfl⟩
              have ct := hI3.ct hx
              have cr := hI3.cr hx
              rw [hrp] at tl ct
              rw [hqp] at tl cr
              have TL := Lib.hid tl
              clear tl hrp hqp hx
              go_wp2_with fail
              refine wp_region_eff (fun w' => w'.cell? ⟨bt, k, none⟩ = some (.pointer rp) ∧ w'.cell? ⟨br, k, none⟩ = some (.pointer qp)) 6 (by kernel_rfl) (by kernel_rfl) ⟨ct, cr⟩ ?_
              repeat
                first
                  | (refine wpE_skip (by decide) (by rfl) ?_)
                  | ((refine wpE_take (v := ?_) (by decide) rfl (by rfl) ?_ ?_); rotate_left 1; (· ((intro w hSw; (try dsimp only at hSw); go_simp); try with_reducible rfl)))
                try simp only [Act.put, List.setIfInBounds_toArray, List.set_cons_zero, List.set_cons_succ]
              refine wpE_tail ?_
              go_wp2_with fail
              refine TL.out.mono ?_
              rintro e w9 ⟨rfl, u9⟩
              clear ct cr
              go_wp2_with fail
              refine NoPanic.normal ?_
              go_wp2_with fail
              go_roundw
              case rel => exact ⟨k + 1, by omega, by go_num, hI3.upd0 u9⟩
              case measure => simp [intOf]; omega
            · obtain rfl : k = 3 := by omega
              go_wp2_with ((go_at_call 13; refine (num_any _ _).mono ?_; rintro e w' ⟨rfl, rfl⟩))
              refine (known01 _).mono ?_
              rintro e w9 ⟨rfl, u9⟩
              go_wp2_with fail
              exact ⟨rfl, (Upd.of_below hI2.low).trans u9⟩
end Go.Proofs.Ythjiiedpplimpaa
