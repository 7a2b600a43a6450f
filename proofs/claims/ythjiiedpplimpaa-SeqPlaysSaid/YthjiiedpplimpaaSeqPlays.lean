/- The statement SeqPlays of layer 6 (seq): its walk: two clocks, call by call, with copies that go on and clocks that are put aside. No condition. -/
import Derived.Test.YthjiiedpplimpaaSeqPlInv
import Derived.Handy
import Derived.Maps.AppendAt
import Derived.Deep.QuietTactic
import Derived.BigQuiet
set_option linter.unusedSimpArgs false
set_option linter.unusedVariables false
set_option maxRecDepth 100000
namespace Go.Proofs.Ythjiiedpplimpaa
open Go.RowKit

def StepCells (n : Nat) (V : Nat → Value) : Prop := ∀ i, i < n → ∃ (kind on S : Int) (near : Bool), V (i * 4) = .int .i64 kind ∧ V (i * 4 + 1) = .int .i64 on ∧ V (i * 4 + 2) = .int .u64 S ∧ V (i * 4 + 3) = .bool near ∧ 0 ≤ S ∧ S < 18446744073709551616

theorem info_clkp : (Try.prog.info? 33).map (fun i => (i.zero, i.size, i.bytes)) = some (some (.pointer none), 1, 8) := by kernel_rfl
theorem info_qclk : (Try.prog.info? 65).map (fun i => (i.zero, i.size, i.bytes)) = some (some (.agg #[.int .u64 0, .int .i64 0]), 2, 16) := by kernel_rfl

theorem mod2 (on : Int) : ∃ kk : Nat, (wrap64 (on.tmod 2 + 2)).tmod 2 = (kk : Int) ∧ kk < 2 := by
  have h1 : -2 < on.tmod 2 := by have := Int.lt_tmod_of_pos on (b := 2) (by omega); omega
  have h2 : on.tmod 2 < 2 := Int.tmod_lt_of_pos on (by omega)
  rw [show wrap64 (on.tmod 2 + 2) = on.tmod 2 + 2 by unfold wrap64; omega, Int.tmod_eq_emod_of_nonneg (by omega)]
  exact ⟨((on.tmod 2 + 2) % 2).toNat, by omega, by omega⟩

/-- the relation at the first loop's head -/
def PlRel (w : World) (n : Nat) (v7 v8 v9 : Value) (wr : World) : Prop :=
  ∃ (i : Nat) (xs olds : List Clk), i ≤ n ∧ v9 = .int .i64 i ∧ olds.length ≤ 20 ∧ PlInv w xs olds v7 olds.length (olds.map Clk.ptr) v8 olds.length (olds.flatMap Clk.cells) wr

set_option maxHeartbeats 1000000 in
theorem plays06_walk (first : Int) (w : World) (hb : 0 ≤ first ∧ first < 18446744073709551616) (p : Option Addr) (n cap : Nat) (V : Nat → Value) (hs : SlV w p (n * 4) V) (hl : n ≤ cap) (hcap : cap ≤ maxLen) (hV : StepCells n V) :
    Calls Try.prog 7 #[.int .u64 first, .slice p n cap] w fun e w' => e = .returned (.bool true) ∧ Upd [] w w' := by
  obtain ⟨i7, hi7, hz7, hs7, hy7⟩ := info_parts info_clkp
  obtain ⟨i8, hi8, hz8, hs8, hy8⟩ := info_parts info_qclk
  refine calls_all fun K hK => ?_
  go_enter Try.func7, Try.ntmps7
  go_wp2_with fail
  refine (clkFrom first _).mono ?_
  rintro e w1 ⟨c0, a0, b0, rfl, h0, hc0, ha0, hb0, u0⟩
  go_wp2_with fail
  refine (clkNew _).mono ?_
  rintro e w2 ⟨c1, a1, b1, rfl, h1, hc1, ha1, hb1, u1⟩
  simp only [World.size_alloc] at hc0 ha0 hb0
  have k0 := ((Blk.new w [.pointer none, .pointer none] 63).alloc (.cells #[.int .u64 0, .int .i64 0, .int .u64 0, .int .i64 0] 66)).upd (u0.trans u1) (by simp)
  have k1 := (Blk.new (w.alloc (.cells #[.pointer none, .pointer none] 63)) [.int .u64 0, .int .i64 0, .int .u64 0, .int .i64 0] 66).upd (u0.trans u1) (by simp)
  have m0 := k0.cell 0 rfl
  have m1 := k0.cell 1 rfl
  have m2 := k0.free 0
  have m3 := k0.free 1
  have m4 := k1.cell 0 rfl
  have m5 := k1.cell 1 rfl
  have m6 := k1.free 0
  have m7 := k1.free 1
  simp only [World.size_alloc] at m4 m5 m6 m7
  go_wp2_with fail
  have hlen : n ≤ 9223372036854775807 := by unfold maxLen at hcap; omega
  clear hcap
  have I0 : PlRel w n (.slice none 0 0) (.slice none 0 0) (.int .i64 0) ((((w2.setCell ⟨w.heap.size, 0, none⟩ (.pointer (some ⟨c0, 0, none⟩))).setCell ⟨w.heap.size, 1, none⟩ (.pointer (some ⟨c1, 0, none⟩))).setCell ⟨w.heap.size + 1, 0, none⟩ (.int .u64 first)).setCell ⟨w.heap.size + 1, 1, none⟩ (.int .i64 0)) := by
    have us : Upd [w.heap.size, w.heap.size + 1] w2 ((((w2.setCell ⟨w.heap.size, 0, none⟩ (.pointer (some ⟨c0, 0, none⟩))).setCell ⟨w.heap.size, 1, none⟩ (.pointer (some ⟨c1, 0, none⟩))).setCell ⟨w.heap.size + 1, 0, none⟩ (.int .u64 first)).setCell ⟨w.heap.size + 1, 1, none⟩ (.int .i64 0)) :=
      ((((Upd.refl _ _).setCell (.inl (by simp)) _).setCell (.inl (by simp)) _).setCell (.inl (by simp)) _).setCell (.inl (by simp)) _
    have uw : Upd [] w w2 := (((Upd.refl [] w).alloc _).alloc _).trans (u0.trans u1)
    have l1 := h0.ltc
    have l2 := h0.lta
    have l3 := h0.ltb
    have hall : Clks (w.heap.size + 2) w2 [⟨c0, a0, b0, first, 0⟩, ⟨c1, a1, b1, 0, 0⟩] :=
      ⟨by intro x hx; simp only [List.mem_cons, List.not_mem_nil, or_false] at hx; rcases hx with rfl | rfl; exact h0.upd u1 (by simp) (by simp) (by simp); exact h1, by simp [Clk.foot]; omega, by simp [Clk.foot]; omega⟩
    refine ⟨0, [⟨c0, a0, b0, first, 0⟩, ⟨c1, a1, b1, 0, 0⟩], [], Nat.zero_le _, rfl, by simp, ⟨rfl, ?_, ?_, ?_, World.ownsRow_nil _ _ _ _, World.ownsRow_nil _ _ _ _, uw.below (Nat.le_refl _) (by simp) |>.trans (us.below uw.size (by simp))⟩⟩
    · exact (((k0.set 0 _).set 1 _).other _ _ (by simp)).other _ _ (by simp)
    · simp only [World.size_alloc] at k1
      exact (((k1.other _ _ (by simp)).other _ _ (by simp)).set 0 _).set 1 _
    · refine hall.upd us (fun x hx k hk => ?_)
      have := hall.low x hx k hk
      simp
      omega
  clear h0 h1 u0 u1 hc0 ha0 hb0 hc1 ha1 hb1 m0 m1 m2 m3 m4 m5 m6 m7 k0 k1
  go_loopw [7, 8, 9] (fun v7 v8 v9 wr => PlRel w n v7 v8 v9 wr) (fun _ _ v9 _ => n - (intOf v9).toNat)
  case atStart => exact I0
  case round =>
    obtain ⟨i, xs, olds, hi, rfl, hfew, hI⟩ := hrel
    clear I0
    by_cases hlt : i < n
    · obtain ⟨kind, on, S, near, e0, e1, e2, e3, hS⟩ := hV i hlt
      obtain ⟨pb, po, rfl⟩ := hs.ne (by omega)
      have s0 := (hI.low.cell (p := ⟨pb, po + i * 4, none⟩) (hs.lt (by omega) rfl)).trans (hs.cells pb po rfl (i * 4) (by omega))
      have s1 := (hI.low.cell (p := ⟨pb, po + (i * 4 + 1), none⟩) (hs.lt (by omega) rfl)).trans (hs.cells pb po rfl (i * 4 + 1) (by omega))
      have s2 := (hI.low.cell (p := ⟨pb, po + (i * 4 + 2), none⟩) (hs.lt (by omega) rfl)).trans (hs.cells pb po rfl (i * 4 + 2) (by omega))
      have s3 := (hI.low.cell (p := ⟨pb, po + (i * 4 + 3), none⟩) (hs.lt (by omega) rfl)).trans (hs.cells pb po rfl (i * 4 + 3) (by omega))
      rw [e0] at s0
      rw [e1, ← Nat.add_assoc] at s1
      rw [e2, ← Nat.add_assoc] at s2
      rw [e3, ← Nat.add_assoc] at s3
      clear e0 e1 e2 e3
      obtain ⟨kk, hkk, hk2⟩ := mod2 on
      obtain ⟨x, hx⟩ : ∃ x, xs[kk]? = some x := ⟨xs[kk]'(by have := hI.two; omega), List.getElem?_eq_getElem _⟩
      obtain ⟨_, _, q0, q1⟩ := cells_set (y := x) hI.two hx
      have hz0 : w.heap.size < wr.heap.size := hI.ca.lt
      have hz1 : w.heap.size + 1 < wr.heap.size := hI.qa.lt
      have hcx := hI.pc hx
      have hq0 := hI.qa.cell (kk * 2) q0
      have hq1 := hI.qa.cell (kk * 2 + 1) q1
      have hkn : (0 : Int) ≤ (kk : Int) := by omega
      have hkl : (kk : Int) < 2 := by omega
      have HX := Lib.hid hx
      have Q0 := Lib.hid q0
      have Q1 := Lib.hid q1
      clear hx q0 q1
      obtain ⟨p7, c7, rfl⟩ := own_form hI.old
      have HC : ∀ {W : World}, PlInv w xs olds (.slice p7 olds.length c7) olds.length (olds.map Clk.ptr) u8 olds.length (olds.flatMap Clk.cells) W → ClockAt W x.c x.a x.b x.word x.st := fun hW => hW.clks.all x (hI.mem HX.out)
      have HQ : ∀ {W : World}, PlInv w xs olds (.slice p7 olds.length c7) olds.length (olds.map Clk.ptr) u8 olds.length (olds.flatMap Clk.cells) W → QAt W (w.heap.size + 1) (kk * 2) (xs.flatMap Clk.cells) 66 x.word x.st := fun hW => ⟨hW.qa, Q0.out, Q1.out⟩
      have HN : w.heap.size + 1 ∉ [x.c, x.a, x.b] := fun hm => by have := hI.clks.low x (hI.mem HX.out) _ hm; omega
      have hS' : 0 ≤ S ∧ S < 18446744073709551616 := hS
      by_cases hk6 : kind = 6
      · subst hk6
        cases near
        · have u1 : Upd [] wr (wr.alloc (.cells #[.int .i64 6, .int .i64 on, .int .u64 S, .bool false] 71)) := ((Upd.refl [] wr).alloc _)
          have I1 := hI.upd u1
          by_cases h20 : olds.length < 20
          · go_wp2_with (first | (at_builtin; refine wpList_append_own _ rfl (.tmp 60) (.tmp 64) 67 rfl (w.heap.size + 2) 33 i7 (.pointer none) 1 8 Try.underlying67 hi7 hz7 hs7 hy7 rfl (by decide) _ _ _ rfl (I1.upd ((Upd.refl [] _).alloc _)).old ⟨_, 0, none⟩ 1 1 [x.ptr] rfl rfl (news_new [x.ptr] 33 (by simp)) (by simp [Clk.ptr, Value.oneCell']) (by unfold maxLen; omega) (by omega) (by have := I1.sz; simp; omega) ?_; intro v7' w3 ho hg _; have I3 := PlInv.push7 (I1.upd ((Upd.refl [] _).alloc _)) ho hg; have c3 := I3.qa.cell (kk * 2) Q0.out; have c3' := I3.qa.cell (kk * 2 + 1) Q1.out) | (at_builtin; refine wpList_append_own _ rfl (.tmp 66) (.tmp 70) 68 rfl (w.heap.size + 2) 65 i8 (.agg #[.int .u64 0, .int .i64 0]) 2 16 Try.underlying68 hi8 hz8 hs8 hy8 rfl (by decide) _ _ _ rfl (I3.upd ((Upd.refl [] _).alloc _)).was ⟨_, 0, none⟩ 1 1 x.cells rfl rfl (news_new x.cells 65 (by simp)) (by simp [Clk.cells, Value.oneCell']) (by unfold maxLen; omega) (by omega) (by have := I3.sz; simp; omega) ?_; intro v8' w5 ho5 hg5 _; have I5 := PlInv.push8 (I3.upd ((Upd.refl [] _).alloc _)) ho5 hg5; have c5 := I5.pc HX.out) | (go_at_call 37; refine (clkCopy (I5.clks.all x (hI.mem HX.out))).mono ?_; rintro e w6 ⟨c', a', b', rfl, hC6, hc6, ha6, hb6, u6⟩; have I6 := I5.upd u6; have d6 := I6.pc HX.out; have f6 := I6.ca.free kk))
            have R := (I5.copied HX.out (y := ⟨c', a', b', x.word, x.st⟩) hC6 (by intro k hk; simp only [Clk.foot, List.mem_cons, List.not_mem_nil, or_false] at hk; rcases hk with rfl | rfl | rfl <;> assumption) rfl rfl u6).1
            go_roundw
            case rel => exact ⟨i + 1, _, olds ++ [x], by omega, by go_num, by simp; omega, by rw [List.length_append, List.map_append, List.flatMap_append]; exact R⟩
            case measure => simp [intOf]; omega
          · have d20 : decide (olds.length < 20) = false := by simp; omega
            have c1 := I1.pc HX.out
            go_wp2_with (go_at_call 37; refine (clkCopy (I1.clks.all x (hI.mem HX.out))).mono ?_; rintro e w6 ⟨c', a', b', rfl, hC6, hc6, ha6, hb6, u6⟩; have I6 := I1.upd u6; have d6 := I6.pc HX.out; have f6 := I6.ca.free kk)
            have R := (I1.copied HX.out (y := ⟨c', a', b', x.word, x.st⟩) hC6 (by intro k hk; simp only [Clk.foot, List.mem_cons, List.not_mem_nil, or_false] at hk; rcases hk with rfl | rfl | rfl <;> assumption) rfl rfl u6).2
            go_roundw
            case rel => exact ⟨i + 1, _, olds, by omega, by go_num, hfew, R⟩
            case measure => simp [intOf]; omega
        · have u1 : Upd [] wr (wr.alloc (.cells #[.int .i64 6, .int .i64 on, .int .u64 (IntKind.u64.wrap (S + x.word)), .bool true] 71)).drew := ((Upd.refl [] wr).alloc _).drew
          have I1 := hI.upd u1
          by_cases h20 : olds.length < 20
          · go_wp2_with fail
            go_region
            go_wp2_with (first | (at_builtin; refine wpList_append_own _ rfl (.tmp 60) (.tmp 64) 67 rfl (w.heap.size + 2) 33 i7 (.pointer none) 1 8 Try.underlying67 hi7 hz7 hs7 hy7 rfl (by decide) _ _ _ rfl (I1.upd ((Upd.refl [] _).alloc _)).old ⟨_, 0, none⟩ 1 1 [x.ptr] rfl rfl (news_new [x.ptr] 33 (by simp)) (by simp [Clk.ptr, Value.oneCell']) (by unfold maxLen; omega) (by omega) (by have := I1.sz; simp; omega) ?_; intro v7' w3 ho hg _; have I3 := PlInv.push7 (I1.upd ((Upd.refl [] _).alloc _)) ho hg; have c3 := I3.qa.cell (kk * 2) Q0.out; have c3' := I3.qa.cell (kk * 2 + 1) Q1.out) | (at_builtin; refine wpList_append_own _ rfl (.tmp 66) (.tmp 70) 68 rfl (w.heap.size + 2) 65 i8 (.agg #[.int .u64 0, .int .i64 0]) 2 16 Try.underlying68 hi8 hz8 hs8 hy8 rfl (by decide) _ _ _ rfl (I3.upd ((Upd.refl [] _).alloc _)).was ⟨_, 0, none⟩ 1 1 x.cells rfl rfl (news_new x.cells 65 (by simp)) (by simp [Clk.cells, Value.oneCell']) (by unfold maxLen; omega) (by omega) (by have := I3.sz; simp; omega) ?_; intro v8' w5 ho5 hg5 _; have I5 := PlInv.push8 (I3.upd ((Upd.refl [] _).alloc _)) ho5 hg5; have c5 := I5.pc HX.out) | (go_at_call 37; refine (clkCopy (I5.clks.all x (hI.mem HX.out))).mono ?_; rintro e w6 ⟨c', a', b', rfl, hC6, hc6, ha6, hb6, u6⟩; have I6 := I5.upd u6; have d6 := I6.pc HX.out; have f6 := I6.ca.free kk))
            have R := (I5.copied HX.out (y := ⟨c', a', b', x.word, x.st⟩) hC6 (by intro k hk; simp only [Clk.foot, List.mem_cons, List.not_mem_nil, or_false] at hk; rcases hk with rfl | rfl | rfl <;> assumption) rfl rfl u6).1
            go_roundw
            case rel => exact ⟨i + 1, _, olds ++ [x], by omega, by go_num, by simp; omega, by rw [List.length_append, List.map_append, List.flatMap_append]; exact R⟩
            case measure => simp [intOf]; omega
          · have d20 : decide (olds.length < 20) = false := by simp; omega
            have c1 := I1.pc HX.out
            go_wp2_with fail
            go_region
            go_wp2_with (go_at_call 37; refine (clkCopy (I1.clks.all x (hI.mem HX.out))).mono ?_; rintro e w6 ⟨c', a', b', rfl, hC6, hc6, ha6, hb6, u6⟩; have I6 := I1.upd u6; have d6 := I6.pc HX.out; have f6 := I6.ca.free kk)
            have R := (I1.copied HX.out (y := ⟨c', a', b', x.word, x.st⟩) hC6 (by intro k hk; simp only [Clk.foot, List.mem_cons, List.not_mem_nil, or_false] at hk; rcases hk with rfl | rfl | rfl <;> assumption) rfl rfl u6).2
            go_roundw
            case rel => exact ⟨i + 1, _, olds, by omega, by go_num, hfew, R⟩
            case measure => simp [intOf]; omega
      · have hkb : (kind == 6) = false := by simp [hk6]
        cases near
        · have hbx := Blk.new wr [.int .i64 kind, .int .i64 on, .int .u64 S, .bool false] 71
          have u1 : Upd [] wr (wr.alloc (.cells #[.int .i64 kind, .int .i64 on, .int .u64 S, .bool false] 71)).drew := ((Upd.refl [] wr).alloc _).drew
          have u1' : Upd [x.c, x.a, x.b, w.heap.size + 1] (wr.alloc (.cells #[.int .i64 kind, .int .i64 on, .int .u64 S, .bool false] 71)) (wr.alloc (.cells #[.int .i64 kind, .int .i64 on, .int .u64 S, .bool false] 71)).drew := (Upd.refl _ _).drew
          go_wp2_with fail
          have hca1 := (hI.upd u1).ca
          have hxc1 : (xs.map Clk.ptr)[kk]? = some (.pointer (some ⟨x.c, 0, none⟩)) := by rw [List.getElem?_map, HX.out]; rfl
          have HXC := Lib.hid hxc1
          clear hxc1
          have HB : w.heap.size ∉ [x.c, x.a, x.b, w.heap.size + 1] := fun hm => by simp only [List.mem_cons, List.not_mem_nil, or_false] at hm; have h3 := hI.clks.low x (hI.mem HX.out); have h4 := h3 x.c (by simp [Clk.foot]); have h5 := h3 x.a (by simp [Clk.foot]); have h6 := h3 x.b (by simp [Clk.foot]); omega
          have HZ : wr.heap.size ∉ [x.c, x.a, x.b, w.heap.size + 1] := fun hm => by simp only [List.mem_cons, List.not_mem_nil, or_false] at hm; have h3 := fun k hk => hI.clks.lt (hI.mem HX.out) (k := k) hk; have h4 := h3 x.c (by simp [Clk.foot]); have h5 := h3 x.a (by simp [Clk.foot]); have h6 := h3 x.b (by simp [Clk.foot]); omega
          go_region_held3 (fun w' => w'.cell? ⟨w.heap.size, kk, none⟩ = some (.pointer (some ⟨x.c, 0, none⟩)) ∧ w'.cell? ⟨wr.heap.size, 0, none⟩ = some (.int .i64 kind) ∧ w'.cell? ⟨wr.heap.size, 1, none⟩ = some (.int .i64 on) ∧ w'.cell? ⟨wr.heap.size, 2, none⟩ = some (.int .u64 S) ∧ w'.cell? ⟨wr.heap.size, 3, none⟩ = some (.bool false)) (first | go_keep | exact ⟨d1, d2, d3, d4, d5⟩) (first | (go_at_call 38; refine (pl_any kind on _ false hS' (HC (hI.upd u1)) (HQ (hI.upd u1)) HN).mono ?_; rintro e w3 ⟨rfl, word', st', hC3, hB3, hu3⟩; have d1 := (hca1.upd hu3 HB).cell kk HXC.out; have d2 := (hbx.upd (u1'.trans hu3) HZ).cell 0 rfl; have d3 := (hbx.upd (u1'.trans hu3) HZ).cell 1 rfl; have d4 := (hbx.upd (u1'.trans hu3) HZ).cell 2 rfl; have d5 := (hbx.upd (u1'.trans hu3) HZ).cell 3 rfl))
          go_wp2
          go_roundw
          case rel => exact ⟨i + 1, _, _, by omega, by go_num, hfew, (hI.upd u1).step HX.out hC3 hB3 hu3⟩
          case measure => simp [intOf]; omega
        · have hS' : 0 ≤ IntKind.u64.wrap (S + x.word) ∧ IntKind.u64.wrap (S + x.word) < 18446744073709551616 := by rw [IntKind.wrap_u64]; omega
          have hbx := Blk.new wr [.int .i64 kind, .int .i64 on, .int .u64 (IntKind.u64.wrap (S + x.word)), .bool true] 71
          have u1 : Upd [] wr (wr.alloc (.cells #[.int .i64 kind, .int .i64 on, .int .u64 (IntKind.u64.wrap (S + x.word)), .bool true] 71)).drew.drew := ((Upd.refl [] wr).alloc _).drew.drew
          have u1' : Upd [x.c, x.a, x.b, w.heap.size + 1] (wr.alloc (.cells #[.int .i64 kind, .int .i64 on, .int .u64 (IntKind.u64.wrap (S + x.word)), .bool true] 71)) (wr.alloc (.cells #[.int .i64 kind, .int .i64 on, .int .u64 (IntKind.u64.wrap (S + x.word)), .bool true] 71)).drew.drew := (Upd.refl _ _).drew.drew
          go_wp2_with fail
          go_region
          go_wp2_with fail
          have hca1 := (hI.upd u1).ca
          have hxc1 : (xs.map Clk.ptr)[kk]? = some (.pointer (some ⟨x.c, 0, none⟩)) := by rw [List.getElem?_map, HX.out]; rfl
          have HXC := Lib.hid hxc1
          clear hxc1
          have HB : w.heap.size ∉ [x.c, x.a, x.b, w.heap.size + 1] := fun hm => by simp only [List.mem_cons, List.not_mem_nil, or_false] at hm; have h3 := hI.clks.low x (hI.mem HX.out); have h4 := h3 x.c (by simp [Clk.foot]); have h5 := h3 x.a (by simp [Clk.foot]); have h6 := h3 x.b (by simp [Clk.foot]); omega
          have HZ : wr.heap.size ∉ [x.c, x.a, x.b, w.heap.size + 1] := fun hm => by simp only [List.mem_cons, List.not_mem_nil, or_false] at hm; have h3 := fun k hk => hI.clks.lt (hI.mem HX.out) (k := k) hk; have h4 := h3 x.c (by simp [Clk.foot]); have h5 := h3 x.a (by simp [Clk.foot]); have h6 := h3 x.b (by simp [Clk.foot]); omega
          go_region_held3 (fun w' => w'.cell? ⟨w.heap.size, kk, none⟩ = some (.pointer (some ⟨x.c, 0, none⟩)) ∧ w'.cell? ⟨wr.heap.size, 0, none⟩ = some (.int .i64 kind) ∧ w'.cell? ⟨wr.heap.size, 1, none⟩ = some (.int .i64 on) ∧ w'.cell? ⟨wr.heap.size, 2, none⟩ = some (.int .u64 (IntKind.u64.wrap (S + x.word))) ∧ w'.cell? ⟨wr.heap.size, 3, none⟩ = some (.bool true)) (first | go_keep | exact ⟨d1, d2, d3, d4, d5⟩) (first | (go_at_call 38; refine (pl_any kind on _ true hS' (HC (hI.upd u1)) (HQ (hI.upd u1)) HN).mono ?_; rintro e w3 ⟨rfl, word', st', hC3, hB3, hu3⟩; have d1 := (hca1.upd hu3 HB).cell kk HXC.out; have d2 := (hbx.upd (u1'.trans hu3) HZ).cell 0 rfl; have d3 := (hbx.upd (u1'.trans hu3) HZ).cell 1 rfl; have d4 := (hbx.upd (u1'.trans hu3) HZ).cell 2 rfl; have d5 := (hbx.upd (u1'.trans hu3) HZ).cell 3 rfl))
          go_wp2
          go_roundw
          case rel => exact ⟨i + 1, _, _, by omega, by go_num, hfew, (hI.upd u1).step HX.out hC3 hB3 hu3⟩
          case measure => simp [intOf]; omega
    · clear hs
      go_wp2_with fail
      go_loopw [7, 8, 13] (fun v7 v8 v13 wr2 => ∃ j : Nat, j ≤ 2 ∧ v13 = .int .i64 j ∧ PlInv w xs olds v7 (olds.length + j) (olds.map Clk.ptr ++ (xs.take j).map Clk.ptr) v8 (olds.length + j) (olds.flatMap Clk.cells ++ (xs.take j).flatMap Clk.cells) wr2) (fun _ _ v13 _ => 2 - (intOf v13).toNat)
      case atStart => exact ⟨0, by omega, rfl, by simpa using hI⟩
      case round =>
        obtain ⟨j, hj, rfl, hJ⟩ := hrel
        by_cases hj2 : j < 2
        · obtain ⟨x, hx⟩ : ∃ x, xs[j]? = some x := ⟨xs[j]'(by have := hI.two; omega), List.getElem?_eq_getElem _⟩
          obtain ⟨_, _, q0, q1⟩ := cells_set (y := x) hI.two hx
          have hz0 : w.heap.size < wr.heap.size := hJ.ca.lt
          have hz1 : w.heap.size + 1 < wr.heap.size := hJ.qa.lt
          have hcx := hJ.pc hx
          have hjl : (j : Int) < 2 := by omega
          have HX := Lib.hid hx
          have Q0 := Lib.hid q0
          have Q1 := Lib.hid q1
          have e1 : xs.take (j + 1) = xs.take j ++ [x] := by
            rw [List.take_add_one, hx]; rfl
          have E1 := Lib.hid e1
          clear hx q0 q1 e1 hI
          go_wp2_with (first | (at_builtin; refine wpList_append_own _ rfl (.tmp 91) (.tmp 95) 67 rfl (w.heap.size + 2) 33 i7 (.pointer none) 1 8 Try.underlying67 hi7 hz7 hs7 hy7 rfl (by decide) _ _ _ rfl (hJ.upd ((Upd.refl [] _).alloc _)).old ⟨_, 0, none⟩ 1 1 [x.ptr] rfl rfl (news_new [x.ptr] 33 (by simp)) (by simp [Clk.ptr, Value.oneCell']) (by unfold maxLen; omega) (by omega) (by have := hJ.sz; simp; omega) ?_; intro v7' w3 ho hg _; have I3 := PlInv.push7 (hJ.upd ((Upd.refl [] _).alloc _)) ho hg; have c3 := I3.qa.cell (j * 2) Q0.out; have c3' := I3.qa.cell (j * 2 + 1) Q1.out) | (at_builtin; refine wpList_append_own _ rfl (.tmp 97) (.tmp 101) 68 rfl (w.heap.size + 2) 65 i8 (.agg #[.int .u64 0, .int .i64 0]) 2 16 Try.underlying68 hi8 hz8 hs8 hy8 rfl (by decide) _ _ _ rfl (I3.upd ((Upd.refl [] _).alloc _)).was ⟨_, 0, none⟩ 1 1 x.cells rfl rfl (news_new x.cells 65 (by simp)) (by simp [Clk.cells, Value.oneCell']) (by unfold maxLen; omega) (by omega) (by have := I3.sz; simp; omega) ?_; intro v8' w5 ho5 hg5 _; have I5 := PlInv.push8 (I3.upd ((Upd.refl [] _).alloc _)) ho5 hg5))
          go_roundw
          case rel => exact ⟨j + 1, by omega, by go_num, by rw [E1.out, List.map_append, List.flatMap_append, ← List.append_assoc, ← List.append_assoc]; simpa [Nat.add_assoc] using I5⟩
          case measure => simp [intOf]; omega
        · obtain rfl : j = 2 := by omega
          have etk : xs.take 2 = xs := List.take_of_length_le (by rw [hI.two]; exact Nat.le_refl _)
          rw [etk, ← List.map_append, ← List.flatMap_append] at hJ
          have hN : (olds ++ xs).length = olds.length + 2 := by rw [List.length_append, hI.two]
          obtain ⟨L, hL⟩ : ∃ L, L = olds ++ xs := ⟨_, rfl⟩
          have hC : Clks (w.heap.size + 2) wr (L.drop 0) := by rw [hL]; exact hJ.clks.perm List.perm_append_comm
          have hO := hJ.old
          have hW := hJ.was
          have hB := hJ.low
          have hS := hJ.sz
          rw [← hL] at hO hW hN
          rw [← hN] at hO hW
          obtain ⟨g7, c7, rfl⟩ := own_some hO (by omega)
          obtain ⟨g8, c8, rfl⟩ := own_some hW (by omega)
          have hL22 : L.length ≤ 22 := by omega
          clear hJ hI hN hL etk
          go_wp2_with fail
          go_loopw [14] (fun v14 wr => ∃ m : Nat, m ≤ L.length ∧ v14 = .int .i64 m ∧ Clks (w.heap.size + 2) wr (L.drop m) ∧ wr.ownsRow (w.heap.size + 2) 33 1 (.slice (some ⟨g7, 0, none⟩) L.length c7) L.length (L.map Clk.ptr) ∧ wr.ownsRow (w.heap.size + 2) 65 2 (.slice (some ⟨g8, 0, none⟩) L.length c8) L.length (L.flatMap Clk.cells) ∧ Below w.heap.size w wr ∧ w.heap.size + 2 ≤ wr.heap.size) (fun v14 _ => L.length - (intOf v14).toNat)
          case atStart => exact ⟨0, by omega, rfl, hC, hO, hW, hB, hS⟩
          case round =>
            clear hC hO hW hB hS
            obtain ⟨m, hm, rfl, hC, hO, hW, hB, hS⟩ := hrel
            by_cases hlt : m < L.length
            · obtain ⟨y, hy⟩ : ∃ y, L[m]? = some y := ⟨L[m], List.getElem?_eq_getElem hlt⟩
              have hd : L.drop m = y :: L.drop (m + 1) := by rw [List.drop_eq_getElem_cons hlt]; congr 1; rw [List.getElem?_eq_getElem hlt] at hy; simpa using hy
              rw [hd] at hC
              have hA := hC.all y (by simp)
              have d0 : wr.cell? ⟨g7, m, none⟩ = some (.pointer (some ⟨y.c, 0, none⟩)) := by rw [hO.cellAt m (by omega), List.getElem?_map, hy]; rfl
              have d1 : wr.cell? ⟨g8, m * 2, none⟩ = some (.int .u64 y.word) := by rw [hW.cellAt (m * 2) (by omega)]; exact cells_at hy 0 _ rfl
              have d2 : wr.cell? ⟨g8, m * 2 + 1, none⟩ = some (.int .i64 y.st) := by rw [hW.cellAt (m * 2 + 1) (by omega)]; exact cells_at hy 1 _ rfl
              clear hy hd
              have hml : (m : Int) < (L.length : Int) := by omega
              have hm0 : (0 : Int) ≤ (m : Int) := by omega
              have hne : (y.st != y.st) = false := by simp
              go_wp2_with fail
              have hAd := ClockAt.drew hA
              go_region_held3 (fun w' => w'.cell? ⟨g7, m, none⟩ = some (.pointer (some ⟨y.c, 0, none⟩)) ∧ w'.cell? ⟨g8, m * 2 + 1, none⟩ = some (.int .i64 y.st)) (go_keep) (first | (go_at_call 39; refine (clkSteps hAd).mono ?_; rintro e w3 ⟨rfl, rfl⟩))
              have b7 := hC.own hO (by decide) (by decide) (by decide) y (by simp)
              have b8 := hC.own hW (by decide) (by decide) (by decide) y (by simp)
              have HL := Lib.hid hC
              go_wp2_with fail
              refine (clkLoad hAd).mono ?_
              rintro e w4 ⟨rfl, hA4, u4⟩
              have u5 : Upd [y.c, y.a, y.b] wr w4 := ((Upd.refl _ wr).drew).trans u4
              have hO4 := own_upd hO u5 (fun k hk e => b7 k hk (by simp [e]))
              have hW4 := own_upd hW u5 (fun k hk e => b8 k hk (by simp [e]))
              have hC4 : Clks (w.heap.size + 2) w4 (L.drop (m + 1)) := (Clks.step (x' := ⟨y.c, y.a, y.b, y.word, wrap64 (y.st + 1)⟩) HL.out u5 (fun k hk => .inl hk) rfl hA4).sub (List.sublist_cons_self _ _)
              have hB4 : Below w.heap.size w w4 := hB.trans (u5.below hB.size (fun k hk => by have := HL.out.low y (by simp) k hk; omega))
              have d4 : w4.cell? ⟨g8, m * 2, none⟩ = some (.int .u64 y.word) := by rw [hW4.cellAt (m * 2) (by omega), ← hW.cellAt (m * 2) (by omega)]; exact d1
              have hne2 : (y.word != y.word) = false := by simp
              have hS4 : w.heap.size + 2 ≤ w4.heap.size := by have := u5.size; omega
              clear hC hO hW hB d0 d1 d2 hA hAd u4 u5 b7 b8
              go_wp2
              go_roundw
              case rel => (repeat apply Exists.intro); exact ⟨⟨m + 1, by omega, by go_num, hC4, hO4, hW4, hB4, hS4⟩, rfl⟩
              case measure => simp [intOf]; omega
            · go_wp2_with fail
              refine (known06 wr).mono ?_
              rintro e w' ⟨rfl, hu⟩
              go_wp2
              exact ⟨rfl, Upd.of_below (hB.trans (hu.below hB.size (by simp)))⟩

end Go.Proofs.Ythjiiedpplimpaa
