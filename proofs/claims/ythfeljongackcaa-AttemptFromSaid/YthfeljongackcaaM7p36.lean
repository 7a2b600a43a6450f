/- An argument that is an attempt's state, opened. No condition. AttemptPlays, walked. The conditions are sizes. AttemptFrom, walked. The conditions are sizes. -/
import Derived.Test.YthfeljongackcaaM7p35
import Derived.Test.YthfeljongackcaaM7p11
set_option linter.unusedSimpArgs false
set_option linter.unusedVariables false
set_option maxRecDepth 100000
namespace Go.Proofs.Ythfeljongackcaa
open Go.RowKit
open Go.ChangeShapes Go.WideShapes Go.ChangeAt Go.Deep
section
variable {H : Type} {enc : TypeId × Value → H} {w : World} {base : Nat} {held : Bool}
/-- a struct of one-cell fields among the arguments -/
theorem open_struct {P : Program} {t : TypeId} {fs : Array Field} {r : Reach} {b0 : Nat} {v : Value} {d : DataW H} {ps : List MemPlace} (ht : P.underlying t = some (.struct fs)) (hone : oneCellFields P fs = true) (hC : P.cellsOf t = fs.size)
    (hval : Value.okWide P w r b0 t v) (h : DataW.Trod enc P w base (fun _ => true) held t v d ps) (hs : Sized P t d) :
    ∃ cs : Array Value, v = .agg cs ∧ cs.size = fs.size ∧ ∀ (j : Nat) (f : Field), fs[j]? = some f → ∃ (u : Value) (m : Nat) (y : DataW H × List MemPlace), cs[j]? = some u ∧ DataW.trod enc P w base (fun _ => true) held m f.type [u] = some y ∧ Sized P f.type y.1 := by
  obtain ⟨cs, rfl, hsz⟩ := okWide_struct ht hval
  obtain ⟨fuel, hf⟩ := h
  obtain ⟨xs, n, _, hx, hl, hlen, hj⟩ := DataW.trod_struct ht hf
  refine ⟨cs, rfl, by rw [hsz, hC], fun j f hf2 => ?_⟩
  obtain ⟨ho, hc1⟩ := hone_of hone j f hf2
  have hjl : j < fs.size := by
    by_cases h : j < fs.size
    · exact h
    · rw [Array.getElem?_eq_none (by omega)] at hf2; cases hf2
  have hjc : j < cs.size := by rw [hsz, hC]; exact hjl
  have h1 := hj j f hf2
  rw [ho, hc1] at h1
  have hcells : (Value.agg cs).cells.toList = cs.toList := rfl
  rw [hcells, take1_drop _ _ undef (by simpa using hjc)] at h1
  obtain ⟨y, hy⟩ : ∃ y, xs[j]? = some y := ⟨xs[j]'(by omega), List.getElem?_eq_getElem _⟩
  rw [hy] at h1
  have hd : d = .agg (xs.map (·.1)) := by simpa using congrArg Prod.fst hx
  refine ⟨_, n, y, by rw [Array.getElem?_eq_getElem hjc], by simpa [List.getD, hjc] using h1, fun k hk => hs k ?_⟩
  rw [hd]
  simp only [DataW.weights, ht]
  exact DataW.weights_mem_each (j := j) (t := f.type) (d := y.1) (by simp [hf2]) (by simp [hy]) k hk
def prA (V : Nat → Value) (i : Nat) : Int × Int := (intOf (V (i * 2)), intOf (V (i * 2 + 1)))
/-- a slice of cells within -/
theorem open_cells {m : Nat} {v : Value} {y : DataW H × List MemPlace} (h : DataW.trod enc Try.prog w base (fun _ => true) held m 49 [v] = some y) (hs : Sized Try.prog 49 y.1) :
    ∃ l : List (Int × Int), SlC w v l ∧ (∀ c ∈ l, (0 ≤ c.1 ∧ c.1 < 18446744073709551616) ∧ 0 ≤ c.2 ∧ c.2 < 18446744073709551616) ∧ l.length * 16 ≤ 140737488351232 := by
  obtain ⟨p, n, cap, V, rfl, hS, hnc, hm, hr, hf⟩ := open_sl_structs2 Try.underlying49 Try.underlying53 (by kernel_rfl) (by kernel_rfl) (by decide) h hs
  have hS2 : SlV w p (n * 2) V := hS
  have hP : ∀ i, i < n → V (i * 2) = .int .u64 (prA V i).1 ∧ V (i * 2 + 1) = .int .u64 (prA V i).2 ∧ ((0 ≤ (prA V i).1 ∧ (prA V i).1 < 18446744073709551616) ∧ 0 ≤ (prA V i).2 ∧ (prA V i).2 < 18446744073709551616) := by
    intro i hi
    obtain ⟨_, _, h0, _⟩ := hf i hi 0 _ rfl
    obtain ⟨_, _, h1, _⟩ := hf i hi 1 _ rfl
    obtain ⟨k0, e0, _, w0⟩ := DataW.trod_int Try.underlying31 h0
    obtain ⟨k1, e1, _, w1⟩ := DataW.trod_int Try.underlying31 h1
    have w0' : 0 ≤ k0 ∧ k0 ≤ 18446744073709551615 := by simpa [Lit.wf, IntKind.min, IntKind.max, IntKind.signed, IntKind.bits] using w0
    have w1' : 0 ≤ k1 ∧ k1 ≤ 18446744073709551615 := by simpa [Lit.wf, IntKind.min, IntKind.max, IntKind.signed, IntKind.bits] using w1
    simp only [List.cons.injEq, and_true] at e0 e1
    have p0 : (prA V i).1 = k0 := by unfold prA; rw [show V (i * 2) = _ from e0]; rfl
    have p1 : (prA V i).2 = k1 := by unfold prA; rw [show V (i * 2 + 1) = _ from e1]; rfl
    rw [p0, p1]
    exact ⟨e0, e1, by omega, by omega⟩
  have hcb : cap * 16 ≤ 140737488351232 := hr
  refine ⟨(List.range n).map (prA V), ⟨p, cap, by simp, fun j a b hj => ?_⟩, fun c hc => ?_, by simp; omega⟩
  · have hjn : j < n := by
      by_cases h : j < n
      · exact h
      · rw [List.getElem?_eq_none (by simp; omega)] at hj; cases hj
    obtain ⟨e0, e1, _⟩ := hP j hjn
    have he : prA V j = (a, b) := by simpa [hjn] using hj
    obtain ⟨pb, po, rfl⟩ := hS2.ne (by omega)
    refine ⟨pb, po, rfl, ?_, ?_⟩
    · have := hS2.cells pb po rfl (j * 2) (by omega)
      rw [this, e0, he]
    · have := hS2.cells pb po rfl (j * 2 + 1) (by omega)
      rw [Nat.add_assoc, this, e1, he]
  · obtain ⟨i, hi, rfl⟩ := List.mem_map.1 hc
    exact (hP i (by simpa using hi)).2.2
theorem agg9 {cs : Array Value} (h : cs.size = 9) {v0 v1 v2 v3 v4 v5 v6 v7 v8 : Value} (h0 : cs[0]? = some v0) (h1 : cs[1]? = some v1) (h2 : cs[2]? = some v2) (h3 : cs[3]? = some v3) (h4 : cs[4]? = some v4) (h5 : cs[5]? = some v5) (h6 : cs[6]? = some v6) (h7 : cs[7]? = some v7) (h8 : cs[8]? = some v8) : cs = #[v0, v1, v2, v3, v4, v5, v6, v7, v8] := by
  apply Array.ext'
  apply List.ext_getElem?
  intro i
  by_cases hi : i < 9
  · have : i = 0 ∨ i = 1 ∨ i = 2 ∨ i = 3 ∨ i = 4 ∨ i = 5 ∨ i = 6 ∨ i = 7 ∨ i = 8 := by omega
    rcases this with rfl | rfl | rfl | rfl | rfl | rfl | rfl | rfl | rfl <;> simpa using by assumption
  · rw [List.getElem?_eq_none (by simp; omega), List.getElem?_eq_none (by simp; omega)]
theorem open_u64 {m : Nat} {v : Value} {y : DataW H × List MemPlace} (h : DataW.trod enc Try.prog w base (fun _ => true) held m 31 [v] = some y) : ∃ k : Int, v = .int .u64 k ∧ 0 ≤ k ∧ k < 18446744073709551616 := by
  obtain ⟨k0, e0, _, w0⟩ := DataW.trod_int Try.underlying31 h
  have w0' : 0 ≤ k0 ∧ k0 ≤ 18446744073709551615 := by simpa [Lit.wf, IntKind.min, IntKind.max, IntKind.signed, IntKind.bits] using w0
  simp only [List.cons.injEq, and_true] at e0
  exact ⟨k0, e0, by omega, by omega⟩
theorem open_i64 {P : Program} {t : TypeId} {m : Nat} {v : Value} {y : DataW H × List MemPlace} (ht : P.underlying t = some (.int .i64)) (h : DataW.trod enc P w base (fun _ => true) held m t [v] = some y) : ∃ k : Int, v = .int .i64 k := by
  obtain ⟨k0, e0, _, w0⟩ := DataW.trod_int ht h
  simp only [List.cons.injEq, and_true] at e0
  exact ⟨k0, e0⟩
theorem open_attempt {r : Reach} {b0 : Nat} {v : Value} {d : DataW H} {ps : List MemPlace} (hval : Value.okWide Try.prog w r b0 60 v) (h : DataW.Trod enc Try.prog w base (fun _ => true) held 60 v d ps) (hs : Sized Try.prog 60 d) :
    ∃ (s : AS) (rv wv : Value), v = stateV s rv wv ∧ SlC w rv s.reads ∧ SlC w wv s.writes ∧ Wide s ∧ s.reads.length * 16 ≤ 140737488351232 ∧ s.writes.length * 16 ≤ 140737488351232 := by
  obtain ⟨cs, rfl, hsz, hf⟩ := open_struct Try.underlying60 (by kernel_rfl) (by kernel_rfl) hval h hs
  obtain ⟨u0, m0, y0, c0, t0, s0⟩ := hf 0 _ rfl
  obtain ⟨u1, m1, y1, c1, t1, s1⟩ := hf 1 _ rfl
  obtain ⟨u2, m2, y2, c2, t2, s2⟩ := hf 2 _ rfl
  obtain ⟨u3, m3, y3, c3, t3, s3⟩ := hf 3 _ rfl
  obtain ⟨u4, m4, y4, c4, t4, s4⟩ := hf 4 _ rfl
  obtain ⟨u5, m5, y5, c5, t5, s5⟩ := hf 5 _ rfl
  obtain ⟨u6, m6, y6, c6, t6, s6⟩ := hf 6 _ rfl
  obtain ⟨u7, m7, y7, c7, t7, s7⟩ := hf 7 _ rfl
  obtain ⟨u8, m8, y8, c8, t8, s8⟩ := hf 8 _ rfl
  obtain ⟨k0, rfl, b0⟩ := open_u64 t0
  obtain ⟨rd, hrd, wrd, lrd⟩ := open_cells t1 s1
  obtain ⟨wl, hwl, wwl, lwl⟩ := open_cells t2 s2
  obtain ⟨k3, rfl⟩ := open_i64 Try.underlying43 t3
  obtain ⟨k4, rfl⟩ := open_i64 Try.underlying43 t4
  obtain ⟨k5, rfl, b5⟩ := open_u64 t5
  obtain ⟨k6, rfl, b6⟩ := open_u64 t6
  obtain ⟨k7, rfl, b7⟩ := open_u64 t7
  obtain ⟨k8, rfl⟩ := open_i64 Try.underlying3 t8
  obtain rfl := agg9 hsz c0 c1 c2 c3 c4 c5 c6 c7 c8
  exact ⟨⟨k0, rd, wl, k3, k4, k5, k6, k7, k8⟩, u1, u2, rfl, hrd, hwl, ⟨b0, wrd, wwl, b5, b6, b7⟩, lrd, lwl⟩
end
end Go.Proofs.Ythfeljongackcaa
set_option linter.unusedSimpArgs false
set_option linter.unusedVariables false
set_option maxRecDepth 100000
namespace Go.Proofs.Ythfeljongackcaa
open Go.RowKit
open Go.Maps

def StepsAt (n : Nat) (V : Nat → Value) : Prop := ∀ i, i < n → ∃ kind who dst addr word : Int, V (i * 5) = .int .i64 kind ∧ V (i * 5 + 1) = .int .i64 who ∧ V (i * 5 + 2) = .int .i64 dst ∧ V (i * 5 + 3) = .int .u64 addr ∧ V (i * 5 + 4) = .int .u64 word ∧
  (-9223372036854775808 ≤ who ∧ who ≤ 9223372036854775807) ∧ (-9223372036854775808 ≤ dst ∧ dst ≤ 9223372036854775807) ∧ (0 ≤ addr ∧ addr < 18446744073709551616) ∧ (0 ≤ word ∧ word < 18446744073709551616)
/-- the play at a loop's head -/
def PlayAt (w : World) (p : Nat) (X : SX) (Y : RX) (wr : World) : Prop := ∃ sh att ratt held tk, PS w p X Y sh att ratt held tk wr ∧ tk % 2 = 0
set_option maxHeartbeats 1000000 in
theorem plays7_bad (w : World) (p0 p2 : Option Addr) (n0 c0 n2 c2 : Nat) (c : Int) (hn : n0 < 1 ∨ 65536 < n0) (hm : n0 ≤ maxLen) :
    Calls Try.prog 7 #[.slice p0 n0 c0, .int .u64 c, .slice p2 n2 c2] w fun e w' => e = .returned (.bool true) ∧ Upd [] w w' := by
  refine calls_all fun K hK => ?_
  go_enter Try.func7, Try.ntmps7
  go_wp2_with fail
  refine (play7_bad w p0 n0 c0 c hn hm).mono ?_
  rintro e W1 ⟨p, rfl, k0, u1⟩
  go_wp2_with fail
  refine (known07_walk W1).mono ?_
  rintro e W2 ⟨rfl, u2⟩
  go_wp2_with fail
  exact ⟨rfl, u1.trans u2⟩
set_option maxHeartbeats 2000000 in
theorem plays7_good (w : World) (p0 p2 : Option Addr) (zs : List Int) (c0 c2 n : Nat) (V : Nat → Value) (c : Int) (h0 : SlI w .u64 p0 zs) (hz : ∀ v ∈ zs, 0 ≤ v ∧ v < 18446744073709551616) (hn : 1 ≤ zs.length) (hn2 : zs.length ≤ 65536) (hc : 0 ≤ c ∧ c < 18446744073709551616) (h2 : SlV w p2 (n * 5) V) (hV : StepsAt n V) (hl2 : n ≤ 4611686018427387904) :
    Calls Try.prog 7 #[.slice p0 zs.length c0, .int .u64 c, .slice p2 n c2] w fun e w' => e = .returned (.bool true) ∧ Upd [] w w' := by
  refine calls_all fun K hK => ?_
  go_enter Try.func7, Try.ntmps7
  go_wp2_with fail
  refine (play7_ok w p0 zs c0 c h0 hz hn hn2 hc).mono ?_
  rintro e W1 ⟨p, X, Y, rfl, H⟩
  have k0 := H.pl.head.cell 0 rfl
  have HP : PlayAt w p X Y W1 := ⟨_, _, _, _, _, H, rfl⟩
  clear H h0 hz hn hn2 hc
  go_wp2_with fail
  clear k0
  go_loopw [9] (fun v9 wr => ∃ i : Nat, i ≤ n ∧ v9 = .int .i64 i ∧ PlayAt w p X Y wr) (fun v9 _ => n - (intOf v9).toNat)
  case atStart => exact ⟨0, by omega, rfl, HP⟩
  case round =>
    clear HP
    obtain ⟨i, hi, rfl, sh, att, ratt, held, tk, H, hpar⟩ := hrel
    by_cases hlt : i < n
    · have hlt' : (i : Int) < (n : Int) := by omega
      obtain ⟨kind, who, dst, addr, word, e0, e1, e2, e3, e4, b1, b2, b3, b4⟩ := hV i hlt
      obtain ⟨pb, po, rfl⟩ := h2.ne (by omega)
      have lo := H.pl.low.below (Nat.le_refl _) (by simp)
      have s0 := (lo.cell (p := ⟨pb, po + i * 5, none⟩) (h2.lt (by omega) rfl)).trans (h2.cells pb po rfl (i * 5) (by omega))
      have s1 := (lo.cell (p := ⟨pb, po + (i * 5 + 1), none⟩) (h2.lt (by omega) rfl)).trans (h2.cells pb po rfl (i * 5 + 1) (by omega))
      have s2 := (lo.cell (p := ⟨pb, po + (i * 5 + 2), none⟩) (h2.lt (by omega) rfl)).trans (h2.cells pb po rfl (i * 5 + 2) (by omega))
      have s3 := (lo.cell (p := ⟨pb, po + (i * 5 + 3), none⟩) (h2.lt (by omega) rfl)).trans (h2.cells pb po rfl (i * 5 + 3) (by omega))
      have s4 := (lo.cell (p := ⟨pb, po + (i * 5 + 4), none⟩) (h2.lt (by omega) rfl)).trans (h2.cells pb po rfl (i * 5 + 4) (by omega))
      rw [e0] at s0
      rw [e1, ← Nat.add_assoc] at s1
      rw [e2, ← Nat.add_assoc] at s2
      rw [e3, ← Nat.add_assoc] at s3
      rw [e4, ← Nat.add_assoc] at s4
      clear e0 e1 e2 e3 e4 lo
      have hd := does_any H hpar kind who dst addr word b1 b2 b3 b4
      simp only [stepC] at hd
      have HD := Lib.hid hd
      clear hd H hpar b1 b2 b3 b4
      go_wp2_with fail
      refine HD.out.mono ?_
      rintro e W2 ⟨rfl, sh', att', ratt', held', tk', H2, hp2⟩
      have HP2 : PlayAt w p X Y W2 := ⟨_, _, _, _, _, H2, hp2⟩
      clear H2 hp2 HD s0 s1 s2 s3 s4
      go_wp2_with fail
      go_roundw
      case rel => exact ⟨i + 1, by omega, by go_num, HP2⟩
      case measure => simp [intOf]; omega
    · have hlt' : ¬ (i : Int) < (n : Int) := by omega
      have HP : PlayAt w p X Y wr := ⟨_, _, _, _, _, H, hpar⟩
      clear H hpar h2 hV
      go_wp2_with fail
      go_loopw [10] (fun v10 wr => ∃ i : Nat, i ≤ 3 ∧ v10 = .int .i64 i ∧ PlayAt w p X Y wr) (fun v10 _ => 3 - (intOf v10).toNat)
      case atStart => exact ⟨0, by omega, rfl, HP⟩
      case round =>
        clear HP
        obtain ⟨i, hi, rfl, sh, att, ratt, held, tk, H, hpar⟩ := hrel
        by_cases hi3 : i < 3
        · have hi3' : (i : Int) < 3 := by omega
          have HSM := Lib.hid H.same
          have HPAR := Lib.hid hpar
          have htk := H.tkw
          have P1 := H.pl
          clear H hpar
          have c3 := P1.head.cell (3 + i) (head_att hi3)
          have HLT := Lib.hid (show ∀ g, Foot X.foot att g → g < wr.heap.size from fun g hg => (P1.m.out hg).2)
          have HRL := Lib.hid (show ∀ g, Foot Y.foot ratt g → g < wr.heap.size from fun g hg => (P1.r.out hg).2)
          have hpW := P1.head.lt
          have hwW := P1.low.size
          go_wp2_with fail
          have hc := pstateN P1.m i
          have hlen := P1.m.len i
          obtain ⟨s, hs⟩ : ∃ s, stG (att i) = s := ⟨_, rfl⟩
          rw [hs] at hc hlen
          clear hs c3
          refine hc.mono ?_
          clear hc
          rintro e W2 ⟨rv, wv, rfl, TN⟩
          replace P1 := P1.free0 TN.u
          have hpl := P1.head.lt
          have hlo := P1.low.size
          obtain ⟨W3, hW3⟩ : ∃ W3, W2.alloc (.cells (rheadV zeroS (.slice none 0 0) (.slice none 0 0)).toArray 60) = W3 := ⟨_, rfl⟩
          have uE : Upd [] W2 W3 := by rw [← hW3]; exact (Upd.refl [] _).alloc _
          have B1 : Blk W3 W2.heap.size (rheadV zeroS (.slice none 0 0) (.slice none 0 0)) 60 := by rw [← hW3]; exact Blk.new W2 _ _
          obtain ⟨pr, nr, cr, hrv, hnr⟩ := TN.rd.form3
          obtain ⟨pw, nw, cw, hwv, hnw⟩ := TN.wr.form3
          have u4 := nine_upd (S := []) uE (b := W2.heap.size) (.inr (Nat.le_refl _)) (.int .u64 s.snap) rv wv (.int .i64 s.phase) (.int .i64 s.thn) (.int .u64 s.addr) (.int .u64 s.word) (.int .u64 s.found) (.int .i64 s.at_)
          have B4 := nine_set B1 s rv wv
          have HTN := Lib.hid TN
          simp only [rheadV, zeroS] at hW3
          clear TN
          subst hrv
          subst hwv
          subst hnr
          subst hnw
          simp only [stateV]
          have q0 := (B1).cell 0 rfl
          have q1 := (B1).cell 1 rfl
          have q2 := (B1).cell 2 rfl
          have q3 := (B1).cell 3 rfl
          have q4 := (B1).cell 4 rfl
          have q5 := (B1).cell 5 rfl
          have q6 := (B1).cell 6 rfl
          have q7 := (B1).cell 7 rfl
          have q8 := (B1).cell 8 rfl
          have g0 := (B1).free 0
          have g1 := (B1).free 1
          have g2 := (B1).free 2
          have g3 := (B1).free 3
          have g4 := (B1).free 4
          have g5 := (B1).free 5
          have g6 := (B1).free 6
          have g7 := (B1).free 7
          have g8 := (B1).free 8
          go_wp2_with fail
          clear q0 q1 q2 q3 q4 q5 q6 q7 q8 g0 g1 g2 g3 g4 g5 g6 g7 g8
          clear B1 hW3 uE
          generalize ((((((((((W3.setCell ⟨W2.heap.size, 0, none⟩ (.int .u64 s.snap)).setCell ⟨W2.heap.size, 1, none⟩ (.slice pr s.reads.length cr)).setCell ⟨W2.heap.size, 2, none⟩ (.slice pw s.writes.length cw)).setCell ⟨W2.heap.size, 3, none⟩ (.int .i64 s.phase)).setCell ⟨W2.heap.size, 4, none⟩ (.int .i64 s.thn)).setCell ⟨W2.heap.size, 5, none⟩ (.int .u64 s.addr)).setCell ⟨W2.heap.size, 6, none⟩ (.int .u64 s.word)).setCell ⟨W2.heap.size, 7, none⟩ (.int .u64 s.found)).setCell ⟨W2.heap.size, 8, none⟩ (.int .i64 s.at_))) = W4 at u4 B4 ⊢
          have P4 := P1.free0 u4
          have R4 := HTN.out.rd.upd u4 (by simp)
          have V4 := HTN.out.wr.upd u4 (by simp)
          have HRX := Lib.hid (show ∀ g, (Value.slice pr s.reads.length cr).ownBlock = some g ∨ (Value.slice pw s.writes.length cw).ownBlock = some g → wr.heap.size ≤ g ∧ g < W2.heap.size from fun g hg => by
            rcases hg with k | k
            · exact ⟨HTN.out.nr g k, HTN.out.rd.lt k⟩
            · exact ⟨HTN.out.nw g k, HTN.out.wr.lt k⟩)
          have hap := Lib.hid HTN.out.ap
          clear P1 u4 HTN
          have q0 := (B4).cell 0 rfl
          have q1 := (B4).cell 1 rfl
          have q2 := (B4).cell 2 rfl
          have q3 := (B4).cell 3 rfl
          have q4 := (B4).cell 4 rfl
          have q5 := (B4).cell 5 rfl
          have q6 := (B4).cell 6 rfl
          have q7 := (B4).cell 7 rfl
          have q8 := (B4).cell 8 rfl
          have g0 := (B4).free 0
          have g1 := (B4).free 1
          have g2 := (B4).free 2
          have g3 := (B4).free 3
          have g4 := (B4).free 4
          have g5 := (B4).free 5
          have g6 := (B4).free 6
          have g7 := (B4).free 7
          have g8 := (B4).free 8
          have HP4 := Lib.hid P4
          have HR4 := Lib.hid R4
          have HV4 := Lib.hid V4
          clear P4 R4 V4
          go_wp2_with fail
          clear q0 q1 q2 q3 q4 q5 q6 q7 q8 g0 g1 g2 g3 g4 g5 g6 g7 g8
          have hc := grown_code W4 s _ _ _ _ HR4.out HV4.out hap.out (by omega) (by omega)
          simp only [stateV] at hc
          refine hc.mono ?_
          clear hc
          rintro e W5 ⟨rfl, u5⟩
          have hg : ∀ g ∈ (Value.slice pr s.reads.length cr).ownBlock.toList ++ (Value.slice pw s.writes.length cw).ownBlock.toList, wr.heap.size ≤ g ∧ g < W2.heap.size := fun g hg => HRX.out g (by simpa using hg)
          have P5 := HP4.out.scratchL u5 (fun b hb => by have := (hg b hb).1; omega) (fun b hb e => by have := HLT.out _ e; have := (hg b hb).1; omega) (fun b hb e => by have := HRL.out _ e; have := (hg b hb).1; omega) (fun hb => by have := (hg p hb).1; omega)
          have H5 : PS w p X Y sh att ratt held tk W5 := ⟨P5, HSM.out, htk⟩
          have HP5 := Lib.hid H5
          clear u5 hg P5 B4 H5 HP4 HR4 HV4
          go_wp2_with fail
          refine (alike_code HP5.out i hi3).mono ?_
          rintro e W6 ⟨rfl, H6⟩
          have HP6 : PlayAt w p X Y W6 := ⟨_, _, _, _, _, H6, HPAR.out⟩
          clear H6 HP5
          go_wp2_with fail
          go_roundw
          case rel => exact ⟨i + 1, by omega, by go_num, HP6⟩
          case measure => simp [intOf]; omega
        · have hi3' : ¬ (i : Int) < 3 := by omega
          have u1 := H.pl.low
          clear H hpar
          go_wp2_with fail
          refine (known07_walk wr).mono ?_
          rintro e W7 ⟨rfl, u7⟩
          go_wp2_with fail
          exact ⟨rfl, u1.trans u7⟩
theorem plays7_walk (w : World) (p0 p2 : Option Addr) (zs : List Int) (c0 c2 n : Nat) (V : Nat → Value) (c : Int) (h0 : SlI w .u64 p0 zs) (hz : ∀ v ∈ zs, 0 ≤ v ∧ v < 18446744073709551616) (hm : zs.length ≤ maxLen) (hc : 0 ≤ c ∧ c < 18446744073709551616) (h2 : SlV w p2 (n * 5) V) (hV : StepsAt n V) (hl2 : n ≤ 4611686018427387904) :
    Calls Try.prog 7 #[.slice p0 zs.length c0, .int .u64 c, .slice p2 n c2] w fun e w' => e = .returned (.bool true) ∧ Upd [] w w' := by
  by_cases hb : zs.length < 1 ∨ 65536 < zs.length
  · exact plays7_bad w p0 p2 zs.length c0 n c2 c hb hm
  · exact plays7_good w p0 p2 zs c0 c2 n V c h0 hz (by omega) (by omega) hc h2 hV hl2
end Go.Proofs.Ythfeljongackcaa
set_option linter.unusedSimpArgs false
set_option linter.unusedVariables false
set_option maxRecDepth 100000
namespace Go.Proofs.Ythfeljongackcaa
open Go.RowKit
open Go.Maps


theorem attF0 (o : Option One) : attF (fun _ => none) 0 o = upd1 (fun _ => none) 0 o := by
  cases o with
  | some t => rfl
  | none => funext j; unfold attF upd1; split <;> rfl
theorem SlC.form {w : World} {v : Value} {l : List (Int × Int)} (h : SlC w v l) : ∃ p c, v = .slice p l.length c := let ⟨p, c, e, _⟩ := h; ⟨p, c, e⟩
set_option maxHeartbeats 1000000 in
theorem from7_bad (w : World) (s : AS) (rv wv : Value) (hr : SlC w rv s.reads) (hw : SlC w wv s.writes) (p0 : Option Addr) (n0 c0 : Nat) (c steps : Int) (hn : n0 < 1 ∨ 65536 < n0) (hm : n0 ≤ maxLen) :
    Calls Try.prog 8 #[stateV s rv wv, .slice p0 n0 c0, .int .u64 c, .int .i64 steps] w fun e w' => e = .returned (.bool true) ∧ Upd [] w w' := by
  obtain ⟨pr, cr, rfl⟩ := hr.form
  obtain ⟨pw, cw, rfl⟩ := hw.form
  have u0 := (Upd.refl [] w).alloc (.cells (rheadV s (.slice pr s.reads.length cr) (.slice pw s.writes.length cw)).toArray 60)
  simp only [rheadV] at u0
  simp only [stateV]
  clear hr hw
  refine calls_all fun K hK => ?_
  go_enter Try.func8, Try.ntmps8
  go_wp2_with fail
  refine (play7_bad _ p0 n0 c0 c hn hm).mono ?_
  rintro e W1 ⟨p, rfl, k0, u1⟩
  replace u0 := u0.trans u1
  clear u1
  go_wp2_with fail
  refine (known07_walk W1).mono ?_
  rintro e W2 ⟨rfl, u2⟩
  go_wp2_with fail
  exact ⟨rfl, u0.trans u2⟩
set_option maxHeartbeats 2000000 in
theorem from7_good (w : World) (s : AS) (rv wv : Value) (hr : SlC w rv s.reads) (hw : SlC w wv s.writes) (hwd : Wide s) (hlr : (s.reads.length + 31) * 16 ≤ 140737488355328) (hlw : (s.writes.length + 31) * 16 ≤ 140737488355328)
    (p0 : Option Addr) (zs : List Int) (c0 : Nat) (c steps : Int) (h0 : SlI w .u64 p0 zs) (hz : ∀ v ∈ zs, 0 ≤ v ∧ v < 18446744073709551616) (hn : 1 ≤ zs.length) (hn2 : zs.length ≤ 65536) (hc : 0 ≤ c ∧ c < 18446744073709551616) :
    Calls Try.prog 8 #[stateV s rv wv, .slice p0 zs.length c0, .int .u64 c, .int .i64 steps] w fun e w' => e = .returned (.bool true) ∧ Upd [] w w' := by
  obtain ⟨pr, cr, rfl⟩ := hr.form
  obtain ⟨pw, cw, rfl⟩ := hw.form
  obtain ⟨W1, hW1⟩ : ∃ W1, w.alloc (.cells (rheadV s (.slice pr s.reads.length cr) (.slice pw s.writes.length cw)).toArray 60) = W1 := ⟨_, rfl⟩
  have u1 : Upd [] w W1 := by rw [← hW1]; exact (Upd.refl [] _).alloc _
  have B0 : Blk W1 w.heap.size (rheadV s (.slice pr s.reads.length cr) (.slice pw s.writes.length cw)) 60 := by rw [← hW1]; exact Blk.new w _ _
  have h01 := h0.upd u1 (by simp)
  replace hr := hr.upd0 u1
  replace hw := hw.upd0 u1
  have HWD := Lib.hid hwd
  simp only [rheadV] at hW1
  simp only [stateV]
  clear h0 hwd
  refine calls_all fun K hK => ?_
  go_enter Try.func8, Try.ntmps8
  go_wp2_with fail
  clear hW1
  refine (play7_ok W1 p0 zs c0 c h01 hz hn hn2 hc).mono ?_
  rintro e Wp ⟨p, X, Y, rfl, H⟩
  have k0 := H.pl.head.cell 0 rfl
  clear h01 hz hn hn2 hc
  have hlow := H.pl.low
  have hWp1 := hlow.size
  have B02 := B0.upd hlow (by simp)
  have hr2 := hr.upd0 hlow
  have hw2 := hw.upd0 hlow
  have P1 := H.pl
  have htk := H.tkw
  clear H hlow
  have HLT := Lib.hid (show ∀ g, Foot X.foot (fun _ => none) g → g < Wp.heap.size from fun g hg => (P1.m.out hg).2)
  have HRL := Lib.hid (show ∀ g, Foot Y.foot (fun _ => none) g → g < Wp.heap.size from fun g hg => (P1.r.out hg).2)
  have hb0 : w.heap.size < W1.heap.size := B0.lt
  have hpW0 := P1.head.lt
  have q0 := (B02).cell 0 rfl
  have q1 := (B02).cell 1 rfl
  have q2 := (B02).cell 2 rfl
  have q3 := (B02).cell 3 rfl
  have q4 := (B02).cell 4 rfl
  have q5 := (B02).cell 5 rfl
  have q6 := (B02).cell 6 rfl
  have q7 := (B02).cell 7 rfl
  have q8 := (B02).cell 8 rfl
  have g0 := (B02).free 0
  have g1 := (B02).free 1
  have g2 := (B02).free 2
  have g3 := (B02).free 3
  have g4 := (B02).free 4
  have g5 := (B02).free 5
  have g6 := (B02).free 6
  have g7 := (B02).free 7
  have g8 := (B02).free 8
  go_wp2_with fail
  clear q0 q1 q2 q3 q4 q5 q6 q7 q8 g0 g1 g2 g3 g4 g5 g6 g7 g8
  clear k0
  refine (twin_code Wp s _ _ hr2 hw2 (by omega) (by omega)).mono ?_
  rintro e W2 ⟨rv, wv, rfl, TN⟩
  replace P1 := P1.free0 TN.u
  have hpl := P1.head.lt
  have hlo := P1.low.size
  obtain ⟨W3, hW3⟩ : ∃ W3, W2.alloc (.cells (rheadV zeroS (.slice none 0 0) (.slice none 0 0)).toArray 60) = W3 := ⟨_, rfl⟩
  have uE : Upd [] W2 W3 := by rw [← hW3]; exact (Upd.refl [] _).alloc _
  have B1 : Blk W3 W2.heap.size (rheadV zeroS (.slice none 0 0) (.slice none 0 0)) 60 := by rw [← hW3]; exact Blk.new W2 _ _
  obtain ⟨pr2, nr, cr2, hrv, hnr⟩ := TN.rd.form3
  obtain ⟨pw2, nw, cw2, hwv, hnw⟩ := TN.wr.form3
  have u4 := nine_upd (S := []) uE (b := W2.heap.size) (.inr (Nat.le_refl _)) (.int .u64 s.snap) rv wv (.int .i64 s.phase) (.int .i64 s.thn) (.int .u64 s.addr) (.int .u64 s.word) (.int .u64 s.found) (.int .i64 s.at_)
  have B4 := nine_set B1 s rv wv
  have HTN := Lib.hid TN
  simp only [rheadV, zeroS] at hW3
  clear TN
  subst hrv
  subst hwv
  subst hnr
  subst hnw
  simp only [stateV]
  have q0 := (B1).cell 0 rfl
  have q1 := (B1).cell 1 rfl
  have q2 := (B1).cell 2 rfl
  have q3 := (B1).cell 3 rfl
  have q4 := (B1).cell 4 rfl
  have q5 := (B1).cell 5 rfl
  have q6 := (B1).cell 6 rfl
  have q7 := (B1).cell 7 rfl
  have q8 := (B1).cell 8 rfl
  have g0 := (B1).free 0
  have g1 := (B1).free 1
  have g2 := (B1).free 2
  have g3 := (B1).free 3
  have g4 := (B1).free 4
  have g5 := (B1).free 5
  have g6 := (B1).free 6
  have g7 := (B1).free 7
  have g8 := (B1).free 8
  go_wp2_with fail
  clear q0 q1 q2 q3 q4 q5 q6 q7 q8 g0 g1 g2 g3 g4 g5 g6 g7 g8
  clear B1 hW3 uE
  generalize ((((((((((W3.setCell ⟨W2.heap.size, 0, none⟩ (.int .u64 s.snap)).setCell ⟨W2.heap.size, 1, none⟩ (.slice pr2 s.reads.length cr2)).setCell ⟨W2.heap.size, 2, none⟩ (.slice pw2 s.writes.length cw2)).setCell ⟨W2.heap.size, 3, none⟩ (.int .i64 s.phase)).setCell ⟨W2.heap.size, 4, none⟩ (.int .i64 s.thn)).setCell ⟨W2.heap.size, 5, none⟩ (.int .u64 s.addr)).setCell ⟨W2.heap.size, 6, none⟩ (.int .u64 s.word)).setCell ⟨W2.heap.size, 7, none⟩ (.int .u64 s.found)).setCell ⟨W2.heap.size, 8, none⟩ (.int .i64 s.at_))) = W4 at u4 B4 ⊢
  have P4 := P1.free0 u4
  have R4 := HTN.out.rd.upd u4 (by simp)
  have V4 := HTN.out.wr.upd u4 (by simp)
  have uT := HTN.out.u.trans u4
  have B04 := B02.upd uT (by simp)
  have hr4 := hr2.upd0 uT
  have hw4 := hw2.upd0 uT
  have hsz4 := B4.lt
  have hWtb : Wp.heap.size ≤ W2.heap.size := HTN.out.u.size
  have HRX := Lib.hid (show ∀ g, (Value.slice pr2 s.reads.length cr2).ownBlock = some g ∨ (Value.slice pw2 s.writes.length cw2).ownBlock = some g → Wp.heap.size ≤ g ∧ g < W2.heap.size from fun g hg => by
    rcases hg with k | k
    · exact ⟨HTN.out.nr g k, HTN.out.rd.lt k⟩
    · exact ⟨HTN.out.nw g k, HTN.out.wr.lt k⟩)
  have hap := Lib.hid HTN.out.ap
  clear P1 u4 uT HTN B02 hr2 hw2
  have ud := (Upd.refl [] W4).drew
  replace P4 := P4.free0 ud
  replace R4 := R4.upd ud (by simp)
  replace V4 := V4.upd ud (by simp)
  replace B4 := B4.drew
  replace B04 := B04.drew
  replace hr4 := hr4.upd0 ud
  replace hw4 := hw4.upd0 ud
  have hsz4 : W2.heap.size < W4.drew.heap.size := B4.lt
  generalize W2.heap.size = tb at *
  refine wp_region_br (fun w' => w'.cell? ⟨tb, 0, none⟩ = some (.int .u64 s.snap) ∧ w'.cell? ⟨tb, 1, none⟩ = some (.slice pr2 s.reads.length cr2) ∧ w'.cell? ⟨tb, 2, none⟩ = some (.slice pw2 s.writes.length cw2) ∧ w'.cell? ⟨tb, 3, none⟩ = some (.int .i64 s.phase) ∧ w'.cell? ⟨tb, 4, none⟩ = some (.int .i64 s.thn) ∧ w'.cell? ⟨tb, 5, none⟩ = some (.int .u64 s.addr) ∧ w'.cell? ⟨tb, 6, none⟩ = some (.int .u64 s.word) ∧ w'.cell? ⟨tb, 7, none⟩ = some (.int .u64 s.found) ∧ w'.cell? ⟨tb, 8, none⟩ = some (.int .i64 s.at_) ∧ w'.cell? ⟨p, 0, none⟩ = some (.pointer (some ⟨X.ra, 0, none⟩)) ∧ w'.cell? ⟨p, 1, none⟩ = some (.pointer (some ⟨X.ca, 0, none⟩))) [0, 1, 2, 3, 4, 5, 6, 7, 8, 9, 10, 11, 12, 13, 14] (by kernel_rfl) (by kernel_rfl) ⟨B4.cell 0 rfl, B4.cell 1 rfl, B4.cell 2 rfl, B4.cell 3 rfl, B4.cell 4 rfl, B4.cell 5 rfl, B4.cell 6 rfl, B4.cell 7 rfl, B4.cell 8 rfl, P4.head.cell 0 rfl, P4.head.cell 1 rfl⟩ ?_
  clear ud
  generalize W4.drew = W5 at P4 R4 V4 B4 B04 hr4 hw4 hsz4 ⊢
  repeat
    first
      | (refine wpB_skip rfl (by kernel_rfl) (by rfl) ?_)
      | ((refine wpB_take (v := ?_) rfl rfl (by kernel_rfl) (by rfl) ?_ ?_); rotate_left 1; (· ((intro w hSw; (try dsimp only at hSw); go_simp); try with_reducible rfl)))
    try simp only [Act.put, List.setIfInBounds_toArray, List.set_cons_zero, List.set_cons_succ]
  refine wpB_eff rfl (by kernel_rfl) (by rfl) (fun K2 hK2 => ?_)
  go_simp
  have hc := pfrom P4.m 0 R4.slc V4.slc R4.nil V4.nil HWD.out (by omega) (by omega)
  simp only [stateV] at hc
  refine hc.mono ?_
  clear hc
  rintro e W6 ⟨o, c1, rfl, hF⟩
  have hF := PFrom.all P4.m hF
  obtain ⟨m6, mv6, is6, hc6, st6⟩ := hF
  rw [attF0] at m6 mv6
  have P6 := P4.prog m6 mv6
  obtain ⟨S6, hS6, u6⟩ := mv6.u
  have B6 := B4.upd u6 (fun e => by have := HLT.out _ (hS6 _ e); omega)
  have R6 := R4.upd u6 (fun g hg e => by have := HLT.out _ (hS6 _ hg); have := (HRX.out g (.inl e)).1; omega)
  have V6 := V4.upd u6 (fun g hg e => by have := HLT.out _ (hS6 _ hg); have := (HRX.out g (.inr e)).1; omega)
  have HMV6 := Lib.hid mv6
  have hX0 : ∀ g ∈ S6, W1.heap.size ≤ g := fun g hg => (P4.m.out (hS6 g hg)).1
  have B06 := B04.upd u6 (fun e => by have := hX0 _ e; omega)
  have hr6 := hr.upd0 P6.low
  have hw6 := hw.upd0 P6.low
  have HIS := Lib.hid is6
  have HC := Lib.hid hc6
  have HST := Lib.hid st6
  have hs6 := u6.size
  refine hK2.out _ _ ⟨B6.cell 0 rfl, B6.cell 1 rfl, B6.cell 2 rfl, B6.cell 3 rfl, B6.cell 4 rfl, B6.cell 5 rfl, B6.cell 6 rfl, B6.cell 7 rfl, B6.cell 8 rfl, P6.head.cell 0 rfl, P6.head.cell 1 rfl⟩ ?_
  clear hK2 K2 P4 R4 V4 B4 B04 hr4 hw4 m6 mv6 is6 hc6 st6 hS6 u6 hX0
  repeat
    first
      | (refine wpB_skip rfl (by kernel_rfl) (by rfl) ?_)
      | ((refine wpB_take (v := ?_) rfl rfl (by kernel_rfl) (by rfl) ?_ ?_); rotate_left 1; (· ((intro w hSw; (try dsimp only at hSw); go_simp); try with_reducible rfl)))
    try simp only [Act.put, List.setIfInBounds_toArray, List.set_cons_zero, List.set_cons_succ]
  refine wpB_end (by kernel_rfl) (NoPanic.normal ?_)
  have q0 := (B06).cell 0 rfl
  have q1 := (B06).cell 1 rfl
  have q2 := (B06).cell 2 rfl
  have q3 := (B06).cell 3 rfl
  have q4 := (B06).cell 4 rfl
  have q5 := (B06).cell 5 rfl
  have q6 := (B06).cell 6 rfl
  have q7 := (B06).cell 7 rfl
  have q8 := (B06).cell 8 rfl
  have g0 := (B06).free 0
  have g1 := (B06).free 1
  have g2 := (B06).free 2
  have g3 := (B06).free 3
  have g4 := (B06).free 4
  have g5 := (B06).free 5
  have g6 := (B06).free 6
  have g7 := (B06).free 7
  have g8 := (B06).free 8
  have HP6 := Lib.hid P6
  have HR6 := Lib.hid hr6
  have HW6 := Lib.hid hw6
  clear P6 hr6 hw6
  go_wp2_with fail
  clear q0 q1 q2 q3 q4 q5 q6 q7 q8 g0 g1 g2 g3 g4 g5 g6 g7 g8
  have hc := rfromP HP6.out.r 0 HR6.out HW6.out HWD.out (by omega) (by omega)
  simp only [stateV] at hc
  refine hc.mono ?_
  clear hc
  rintro e W7 ⟨o2, c2, rfl, hF⟩
  have hF := RFromP.all HP6.out.r hF
  obtain ⟨m7, mv7, is7, hc7, st7⟩ := hF
  rw [attF0] at m7 mv7
  have P7 := HP6.out.doc m7 mv7
  obtain ⟨S7, hS7, u7⟩ := mv7.u
  have B7 := B6.upd u7 (fun e => by have := HRL.out _ (hS7 _ e); omega)
  have R7 := R6.upd u7 (fun g hg e => by have := HRL.out _ (hS7 _ hg); have := (HRX.out g (.inl e)).1; omega)
  have V7 := V6.upd u7 (fun g hg e => by have := HRL.out _ (hS7 _ hg); have := (HRX.out g (.inr e)).1; omega)
  have HMV7 := Lib.hid mv7
  have hX0 : ∀ g ∈ S7, W1.heap.size ≤ g := fun g hg => (HP6.out.r.out (hS7 g hg)).1
  have B07 := B06.upd u7 (fun e => by have := hX0 _ e; omega)
  have hr7 := hr.upd0 P7.low
  have hw7 := hw.upd0 P7.low
  have hoo : o.isSome = o2.isSome := by
    have h1 := HIS.out
    have h2 := is7
    cases o <;> cases o2 <;> simp_all
  have hcc : c1 = c2 := by rw [HC.out, hc7, hoo]
  have hss : stO o = stO o2 := by rw [HST.out, st7, hoo]
  subst hcc
  have HSS := Lib.hid hss
  have E1 := eql_attp (ptrO o)
  have E2 := eql_rattp (ptrO o2)
  have hn := none_eq hss
  generalize (ptrO o).isNone = b1 at E1 hn
  generalize (ptrO o2).isNone = b2 at E2 hn
  subst hn
  have hbb : (b1 == b1) = true := by simp
  have hs7 := u7.size
  clear HP6 HR6 HW6 B6 R6 V6 B06 m7 mv7 is7 hc7 st7 hS7 u7 hX0 hoo hss HIS HC HST
  have HP7 := Lib.hid P7
  have HR7 := Lib.hid R7
  have HV7 := Lib.hid V7
  have HA7 := Lib.hid hr7
  have HB7 := Lib.hid hw7
  clear P7 R7 V7 hr7 hw7
  have x0 := B7.cell 0 rfl
  have x1 := B7.cell 1 rfl
  have x2 := B7.cell 2 rfl
  have x3 := B7.cell 3 rfl
  have x4 := B7.cell 4 rfl
  have x5 := B7.cell 5 rfl
  have x6 := B7.cell 6 rfl
  have x7 := B7.cell 7 rfl
  have x8 := B7.cell 8 rfl
  have q0 := (B07).cell 0 rfl
  have q1 := (B07).cell 1 rfl
  have q2 := (B07).cell 2 rfl
  have q3 := (B07).cell 3 rfl
  have q4 := (B07).cell 4 rfl
  have q5 := (B07).cell 5 rfl
  have q6 := (B07).cell 6 rfl
  have q7 := (B07).cell 7 rfl
  have q8 := (B07).cell 8 rfl
  have g0 := (B07).free 0
  have g1 := (B07).free 1
  have g2 := (B07).free 2
  have g3 := (B07).free 3
  have g4 := (B07).free 4
  have g5 := (B07).free 5
  have g6 := (B07).free 6
  have g7 := (B07).free 7
  have g8 := (B07).free 8
  go_wp2_with (first | (go_at_call 12; refine (num07 _ _).mono ?_; rintro e w' ⟨rfl, rfl⟩))
  clear x0 x1 x2 x3 x4 x5 x6 x7 x8
  clear q0 q1 q2 q3 q4 q5 q6 q7 q8 g0 g1 g2 g3 g4 g5 g6 g7 g8
  have hc := same_state W7 s _ _ _ _ HR7.out.slc HV7.out.slc HA7.out HB7.out (by omega) (by omega)
  simp only [stateV] at hc
  refine hc.mono ?_
  clear hc
  rintro e W8 ⟨rfl, u8⟩
  have P8 := HP7.out.free0 u8
  have R8 := HR7.out.upd u8 (by simp)
  have V8 := HV7.out.upd u8 (by simp)
  have B8 := B7.upd u8 (by simp)
  clear HP7 HR7 HV7 HA7 HB7 B7 B07 u8
  have HP8 := Lib.hid P8
  have HR8 := Lib.hid R8
  have HV8 := Lib.hid V8
  clear P8 R8 V8
  have q0 := (B8).cell 0 rfl
  have q1 := (B8).cell 1 rfl
  have q2 := (B8).cell 2 rfl
  have q3 := (B8).cell 3 rfl
  have q4 := (B8).cell 4 rfl
  have q5 := (B8).cell 5 rfl
  have q6 := (B8).cell 6 rfl
  have q7 := (B8).cell 7 rfl
  have q8 := (B8).cell 8 rfl
  have g0 := (B8).free 0
  have g1 := (B8).free 1
  have g2 := (B8).free 2
  have g3 := (B8).free 3
  have g4 := (B8).free 4
  have g5 := (B8).free 5
  have g6 := (B8).free 6
  have g7 := (B8).free 7
  have g8 := (B8).free 8
  go_wp2_with fail
  clear q0 q1 q2 q3 q4 q5 q6 q7 q8 g0 g1 g2 g3 g4 g5 g6 g7 g8
  have hc := grown_code W8 s _ _ _ _ HR8.out HV8.out hap.out hlr hlw
  simp only [stateV] at hc
  refine hc.mono ?_
  clear hc
  rintro e W9 ⟨rfl, u9⟩
  have hg : ∀ g ∈ (Value.slice pr2 s.reads.length cr2).ownBlock.toList ++ (Value.slice pw2 s.writes.length cw2).ownBlock.toList, Wp.heap.size ≤ g ∧ g < tb := fun g hg => HRX.out g (by simpa using hg)
  have hpWp : p < Wp.heap.size := hpW0
  have P9 := HP8.out.scratchL u9 (fun b hb => by have := (hg b hb).1; omega) (fun b hb => HMV6.out.not (fun e => by have := HLT.out _ e; have := (hg b hb).1; omega) (by have := (hg b hb).2; omega)) (fun b hb => HMV7.out.not (fun e => by have := HRL.out _ e; have := (hg b hb).1; omega) (by have := (hg b hb).2; omega)) (fun hb => by have := (hg p hb).1; omega)
  clear u9 hg HP8 HR8 HV8 B8
  go_wp2_with fail
  have ud := (Upd.refl [] W9).drew
  replace P9 := P9.free0 ud
  refine wp_region_br (fun w' => True) [0, 1, 2, 3, 4, 5, 6, 8, 9, 7, 10, 11] (by kernel_rfl) (by kernel_rfl) trivial ?_
  clear ud
  generalize W9.drew = W12 at P9 ⊢
  repeat
    first
      | (refine wpB_skip rfl (by kernel_rfl) (by rfl) ?_)
      | ((refine wpB_take (v := ?_) rfl rfl (by kernel_rfl) (by rfl) ?_ ?_); rotate_left 1; (· ((intro w hSw; (try dsimp only at hSw); go_simp); try with_reducible rfl)))
    try simp only [Act.put, List.setIfInBounds_toArray, List.set_cons_zero, List.set_cons_succ]
  have q3 := P9.head.cell (3 + 0) (head_att (by decide))
  have g3 := P9.head.free (3 + 0)
  refine wpB_eff rfl (by kernel_rfl) (by rfl) (fun K2 hK2 => ?_)
  go_simp
  refine hK2.out _ _ trivial ?_
  clear hK2 K2 q3 g3
  replace P9 := P9.put (3 + 0) (.pointer (ptrO o))
  rw [head_set_att (by decide)] at P9
  simp only [Nat.add_zero] at P9
  generalize W12.setCell ⟨p, 3, none⟩ (.pointer (ptrO o)) = Wa at P9 ⊢
  repeat
    first
      | (refine wpB_skip rfl (by kernel_rfl) (by rfl) ?_)
      | ((refine wpB_take (v := ?_) rfl rfl (by kernel_rfl) (by rfl) ?_ ?_); rotate_left 1; (· ((intro w hSw; (try dsimp only at hSw); go_simp); try with_reducible rfl)))
    try simp only [Act.put, List.setIfInBounds_toArray, List.set_cons_zero, List.set_cons_succ]
  have q3 := P9.head.cell (6 + 0) (head_ratt (by decide))
  have g3 := P9.head.free (6 + 0)
  refine wpB_eff rfl (by kernel_rfl) (by rfl) (fun K2 hK2 => ?_)
  go_simp
  refine hK2.out _ _ trivial ?_
  clear hK2 K2 q3 g3
  replace P9 := P9.put (6 + 0) (.pointer (ptrO o2))
  rw [head_set_ratt (by decide)] at P9
  simp only [Nat.add_zero] at P9
  generalize Wa.setCell ⟨p, 6, none⟩ (.pointer (ptrO o2)) = Wb at P9 ⊢
  refine wpB_end (by kernel_rfl) (NoPanic.normal ?_)
  have HP : PlayAt W1 p X Y Wb := ⟨_, _, _, _, _, ⟨P9, fun j => by
    by_cases hj : j = 0
    · subst hj; rw [upd1_same, upd1_same]; exact HSS.out
    · rw [upd1_other _ _ hj, upd1_other _ _ hj], htk⟩, rfl⟩
  clear P9
  go_wp2_with fail
  go_loopw [16] (fun v16 wr => ∃ i : Nat, v16 = .int .i64 i ∧ i ≤ 300 ∧ PlayAt W1 p X Y wr) (fun v16 _ => 300 - (intOf v16).toNat)
  case atStart => exact ⟨0, rfl, by omega, HP⟩
  case round =>
    clear HP
    obtain ⟨i, rfl, hi, sh, att, ratt, held, tk, H, hpar⟩ := hrel
    by_cases hlt : (i : Int) < steps ∧ i < 300
    · obtain ⟨h1, h2⟩ := hlt
      have hd1 : decide ((i : Int) < steps) = true := by simpa using h1
      have hd2 : decide ((i : Int) < 300) = true := by simp; omega
      have hd := does_any H hpar 5 0 0 0 0 (by omega) (by omega) (by omega) (by omega)
      simp only [stepC] at hd
      have HD := Lib.hid hd
      clear hd H hpar h1
      go_wp2_with fail
      refine HD.out.mono ?_
      rintro e W2 ⟨rfl, sh', att', ratt', held', tk', H2, hp2⟩
      have HP2 : PlayAt W1 p X Y W2 := ⟨_, _, _, _, _, H2, hp2⟩
      clear H2 hp2 HD
      go_wp2_with fail
      go_roundw
      case rel => exact ⟨i + 1, by go_num, by omega, HP2⟩
      case measure => simp [intOf]; omega
    · have HH := Lib.hid H
      have hdd : (decide ((i : Int) < steps) = true ∧ decide ((i : Int) < 300) = false) ∨ decide ((i : Int) < steps) = false := by
        by_cases h1 : (i : Int) < steps
        · exact .inl ⟨by simpa using h1, by simp; omega⟩
        · exact .inr (by simpa using h1)
      clear H hlt
      rcases hdd with ⟨hd1, hd2⟩ | hd1
      all_goals
        go_wp2_with fail
        refine (alike_code HH.out 0 (by decide)).mono ?_
        rintro e W13 ⟨rfl, H13⟩
        have hd := does_any H13 hpar 6 0 0 0 0 (by omega) (by omega) (by omega) (by omega)
        simp only [stepC] at hd
        have HD := Lib.hid hd
        clear hd H13 HH
        go_wp2_with fail
        refine HD.out.mono ?_
        rintro e W14 ⟨rfl, sh', att', ratt', held', tk', H2, hp2⟩
        have u14 := u1.trans H2.pl.low
        clear H2 hp2 HD
        go_wp2_with fail
        refine (known07_walk W14).mono ?_
        rintro e W15 ⟨rfl, u15⟩
        go_wp2_with fail
        exact ⟨rfl, u14.trans u15⟩
theorem from7_walk (w : World) (s : AS) (rv wv : Value) (hr : SlC w rv s.reads) (hw : SlC w wv s.writes) (hwd : Wide s) (hlr : (s.reads.length + 31) * 16 ≤ 140737488355328) (hlw : (s.writes.length + 31) * 16 ≤ 140737488355328)
    (p0 : Option Addr) (zs : List Int) (c0 : Nat) (c steps : Int) (h0 : SlI w .u64 p0 zs) (hz : ∀ v ∈ zs, 0 ≤ v ∧ v < 18446744073709551616) (hm : zs.length ≤ maxLen) (hc : 0 ≤ c ∧ c < 18446744073709551616) :
    Calls Try.prog 8 #[stateV s rv wv, .slice p0 zs.length c0, .int .u64 c, .int .i64 steps] w fun e w' => e = .returned (.bool true) ∧ Upd [] w w' := by
  by_cases hb : zs.length < 1 ∨ 65536 < zs.length
  · exact from7_bad w s rv wv hr hw p0 zs.length c0 c steps hb hm
  · exact from7_good w s rv wv hr hw hwd hlr hlw p0 zs c0 c steps h0 hz (by omega) (by omega) hc
end Go.Proofs.Ythfeljongackcaa
