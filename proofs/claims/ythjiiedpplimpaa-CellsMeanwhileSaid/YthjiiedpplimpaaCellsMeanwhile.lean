/- CellsMeanwhile's walk: what All tells is the row as it was when the loop began, whatever is stored meanwhile. The conditions are sizes. -/
import Derived.Test.YthjiiedpplimpaaCPl1
import Derived.Test.YthjiiedpplimpaaEffO
import Derived.Test.YthjiiedpplimpaaGoes
import Derived.Test.YthjiiedpplimpaaCellsMeans
set_option linter.unusedSimpArgs false
set_option linter.unusedVariables false
set_option maxRecDepth 100000
namespace Go.Proofs.Ythjiiedpplimpaa
open Go.RowKit
open Go.Shelf
attribute [local go_sem] Oper.semAt_some

/-- between two rounds -/
def MI (w W1 : World) (bn a b ra rb len : Nat) (pre : List Nat) (W : World) : Prop := Blk W bn [.int .i64 pre.length] 3 ∧ CUpd [bn, a, b, ra, rb] W1 W ∧ Below w.heap.size w W ∧ ∃ us acc, RowAt W a b us acc ∧ RRow W ra rb us acc ∧ us.length = len ∧ AllW us
/-- where a round leaves: never in the order of the row -/
def MX (len : Nat) (c : Code) (pre : List Nat) (W : World) : Prop := c = .ret ∧ ¬ (pre <+: List.range len)
theorem grown_cupd {B : Nat} {W W' : World} {row : Option Nat} (hg : W.grownBy W' row) (hr : ∀ r, row = some r → B ≤ r ∧ ∃ o, W.heap[r]? = some o ∧ o.isCells = false) : CUpd [] W W' :=
  ⟨hg.os, hg.tape, hg.output, hg.size, fun k c t f _ hk => by
    rw [hg.block k (lt_of_block hk) (fun e => by
      obtain ⟨_, o, ho, hc⟩ := hr k e.symm
      rw [hk] at ho
      injection ho with ho
      subst ho
      simp [Obj.isCells] at hc)]
    exact hk⟩
theorem mI_own {w W1 : World} {bn a b ra rb len B : Nat} (hB : w.heap.size ≤ B) : OwnFrom B (MI w W1 bn a b ra rb len) := by
  intro s W W' row ⟨h1, h2, h3, us, acc, h4, h5, h6, h7⟩ hg hr
  have u := grown_cupd hg hr
  exact ⟨h1.cupd u (by simp), h2.trans (u.mono (by simp)), ownFrom_below (Nat.le_refl _) hB s W W' row h3 hg hr, us, acc, h4.cupd u (by simp) (by simp), h5.cupd u (by simp) (by simp), h6, h7⟩
theorem mX_own {len B : Nat} (c : Code) : OwnFrom B (MX len c) := fun s W W' row h hg hr => h

set_option maxHeartbeats 1000000 in
theorem meanwhile_yes (w : World) (p0 p1 : Option Addr) (zs : List Int) (c0 c1 n1 : Nat) (V1 : Nat → Value) (h0 : SlI w .u64 p0 zs) (hz : AllW zs) (hr : zs.length * 8 ≤ 140737488351232)
    (hp0 : ∀ b o, p0 = some ⟨b, o, none⟩ → zs ≠ [] → b < w.heap.size) (h1 : SlV w p1 (n1 * 2) V1) (hV1 : PairsAt n1 V1) (hc1 : n1 ≤ c1) (hm1 : c1 ≤ maxLen) (hn1 : 1 ≤ zs.length) (hn2 : zs.length ≤ 65536) :
    Calls Try.prog 6 #[.slice p0 zs.length c0, .slice p1 n1 c1] w fun e w' => e = .returned (.bool true) ∧ Below w.heap.size w w' := by
  have hl1 : n1 ≤ 9223372036854775807 := by unfold maxLen at hm1; omega
  clear hm1
  refine (callsIn_wide (n := 9)).1 ?_
  refine callsIn_of_wp_marks Try.func6 rfl trivial ?_ rfl
  simp only [Try.ntmps6, List.size_toArray, List.length_cons, List.length_nil, Nat.reduceAdd, Nat.reduceSub, Array.replicate_succ, Array.replicate_zero, List.push_toArray, List.append_toArray, List.nil_append, List.cons_append]
  have hF : ∀ f, Fence.wide.fn f := fun _ => trivial
  have hef := eql_fn2
  refine wpIn_wide.2 ?_
  obtain ⟨Wa, hWa⟩ : ∃ Wa, (w.alloc (.cells #[.slice p1 n1 c1] 42)).alloc (.cells #[.bool false] 4) = Wa := ⟨_, rfl⟩
  have ua : Upd [] w Wa := by rw [← hWa]; exact ((Upd.refl [] _).alloc _).alloc _
  have d3 : Blk Wa w.heap.size [.slice p1 n1 c1] 42 := by rw [← hWa]; exact (Blk.new w [.slice p1 n1 c1] 42).alloc _
  have d4 : Blk Wa (w.heap.size + 1) [.bool false] 4 := by
    have := Blk.new (w.alloc (.cells #[.slice p1 n1 c1] 42)) [.bool false] 4
    rw [← hWa]; simpa using this
  have s2 : w.heap.size + 2 ≤ Wa.heap.size := by rw [← hWa]; simp
  go_wp2_with fail
  clear hWa
  refine (lent_any _ _ _ _ (h0.upd ua (by simp)) hr).mono ?_
  rintro e w1 ⟨g, sp, rfl, hb1, hg1, u1⟩
  go_wp2_with fail
  refine (of_ok _ _ _ _ (SlI.of_blk hb1) hn1 hn2).mono ?_
  rintro e w2 ⟨a, b, rfl, hR, ha, hb, u2⟩
  have s1 := u1.size
  have s3 := u2.size
  go_wp2_with fail
  obtain ⟨W5, hW5⟩ : ∃ X, (w2).alloc (.cells #[.pointer (some ⟨a, 0, none⟩)] 22) = X := ⟨_, rfl⟩
  have uW5 : Upd [] w2 W5 := by rw [← hW5]; exact (Upd.refl [] _).alloc _
  have dW5 : Blk W5 (w2).heap.size [.pointer (some ⟨a, 0, none⟩)] 22 := by rw [← hW5]; exact Blk.new w2 [.pointer (some ⟨a, 0, none⟩)] 22
  obtain ⟨n5, hnW5⟩ : ∃ n, (w2).heap.size = n := ⟨_, rfl⟩
  rw [hnW5] at dW5
  have szW5 := Lib.hid (show (W5).heap.size = n5 + 1 by rw [← hW5, World.size_alloc, hnW5])
  rw [hW5]
  try rw [hnW5]
  clear hW5
  have U5 : Upd [] w W5 := ((ua.trans u1).trans u2).trans uW5
  refine (rof_ok _ _ _ _ (h0.upd U5 (by simp)) hn1 hn2).mono ?_
  rintro e w3 ⟨ra, rb, rfl, hQ, hra, hrb, u3⟩
  go_wp2_with fail
  obtain ⟨W7, hW7⟩ : ∃ X, (w3).alloc (.cells #[.pointer (some ⟨ra, 0, none⟩)] 45) = X := ⟨_, rfl⟩
  have uW7 : Upd [] w3 W7 := by rw [← hW7]; exact (Upd.refl [] _).alloc _
  have dW7 : Blk W7 (w3).heap.size [.pointer (some ⟨ra, 0, none⟩)] 45 := by rw [← hW7]; exact Blk.new w3 [.pointer (some ⟨ra, 0, none⟩)] 45
  obtain ⟨n7, hnW7⟩ : ∃ n, (w3).heap.size = n := ⟨_, rfl⟩
  rw [hnW7] at dW7
  have szW7 := Lib.hid (show (W7).heap.size = n7 + 1 by rw [← hW7, World.size_alloc, hnW7])
  rw [hW7]
  try rw [hnW7]
  clear hW7
  have c5 := (dW5.upd (u3.trans uW7) (by simp)).cell 0 rfl
  have c7 := dW7.cell 0 rfl
  go_wp2_with (go_at_call 13; refine (num_any _ _).mono ?_; rintro e w' ⟨rfl, rfl⟩)
  refine (all_fn _).mono ?_
  rintro e w' ⟨rfl, rfl⟩
  clear c5
  have c7 := (dW7.alloc (.cells #[.pointer (some ⟨a, 0, none⟩)] 22)).cell 0 rfl
  go_wp2_with fail
  obtain ⟨W8, hW8⟩ : ∃ X, (W7).alloc (.cells #[.pointer (some ⟨a, 0, none⟩)] 22) = X := ⟨_, rfl⟩
  have uW8 : Upd [] W7 W8 := by rw [← hW8]; exact (Upd.refl [] _).alloc _
  have dW8 : Blk W8 (W7).heap.size [.pointer (some ⟨a, 0, none⟩)] 22 := by rw [← hW8]; exact Blk.new W7 [.pointer (some ⟨a, 0, none⟩)] 22
  obtain ⟨n8, hnW8⟩ : ∃ n, (W7).heap.size = n := ⟨_, rfl⟩
  rw [hnW8] at dW8
  have szW8 := Lib.hid (show (W8).heap.size = n8 + 1 by rw [← hW8, World.size_alloc, hnW8])
  rw [hW8]
  try rw [hnW8]
  clear hW8
  have hQ8 := (hQ.upd uW7 (by simp) (by simp)).upd uW8 (by simp) (by simp)
  refine (rcopy_any hQ8).mono ?_
  rintro e w9 ⟨ca, cb, rfl, hC, hca, hcb, u9⟩
  clear c7
  go_wp2_with fail
  obtain ⟨W10, hW10⟩ : ∃ X, (w9).alloc (.cells #[.pointer (some ⟨ca, 0, none⟩)] 45) = X := ⟨_, rfl⟩
  have uW10 : Upd [] w9 W10 := by rw [← hW10]; exact (Upd.refl [] _).alloc _
  have dW10 : Blk W10 (w9).heap.size [.pointer (some ⟨ca, 0, none⟩)] 45 := by rw [← hW10]; exact Blk.new w9 [.pointer (some ⟨ca, 0, none⟩)] 45
  obtain ⟨n10, hnW10⟩ : ∃ n, (w9).heap.size = n := ⟨_, rfl⟩
  rw [hnW10] at dW10
  have szW10 := Lib.hid (show (W10).heap.size = n10 + 1 by rw [← hW10, World.size_alloc, hnW10])
  rw [hW10]
  try rw [hnW10]
  clear hW10
  obtain ⟨W1, hW1⟩ : ∃ X, (W10).alloc (.cells #[.int .i64 0] 3) = X := ⟨_, rfl⟩
  have uW1 : Upd [] W10 W1 := by rw [← hW1]; exact (Upd.refl [] _).alloc _
  have dW1 : Blk W1 (W10).heap.size [.int .i64 0] 3 := by rw [← hW1]; exact Blk.new W10 [.int .i64 0] 3
  obtain ⟨bn, hnW1⟩ : ∃ n, (W10).heap.size = n := ⟨_, rfl⟩
  rw [hnW1] at dW1
  have szW1 := Lib.hid (show (W1).heap.size = bn + 1 by rw [← hW1, World.size_alloc, hnW1])
  rw [hW1]
  try rw [hnW1]
  clear hW1
  have hq := szW10.out
  rw [hnW1] at hq
  rw [← hq]
  have uA : Upd [] W5 W1 := ((((u3.trans uW7).trans uW8).trans u9).trans uW10).trans uW1
  have U1 : Upd [] w W1 := U5.trans uA
  have uB : Upd [] W7 W1 := ((uW8.trans u9).trans uW10).trans uW1
  have uC : Upd [] W8 W1 := (u9.trans uW10).trans uW1
  have e3 : Blk W1 w.heap.size [.slice p1 n1 c1] 42 := ((((d3.upd u1 (by simp)).upd u2 (by simp)).upd uW5 (by simp)).upd uA (by simp))
  have e4 : Blk W1 (w.heap.size + 1) [.bool false] 4 := ((((d4.upd u1 (by simp)).upd u2 (by simp)).upd uW5 (by simp)).upd uA (by simp))
  have e5 := dW5.upd uA (by simp)
  have e7 := dW7.upd uB (by simp)
  have e8 := dW8.upd uC (by simp)
  have e10 := dW10.upd uW1 (by simp)
  have kC : RRow W1 ca cb zs 0 := (hC.upd uW10 (by simp) (by simp)).upd uW1 (by simp) (by simp)
  have kR0 : RowAt W1 a b zs 0 := (hR.upd uW5 (by simp) (by simp)).upd uA (by simp) (by simp)
  have kQ0 : RRow W1 ra rb zs 0 := hQ8.upd uC (by simp) (by simp)
  have z1 : w.heap.size ≤ a ∧ w.heap.size ≤ b ∧ w.heap.size ≤ ra ∧ w.heap.size ≤ rb := by have := uW5.size; omega
  have z2 : w.heap.size ≤ bn := by have := uA.size; have := U5.size; have := uW1.size; have := uW10.size; have := u9.size; have := uW8.size; have := uW7.size; have := u3.size; omega
  have z3 : a < bn ∧ b < bn ∧ ra < bn ∧ rb < bn ∧ ca < bn ∧ cb < bn := by
    have := hR.lta; have := hR.ltb; have := hQ8.lta; have := hQ8.ltb; have := hC.lta; have := hC.ltb
    have := uW5.size; have := uW1.size; have := uW10.size; have := u9.size; have := uW8.size; have := uW7.size; have := u3.size; omega
  have z4 : (a < w3.heap.size ∧ b < w3.heap.size) ∧ (a < W5.heap.size ∧ b < W5.heap.size) := by
    have := hR.lta; have := hR.ltb; have := uW5.size; have := u3.size; omega
  have z5 : (ra < W8.heap.size ∧ rb < W8.heap.size) ∧ (W8.heap.size ≤ ca ∧ W8.heap.size ≤ cb) := by
    have := hQ8.lta; have := hQ8.ltb; omega
  have z6 : a ≠ ra ∧ a ≠ rb ∧ b ≠ ra ∧ b ≠ rb := by omega
  have z7 : ca ∉ [bn, a, b, ra, rb] ∧ cb ∉ [bn, a, b, ra, rb] := by
    have := uW8.size; have := uW7.size
    simp only [List.mem_cons, List.not_mem_nil, or_false]
    omega
  have z8 : n5 ∉ [bn, a, b, ra, rb] ∧ n7 ∉ [bn, a, b, ra, rb] ∧ n10 ∉ [bn, a, b, ra, rb] ∧ w.heap.size ∉ [bn, a, b, ra, rb] ∧ w.heap.size + 1 ∉ [bn, a, b, ra, rb] := by
    have := hR.lta; have := hR.ltb; have := hQ.lta; have := hQ.ltb; have := hC.lta; have := hC.ltb
    have := uW8.size; have := uW7.size; have := uW5.size; have := u3.size; have := uW10.size; have := u9.size
    have := dW5.lt; have := dW7.lt; have := dW10.lt
    simp only [List.mem_cons, List.not_mem_nil, or_false]
    omega
  have hbx : Blk W1 n8 [.pointer (some ⟨a, 0, none⟩)] 22 := e8
  have hbl : Below w.heap.size w W1 := U1.below (Nat.le_refl _) (by simp)
  have lW := dW1.lt
  clear d3 d4 dW5 dW7 dW8 dW10 hR hQ hQ8 hC u1 u2 u3 u9 uW5 uW7 uW8 uW10 uW1 ua U5 uA U1 uB uC hnW5 hnW7 hnW8 hnW10 hnW1 hb1 hg1 s1 s2 s3 ha hb hra hrb hca hcb z4 z5
  refine (wpIn_wide (n := 9)).1 ?_
  clear szW5 szW7 szW8 szW10 szW1 hq
  have hlt1 : bn < W1.heap.size := lW
  refine range_over (by omega) (gf := 59) (lb := #[.pointer (some ⟨n8, 0, none⟩)]) rfl (enters_of Try.func59 (by kernel_rfl) rfl)
    (all_stops 8 (by omega) [bn, a, b, ra, rb] hbx kR0 (by simp; omega)) (fun _ => rfl)
    (MI w W1 bn a b ra rb zs.length) (MX zs.length) (mI_own hbl.size) (fun c => mX_own c) ⟨dW1, CUpd.refl _ _, hbl, zs, 0, kR0, kQ0, rfl, hz⟩ ?round ?done ?stop
  case round =>
    apply Exists.intro
    constructor
    · intro l x W K hK
      unfold encw
      gi_wp2
      exact hK
    · rintro l pre x W ⟨k1, k2, k3, us, acc, kR, kQ, kl, kw⟩ hlen
      have kC2 := kC.cupd k2 z7.1 z7.2
      have b3 := e3.cupd k2 z8.2.2.2.1
      have b4 := e4.cupd k2 z8.2.2.2.2
      have b5 := e5.cupd k2 z8.1
      have b7 := e7.cupd k2 z8.2.1
      have b10 := e10.cupd k2 z8.2.2.1
      have c3 := b3.cell 0 rfl
      have c5 := b5.cell 0 rfl
      have c7 := b7.cell 0 rfl
      have c10 := b10.cell 0 rfl
      have f4 := b4.free 0
      have c4 := b4.cell 0 rfl
      have e0 := k1.cell 0 rfl
      have f0 := k1.free 0
      obtain ⟨rcap, r0⟩ := kC2.c0
      have kv := kC2.cw pre.length hlen
      have hxl := @not_range pre x zs.length
      have HL := Lib.hid (show (pre ++ [x]).length = pre.length + 1 by simp)
      have hd : decide (zs.length ≤ pre.length) = false := by simp; omega
      have hcv : IntKind.u64.wrap (pre.length : Int) = (pre.length : Int) := by rw [IntKind.wrap_u64]; omega
      have kb4 := b4
      obtain ⟨m, hm⟩ : ∃ m, pre.length = m := ⟨_, rfl⟩
      rw [hm] at hlen e0 kv hxl HL hd hcv k1
      clear hm
      by_cases hx : x = m
      · subst hx
        have hne1 : ((x : Int) != (x : Int)) = false := by simp
        have hne2 : (wd zs x != wd zs x) = false := by simp
        generalize wd zs x = v at *
        clear hxl
        gi_wp2
        refine wpIn_region_quiet_rd (by kernel_rfl) (by kernel_rfl) (by kernel_rfl) ?_
        repeat (gi_big_quiet_step ((gi_at_call 30; refine CallsIn.quiet_of_same (CallsIn.inRound l (callsIn_wide.2 ((rlen_any (kC2.drewN _)).mono fun _ _ h => ⟨h.1, h.2.symm⟩))))))
        refine wpQuietIn_nil ?_
        intro _ hw'
        obtain ⟨nq, hw''⟩ := hw'
        subst hw''
        by_cases hst : x < n1
        · obtain ⟨b1, o1, rfl⟩ := h1.ne (by omega)
          have hb1 := h1.lt (by omega) rfl
          have sf : ∀ W', Upd [a, b, ra, rb] W W' → W'.cell? ⟨n5, 0, none⟩ = some (.pointer (some ⟨a, 0, none⟩)) ∧ W'.cell? ⟨w.heap.size, 0, none⟩ = some (.slice (some ⟨b1, o1, none⟩) n1 c1) ∧ W'.cell? ⟨bn, 0, none⟩ = some (.int .i64 x) ∧ W'.cell? ⟨b1, o1 + x * 2, none⟩ = some (.int .u64 (pA V1 x)) ∧ W'.cell? ⟨b1, o1 + x * 2 + 1, none⟩ = some (.int .u64 (pX V1 x)) ∧ W'.cell? ⟨n7, 0, none⟩ = some (.pointer (some ⟨ra, 0, none⟩)) := fun W' u => by
            have hn : ∀ y, y ∉ [bn, a, b, ra, rb] → y ∉ [a, b, ra, rb] := fun y hy hm => hy (by simp at hm ⊢; exact .inr hm)
            have hat := hV1.at h1 hst (k3.trans (u.below k3.size (by simp; omega)))
            exact ⟨(b5.upd u (hn _ z8.1)).cell 0 rfl, (b3.upd u (hn _ z8.2.2.2.1)).cell 0 rfl, (k1.upd u (by simp; omega)).cell 0 rfl, hat.1, hat.2, (b7.upd u (hn _ z8.2.1)).cell 0 rfl⟩
          have hpA := (hV1 x hst).2.2.1
          have hpX := (hV1 x hst).2.2.2
          have ud : Upd [a, b, ra, rb] W (W.drewN nq).drew := ((Upd.refl _ _).drewN nq).drew
          have kR2 := (kR.drewN nq).drew
          have kQ2 := (kQ.drewN nq).drew
          have s0 := sf _ ud
          have hxn : decide ((x : Int) < (n1 : Int)) = true := by simp; omega
          have hx0 : (0 : Int) ≤ (x : Int) := by omega
          have hx1 : (x : Int) < (n1 : Int) := by omega
          have SF := Lib.hid sf
          have KB := Lib.hid (⟨k1, k2, k3, kw, kl⟩ : Blk W bn [.int .i64 x] 3 ∧ CUpd [bn, a, b, ra, rb] W1 W ∧ Below w.heap.size w W ∧ AllW us ∧ us.length = zs.length)
          clear sf k1 k2 k3 kw kl kC2 b3 b5 b7 b10 kb4 kv r0
          generalize pA V1 x = A at *
          generalize pX V1 x = B at *
          gi_wp2
          refine wpIn_region_ord (fun w' => w'.cell? ⟨n5, 0, none⟩ = some (.pointer (some ⟨a, 0, none⟩)) ∧ w'.cell? ⟨w.heap.size, 0, none⟩ = some (.slice (some ⟨b1, o1, none⟩) n1 c1) ∧ w'.cell? ⟨bn, 0, none⟩ = some (.int .i64 x) ∧ w'.cell? ⟨b1, o1 + x * 2, none⟩ = some (.int .u64 A) ∧ w'.cell? ⟨b1, o1 + x * 2 + 1, none⟩ = some (.int .u64 B) ∧ w'.cell? ⟨n7, 0, none⟩ = some (.pointer (some ⟨ra, 0, none⟩))) [0, 1, 2, 3, 4, 5, 6, 7, 8, 9, 10, 13, 14, 15, 16, 17, 18, 19, 20, 21, 22, 23, 11, 12, 24, 25] (by kernel_rfl) (by kernel_rfl) (by kernel_rfl) s0 ?_
          clear s0
          generalize (W.drewN nq).drew = W2 at ud kR2 kQ2 ⊢
          repeat
            refine wpO_take (v := ?_) rfl rfl (by rfl) ?_ ?_
            rotate_left 1
            · ((intro w hSw; (try dsimp only at hSw); go_simp); try with_reducible rfl)
            try simp only [Act.put, List.setIfInBounds_toArray, List.set_cons_zero, List.set_cons_succ]
          have st := store_any kR2 A B hpA.1
          have rst := fun W' (h : RRow W' ra rb us acc) => rstore_any h A B hpA.1
          generalize (rLoad us A).2 = er at st rst
          have hee : (er != er) = false := by simp
          have RS := Lib.hid rst
          clear rst
          refine wpO_eff rfl (by kernel_rfl) (by rfl) (fun K2 hK2 => ?_)
          go_simp
          refine st.mono ?_
          rintro e w3 ⟨rfl, kR3, u3⟩
          have ud3 : Upd [a, b, ra, rb] W w3 := ud.trans (u3.mono (by simp))
          refine hK2.out _ _ (SF.out _ ud3) ?_
          clear hK2 K2 st
          refine wpO_eff rfl (by kernel_rfl) (by rfl) (fun K2 hK2 => ?_)
          go_simp
          refine (num_any _ _).mono ?_
          rintro e w' ⟨rfl, rfl⟩
          refine hK2.out _ _ (SF.out _ ud3) ?_
          clear hK2 K2
          refine wpO_eff rfl (by kernel_rfl) (by rfl) (fun K2 hK2 => ?_)
          go_simp
          refine (RS.out _ (kQ2.upd u3 (by simp; omega) (by simp; omega))).mono ?_
          rintro e w4 ⟨rfl, kQ4, u4⟩
          have ud4 : Upd [a, b, ra, rb] W w4 := ud3.trans (u4.mono (by simp))
          refine hK2.out _ _ (SF.out _ ud4) ?_
          clear hK2 K2
          repeat
            refine wpO_take (v := ?_) rfl rfl (by rfl) ?_ ?_
            rotate_left 1
            · ((intro w hSw; (try dsimp only at hSw); go_simp); try with_reducible rfl)
            try simp only [Act.put, List.setIfInBounds_toArray, List.set_cons_zero, List.set_cons_succ]
          refine wpO_end (OnlyN.normal ?_)
          have kR4 := kR3.upd u4 (by simp; omega) (by simp; omega)
          obtain ⟨k1, k2, k3, kw, kl⟩ := KB.out
          have k14 := k1.upd ud4 (by simp; omega)
          have c0 := k14.cell 0 rfl
          have f0 := k14.free 0
          have KW := Lib.hid kw
          have KL := Lib.hid kl
          clear kw kl
          gi_wp2
          have hu : Upd [bn, a, b, ra, rb] W (w4.setCell ⟨bn, 0, none⟩ (.int .i64 ((x : Int) + 1))) := (ud4.mono (by simp)).setCell (.inl (by simp)) _
          refine ⟨keeps_upd hu ?_, hu.cupd, ?_⟩
          · obtain ⟨_, g1, _, g2, _⟩ := kR.head
            obtain ⟨_, g3, _, g4, _⟩ := kQ.head
            intro k hk
            simp only [List.mem_cons, List.not_mem_nil, or_false] at hk
            rcases hk with rfl | rfl | rfl | rfl | rfl
            · exact ⟨_, _, k1⟩
            · exact ⟨_, _, g1⟩
            · exact ⟨_, _, g2⟩
            · exact ⟨_, _, g3⟩
            · exact ⟨_, _, g4⟩
          · have hs : Upd [bn] w4 (w4.setCell ⟨bn, 0, none⟩ (.int .i64 ((x : Int) + 1))) := (Upd.refl _ _).setCell (.inl (by simp)) _
            have h5 := k14.set 0 (.int .i64 ((x : Int) + 1))
            refine ⟨?_, k2.trans hu.cupd, k3.trans (hu.below k3.size (by simp; omega)), us.set A.toNat B, up64 acc, kR4.upd hs (by simp; omega) (by simp; omega), kQ4.upd hs (by simp; omega) (by simp; omega), by rw [List.length_set]; exact KL.out, KW.out.set _ hpX⟩
            rw [HL.out]
            exact h5
        · have hxn : decide ((x : Int) < (n1 : Int)) = false := by simp; omega
          gi_wp2
          have hu : Upd [bn] W ((W.drewN nq).setCell ⟨bn, 0, none⟩ (.int .i64 ((x : Int) + 1))) := ((Upd.refl _ _).drewN nq).setCell (.inl (by simp)) _
          refine ⟨keeps_upd hu (fun k hk => by simp at hk; subst hk; exact ⟨_, _, k1⟩), hu.cupd.mono (by simp), ?_, k2.trans (hu.cupd.mono (by simp)), k3.trans (hu.below k3.size (by simp; omega)), us, acc, kR.upd hu (by simp; omega) (by simp; omega), kQ.upd hu (by simp; omega) (by simp; omega), kl, kw⟩
          rw [HL.out]
          exact (k1.drewN nq).set 0 _
      · have hne1 : ((x : Int) != (m : Int)) = true := by rw [bne_iff_ne]; omega
        generalize wd zs m = v at *
        gi_wp2
        refine wpIn_region_quiet_rd (by kernel_rfl) (by kernel_rfl) (by kernel_rfl) ?_
        repeat (gi_big_quiet_step ((gi_at_call 30; refine CallsIn.quiet_of_same (CallsIn.inRound l (callsIn_wide.2 ((rlen_any (kC2.drewN _)).mono fun _ _ h => ⟨h.1, h.2.symm⟩))))))
        refine wpQuietIn_nil ?_
        intro _ hw'
        obtain ⟨nq, hw''⟩ := hw'
        subst hw''
        gi_wp2
        exact ⟨keeps_upd (((Upd.refl [w.heap.size + 1] W).drewN nq).setCell (.inl (by simp)) _) (fun k hk => by simp at hk; subst hk; exact ⟨_, _, kb4⟩), rfl, hxl hx⟩
  case done =>
    rintro D xs W hD rfl ⟨k1, k2, k3, us, acc, kR, kQ, kl, kw⟩ hK
    rw [List.length_range] at k1
    have kC2 := kC.cupd k2 z7.1 z7.2
    have b4 := e4.cupd k2 z8.2.2.2.2
    have b5 := e5.cupd k2 z8.1
    have b7 := e7.cupd k2 z8.2.1
    have b10 := e10.cupd k2 z8.2.2.1
    have hn4 : w.heap.size + 1 ≠ bn ∧ w.heap.size + 1 ≠ n10 ∧ w.heap.size + 1 ≠ n5 ∧ w.heap.size + 1 ≠ n7 := ⟨fun e => by have := z8.2.2.2.2; simp [e] at this, fun e => by rw [e] at b4; exact absurd (b4.inj b10).2 (by decide), fun e => by rw [e] at b4; exact absurd (b4.inj b5).2 (by decide), fun e => by rw [e] at b4; exact absurd (b4.inj b7).2 (by decide)⟩
    have sf : ∀ W', Upd [w.heap.size + 1] W W' → W'.cell? ⟨bn, 0, none⟩ = some (.int .i64 zs.length) ∧ W'.cell? ⟨n10, 0, none⟩ = some (.pointer (some ⟨ca, 0, none⟩)) ∧ W'.cell? ⟨n5, 0, none⟩ = some (.pointer (some ⟨a, 0, none⟩)) ∧ W'.cell? ⟨n7, 0, none⟩ = some (.pointer (some ⟨ra, 0, none⟩)) := fun W' u =>
      ⟨(k1.upd u (by simp; omega)).cell 0 rfl, (b10.upd u (by simp; omega)).cell 0 rfl, (b5.upd u (by simp; omega)).cell 0 rfl, (b7.upd u (by simp; omega)).cell 0 rfl⟩
    have SF := Lib.hid sf
    have ud := (Upd.refl [] W).drew
    have s0 := sf _ (ud.mono (by simp))
    have B4 := Lib.hid b4
    have K3 := Lib.hid k3
    have h11 : ((zs.length : Int) == (zs.length : Int)) = true := by simp
    have haa : (acc == acc) = true := by simp
    clear sf k1 k2 k3 b4 b5 b7 b10 kw
    go_wp2_with fail
    refine wp_region_ord (fun w' => w'.cell? ⟨bn, 0, none⟩ = some (.int .i64 zs.length) ∧ w'.cell? ⟨n10, 0, none⟩ = some (.pointer (some ⟨ca, 0, none⟩)) ∧ w'.cell? ⟨n5, 0, none⟩ = some (.pointer (some ⟨a, 0, none⟩)) ∧ w'.cell? ⟨n7, 0, none⟩ = some (.pointer (some ⟨ra, 0, none⟩))) [0, 1, 2, 3, 4, 5, 6, 7, 8, 9, 10, 12, 11, 13, 14, 15, 16, 17, 18, 19] (by kernel_rfl) (by kernel_rfl) s0 ?_
    clear s0
    generalize W.drew = W2 at ud ⊢
    repeat
      refine wpO_take (v := ?_) rfl rfl (by rfl) ?_ ?_
      rotate_left 1
      · ((intro w hSw; (try dsimp only at hSw); go_simp); try with_reducible rfl)
      try simp only [Act.put, List.setIfInBounds_toArray, List.set_cons_zero, List.set_cons_succ]
    refine wpO_eff rfl (by kernel_rfl) (by rfl) (fun K2 hK2 => ?_)
    go_simp
    refine (rlen_any (kC2.upd ud (by simp) (by simp))).mono ?_
    rintro e w' ⟨rfl, rfl⟩
    refine hK2.out _ _ (SF.out _ (ud.mono (by simp))) ?_
    clear hK2 K2
    repeat
      refine wpO_take (v := ?_) rfl rfl (by rfl) ?_ ?_
      rotate_left 1
      · ((intro w hSw; (try dsimp only at hSw); go_simp); try with_reducible rfl)
      try simp only [Act.put, List.setIfInBounds_toArray, List.set_cons_zero, List.set_cons_succ]
    refine wpO_eff rfl (by kernel_rfl) (by rfl) (fun K2 hK2 => ?_)
    go_simp
    refine (goes_row 0 (kR.upd ud (by simp) (by simp)) (kQ.upd ud (by simp) (by simp))).mono ?_
    rintro e w5 ⟨rfl, ub5⟩
    have u5 := ud.trans (Upd.of_below ub5)
    refine hK2.out _ _ (SF.out _ (u5.mono (by simp))) ?_
    clear hK2 K2 ub5 ud
    repeat
      refine wpO_take (v := ?_) rfl rfl (by rfl) ?_ ?_
      rotate_left 1
      · ((intro w hSw; (try dsimp only at hSw); go_simp); try with_reducible rfl)
      try simp only [Act.put, List.setIfInBounds_toArray, List.set_cons_zero, List.set_cons_succ]
    refine wpO_eff rfl (by kernel_rfl) (by rfl) (fun K2 hK2 => ?_)
    go_simp
    refine (accesses_any (kR.upd u5 (by simp) (by simp))).mono ?_
    rintro e w' ⟨rfl, rfl⟩
    refine hK2.out _ _ (SF.out _ (u5.mono (by simp))) ?_
    clear hK2 K2
    refine wpO_eff rfl (by kernel_rfl) (by rfl) (fun K2 hK2 => ?_)
    go_simp
    refine (raccesses_any (kQ.upd u5 (by simp) (by simp))).mono ?_
    rintro e w' ⟨rfl, rfl⟩
    refine hK2.out _ _ (SF.out _ (u5.mono (by simp))) ?_
    clear hK2 K2
    repeat
      refine wpO_take (v := ?_) rfl rfl (by rfl) ?_ ?_
      rotate_left 1
      · ((intro w hSw; (try dsimp only at hSw); go_simp); try with_reducible rfl)
      try simp only [Act.put, List.setIfInBounds_toArray, List.set_cons_zero, List.set_cons_succ]
    refine wpO_eff rfl (by kernel_rfl) (by rfl) (fun K2 hK2 => ?_)
    go_simp
    refine (known01 _).mono ?_
    rintro e w6 ⟨rfl, u6⟩
    have u56 := u5.trans u6
    refine hK2.out _ _ (SF.out _ (u56.mono (by simp))) ?_
    clear hK2 K2
    repeat
      refine wpO_take (v := ?_) rfl rfl (by rfl) ?_ ?_
      rotate_left 1
      · ((intro w hSw; (try dsimp only at hSw); go_simp); try with_reducible rfl)
      try simp only [Act.put, List.setIfInBounds_toArray, List.set_cons_zero, List.set_cons_succ]
    have b4 := B4.out.upd u56 (by simp)
    have f4 := b4.free 0
    have c4 := b4.cell 0 rfl
    have us4 : Upd [w.heap.size + 1] w6 (w6.setCell ⟨w.heap.size + 1, 0, none⟩ (.bool true)) := (Upd.refl _ _).setCell (.inl (by simp)) _
    have r4 := b4.set 0 (.bool true)
    have u7 : Upd [w.heap.size + 1] W (w6.setCell ⟨w.heap.size + 1, 0, none⟩ (.bool true)) := (u56.mono (by simp)).trans us4
    have q7 : (w6.setCell ⟨w.heap.size + 1, 0, none⟩ (.bool true)).heap[D]? = some (.deferred (some [])) := (u7.block D (lt_of_block hK) (by simp; intro e; rw [e] at hD; have := hbl.size; have := e4.lt; omega)).trans hK
    have hDlo : w.heap.size ≤ D := by have := hbl.size; omega
    have b7 : Below w.heap.size w (w6.setCell ⟨w.heap.size + 1, 0, none⟩ (.bool true)) := K3.out.trans (u7.below K3.out.size (by simp))
    refine wpO_eff rfl (by kernel_rfl) (by rfl) (fun K2 hK2 => ?_)
    go_simp
    refine hK2.out _ _ (SF.out _ u7) ?_
    refine wpO_end (NoPanic.normal ?_)
    have hc3 := r4.cell 0 rfl
    clear hK2 K2 b4 f4 c4 us4 u7 u56 u6 u5
    generalize w6.setCell ⟨w.heap.size + 1, 0, none⟩ (.bool true) = W9 at *
    go_wp2_with fail
    have hc4 := cell_kept hc3 (grownBy_putObj' _ D (.deferred none)) (fun r e => by cases e; exact ⟨_, q7, rfl⟩)
    have b8 := b7.trans (belowK_b (w := w) (Nat.le_refl _) _ D _ (.deferred none) hDlo q7 rfl rfl)
    refine ⟨by simp, .inl ⟨_, _, rfl, run_takeDeferred q7, ?_⟩⟩
    refine ⟨.bool true, ?_, rfl, b8⟩
    simp [results, Try.f6, go_sem, hc4]
  case stop =>
    rintro D c pre W hD hS ⟨rfl, hX⟩ hK
    exact absurd hS hX

set_option maxHeartbeats 1000000 in
theorem meanwhile_no (w : World) (p0 p1 : Option Addr) (zs : List Int) (c0 c1 n1 : Nat) (h0 : SlI w .u64 p0 zs) (hr : zs.length * 8 ≤ 140737488351232) (hn : zs.length < 1 ∨ 65536 < zs.length) :
    Calls Try.prog 6 #[.slice p0 zs.length c0, .slice p1 n1 c1] w fun e w' => e = .returned (.bool true) ∧ Below w.heap.size w w' := by
  have hm0 : zs.length ≤ maxLen := by unfold maxLen; omega
  refine (callsIn_wide (n := 9)).1 ?_
  refine callsIn_of_wp_marks Try.func6 rfl trivial ?_ rfl
  simp only [Try.ntmps6, List.size_toArray, List.length_cons, List.length_nil, Nat.reduceAdd, Nat.reduceSub, Array.replicate_succ, Array.replicate_zero, List.push_toArray, List.append_toArray, List.nil_append, List.cons_append]
  refine wpIn_wide.2 ?_
  obtain ⟨Wa, hWa⟩ : ∃ Wa, (w.alloc (.cells #[.slice p1 n1 c1] 42)).alloc (.cells #[.bool false] 4) = Wa := ⟨_, rfl⟩
  have ua : Upd [] w Wa := by rw [← hWa]; exact ((Upd.refl [] _).alloc _).alloc _
  have d4 : Blk Wa (w.heap.size + 1) [.bool false] 4 := by
    have := Blk.new (w.alloc (.cells #[.slice p1 n1 c1] 42)) [.bool false] 4
    rw [← hWa]; simpa using this
  go_wp2_with fail
  clear hWa
  refine (lent_any _ _ _ _ (h0.upd ua (by simp)) hr).mono ?_
  rintro e w1 ⟨g, sp, rfl, hb1, hg1, u1⟩
  go_wp2_with fail
  refine (of_bad _ _ _ _ hn hm0).mono ?_
  rintro e w' ⟨rfl, rfl⟩
  go_wp2_with fail
  obtain ⟨W5, hW5⟩ : ∃ X, (w1).alloc (.cells #[.pointer none] 22) = X := ⟨_, rfl⟩
  have uW5 : Upd [] w1 W5 := by rw [← hW5]; exact (Upd.refl [] _).alloc _
  have dW5 : Blk W5 (w1).heap.size [.pointer none] 22 := by rw [← hW5]; exact Blk.new w1 [.pointer none] 22
  obtain ⟨n5, hnW5⟩ : ∃ n, (w1).heap.size = n := ⟨_, rfl⟩
  rw [hnW5] at dW5
  have szW5 := Lib.hid (show (W5).heap.size = n5 + 1 by rw [← hW5, World.size_alloc, hnW5])
  rw [hW5]
  try rw [hnW5]
  clear hW5
  refine (rof_bad _ _ _ _ hn hm0).mono ?_
  rintro e w' ⟨rfl, rfl⟩
  go_wp2_with fail
  obtain ⟨W7, hW7⟩ : ∃ X, (W5).alloc (.cells #[.pointer none] 45) = X := ⟨_, rfl⟩
  have uW7 : Upd [] W5 W7 := by rw [← hW7]; exact (Upd.refl [] _).alloc _
  have dW7 : Blk W7 (W5).heap.size [.pointer none] 45 := by rw [← hW7]; exact Blk.new W5 [.pointer none] 45
  obtain ⟨n7, hnW7⟩ : ∃ n, (W5).heap.size = n := ⟨_, rfl⟩
  rw [hnW7] at dW7
  have szW7 := Lib.hid (show (W7).heap.size = n7 + 1 by rw [← hW7, World.size_alloc, hnW7])
  rw [hW7]
  try rw [hnW7]
  clear hW7
  have c5 := (dW5.upd uW7 (by simp)).cell 0 rfl
  have c7 := dW7.cell 0 rfl
  have uA : Upd [] Wa W7 := (u1.trans uW5).trans uW7
  go_wp2_with (go_at_call 13; refine (num_any _ _).mono ?_; rintro e w' ⟨rfl, rfl⟩)
  refine (known01 _).mono ?_
  rintro e w6 ⟨rfl, u6⟩
  have b4 := d4.upd (uA.trans u6) (by simp)
  have f4 := b4.free 0
  have c4 := b4.cell 0 rfl
  have r4 := b4.set 0 (.bool true)
  have c9 := r4.cell 0 rfl
  have u9 : Upd [] w (w6.setCell ⟨w.heap.size + 1, 0, none⟩ (.bool true)) := ((ua.trans uA).trans u6).setCell (.inr (by simp)) _
  have hB := u9.below (Nat.le_refl _) (by simp)
  clear hnW5 hnW7 szW5 szW7 dW5 dW7 c5 c7 uA u6 r4 b4 u9
  go_wp2_with fail
  exact ⟨.bool true, by simp [results, Try.f6, go_sem, c9], rfl, hB⟩

theorem meanwhile_walk (w : World) (p0 p1 : Option Addr) (zs : List Int) (c0 c1 n1 : Nat) (V1 : Nat → Value) (h0 : SlI w .u64 p0 zs) (hz : AllW zs) (hr : zs.length * 8 ≤ 140737488351232)
    (hp0 : ∀ b o, p0 = some ⟨b, o, none⟩ → zs ≠ [] → b < w.heap.size) (h1 : SlV w p1 (n1 * 2) V1) (hV1 : PairsAt n1 V1) (hc1 : n1 ≤ c1) (hm1 : c1 ≤ maxLen) :
    Calls Try.prog 6 #[.slice p0 zs.length c0, .slice p1 n1 c1] w fun e w' => e = .returned (.bool true) ∧ Upd [] w w' := by
  refine calls_to (R := fun e w' => e = .returned (.bool true) ∧ Below w.heap.size w w') ?_ (fun e w' ⟨he, hw⟩ => ⟨he, Upd.of_below hw⟩)
  by_cases h : 1 ≤ zs.length ∧ zs.length ≤ 65536
  · exact meanwhile_yes w p0 p1 zs c0 c1 n1 V1 h0 hz hr hp0 h1 hV1 hc1 hm1 h.1 h.2
  · exact meanwhile_no w p0 p1 zs c0 c1 n1 h0 hr (by omega)
end Go.Proofs.Ythjiiedpplimpaa
