/- AttemptAlone's walk. The conditions are sizes. -/
import Derived.Test.YthfeljongackcaaAAlone5
set_option linter.unusedSimpArgs false
set_option linter.unusedVariables false
set_option maxRecDepth 100000
namespace Go.Proofs.Ythfeljongackcaa
open Go.RowKit
open Go.Maps
theorem al_put_in {ws : List Int} {R L : List (Int × Int)} {v : Int} {k : Nat} (hk : k < ws.length) (hl : L.length < 1024) (hM : May (al R L)) :
    ∃ L', putS (al R L) (sh0 ws) k v = (⟨3, 0, ⟨3, k, v, false⟩⟩, 0, al R L') ∧ nowL ws L' = (nowL ws L).set k v ∧ wroteL ws L' = (wroteL ws L).set k true ∧ L'.length = (if (place L (k : Int)).isSome = true then L.length else L.length + 1) ∧ (∀ c ∈ L', c ∈ L ∨ c = ((k : Int), v)) ∧ May (al R L') := by
  have hkl : (k : Int) < ws.length := by omega
  obtain ⟨L', he⟩ : ∃ L', putS (al R L) (sh0 ws) k v = (⟨3, 0, ⟨3, k, v, false⟩⟩, 0, al R L') := by
    cases hp : place L (k : Int) with
    | some j => exact ⟨_, al_put_old hkl hp⟩
    | none => exact ⟨_, al_put_new hkl hp hl⟩
  obtain ⟨h1, h2, h3, h4⟩ := put_lists hk hl L' _ he
  have hm := may_put (sh := sh0 ws) hM (k : Int) v
  rw [he] at hm
  exact ⟨L', he, h1, h2, h3, h4, hm⟩
theorem alone_bad (w : World) (p0 p1 p2 : Option Addr) (n0 c0 n1 c1 n2 c2 : Nat) (hn : n0 < 1 ∨ 65536 < n0) (hm : n0 ≤ maxLen) :
    Calls Try.prog 5 #[.slice p0 n0 c0, .slice p1 n1 c1, .slice p2 n2 c2] w fun e w' => e = .returned (.bool true) ∧ Upd [] w w' := by
  refine calls_all fun K hK => ?_
  go_enter Try.func5, Try.ntmps5
  go_wp2_with fail
  refine (of_bad p0 n0 c0 w hn hm).mono ?_
  rintro e w' ⟨rfl, rfl⟩
  go_wp2_with fail
  refine (clkNew w).mono ?_
  rintro e w2 ⟨ca, cr, cb, rfl, hC, h1, h2, h3, u2⟩
  clear hC h1 h2 h3
  go_wp2_with fail
  refine (num07 _ _).mono ?_
  rintro e w' ⟨rfl, rfl⟩
  go_wp2_with fail
  refine (known07_walk w2).mono ?_
  rintro e w3 ⟨rfl, u3⟩
  go_wp2_with fail
  all_goals exact ⟨rfl, u2.trans u3⟩

set_option maxHeartbeats 4000000 in
theorem alone_good (w : World) (p0 p1 p2 : Option Addr) (zs gs : List Int) (c0 c1 c2 n2 : Nat) (V2 : Nat → Value) (h0 : SlI w .u64 p0 zs) (hz : ∀ v ∈ zs, 0 ≤ v ∧ v < 18446744073709551616) (hn1 : 1 ≤ zs.length) (hn2 : zs.length ≤ 65536)
    (h1 : SlI w .u64 p1 gs) (hg : ∀ v ∈ gs, 0 ≤ v ∧ v < 18446744073709551616) (hgl : gs.length ≤ 4611686018427387904) (h2 : SlV w p2 (n2 * 2) V2) (hV2 : PairsAt n2 V2) (hl2 : n2 ≤ 4611686018427387904) :
    Calls Try.prog 5 #[.slice p0 zs.length c0, .slice p1 gs.length c1, .slice p2 n2 c2] w fun e w' => e = .returned (.bool true) ∧ Upd [] w w' := by
  have HG := Lib.hid h1
  have HGB := Lib.hid hg
  have HV := Lib.hid h2
  have HP := Lib.hid hV2
  have H0 := Lib.hid h0
  have HZ := Lib.hid hz
  clear h1 hg h2 hV2 h0 hz
  have hmk := make_bools zs.length hn2
  have hlu : IntKind.u64.wrap (zs.length : Int) = zs.length := by rw [IntKind.wrap_u64]; omega
  refine calls_all fun K hK => ?_
  go_enter Try.func5, Try.ntmps5
  go_wp2_with fail
  refine (of_ok p0 c0 zs w H0.out hn1 hn2).mono ?_
  rintro e w1 ⟨ra, rb, rfl, hR, hra, hrb, U1⟩
  go_wp2_with fail
  refine (clkNew w1).mono ?_
  rintro e w2 ⟨ca, cr, cb, rfl, hC, k1, k2, k3, u2⟩
  have hX : XAt w2 ⟨ra, rb, ca, cr, cb⟩ (sh0 zs) := XAt.made hR hC u2 k1 k2 k3 ⟨HZ.out, by simp⟩
  have hs1 := U1.size
  have hX0 : ∀ g ∈ SX.foot ⟨ra, rb, ca, cr, cb⟩, w.heap.size ≤ g := by simp [SX.foot]; omega
  have U2 := U1.trans u2
  clear hR hC u2 k1 k2 k3 hra hrb hs1 U1 HZ
  generalize hXe : (⟨ra, rb, ca, cr, cb⟩ : SX) = X at hX hX0
  obtain rfl : ra = X.ra := by rw [← hXe]
  obtain rfl : ca = X.ca := by rw [← hXe]
  clear hXe
  go_wp2_with fail
  refine (num07 _ _).mono ?_
  rintro e w' ⟨rfl, rfl⟩
  go_wp2_with fail
  refine (begin_x hX rfl).mono ?_
  rintro e w3 ⟨a, F, rfl, hL, u3, ha, hF⟩
  simp only [Trn.val, sh0] at hL ⊢
  have hs2 := U2.size
  have hO : ∀ g ∈ own X a F, w.heap.size ≤ g := fun g hg => by
    simp only [own, List.mem_cons, List.mem_append] at hg
    rcases hg with k | k | k
    · omega
    · have := hF g k; omega
    · exact hX0 g k
  have U3 := U2.tr (U := []) u3 (by simp) (fun x hx => .inr (hX0 x hx))
  clear u3 ha hF hX hX0 U2 hs2
  have hA : LX (w3.alloc (.cells #[.int .i64 6, .int .u64 0, .int .i64 0, .int .i64 1, .int .u64 0, .int .u64 0, .bool false, .int .i64 0] 36)) X (sh0 zs) a (al [] []) F := hL.upd0 ((Upd.refl [] _).alloc _)
  have U4 := U3.alloc (.cells #[.int .i64 6, .int .u64 0, .int .i64 0, .int .i64 1, .int .u64 0, .int .u64 0, .bool false, .int .i64 0] 36)
  have q0 := (Blk.new w3 [.int .i64 6, .int .u64 0, .int .i64 0, .int .i64 1, .int .u64 0, .int .u64 0, .bool false, .int .i64 0] 36).cell 0 rfl
  clear hL U3
  go_wp2_with fail
  have hsl := H0.out.upd U4 (by simp)
  generalize w3.alloc (.cells #[.int .i64 6, .int .u64 0, .int .i64 0, .int .i64 1, .int .u64 0, .int .u64 0, .bool false, .int .i64 0] 36) = w4 at hA U4 q0 hsl ⊢
  obtain ⟨n1, cN, sp1, w5, hr, hB1, hb1, u5⟩ := append_new w4 p0 zs c0 hsl hn1 hn2
  have hal := hA.lt
  have M0 : Al w X zs a [] [] F n1 w5.heap.size sp1 [] (nowL zs []) (wroteL zs []) (w5.alloc (.cells (nones zs.length) 4)) := by
    have hlt1 := hB1.lt
    have hs5 := u5.size
    have hs4 := U4.size
    refine ⟨(hA.upd0 u5).upd0 ((Upd.refl [] _).alloc _), may_fresh rfl, hO, ?_, ?_, ?_, ?_, by omega, by omega, by omega, (U4.trans u5).alloc _⟩
    · rw [nowL_nil]; exact hB1.alloc _
    · rw [wroteL_nil, List.map_replicate, List.append_nil]
      exact Blk.new w5 _ _
    · intro h; have := hal _ h; omega
    · intro h; have := hal _ h; omega
  clear hA U4 hsl hB1 hb1 u5 hal hO
  refine (num07 _ _).mono ?_
  rintro e w' ⟨rfl, rfl⟩
  go_wp2_with (at_builtin; refine wpList_append_eq rfl _ _ _ _ rfl _ _ _ rfl rfl hr ?_)
  generalize w5.alloc (.cells (nones zs.length) 4) = w6 at M0 ⊢
  generalize w5.heap.size = m1 at M0 ⊢
  go_loopw [15, 16] (fun v15 v16 wr => ∃ (i : Nat) (R L : List (Int × Int)) (F' : List Nat), v15 = .int .i64 L.length ∧ v16 = .int .i64 i ∧ (R.length ≤ i ∧ R.length ≤ 500 ∧ L.length ≤ i ∧ L.length ≤ 500) ∧ (∀ c ∈ L, 0 ≤ c.1 ∧ c.1 < zs.length) ∧ Al w X zs a R L F' n1 m1 sp1 [] (nowL zs L) (wroteL zs L) wr) (fun _ v16 _ => gs.length + n2 - (intOf v16).toNat)
  case atStart => exact ⟨0, [], [], F, rfl, rfl, by simp, by simp, M0⟩
  case round =>
    clear M0 q0 hr
    obtain ⟨i, R, L, F', rfl, rfl, ⟨hR1, hR2, hL1, hL2⟩, hin, M⟩ := hrel
    have hi5 : i < 500 ∨ 500 ≤ i := by omega
    by_cases hgi : i < gs.length
    · have hgi' : (i : Int) < (gs.length : Int) := by omega
      rcases hi5 with h5 | h5
      · have h5' : (i : Int) < 500 := by omega
        have hgz : gs ≠ [] := fun e => by subst e; simp at hgi
        obtain ⟨gb, go_, rfl⟩ := HG.out.ne hgz
        have hgc := (HG.out.upd M.U (by simp)).cells gb go_ rfl i hgi
        have hyb : 0 ≤ wd gs i ∧ wd gs i < 18446744073709551616 := by rw [wd_get hgi]; exact HGB.out _ (List.getElem_mem _)
        obtain ⟨y, hy⟩ : ∃ y, wd gs i = y := ⟨_, rfl⟩
        rw [hy] at hgc hyb
        have HY := Lib.hid hy
        clear hgz hy
        by_cases hpi : i < n2
        · have hpi' : (i : Int) < (n2 : Int) := by omega
          obtain ⟨pb, po, rfl⟩ := HV.out.ne (by omega)
          obtain ⟨hc0, hc1⟩ := HP.out.at HV.out hpi (M.U.below (Nat.le_refl _) (by simp))
          obtain ⟨_, _, hxb, hvb⟩ := HP.out i hpi
          generalize pA V2 i = x at hc0 hxb
          generalize pX V2 i = v at hc1 hvb
          go_wp2_with fail
          have CB := Blk.new wr [.int .u64 x, .int .u64 v] 53
          have e1 : wr.heap.size ≠ n1 := fun e => by have := M.b1.lt; omega
          have e2 : wr.heap.size ≠ m1 := fun e => by have := M.b2.lt; omega
          have hcb : wr.heap.size ∉ own X a F' := fun h => Nat.lt_irrefl _ (M.hL.lt _ h)
          replace M := M.free0 ((Upd.refl [] _).alloc (.cells #[.int .u64 x, .int .u64 v] 53))
          clear hc0 hc1
          generalize wr.alloc (.cells #[.int .u64 x, .int .u64 v] 53) = w7 at M CB ⊢
          generalize wr.heap.size = cb at CB e1 e2 hcb ⊢
          have e3 := Ne.symm e1
          have e4 := Ne.symm e2
          have e5 := M.ne
          have e6 := Ne.symm M.ne
          have hgb : gb < w.heap.size := (HG.out.cells gb go_ rfl i hgi) |> World.block_lt_of_cell? w _
          have e7 : gb ≠ n1 := fun e => by have := M.o1; omega
          have e8 : gb ≠ m1 := fun e => by have := M.o2; omega
          have hcall := put_x M.hL M.may x v hxb hvb
          by_cases hxl : x < zs.length
          · obtain ⟨k, rfl⟩ : ∃ k : Nat, x = k := ⟨x.toNat, by omega⟩
            have hkl : k < zs.length := by omega
            obtain ⟨L', he, hN', hB', hll, hmem, hM'⟩ := al_put_in (v := v) hkl (by omega) M.may
            rw [he] at hcall
            have hin' : ∀ c ∈ L', 0 ≤ c.1 ∧ c.1 < zs.length := fun c hc => by
              rcases hmem c hc with q | rfl
              · exact hin c q
              · exact ⟨by simp, by simp; omega⟩
            have HB' := Lib.hid hB'
            have HN' := Lib.hid hN'
            clear he hmem hB' hN'
            refine hcall.mono ?_
            clear hcall
            rintro e W2 ⟨rfl, F2, hL2, u2, hF2⟩
            simp only [Trn.val] at hL2 ⊢
            replace CB := (CB.upd u2 hcb).alloc (.cells #[.int .i64 3, .int .u64 0, .int .i64 0, .int .i64 3, .int .u64 k, .int .u64 v, .bool false, .int .i64 0] 36)
            replace M := (M.next hL2 hM' u2 hF2).free0 ((Upd.refl [] _).alloc (.cells #[.int .i64 3, .int .u64 0, .int .i64 0, .int .i64 3, .int .u64 k, .int .u64 v, .bool false, .int .i64 0] 36))
            clear hL2 hM' u2 hF2 hcb
            go_wp2_with fail
            generalize W2.alloc (.cells #[.int .i64 3, .int .u64 0, .int .i64 0, .int .i64 3, .int .u64 k, .int .u64 v, .bool false, .int .i64 0] 36) = W3 at M CB ⊢
            have cc0 := CB.cell 0 rfl
            have cc1 := CB.cell 1 rfl
            go_quiet ((go_at_call 12; exact Calls.quiet_of_same ((num07 _ _).mono fun _ _ h => ⟨h.1, h.2.symm⟩)))
            replace M := M.free0 (upd_drewN (Upd.refl [] _) nq)
            replace CB := CB.upd (upd_drewN (Upd.refl [] _) nq) (by simp)
            clear cc0 cc1
            generalize W3.drewN nq = W4 at M CB ⊢
            have cc0 := CB.cell 0 rfl
            have cc1 := CB.cell 1 rfl
            have cA := nowL_cell M.b1 k hkl
            have cB := wroteL_cell M.b2 k hkl
            have fA := M.b1.free k
            have fB := M.b2.free k
            replace hgc := (HG.out.upd M.U (by simp)).cells gb go_ rfl i hgi
            rw [HY.out] at hgc
            go_wp2_with fail
            replace M := (M.set1 k (by rw [nowL_len]; exact hkl) v).set2 k (by rw [wroteL_len]; exact hkl) true
            rw [← HN'.out, ← HB'.out] at M
            generalize nowAt zs L k = z at cA
            cases hb : (place L (k : Int)).isSome with
            | true =>
              rw [hb] at cB hll
              have hll : L'.length = L.length := hll
              clear hb
              refine (num07 _ _).mono ?_
              rintro e w' ⟨rfl, rfl⟩
              go_wp2_with fail
              clear cA cB fA fB cc0 cc1 CB
              generalize (W4.setCell ⟨n1, k, none⟩ (.int .u64 v)).setCell ⟨m1, k, none⟩ (.bool true) = W5 at M ⊢
              refine (got_walk M.hL M.may (by omega) hin' hn2 y hyb n1 cN m1 zs.length sp1 [] M.b1 M.b2 M.x1 M.x2).mono ?_
              rintro e w9 ⟨rfl, R', F'', hR', hM', hL', u', hF'⟩
              replace M := M.next hL' hM' u' hF'
              clear hL' hM' u' hF'
              go_wp2_with fail
              go_roundw
              case rel => exact ⟨i + 1, R', L', F'', congrArg (Value.int .i64) (by omega), by go_num, ⟨by omega, by omega, by omega, by omega⟩, hin', M⟩
              case measure => simp [intOf]; omega
            | false =>
              rw [hb] at cB hll
              have hll : L'.length = L.length + 1 := hll
              clear hb
              refine (num07 _ _).mono ?_
              rintro e w' ⟨rfl, rfl⟩
              go_wp2_with fail
              clear cA cB fA fB cc0 cc1 CB
              generalize (W4.setCell ⟨n1, k, none⟩ (.int .u64 v)).setCell ⟨m1, k, none⟩ (.bool true) = W5 at M ⊢
              refine (got_walk M.hL M.may (by omega) hin' hn2 y hyb n1 cN m1 zs.length sp1 [] M.b1 M.b2 M.x1 M.x2).mono ?_
              rintro e w9 ⟨rfl, R', F'', hR', hM', hL', u', hF'⟩
              replace M := M.next hL' hM' u' hF'
              clear hL' hM' u' hF'
              go_wp2_with fail
              go_roundw
              case rel => exact ⟨i + 1, R', L', F'', congrArg (Value.int .i64) (by omega), by go_num, ⟨by omega, by omega, by omega, by omega⟩, hin', M⟩
              case measure => simp [intOf]; omega
          · rw [al_put_out hxl] at hcall
            have hxd : decide (x < (zs.length : Int)) = false := by simpa using hxl
            refine hcall.mono ?_
            clear hcall
            rintro e W2 ⟨rfl, F2, hL2, u2, hF2⟩
            simp only [Trn.val, trnNone, evNone] at hL2 ⊢
            replace CB := (CB.upd u2 hcb).alloc (.cells #[.int .i64 0, .int .u64 0, .int .i64 0, .int .i64 0, .int .u64 0, .int .u64 0, .bool false, .int .i64 0] 36)
            replace M := (M.next hL2 M.may u2 hF2).free0 ((Upd.refl [] _).alloc (.cells #[.int .i64 0, .int .u64 0, .int .i64 0, .int .i64 0, .int .u64 0, .int .u64 0, .bool false, .int .i64 0] 36))
            clear hL2 u2 hF2 hcb
            go_wp2_with fail
            generalize W2.alloc (.cells #[.int .i64 0, .int .u64 0, .int .i64 0, .int .i64 0, .int .u64 0, .int .u64 0, .bool false, .int .i64 0] 36) = W3 at M CB ⊢
            have cc0 := CB.cell 0 rfl
            go_quiet ((go_at_call 12; exact Calls.quiet_of_same ((num07 _ _).mono fun _ _ h => ⟨h.1, h.2.symm⟩)))
            replace M := M.free0 (upd_drewN (Upd.refl [] _) nq)
            clear cc0 CB
            generalize W3.drewN nq = W4 at M ⊢
            replace hgc := (HG.out.upd M.U (by simp)).cells gb go_ rfl i hgi
            rw [HY.out] at hgc
            go_wp2_with fail
            refine (num07 _ _).mono ?_
            rintro e w' ⟨rfl, rfl⟩
            go_wp2_with fail
            refine (got_walk M.hL M.may (by omega) hin hn2 y hyb n1 cN m1 zs.length sp1 [] M.b1 M.b2 M.x1 M.x2).mono ?_
            rintro e w9 ⟨rfl, R', F'', hR', hM', hL', u', hF'⟩
            replace M := M.next hL' hM' u' hF'
            clear hL' hM' u' hF'
            go_wp2_with fail
            go_roundw
            case rel => exact ⟨i + 1, R', L, F'', congrArg (Value.int .i64) (by omega), by go_num, ⟨by omega, by omega, by omega, by omega⟩, hin, M⟩
            case measure => simp [intOf]; omega
        · have d2 : decide (i < n2) = false := by simpa using hpi
          go_wp2_with fail
          refine (got_walk M.hL M.may (by omega) hin hn2 y hyb n1 cN m1 zs.length sp1 [] M.b1 M.b2 M.x1 M.x2).mono ?_
          rintro e w9 ⟨rfl, R', F'', hR', hM', hL', u', hF'⟩
          replace M := M.next hL' hM' u' hF'
          clear hL' hM' u' hF'
          go_wp2_with fail
          go_roundw
          case rel => exact ⟨i + 1, R', L, F'', congrArg (Value.int .i64) (by omega), by go_num, ⟨by omega, by omega, by omega, by omega⟩, hin, M⟩
          case measure => simp [intOf]; omega
      · have h5' : decide ((i : Int) < 500) = false := by simp; omega
        by_cases hpi : i < n2
        · have hpi' : (i : Int) < (n2 : Int) := by omega
          go_wp2_with fail
          go_roundw
          case rel => exact ⟨i + 1, R, L, F', congrArg (Value.int .i64) (by omega), by go_num, ⟨by omega, by omega, by omega, by omega⟩, hin, M⟩
          case measure => simp [intOf]; omega
        · have d2 : decide (i < n2) = false := by simpa using hpi
          go_wp2_with fail
          go_roundw
          case rel => exact ⟨i + 1, R, L, F', congrArg (Value.int .i64) (by omega), by go_num, ⟨by omega, by omega, by omega, by omega⟩, hin, M⟩
          case measure => simp [intOf]; omega
    · by_cases hpi : i < n2
      · have d1 : decide (i < gs.length) = false := by simpa using hgi
        have hpi' : (i : Int) < (n2 : Int) := by omega
        rcases hi5 with h5 | h5
        · have h5' : (i : Int) < 500 := by omega
          obtain ⟨pb, po, rfl⟩ := HV.out.ne (by omega)
          obtain ⟨hc0, hc1⟩ := HP.out.at HV.out hpi (M.U.below (Nat.le_refl _) (by simp))
          obtain ⟨_, _, hxb, hvb⟩ := HP.out i hpi
          generalize pA V2 i = x at hc0 hxb
          generalize pX V2 i = v at hc1 hvb
          go_wp2_with fail
          have CB := Blk.new wr [.int .u64 x, .int .u64 v] 53
          have e1 : wr.heap.size ≠ n1 := fun e => by have := M.b1.lt; omega
          have e2 : wr.heap.size ≠ m1 := fun e => by have := M.b2.lt; omega
          have hcb : wr.heap.size ∉ own X a F' := fun h => Nat.lt_irrefl _ (M.hL.lt _ h)
          replace M := M.free0 ((Upd.refl [] _).alloc (.cells #[.int .u64 x, .int .u64 v] 53))
          clear hc0 hc1
          generalize wr.alloc (.cells #[.int .u64 x, .int .u64 v] 53) = w7 at M CB ⊢
          generalize wr.heap.size = cb at CB e1 e2 hcb ⊢
          have e3 := Ne.symm e1
          have e4 := Ne.symm e2
          have e5 := M.ne
          have e6 := Ne.symm M.ne
          have hcall := put_x M.hL M.may x v hxb hvb
          by_cases hxl : x < zs.length
          · obtain ⟨k, rfl⟩ : ∃ k : Nat, x = k := ⟨x.toNat, by omega⟩
            have hkl : k < zs.length := by omega
            obtain ⟨L', he, hN', hB', hll, hmem, hM'⟩ := al_put_in (v := v) hkl (by omega) M.may
            rw [he] at hcall
            have hin' : ∀ c ∈ L', 0 ≤ c.1 ∧ c.1 < zs.length := fun c hc => by
              rcases hmem c hc with q | rfl
              · exact hin c q
              · exact ⟨by simp, by simp; omega⟩
            have HB' := Lib.hid hB'
            have HN' := Lib.hid hN'
            clear he hmem hB' hN'
            refine hcall.mono ?_
            clear hcall
            rintro e W2 ⟨rfl, F2, hL2, u2, hF2⟩
            simp only [Trn.val] at hL2 ⊢
            replace CB := (CB.upd u2 hcb).alloc (.cells #[.int .i64 3, .int .u64 0, .int .i64 0, .int .i64 3, .int .u64 k, .int .u64 v, .bool false, .int .i64 0] 36)
            replace M := (M.next hL2 hM' u2 hF2).free0 ((Upd.refl [] _).alloc (.cells #[.int .i64 3, .int .u64 0, .int .i64 0, .int .i64 3, .int .u64 k, .int .u64 v, .bool false, .int .i64 0] 36))
            clear hL2 hM' u2 hF2 hcb
            go_wp2_with fail
            generalize W2.alloc (.cells #[.int .i64 3, .int .u64 0, .int .i64 0, .int .i64 3, .int .u64 k, .int .u64 v, .bool false, .int .i64 0] 36) = W3 at M CB ⊢
            have cc0 := CB.cell 0 rfl
            have cc1 := CB.cell 1 rfl
            go_quiet ((go_at_call 12; exact Calls.quiet_of_same ((num07 _ _).mono fun _ _ h => ⟨h.1, h.2.symm⟩)))
            replace M := M.free0 (upd_drewN (Upd.refl [] _) nq)
            replace CB := CB.upd (upd_drewN (Upd.refl [] _) nq) (by simp)
            clear cc0 cc1
            generalize W3.drewN nq = W4 at M CB ⊢
            have cc0 := CB.cell 0 rfl
            have cc1 := CB.cell 1 rfl
            have cA := nowL_cell M.b1 k hkl
            have cB := wroteL_cell M.b2 k hkl
            have fA := M.b1.free k
            have fB := M.b2.free k
            go_wp2_with fail
            replace M := (M.set1 k (by rw [nowL_len]; exact hkl) v).set2 k (by rw [wroteL_len]; exact hkl) true
            rw [← HN'.out, ← HB'.out] at M
            generalize nowAt zs L k = z at cA
            cases hb : (place L (k : Int)).isSome with
            | true =>
              rw [hb] at cB hll
              have hll : L'.length = L.length := hll
              clear hb
              refine (num07 _ _).mono ?_
              rintro e w' ⟨rfl, rfl⟩
              go_wp2_with fail
              clear cA cB fA fB cc0 cc1 CB
              generalize (W4.setCell ⟨n1, k, none⟩ (.int .u64 v)).setCell ⟨m1, k, none⟩ (.bool true) = W5 at M ⊢
              go_roundw
              case rel => exact ⟨i + 1, R, L', F2, congrArg (Value.int .i64) (by omega), by go_num, ⟨by omega, by omega, by omega, by omega⟩, hin', M⟩
              case measure => simp [intOf]; omega
            | false =>
              rw [hb] at cB hll
              have hll : L'.length = L.length + 1 := hll
              clear hb
              refine (num07 _ _).mono ?_
              rintro e w' ⟨rfl, rfl⟩
              go_wp2_with fail
              clear cA cB fA fB cc0 cc1 CB
              generalize (W4.setCell ⟨n1, k, none⟩ (.int .u64 v)).setCell ⟨m1, k, none⟩ (.bool true) = W5 at M ⊢
              go_roundw
              case rel => exact ⟨i + 1, R, L', F2, congrArg (Value.int .i64) (by omega), by go_num, ⟨by omega, by omega, by omega, by omega⟩, hin', M⟩
              case measure => simp [intOf]; omega
          · rw [al_put_out hxl] at hcall
            have hxd : decide (x < (zs.length : Int)) = false := by simpa using hxl
            refine hcall.mono ?_
            clear hcall
            rintro e W2 ⟨rfl, F2, hL2, u2, hF2⟩
            simp only [Trn.val, trnNone, evNone] at hL2 ⊢
            replace CB := (CB.upd u2 hcb).alloc (.cells #[.int .i64 0, .int .u64 0, .int .i64 0, .int .i64 0, .int .u64 0, .int .u64 0, .bool false, .int .i64 0] 36)
            replace M := (M.next hL2 M.may u2 hF2).free0 ((Upd.refl [] _).alloc (.cells #[.int .i64 0, .int .u64 0, .int .i64 0, .int .i64 0, .int .u64 0, .int .u64 0, .bool false, .int .i64 0] 36))
            clear hL2 u2 hF2 hcb
            go_wp2_with fail
            generalize W2.alloc (.cells #[.int .i64 0, .int .u64 0, .int .i64 0, .int .i64 0, .int .u64 0, .int .u64 0, .bool false, .int .i64 0] 36) = W3 at M CB ⊢
            have cc0 := CB.cell 0 rfl
            go_quiet ((go_at_call 12; exact Calls.quiet_of_same ((num07 _ _).mono fun _ _ h => ⟨h.1, h.2.symm⟩)))
            replace M := M.free0 (upd_drewN (Upd.refl [] _) nq)
            clear cc0 CB
            generalize W3.drewN nq = W4 at M ⊢
            go_wp2_with fail
            refine (num07 _ _).mono ?_
            rintro e w' ⟨rfl, rfl⟩
            go_wp2_with fail
            go_roundw
            case rel => exact ⟨i + 1, R, L, F2, congrArg (Value.int .i64) (by omega), by go_num, ⟨by omega, by omega, by omega, by omega⟩, hin, M⟩
            case measure => simp [intOf]; omega
        · have h5' : decide ((i : Int) < 500) = false := by simp; omega
          go_wp2_with fail
          go_roundw
          case rel => exact ⟨i + 1, R, L, F', congrArg (Value.int .i64) (by omega), by go_num, ⟨by omega, by omega, by omega, by omega⟩, hin, M⟩
          case measure => simp [intOf]; omega
      · have d1 : decide (i < gs.length) = false := by simpa using hgi
        have d2 : decide (i < n2) = false := by simpa using hpi
        have hcm := committed_walk M.hL M.may hin hn2 hL2 _ rfl n1 cN sp1 M.b1 M.x1
        rw [nowL_len] at hcm
        go_wp2_with fail
        refine hcm.mono ?_
        rintro e w7 ⟨rfl, u7⟩
        go_wp2_with fail
        refine (known07_walk w7).mono ?_
        rintro e w8 ⟨rfl, u8⟩
        have U8 := M.U.tr (U := []) u7 (by simp) (fun x hx => .inr (M.out x hx))
        go_wp2_with fail
        all_goals exact ⟨rfl, U8.trans u8⟩
theorem alone_walk (w : World) (p0 p1 p2 : Option Addr) (zs gs : List Int) (c0 c1 c2 n2 : Nat) (V2 : Nat → Value) (h0 : SlI w .u64 p0 zs) (hz : ∀ v ∈ zs, 0 ≤ v ∧ v < 18446744073709551616) (hm : zs.length ≤ maxLen)
    (h1 : SlI w .u64 p1 gs) (hg : ∀ v ∈ gs, 0 ≤ v ∧ v < 18446744073709551616) (hgl : gs.length ≤ 4611686018427387904) (h2 : SlV w p2 (n2 * 2) V2) (hV2 : PairsAt n2 V2) (hl2 : n2 ≤ 4611686018427387904) :
    Calls Try.prog 5 #[.slice p0 zs.length c0, .slice p1 gs.length c1, .slice p2 n2 c2] w fun e w' => e = .returned (.bool true) ∧ Upd [] w w' := by
  by_cases h : 1 ≤ zs.length ∧ zs.length ≤ 65536
  · exact alone_good w p0 p1 p2 zs gs c0 c1 c2 n2 V2 h0 hz h.1 h.2 h1 hg hgl h2 hV2 hl2
  · exact alone_bad w p0 p1 p2 zs.length c0 gs.length c1 n2 c2 (by omega) hm
end Go.Proofs.Ythfeljongackcaa
