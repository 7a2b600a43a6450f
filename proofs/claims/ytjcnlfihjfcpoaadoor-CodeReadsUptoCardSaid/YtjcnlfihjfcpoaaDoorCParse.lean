/- Parse: of any line the instruction whose text it is. The conditions: the tables are laid; the line is of a size that strings.Split's contract bears. -/
import Derived.Test.YtjcnlfihjfcpoaaDoorCPre
import Derived.Deep.RegionHeld3
set_option linter.unusedSimpArgs false
set_option linter.unusedVariables false
set_option maxRecDepth 100000
namespace Go.Proofs.YtjcnlfihjfcpoaaDoor
open Go.RowKit

/-- what strings.Split hands back at a blank -/
theorem split_any (s : ByteArray) (hs : s.size < 4294967281) : ∃ (n : Nat) (px : Nat → ByteArray) (cs : List Value), 1 ≤ n ∧ n = (sp s.data.toList).length ∧ cs.length = n ∧ (∀ j, j < n → cs[j]? = some (.string (px j))) ∧ (∀ j, (px j).data.toList = (sp s.data.toList).getD j []) ∧ (∀ j, (px j).size ≤ s.size) ∧ n ≤ s.size + 1 ∧
    ∀ (w : World), (∃ m, w.cell? ⟨2, 0, none⟩ = some (.int .i64 m)) → Calls Tryd.prog 37 #[.string s, .string ⟨#[32]⟩] w fun e w' => e = .returned (.slice (some ⟨w.heap.size, 0, none⟩) n n) ∧ w' = w.alloc (.cells cs.toArray 9) := by
  have hlen := Lib.splitB_all ⟨#[32]⟩ (by decide) 0 _ s rfl
  have hdat := split_data s
  have hc := fun w m hm => Tryd.strings_Split s ⟨#[32]⟩ m w hs hm (by decide)
  obtain ⟨X, hX⟩ : ∃ X, Lib.splitB ⟨#[32]⟩ 0 (Lib.countB s ⟨#[32]⟩) s = X := ⟨_, rfl⟩
  rw [hX] at hlen hdat
  rw [← hlen, hX] at hc
  have hn : X.length = (sp s.data.toList).length := by rw [← hdat, List.length_map]
  have hg : ∀ j, (X.getD j ⟨#[]⟩).data.toList = (sp s.data.toList).getD j [] := fun j => by
    rw [← hdat, List.getD_eq_getElem?_getD, List.getD_eq_getElem?_getD, List.getElem?_map]
    cases X[j]? <;> rfl
  refine ⟨X.length, fun j => X.getD j ⟨#[]⟩, X.map .string, by omega, hn, List.length_map _, fun j hj => ?_, hg, fun j => ?_, by rw [hn, Lib.size_eq]; exact sp_len_le _, fun w ⟨m, hm⟩ => hc w m hm⟩
  · show _ = some (Value.string (X.getD j ⟨#[]⟩))
    rw [List.getElem?_map, List.getD_eq_getElem?_getD, List.getElem?_eq_getElem hj]; rfl
  · rw [Lib.size_eq, Lib.size_eq, hg j, List.getD_eq_getElem?_getD]
    cases h : (sp s.data.toList)[j]? with
    | none => simp
    | some p => exact sp_piece _ _ (List.mem_of_getElem? h)

def rk (P : List (List UInt8)) (k j : Nat) : Int := if j < k then ((numL (P.getD (1 + j) [])).1 : Nat) else 0

theorem rk_rg (P : List (List UInt8)) (R j : Nat) : rk P R j = (rg P R j : Nat) := by
  unfold rk rg
  split <;> rfl
theorem rk_set (P : List (List UInt8)) (op N : Int) (k x : Nat) (hk : k < 3) (hx : (numL (P.getD (1 + k) [])).1 = x) :
    [Value.int .i64 op, .int .i64 (rk P k 0), .int .i64 (rk P k 1), .int .i64 (rk P k 2), .int .u64 N].set (1 + k) (.int .i64 (x : Int)) = [Value.int .i64 op, .int .i64 (rk P (k + 1) 0), .int .i64 (rk P (k + 1) 1), .int .i64 (rk P (k + 1) 2), .int .u64 N] := by
  subst hx
  have : k = 0 ∨ k = 1 ∨ k = 2 := by omega
  rcases this with rfl | rfl | rfl <;> simp [rk]
theorem rk_at (P : List (List UInt8)) (op N : Int) (k j : Nat) (hk : j < 3) : ∃ z, [Value.int .i64 op, .int .i64 (rk P k 0), .int .i64 (rk P k 1), .int .i64 (rk P k 2), .int .u64 N][1 + j]? = some (.int .i64 z) := by
  have : j = 0 ∨ j = 1 ∨ j = 2 := by omega
  rcases this with rfl | rfl | rfl
  · exact ⟨_, rfl⟩
  · exact ⟨_, rfl⟩
  · exact ⟨_, rfl⟩
theorem ptr_at (b k : Nat) (hk : k < 3) : (#[Value.pointer (some ⟨b, 1, none⟩), .pointer (some ⟨b, 2, none⟩), .pointer (some ⟨b, 3, none⟩)] : Array Value)[k]? = some (.pointer (some ⟨b, 1 + k, none⟩)) := by
  have : k = 0 ∨ k = 1 ∨ k = 2 := by omega
  rcases this with rfl | rfl | rfl <;> rfl

theorem cell5_results {fn : Func} (hr : fn.results = #[.cell 2 38, .tmp 3]) (t : Array Value) (w : World) (rb : Nat) (a b c d e v : Value) (h2 : t.getD 2 undef = .pointer (some ⟨rb, 0, none⟩)) (h3 : t.getD 3 undef = v) (hb : Blk w rb [a, b, c, d, e] 38) :
    (results fn t).run Tryd.prog w = .ok (.tuple #[.agg #[a, b, c, d, e], v]) w := by
  have c0 := hb.cell 0 rfl
  have c1 := hb.cell 1 rfl
  have c2 := hb.cell 2 rfl
  have c3 := hb.cell 3 rfl
  have c4 := hb.cell 4 rfl
  have h2' : t[2]?.getD undef = .pointer (some ⟨rb, 0, none⟩) := by simpa using h2
  have h3' : t[3]?.getD undef = v := by simpa using h3
  simp [results, hr, h2', h3', go_sem, c0, c1, c2, c3, c4]


set_option maxHeartbeats 4000000 in
theorem parse_any (s : ByteArray) (w : World) (hs : s.size < 4294967281) (hP : Pre w) : Calls Tryd.prog 21 #[.string s] w fun e w' => e = .returned (.tuple #[(insO (parseL s.data.toList)).val, .int .i64 (errO (parseL s.data.toList))]) ∧ Upd [] w w' := by
  obtain ⟨n, px, cs, hn1, hnP, hcl, hcs, hpx, hps, hns, HSP⟩ := split_any s hs
  have HNM := fun w hw => named (px 0) w hw
  rw [hpx 0] at HNM
  have hR3 := regs_le (namedL ((sp s.data.toList).getD 0 [])).1
  have HI := fun w => info (namedL ((sp s.data.toList).getD 0 [])).1 w
  have HX : Hid (parseL s.data.toList = _) := Lib.hid (by unfold parseL; exact rfl)
  have HNU := fun j w he => number_any (px j) (by have := hps j; omega) w he
  simp only [hpx] at HNU
  obtain ⟨X, hX⟩ : ∃ X, parseL s.data.toList = X := ⟨_, rfl⟩
  rw [hX] at HX ⊢
  clear hX hps hpx
  generalize sp s.data.toList = P at *
  generalize namedL (P.getD 0 []) = o at *
  obtain ⟨op, ok⟩ := o
  simp only at HNM hR3 HI HX
  generalize isOp op = iso at *
  generalize formI op = f at *
  obtain ⟨R, num, tg, ou, ins⟩ := f
  simp only [Form.val] at HI hR3 HX
  have HNP := Lib.hid hnP
  clear hnP
  refine calls_all fun K hK => ?_
  go_enter Tryd.func21, Tryd.ntmps21
  go_wp2_with fail
  refine (HSP _ (by obtain ⟨m, hm⟩ := hP.max; exact ⟨m, cell_upd hm ((Upd.refl [] w).alloc _) (by simp)⟩)).mono ?_
  rintro e w1 ⟨rfl, rfl⟩
  have u1 : Upd [] w ((w.alloc (.cells #[.int .i64 0, .int .i64 0, .int .i64 0, .int .i64 0, .int .u64 0] 38)).alloc (.cells cs.toArray 9)) := ((Upd.refl _ _).alloc _).alloc _
  have hb0 := (Blk.new w [.int .i64 0, .int .i64 0, .int .i64 0, .int .i64 0, .int .u64 0] 38).alloc (.cells cs.toArray 9)
  have hb1 := Blk.new (w.alloc (.cells #[.int .i64 0, .int .i64 0, .int .i64 0, .int .i64 0, .int .u64 0] 38)) cs 9
  obtain ⟨W1, hW1⟩ : ∃ W1, (w.alloc (.cells #[.int .i64 0, .int .i64 0, .int .i64 0, .int .i64 0, .int .u64 0] 38)).alloc (.cells cs.toArray 9) = W1 := ⟨_, rfl⟩
  rw [hW1] at u1 hb0 hb1 ⊢
  clear hW1
  obtain ⟨rb, hrb⟩ : ∃ rb, w.heap.size = rb := ⟨_, rfl⟩
  obtain ⟨sb, hsb⟩ : ∃ sb, (w.alloc (.cells #[.int .i64 0, .int .i64 0, .int .i64 0, .int .i64 0, .int .u64 0] 38)).heap.size = sb := ⟨_, rfl⟩
  have hrs : rb < sb := by rw [← hsb, ← hrb]; simp
  rw [hrb] at hb0
  rw [hsb] at hb1
  simp only [World.size_alloc, hrb] at hsb
  try rw [hrb]
  try rw [hsb]
  have HU1 := Lib.hid u1
  have HB0 := Lib.hid hb0
  have HB1 := Lib.hid hb1
  have c0 := hb1.cell 0 (hcs 0 (by omega))
  clear u1 hb0 hb1
  go_wp2_with fail
  refine (HNM _ (hP.names.upd HU1.out (by simp))).mono ?_
  rintro e w2 ⟨rfl, hw2⟩
  subst hw2
  go_wp2_with fail
  refine (HI _).mono ?_
  rintro e w3 ⟨rfl, u3⟩
  have c1 : ∀ j, j < n → w3.cell? ⟨sb, j, none⟩ = some (.string (px j)) := fun j hj => (HB1.out.upd u3 (by simp)).cell j (hcs j hj)
  have HB0' := Lib.hid (HB0.out.upd u3 (by simp))
  have HB1' := Lib.hid (HB1.out.upd u3 (by simp))
  have HU3 := Lib.hid (HU1.out.trans u3)
  clear c0 HB0 HB1 HU1 u3
  have hfb0 := HB1'.out.lt
  have hwl : w.heap.size ≤ w3.heap.size := HU3.out.size
  cases num with
  | true =>
    by_cases hn2 : 2 ≤ n
    · obtain ⟨m, rfl⟩ : ∃ m, n = m + 2 := ⟨n - 2, by omega⟩
      have hg : ¬ (m : Int) + 2 < 1 := by omega
      have cl := ((HB1'.out.alloc (.cells #[.int .i64 (R : Int), .bool true, .bool tg, .bool ou, .bool ins] 24)).alloc (.cells #[.int .i64 (op : Int), .int .i64 0, .int .i64 0, .int .i64 0, .int .u64 0] 38)).cell (1 + m) (hcs (1 + m) (by omega))
      have hw5 : Upd [] w3 ((w3.alloc (.cells #[.int .i64 (R : Int), .bool true, .bool tg, .bool ou, .bool ins] 24)).alloc (.cells #[.int .i64 (op : Int), .int .i64 0, .int .i64 0, .int .i64 0, .int .u64 0] 38)) := ((Upd.refl _ _).alloc _).alloc _
      have HW5 := Lib.hid hw5
      clear hw5
      go_wp2_with fail
      refine (HNU (1 + m) _ ((hP.errs.upd HU3.out).upd HW5.out)).mono ?_
      rintro e w4 ⟨rfl, u4⟩
      have bf := ((Blk.new w3 [.int .i64 (R : Int), .bool true, .bool tg, .bool ou, .bool ins] 24).alloc (.cells #[.int .i64 (op : Int), .int .i64 0, .int .i64 0, .int .i64 0, .int .u64 0] 38)).upd u4 (by simp)
      have bi := (Blk.new (w3.alloc (.cells #[.int .i64 (R : Int), .bool true, .bool tg, .bool ou, .bool ins] 24)) [.int .i64 (op : Int), .int .i64 0, .int .i64 0, .int .i64 0, .int .u64 0] 38).upd u4 (by simp)
      have HB04 := Lib.hid (HB0'.out.upd (HW5.out.trans u4) (by simp))
      have HB14 := Lib.hid (HB1'.out.upd (HW5.out.trans u4) (by simp))
      have HU4 := Lib.hid (HU3.out.trans (HW5.out.trans u4))
      clear u4 cl HB0' HB1' HU3 HW5
      simp only [World.size_alloc] at bi
      obtain ⟨fb, hfb⟩ : ∃ fb, w3.heap.size = fb := ⟨_, rfl⟩
      rw [hfb] at bf bi hfb0 hwl ⊢
      clear hfb
      obtain ⟨q, hq⟩ : ∃ q, numL (P.getD (1 + m) []) = q := ⟨_, rfl⟩
      rw [hq]
      have HQ := Lib.hid hq
      clear hq
      obtain ⟨N, is⟩ := q
      have i4 := bi.cell 4 rfl
      have f0 := bf.cell 0 rfl
      have f1 := bf.cell 1 rfl
      have z4 := bi.free 4
      have hne : fb + 1 ≠ rb := by omega
      have hne' : rb ≠ fb + 1 := by omega
      have hlast : Hid (lastN P = (N, is)) := Lib.hid (by unfold lastN; rw [← HNP.out, show m + 2 - 1 = 1 + m by omega]; exact HQ.out)
      have HBFF := Lib.hid bf
      have HBII := Lib.hid bi
      clear bf bi
      cases ok with
      | false =>
        have HE : Hid (X = none) := Lib.hid (HX.out.trans (parseF_ok rfl))
        have r0 := (HB04.out).cell 0 rfl
        have r1 := (HB04.out).cell 1 rfl
        have r2 := (HB04.out).cell 2 rfl
        have r3 := (HB04.out).cell 3 rfl
        have r4 := (HB04.out).cell 4 rfl
        have q0 := (HB04.out).free 0
        have q1 := (HB04.out).free 1
        have q2 := (HB04.out).free 2
        have q3 := (HB04.out).free 3
        have q4 := (HB04.out).free 4
        go_wp2
        all_goals exact ⟨rfl, _, cell5_results rfl _ _ rb _ _ _ _ _ _ rfl rfl ((((((HB04.out.other ⟨fb + 1, 4, none⟩ (.int .u64 (N : Int)) hne').set 0 _).set 1 _).set 2 _).set 3 _).set 4 _), hK _ _ ⟨by rw [HE.out]; rfl, by (repeat (refine Upd.setCell ?_ (Or.inr (by dsimp only; omega)) _)); first | exact (HU4).out | exact (((HU4).out.alloc _).alloc _)⟩⟩
      | true =>
        cases is with
        | false =>
          have HE : Hid (X = none) := Lib.hid (HX.out.trans (parseF_num rfl (by rw [hlast.out])))
          have r0 := (HB04.out).cell 0 rfl
          have r1 := (HB04.out).cell 1 rfl
          have r2 := (HB04.out).cell 2 rfl
          have r3 := (HB04.out).cell 3 rfl
          have r4 := (HB04.out).cell 4 rfl
          have q0 := (HB04.out).free 0
          have q1 := (HB04.out).free 1
          have q2 := (HB04.out).free 2
          have q3 := (HB04.out).free 3
          have q4 := (HB04.out).free 4
          go_wp2
          all_goals exact ⟨rfl, _, cell5_results rfl _ _ rb _ _ _ _ _ _ rfl rfl ((((((HB04.out.other ⟨fb + 1, 4, none⟩ (.int .u64 (N : Int)) hne').set 0 _).set 1 _).set 2 _).set 3 _).set 4 _), hK _ _ ⟨by rw [HE.out]; rfl, by (repeat (refine Upd.setCell ?_ (Or.inr (by dsimp only; omega)) _)); first | exact (HU4).out | exact (((HU4).out.alloc _).alloc _)⟩⟩
        | true =>
          by_cases hmR : m = R
          · subst hmR
            have hxx : ((m : Int) != (m : Int)) = false := by simp
            go_wp2_with fail
            have HBI := Lib.hid (HBII.out.set 4 (.int .u64 (N : Int)))
            have HBR := Lib.hid (HB04.out.other ⟨fb + 1, 4, none⟩ (.int .u64 (N : Int)) hne')
            have HBS := Lib.hid (HB14.out.other ⟨fb + 1, 4, none⟩ (.int .u64 (N : Int)) (by dsimp only; omega))
            have HBF := Lib.hid (HBFF.out.other ⟨fb + 1, 4, none⟩ (.int .u64 (N : Int)) (by dsimp only; omega))
            have HUW := Lib.hid (HU4.out.setCell (p := ⟨fb + 1, 4, none⟩) (.inr (by dsimp only; omega)) (.int .u64 (N : Int)))
            clear i4 z4 f0 f1 HB04 HB14 HBFF HBII HU4 c1
            obtain ⟨W, hW⟩ : ∃ W, w4.setCell ⟨fb + 1, 4, none⟩ (.int .u64 (N : Int)) = W := ⟨_, rfl⟩
            rw [hW] at HBI HBR HBS HBF HUW ⊢
            clear hW
            go_loopw [74] (fun v74 wr => ∃ k : Nat, k ≤ m ∧ v74 = .int .i64 k ∧ Blk wr (fb + 1) [.int .i64 (op : Int), .int .i64 (rk P k 0), .int .i64 (rk P k 1), .int .i64 (rk P k 2), .int .u64 (N : Int)] 38 ∧ Upd [fb + 1] W wr ∧ ∀ j, j < k → regOk (P.getD (1 + j) []) = true) (fun v74 _ => m - (intOf v74).toNat)
            case atStart => exact ⟨0, by omega, rfl, by simpa [rk] using HBI.out, Upd.refl _ _, by omega⟩
            case round =>
              obtain ⟨k, hk, rfl, hbi, hur, hall⟩ := hrel
              have HUr := Lib.hid hur
              have HA := Lib.hid hall
              have HBr := Lib.hid hbi
              have HRr := Lib.hid (HBR.out.upd hur (by simp; omega))
              clear hbi hur hall HBI
              by_cases hlt : k < m
              · have hkl : (k : Int) < (m : Int) := by omega
                have cl := (HBS.out.upd HUr.out (by simp; omega)).cell (1 + k) (hcs (1 + k) (by omega))
                have hUw := Lib.hid ((HUW).out.tr HUr.out (U := []) (by simp) (by simp; omega))
                go_wp2_with fail
                refine (HNU (1 + k) _ (hP.errs.upd hUw.out)).mono ?_
                rintro e w6 ⟨rfl, u6⟩
                have HU6 := Lib.hid (hUw.out.trans u6)
                have HUr6 := Lib.hid (HUr.out.trans (u6.mono (by simp)))
                have B6 := HBr.out.upd u6 (by simp)
                have R6 := HRr.out.upd u6 (by simp)
                clear cl u6 HUr HBr HRr hUw
                obtain ⟨q, hq⟩ : ∃ q, numL (P.getD (1 + k) []) = q := ⟨_, rfl⟩
                rw [hq]
                have hxl := numL_lt (P.getD (1 + k) [])
                rw [hq] at hxl
                have HQk := Lib.hid hq
                clear hq
                obtain ⟨x, is⟩ := q
                simp only at hxl
                have hix : ∀ W, (Instr.index 80 (.agg #[.pointer (some ⟨fb + 1, 1, none⟩), .pointer (some ⟨fb + 1, 2, none⟩), .pointer (some ⟨fb + 1, 3, none⟩)]) (.int .i64 (k : Int))).run Tryd.prog W = .ok (.pointer (some ⟨fb + 1, 1 + k, none⟩)) W := fun W => run_index_arr1 _ 79 3 _ _ k _ Tryd.underlying80 (fun w => by go_simp) (fun w => by go_simp) (by omega) (ptr_at _ _ (by omega))
                cases is with
                | false =>
                  have HE : Hid (X = none) := Lib.hid (HX.out.trans (parseF_reg hlt (by unfold regOk; rw [HQk.out]; rfl)))
                  have r0 := (R6).cell 0 rfl
                  have r1 := (R6).cell 1 rfl
                  have r2 := (R6).cell 2 rfl
                  have r3 := (R6).cell 3 rfl
                  have r4 := (R6).cell 4 rfl
                  have q0 := (R6).free 0
                  have q1 := (R6).free 1
                  have q2 := (R6).free 2
                  have q3 := (R6).free 3
                  have q4 := (R6).free 4
                  have HR6 := Lib.hid R6
                  clear R6 B6 hix
                  go_wp2
                  all_goals exact ⟨rfl, _, cell5_results rfl _ _ rb _ _ _ _ _ _ rfl rfl ((((((HR6.out).set 0 _).set 1 _).set 2 _).set 3 _).set 4 _), hK _ _ ⟨by rw [HE.out]; rfl, by (repeat (refine Upd.setCell ?_ (Or.inr (by dsimp only; omega)) _)); first | exact (HU6).out | exact (((HU6).out.alloc _).alloc _)⟩⟩
                | true =>
                  by_cases hx8 : x < 8
                  · obtain ⟨z, hz⟩ := rk_at P (op : Int) (N : Int) k k (by omega)
                    have ci := B6.cell (1 + k) hz
                    have cf := B6.free (1 + k)
                    have BS := B6.set (1 + k) (.int .i64 (x : Int))
                    rw [rk_set P _ _ k x (by omega) (by rw [HQk.out])] at BS
                    have HBS6 := Lib.hid BS
                    have hx8' : ¬ 8 ≤ x := by omega
                    have hwx : IntKind.i64.wrap (x : Int) = x := by rw [IntKind.wrap_i64]; omega
                    clear B6 BS R6
                    go_wp2_with fail
                    go_roundw
                    case rel => exact ⟨k + 1, by omega, by go_num, HBS6.out, HUr6.out.setCell (.inl (by simp)) _, fun j hj => by
                      rcases Nat.lt_succ_iff_lt_or_eq.1 hj with h | rfl
                      · exact HA.out j h
                      · unfold regOk; rw [HQk.out]; simp [hx8]⟩
                    case measure => simp [intOf]; omega
                  · have HE : Hid (X = none) := Lib.hid (HX.out.trans (parseF_reg hlt (by unfold regOk; rw [HQk.out]; simp [hx8])))
                    have hx8' : 8 ≤ x := by omega
                    have r0 := (R6).cell 0 rfl
                    have r1 := (R6).cell 1 rfl
                    have r2 := (R6).cell 2 rfl
                    have r3 := (R6).cell 3 rfl
                    have r4 := (R6).cell 4 rfl
                    have q0 := (R6).free 0
                    have q1 := (R6).free 1
                    have q2 := (R6).free 2
                    have q3 := (R6).free 3
                    have q4 := (R6).free 4
                    have HR6 := Lib.hid R6
                    clear R6 B6 hix
                    go_wp2
                    all_goals exact ⟨rfl, _, cell5_results rfl _ _ rb _ _ _ _ _ _ rfl rfl ((((((HR6.out).set 0 _).set 1 _).set 2 _).set 3 _).set 4 _), hK _ _ ⟨by rw [HE.out]; rfl, by (repeat (refine Upd.setCell ?_ (Or.inr (by dsimp only; omega)) _)); first | exact (HU6).out | exact (((HU6).out.alloc _).alloc _)⟩⟩
              · obtain rfl : k = m := by omega
                have HE := Lib.hid (HX.out.trans ((fun h => (parseF_yes rfl (by rw [← HNP.out]; (try simp); (try omega)) h (fun _ => by rw [hlast.out])).trans (by rw [hlast.out])) HA.out))
                have i0 := HBr.out.cell 0 rfl
                have i1 := HBr.out.cell 1 rfl
                have i2 := HBr.out.cell 2 rfl
                have i3 := HBr.out.cell 3 rfl
                have i4 := HBr.out.cell 4 rfl
                have r0 := (HRr.out).cell 0 rfl
                have r1 := (HRr.out).cell 1 rfl
                have r2 := (HRr.out).cell 2 rfl
                have r3 := (HRr.out).cell 3 rfl
                have r4 := (HRr.out).cell 4 rfl
                have q0 := (HRr.out).free 0
                have q1 := (HRr.out).free 1
                have q2 := (HRr.out).free 2
                have q3 := (HRr.out).free 3
                have q4 := (HRr.out).free 4
                have hUw := Lib.hid ((HUW).out.tr HUr.out (U := []) (by simp) (by simp; omega))
                clear HUr HBr
                rw [rk_rg] at i1 i2 i3
                go_wp2
                all_goals exact ⟨rfl, _, cell5_results rfl _ _ rb _ _ _ _ _ _ rfl rfl ((((((HRr.out).set 0 _).set 1 _).set 2 _).set 3 _).set 4 _), hK _ _ ⟨by rw [HE.out]; rfl, by (repeat (refine Upd.setCell ?_ (Or.inr (by dsimp only; omega)) _)); first | exact (hUw).out | exact (((hUw).out.alloc _).alloc _)⟩⟩
          · have HE : Hid (X = none) := Lib.hid (HX.out.trans (parseF_len (by rw [← HNP.out]; (try simp); (try omega))))
            have g1 : ((m : Int) != (R : Int)) = true := by simp; omega
            have g2 : (m == R) = false := by simp; omega
            have r0 := (HB04.out).cell 0 rfl
            have r1 := (HB04.out).cell 1 rfl
            have r2 := (HB04.out).cell 2 rfl
            have r3 := (HB04.out).cell 3 rfl
            have r4 := (HB04.out).cell 4 rfl
            have q0 := (HB04.out).free 0
            have q1 := (HB04.out).free 1
            have q2 := (HB04.out).free 2
            have q3 := (HB04.out).free 3
            have q4 := (HB04.out).free 4
            go_wp2
            all_goals exact ⟨rfl, _, cell5_results rfl _ _ rb _ _ _ _ _ _ rfl rfl ((((((HB04.out.other ⟨fb + 1, 4, none⟩ (.int .u64 (N : Int)) hne').set 0 _).set 1 _).set 2 _).set 3 _).set 4 _), hK _ _ ⟨by rw [HE.out]; rfl, by (repeat (refine Upd.setCell ?_ (Or.inr (by dsimp only; omega)) _)); first | exact (HU4).out | exact (((HU4).out.alloc _).alloc _)⟩⟩
    · obtain rfl : n = 1 := by omega
      have HE : Hid (X = none) := Lib.hid (HX.out.trans (parseF_len (by rw [← HNP.out]; (try simp); (try omega))))
      have r0 := ((HB0'.out.alloc (.cells #[.int .i64 (R : Int), .bool true, .bool tg, .bool ou, .bool ins] 24)).alloc (.cells #[.int .i64 (op : Int), .int .i64 0, .int .i64 0, .int .i64 0, .int .u64 0] 38)).cell 0 rfl
      have r1 := ((HB0'.out.alloc (.cells #[.int .i64 (R : Int), .bool true, .bool tg, .bool ou, .bool ins] 24)).alloc (.cells #[.int .i64 (op : Int), .int .i64 0, .int .i64 0, .int .i64 0, .int .u64 0] 38)).cell 1 rfl
      have r2 := ((HB0'.out.alloc (.cells #[.int .i64 (R : Int), .bool true, .bool tg, .bool ou, .bool ins] 24)).alloc (.cells #[.int .i64 (op : Int), .int .i64 0, .int .i64 0, .int .i64 0, .int .u64 0] 38)).cell 2 rfl
      have r3 := ((HB0'.out.alloc (.cells #[.int .i64 (R : Int), .bool true, .bool tg, .bool ou, .bool ins] 24)).alloc (.cells #[.int .i64 (op : Int), .int .i64 0, .int .i64 0, .int .i64 0, .int .u64 0] 38)).cell 3 rfl
      have r4 := ((HB0'.out.alloc (.cells #[.int .i64 (R : Int), .bool true, .bool tg, .bool ou, .bool ins] 24)).alloc (.cells #[.int .i64 (op : Int), .int .i64 0, .int .i64 0, .int .i64 0, .int .u64 0] 38)).cell 4 rfl
      have q0 := ((HB0'.out.alloc (.cells #[.int .i64 (R : Int), .bool true, .bool tg, .bool ou, .bool ins] 24)).alloc (.cells #[.int .i64 (op : Int), .int .i64 0, .int .i64 0, .int .i64 0, .int .u64 0] 38)).free 0
      have q1 := ((HB0'.out.alloc (.cells #[.int .i64 (R : Int), .bool true, .bool tg, .bool ou, .bool ins] 24)).alloc (.cells #[.int .i64 (op : Int), .int .i64 0, .int .i64 0, .int .i64 0, .int .u64 0] 38)).free 1
      have q2 := ((HB0'.out.alloc (.cells #[.int .i64 (R : Int), .bool true, .bool tg, .bool ou, .bool ins] 24)).alloc (.cells #[.int .i64 (op : Int), .int .i64 0, .int .i64 0, .int .i64 0, .int .u64 0] 38)).free 2
      have q3 := ((HB0'.out.alloc (.cells #[.int .i64 (R : Int), .bool true, .bool tg, .bool ou, .bool ins] 24)).alloc (.cells #[.int .i64 (op : Int), .int .i64 0, .int .i64 0, .int .i64 0, .int .u64 0] 38)).free 3
      have q4 := ((HB0'.out.alloc (.cells #[.int .i64 (R : Int), .bool true, .bool tg, .bool ou, .bool ins] 24)).alloc (.cells #[.int .i64 (op : Int), .int .i64 0, .int .i64 0, .int .i64 0, .int .u64 0] 38)).free 4
      go_wp2
      all_goals exact ⟨rfl, _, cell5_results rfl _ _ rb _ _ _ _ _ _ rfl rfl (((((((HB0'.out.alloc _).alloc _).set 0 _).set 1 _).set 2 _).set 3 _).set 4 _), hK _ _ ⟨by rw [HE.out]; rfl, by (repeat (refine Upd.setCell ?_ (Or.inr (by dsimp only; omega)) _)); first | exact (HU3).out | exact (((HU3).out.alloc _).alloc _)⟩⟩
  | false =>
    obtain ⟨m, rfl⟩ : ∃ m, n = m + 1 := ⟨n - 1, by omega⟩
    have hg : ¬ (m : Int) + 1 < 1 := by omega
    have r0 := ((HB0'.out.alloc (.cells #[.int .i64 (R : Int), .bool false, .bool tg, .bool ou, .bool ins] 24)).alloc (.cells #[.int .i64 (op : Int), .int .i64 0, .int .i64 0, .int .i64 0, .int .u64 0] 38)).cell 0 rfl
    have r1 := ((HB0'.out.alloc (.cells #[.int .i64 (R : Int), .bool false, .bool tg, .bool ou, .bool ins] 24)).alloc (.cells #[.int .i64 (op : Int), .int .i64 0, .int .i64 0, .int .i64 0, .int .u64 0] 38)).cell 1 rfl
    have r2 := ((HB0'.out.alloc (.cells #[.int .i64 (R : Int), .bool false, .bool tg, .bool ou, .bool ins] 24)).alloc (.cells #[.int .i64 (op : Int), .int .i64 0, .int .i64 0, .int .i64 0, .int .u64 0] 38)).cell 2 rfl
    have r3 := ((HB0'.out.alloc (.cells #[.int .i64 (R : Int), .bool false, .bool tg, .bool ou, .bool ins] 24)).alloc (.cells #[.int .i64 (op : Int), .int .i64 0, .int .i64 0, .int .i64 0, .int .u64 0] 38)).cell 3 rfl
    have r4 := ((HB0'.out.alloc (.cells #[.int .i64 (R : Int), .bool false, .bool tg, .bool ou, .bool ins] 24)).alloc (.cells #[.int .i64 (op : Int), .int .i64 0, .int .i64 0, .int .i64 0, .int .u64 0] 38)).cell 4 rfl
    have q0 := ((HB0'.out.alloc (.cells #[.int .i64 (R : Int), .bool false, .bool tg, .bool ou, .bool ins] 24)).alloc (.cells #[.int .i64 (op : Int), .int .i64 0, .int .i64 0, .int .i64 0, .int .u64 0] 38)).free 0
    have q1 := ((HB0'.out.alloc (.cells #[.int .i64 (R : Int), .bool false, .bool tg, .bool ou, .bool ins] 24)).alloc (.cells #[.int .i64 (op : Int), .int .i64 0, .int .i64 0, .int .i64 0, .int .u64 0] 38)).free 1
    have q2 := ((HB0'.out.alloc (.cells #[.int .i64 (R : Int), .bool false, .bool tg, .bool ou, .bool ins] 24)).alloc (.cells #[.int .i64 (op : Int), .int .i64 0, .int .i64 0, .int .i64 0, .int .u64 0] 38)).free 2
    have q3 := ((HB0'.out.alloc (.cells #[.int .i64 (R : Int), .bool false, .bool tg, .bool ou, .bool ins] 24)).alloc (.cells #[.int .i64 (op : Int), .int .i64 0, .int .i64 0, .int .i64 0, .int .u64 0] 38)).free 3
    have q4 := ((HB0'.out.alloc (.cells #[.int .i64 (R : Int), .bool false, .bool tg, .bool ou, .bool ins] 24)).alloc (.cells #[.int .i64 (op : Int), .int .i64 0, .int .i64 0, .int .i64 0, .int .u64 0] 38)).free 4
    cases ok with
    | false =>
      have HE : Hid (X = none) := Lib.hid (HX.out.trans (parseF_ok rfl))
      go_wp2
      all_goals exact ⟨rfl, _, cell5_results rfl _ _ rb _ _ _ _ _ _ rfl rfl (((((((HB0'.out.alloc _).alloc _).set 0 _).set 1 _).set 2 _).set 3 _).set 4 _), hK _ _ ⟨by rw [HE.out]; rfl, by (repeat (refine Upd.setCell ?_ (Or.inr (by dsimp only; omega)) _)); first | exact (HU3).out | exact (((HU3).out.alloc _).alloc _)⟩⟩
    | true =>
      by_cases hmR : m = R
      · subst hmR
        by_cases hm0 : m = 0
        · subst hm0
          have HE := Lib.hid (HX.out.trans (parseF_yes rfl (by rw [← HNP.out]; rfl) (fun k hk => by omega) (fun e => by cases e)))
          have hxx : (((0 : Nat) : Int) != ((0 : Nat) : Int)) = false := by simp
          clear r0 r1 r2 r3 r4 q0 q1 q2 q3 q4
          have r0 := ((HB0'.out.alloc (.cells #[.int .i64 0, .bool false, .bool tg, .bool ou, .bool ins] 24)).alloc (.cells #[.int .i64 (op : Int), .int .i64 0, .int .i64 0, .int .i64 0, .int .u64 0] 38)).cell 0 rfl
          have r1 := ((HB0'.out.alloc (.cells #[.int .i64 0, .bool false, .bool tg, .bool ou, .bool ins] 24)).alloc (.cells #[.int .i64 (op : Int), .int .i64 0, .int .i64 0, .int .i64 0, .int .u64 0] 38)).cell 1 rfl
          have r2 := ((HB0'.out.alloc (.cells #[.int .i64 0, .bool false, .bool tg, .bool ou, .bool ins] 24)).alloc (.cells #[.int .i64 (op : Int), .int .i64 0, .int .i64 0, .int .i64 0, .int .u64 0] 38)).cell 2 rfl
          have r3 := ((HB0'.out.alloc (.cells #[.int .i64 0, .bool false, .bool tg, .bool ou, .bool ins] 24)).alloc (.cells #[.int .i64 (op : Int), .int .i64 0, .int .i64 0, .int .i64 0, .int .u64 0] 38)).cell 3 rfl
          have r4 := ((HB0'.out.alloc (.cells #[.int .i64 0, .bool false, .bool tg, .bool ou, .bool ins] 24)).alloc (.cells #[.int .i64 (op : Int), .int .i64 0, .int .i64 0, .int .i64 0, .int .u64 0] 38)).cell 4 rfl
          have q0 := ((HB0'.out.alloc (.cells #[.int .i64 0, .bool false, .bool tg, .bool ou, .bool ins] 24)).alloc (.cells #[.int .i64 (op : Int), .int .i64 0, .int .i64 0, .int .i64 0, .int .u64 0] 38)).free 0
          have q1 := ((HB0'.out.alloc (.cells #[.int .i64 0, .bool false, .bool tg, .bool ou, .bool ins] 24)).alloc (.cells #[.int .i64 (op : Int), .int .i64 0, .int .i64 0, .int .i64 0, .int .u64 0] 38)).free 1
          have q2 := ((HB0'.out.alloc (.cells #[.int .i64 0, .bool false, .bool tg, .bool ou, .bool ins] 24)).alloc (.cells #[.int .i64 (op : Int), .int .i64 0, .int .i64 0, .int .i64 0, .int .u64 0] 38)).free 2
          have q3 := ((HB0'.out.alloc (.cells #[.int .i64 0, .bool false, .bool tg, .bool ou, .bool ins] 24)).alloc (.cells #[.int .i64 (op : Int), .int .i64 0, .int .i64 0, .int .i64 0, .int .u64 0] 38)).free 3
          have q4 := ((HB0'.out.alloc (.cells #[.int .i64 0, .bool false, .bool tg, .bool ou, .bool ins] 24)).alloc (.cells #[.int .i64 (op : Int), .int .i64 0, .int .i64 0, .int .i64 0, .int .u64 0] 38)).free 4
          go_wp2_with fail
          go_loopw [74] (fun v74 wr => v74 = .int .i64 0 ∧ wr = (w3.alloc (.cells #[.int .i64 0, .bool false, .bool tg, .bool ou, .bool ins] 24)).alloc (.cells #[.int .i64 (op : Int), .int .i64 0, .int .i64 0, .int .i64 0, .int .u64 0] 38)) (fun _ _ => 0)
          case atStart => exact ⟨rfl, rfl⟩
          case round =>
            obtain ⟨rfl, rfl⟩ := hrel
            go_wp2
            all_goals exact ⟨rfl, _, cell5_results rfl _ _ rb _ _ _ _ _ _ rfl rfl (((((((HB0'.out.alloc _).alloc _).set 0 _).set 1 _).set 2 _).set 3 _).set 4 _), hK _ _ ⟨by rw [HE.out]; rfl, by (repeat (refine Upd.setCell ?_ (Or.inr (by dsimp only; omega)) _)); first | exact (HU3).out | exact (((HU3).out.alloc _).alloc _)⟩⟩
        · have hm1 : 0 < m := by omega
          have hxx : ((m : Int) != (m : Int)) = false := by simp
          go_wp2_with fail
          have HBI := Lib.hid (Blk.new (w3.alloc (.cells #[.int .i64 (m : Int), .bool false, .bool tg, .bool ou, .bool ins] 24)) [.int .i64 (op : Int), .int .i64 0, .int .i64 0, .int .i64 0, .int .u64 0] 38)
          have HBR := Lib.hid ((HB0'.out.alloc (.cells #[.int .i64 (m : Int), .bool false, .bool tg, .bool ou, .bool ins] 24)).alloc (.cells #[.int .i64 (op : Int), .int .i64 0, .int .i64 0, .int .i64 0, .int .u64 0] 38))
          have HBS := Lib.hid ((HB1'.out.alloc (.cells #[.int .i64 (m : Int), .bool false, .bool tg, .bool ou, .bool ins] 24)).alloc (.cells #[.int .i64 (op : Int), .int .i64 0, .int .i64 0, .int .i64 0, .int .u64 0] 38))
          have HUW := Lib.hid ((HU3.out.alloc (.cells #[.int .i64 (m : Int), .bool false, .bool tg, .bool ou, .bool ins] 24)).alloc (.cells #[.int .i64 (op : Int), .int .i64 0, .int .i64 0, .int .i64 0, .int .u64 0] 38))
          clear r0 r1 r2 r3 r4 q0 q1 q2 q3 q4 HB0' HB1' HU3 c1
          obtain ⟨W, hW⟩ : ∃ W, (w3.alloc (.cells #[.int .i64 (m : Int), .bool false, .bool tg, .bool ou, .bool ins] 24)).alloc (.cells #[.int .i64 (op : Int), .int .i64 0, .int .i64 0, .int .i64 0, .int .u64 0] 38) = W := ⟨_, rfl⟩
          rw [hW] at HBI HBR HBS HUW ⊢
          clear hW
          simp only [World.size_alloc] at HBI
          obtain ⟨fb, hfb⟩ : ∃ fb, w3.heap.size = fb := ⟨_, rfl⟩
          rw [hfb] at HBI hfb0 hwl ⊢
          clear hfb
          go_loopw [74] (fun v74 wr => ∃ k : Nat, k ≤ m ∧ v74 = .int .i64 k ∧ Blk wr (fb + 1) [.int .i64 (op : Int), .int .i64 (rk P k 0), .int .i64 (rk P k 1), .int .i64 (rk P k 2), .int .u64 0] 38 ∧ Upd [fb + 1] W wr ∧ ∀ j, j < k → regOk (P.getD (1 + j) []) = true) (fun v74 _ => m - (intOf v74).toNat)
          case atStart => exact ⟨0, by omega, rfl, by simpa [rk] using HBI.out, Upd.refl _ _, by omega⟩
          case round =>
            obtain ⟨k, hk, rfl, hbi, hur, hall⟩ := hrel
            have HUr := Lib.hid hur
            have HA := Lib.hid hall
            have HBr := Lib.hid hbi
            have HRr := Lib.hid (HBR.out.upd hur (by simp; omega))
            clear hbi hur hall HBI
            by_cases hlt : k < m
            · have hkl : (k : Int) < (m : Int) := by omega
              have cl := (HBS.out.upd HUr.out (by simp; omega)).cell (1 + k) (hcs (1 + k) (by omega))
              have hUw := Lib.hid ((HUW).out.tr HUr.out (U := []) (by simp) (by simp; omega))
              go_wp2_with fail
              refine (HNU (1 + k) _ (hP.errs.upd hUw.out)).mono ?_
              rintro e w6 ⟨rfl, u6⟩
              have HU6 := Lib.hid (hUw.out.trans u6)
              have HUr6 := Lib.hid (HUr.out.trans (u6.mono (by simp)))
              have B6 := HBr.out.upd u6 (by simp)
              have R6 := HRr.out.upd u6 (by simp)
              clear cl u6 HUr HBr HRr hUw
              obtain ⟨q, hq⟩ : ∃ q, numL (P.getD (1 + k) []) = q := ⟨_, rfl⟩
              rw [hq]
              have hxl := numL_lt (P.getD (1 + k) [])
              rw [hq] at hxl
              have HQk := Lib.hid hq
              clear hq
              obtain ⟨x, is⟩ := q
              simp only at hxl
              have hix : ∀ W, (Instr.index 80 (.agg #[.pointer (some ⟨fb + 1, 1, none⟩), .pointer (some ⟨fb + 1, 2, none⟩), .pointer (some ⟨fb + 1, 3, none⟩)]) (.int .i64 (k : Int))).run Tryd.prog W = .ok (.pointer (some ⟨fb + 1, 1 + k, none⟩)) W := fun W => run_index_arr1 _ 79 3 _ _ k _ Tryd.underlying80 (fun w => by go_simp) (fun w => by go_simp) (by omega) (ptr_at _ _ (by omega))
              cases is with
              | false =>
                have HE : Hid (X = none) := Lib.hid (HX.out.trans (parseF_reg hlt (by unfold regOk; rw [HQk.out]; rfl)))
                have r0 := (R6).cell 0 rfl
                have r1 := (R6).cell 1 rfl
                have r2 := (R6).cell 2 rfl
                have r3 := (R6).cell 3 rfl
                have r4 := (R6).cell 4 rfl
                have q0 := (R6).free 0
                have q1 := (R6).free 1
                have q2 := (R6).free 2
                have q3 := (R6).free 3
                have q4 := (R6).free 4
                have HR6 := Lib.hid R6
                clear R6 B6 hix
                go_wp2
                all_goals exact ⟨rfl, _, cell5_results rfl _ _ rb _ _ _ _ _ _ rfl rfl ((((((HR6.out).set 0 _).set 1 _).set 2 _).set 3 _).set 4 _), hK _ _ ⟨by rw [HE.out]; rfl, by (repeat (refine Upd.setCell ?_ (Or.inr (by dsimp only; omega)) _)); first | exact (HU6).out | exact (((HU6).out.alloc _).alloc _)⟩⟩
              | true =>
                by_cases hx8 : x < 8
                · obtain ⟨z, hz⟩ := rk_at P (op : Int) 0 k k (by omega)
                  have ci := B6.cell (1 + k) hz
                  have cf := B6.free (1 + k)
                  have BS := B6.set (1 + k) (.int .i64 (x : Int))
                  rw [rk_set P _ _ k x (by omega) (by rw [HQk.out])] at BS
                  have HBS6 := Lib.hid BS
                  have hx8' : ¬ 8 ≤ x := by omega
                  have hwx : IntKind.i64.wrap (x : Int) = x := by rw [IntKind.wrap_i64]; omega
                  clear B6 BS R6
                  go_wp2_with fail
                  go_roundw
                  case rel => exact ⟨k + 1, by omega, by go_num, HBS6.out, HUr6.out.setCell (.inl (by simp)) _, fun j hj => by
                    rcases Nat.lt_succ_iff_lt_or_eq.1 hj with h | rfl
                    · exact HA.out j h
                    · unfold regOk; rw [HQk.out]; simp [hx8]⟩
                  case measure => simp [intOf]; omega
                · have HE : Hid (X = none) := Lib.hid (HX.out.trans (parseF_reg hlt (by unfold regOk; rw [HQk.out]; simp [hx8])))
                  have hx8' : 8 ≤ x := by omega
                  have r0 := (R6).cell 0 rfl
                  have r1 := (R6).cell 1 rfl
                  have r2 := (R6).cell 2 rfl
                  have r3 := (R6).cell 3 rfl
                  have r4 := (R6).cell 4 rfl
                  have q0 := (R6).free 0
                  have q1 := (R6).free 1
                  have q2 := (R6).free 2
                  have q3 := (R6).free 3
                  have q4 := (R6).free 4
                  have HR6 := Lib.hid R6
                  clear R6 B6 hix
                  go_wp2
                  all_goals exact ⟨rfl, _, cell5_results rfl _ _ rb _ _ _ _ _ _ rfl rfl ((((((HR6.out).set 0 _).set 1 _).set 2 _).set 3 _).set 4 _), hK _ _ ⟨by rw [HE.out]; rfl, by (repeat (refine Upd.setCell ?_ (Or.inr (by dsimp only; omega)) _)); first | exact (HU6).out | exact (((HU6).out.alloc _).alloc _)⟩⟩
            · obtain rfl : k = m := by omega
              have HE := Lib.hid (HX.out.trans ((fun h => parseF_yes rfl (by rw [← HNP.out]; (try simp); (try omega)) h (fun e => by cases e)) HA.out))
              have i0 := HBr.out.cell 0 rfl
              have i1 := HBr.out.cell 1 rfl
              have i2 := HBr.out.cell 2 rfl
              have i3 := HBr.out.cell 3 rfl
              have i4 := HBr.out.cell 4 rfl
              have r0 := (HRr.out).cell 0 rfl
              have r1 := (HRr.out).cell 1 rfl
              have r2 := (HRr.out).cell 2 rfl
              have r3 := (HRr.out).cell 3 rfl
              have r4 := (HRr.out).cell 4 rfl
              have q0 := (HRr.out).free 0
              have q1 := (HRr.out).free 1
              have q2 := (HRr.out).free 2
              have q3 := (HRr.out).free 3
              have q4 := (HRr.out).free 4
              have hUw := Lib.hid ((HUW).out.tr HUr.out (U := []) (by simp) (by simp; omega))
              clear HUr HBr
              rw [rk_rg] at i1 i2 i3
              go_wp2
              all_goals exact ⟨rfl, _, cell5_results rfl _ _ rb _ _ _ _ _ _ rfl rfl ((((((HRr.out).set 0 _).set 1 _).set 2 _).set 3 _).set 4 _), hK _ _ ⟨by rw [HE.out]; rfl, by (repeat (refine Upd.setCell ?_ (Or.inr (by dsimp only; omega)) _)); first | exact (hUw).out | exact (((hUw).out.alloc _).alloc _)⟩⟩
      · have HE : Hid (X = none) := Lib.hid (HX.out.trans (parseF_len (by rw [← HNP.out]; (try simp); (try omega))))
        have g1 : ((m : Int) != (R : Int)) = true := by simp; omega
        have g2 : (m == R) = false := by simp; omega
        go_wp2
        all_goals exact ⟨rfl, _, cell5_results rfl _ _ rb _ _ _ _ _ _ rfl rfl (((((((HB0'.out.alloc _).alloc _).set 0 _).set 1 _).set 2 _).set 3 _).set 4 _), hK _ _ ⟨by rw [HE.out]; rfl, by (repeat (refine Upd.setCell ?_ (Or.inr (by dsimp only; omega)) _)); first | exact (HU3).out | exact (((HU3).out.alloc _).alloc _)⟩⟩
end Go.Proofs.YtjcnlfihjfcpoaaDoor
