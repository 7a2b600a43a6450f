/- The reference's Parse: of any line the instruction whose text it is. The condition is a size. -/
import Derived.Test.YtjcnlfihjfcpoaaDoorCRNum
import Derived.Test.YtjcnlfihjfcpoaaDoorCRParts
import Derived.Test.YtjcnlfihjfcpoaaDoorCRForm
import Derived.Test.YtjcnlfihjfcpoaaDoorCParse
set_option linter.unusedSimpArgs false
set_option linter.unusedVariables false
set_option maxRecDepth 100000
namespace Go.Proofs.YtjcnlfihjfcpoaaDoor
open Go.RowKit

theorem cell53_results {fn : Func} (hr : fn.results = #[.cell 2 38, .tmp 3]) (t : Array Value) (w : World) (rb : Nat) (a b c d e v : Value) (h2 : t.getD 2 undef = .pointer (some ⟨rb, 0, none⟩)) (h3 : t.getD 3 undef = v) (hb : Blk w rb [a, b, c, d, e] 38) :
    (results fn t).run Tryd.prog w = .ok (.tuple #[.agg #[a, b, c, d, e], v]) w := cell5_results hr t w rb a b c d e v h2 h3 hb

theorem map_data_inj : ∀ (X Y : List ByteArray), X.map (·.data.toList) = Y.map (·.data.toList) → X = Y
  | [], [], _ => rfl
  | [], _ :: _, h => by simp at h
  | _ :: _, [], h => by simp at h
  | a :: X, b :: Y, h => by
    simp only [List.map_cons, List.cons.injEq] at h
    have hab : a = b := by
      cases a with
      | mk d =>
        cases b with
        | mk d' =>
          have : d = d' := Array.ext' h.1
          rw [this]
    rw [hab, map_data_inj X Y h.2]

/-- the pieces as the loop reads them -/
theorem parts_any (s : ByteArray) (hs : s.size < 4294967281) : ∃ (n : Nat) (px : Nat → ByteArray) (cs : List Value), 1 ≤ n ∧ n = (sp s.data.toList).length ∧ cs.length = n ∧ (∀ j, j < n → cs[j]? = some (.string (px j))) ∧ (∀ j, (px j).data.toList = (sp s.data.toList).getD j []) ∧ (∀ j, (px j).size ≤ s.size) ∧ n ≤ s.size + 1 ∧
    ∀ (w : World), Calls Tryd.prog 39 #[.string s] w fun e w' => ∃ (g c : Nat) (spare : List Value), e = .returned (.slice (some ⟨g, 0, none⟩) n c) ∧ w.heap.size ≤ g ∧ n ≤ c ∧ Blk w' g (cs ++ spare) 9 ∧ Upd [] w w' := by
  have hdat := split_data s
  have hlen := Lib.splitB_all ⟨#[32]⟩ (by decide) 0 _ s rfl
  obtain ⟨X, hX⟩ : ∃ X, Lib.splitB ⟨#[32]⟩ 0 (Lib.countB s ⟨#[32]⟩) s = X := ⟨_, rfl⟩
  rw [hX] at hlen hdat
  have hn : X.length = (sp s.data.toList).length := by rw [← hdat, List.length_map]
  have hg : ∀ j, (X.getD j ⟨#[]⟩).data.toList = (sp s.data.toList).getD j [] := fun j => by
    rw [← hdat, List.getD_eq_getElem?_getD, List.getD_eq_getElem?_getD, List.getElem?_map]
    cases X[j]? <;> rfl
  refine ⟨X.length, fun j => X.getD j ⟨#[]⟩, X.map .string, by omega, hn, List.length_map _, fun j hj => ?_, hg, fun j => ?_, by rw [hn, Lib.size_eq]; exact sp_len_le _, fun w => ?_⟩
  · show _ = some (Value.string (X.getD j ⟨#[]⟩))
    rw [List.getElem?_map, List.getD_eq_getElem?_getD, List.getElem?_eq_getElem hj]; rfl
  · rw [Lib.size_eq, Lib.size_eq, hg j, List.getD_eq_getElem?_getD]
    cases h : (sp s.data.toList)[j]? with
    | none => simp
    | some p => exact sp_piece _ _ (List.mem_of_getElem? h)
  · refine (rparts s hs w).mono ?_
    rintro e w' ⟨v, Y, rfl, hY, ho, hu⟩
    have hYX : Y = X := map_data_inj Y X (hY.trans hdat.symm)
    subst hYX
    obtain ⟨g, c, rfl⟩ := own_some ho (by omega)
    obtain ⟨h1, h2, spare, hB, h3, _⟩ := own_open ho
    exact ⟨g, c, spare, rfl, h1, by omega, hB, hu⟩


theorem ak_set (P : List (List UInt8)) (k x : Nat) (hk : k < 3) (hx : (numL (P.getD (1 + k) [])).1 = x) :
    [Value.int .i64 (rk P k 0), .int .i64 (rk P k 1), .int .i64 (rk P k 2)].set k (.int .i64 (x : Int)) = [Value.int .i64 (rk P (k + 1) 0), .int .i64 (rk P (k + 1) 1), .int .i64 (rk P (k + 1) 2)] := by
  subst hx
  have : k = 0 ∨ k = 1 ∨ k = 2 := by omega
  rcases this with rfl | rfl | rfl <;> simp [rk]
theorem ak_at (P : List (List UInt8)) (k j : Nat) (hk : j < 3) : ∃ z, [Value.int .i64 (rk P k 0), .int .i64 (rk P k 1), .int .i64 (rk P k 2)][j]? = some (.int .i64 z) := by
  have : j = 0 ∨ j = 1 ∨ j = 2 := by omega
  rcases this with rfl | rfl | rfl
  · exact ⟨_, rfl⟩
  · exact ⟨_, rfl⟩
  · exact ⟨_, rfl⟩

theorem rnum_cases (l : List UInt8) : (rnumL l = (0, false) ∧ (numL l).2 = false) ∨ (rnumL l = ((numL l).1, true) ∧ (numL l).2 = true) := by
  unfold rnumL
  cases h : (numL l).2 with
  | true => exact .inr ⟨by rw [if_pos rfl], rfl⟩
  | false => exact .inl ⟨by rw [if_neg (by simp)], rfl⟩


set_option maxHeartbeats 4000000 in
theorem rparse_any (s : ByteArray) (w : World) (hs : s.size < 4294967281) : Calls Tryd.prog 23 #[.string s] w fun e w' => e = .returned (.tuple #[(insO (parseL s.data.toList)).val, .bool (parseL s.data.toList).isSome]) ∧ Upd [] w w' := by
  obtain ⟨n, px, cs, hn1, hnP, hcl, hcs, hpx, hps, hns, HSP⟩ := parts_any s hs
  have HNM := fun w => rnamed (px 0) w
  rw [hpx 0] at HNM
  have hR3 := regs_le (namedL ((sp s.data.toList).getD 0 [])).1
  have HI := fun w => rinfo (namedL ((sp s.data.toList).getD 0 [])).1 w
  have HX : Hid (parseL s.data.toList = _) := Lib.hid (by unfold parseL; exact rfl)
  have HNU := fun j w => rnumber (px j) (by have := hps j; omega) w
  simp only [hpx] at HNU
  obtain ⟨X, hX⟩ : ∃ X, parseL s.data.toList = X := ⟨_, rfl⟩
  rw [hX] at HX ⊢
  clear hX hps hpx
  generalize sp s.data.toList = P at *
  generalize namedL (P.getD 0 []) = o at *
  obtain ⟨op, ok⟩ := o
  simp only at HNM hR3 HI HX
  generalize isOp op = iso at *
  generalize formI op = f at *
  obtain ⟨R, num, tg, ou, ins⟩ := f
  simp only [Form.val] at HI hR3 HX
  have HNP := Lib.hid hnP
  clear hnP
  refine calls_all fun K hK => ?_
  go_enter Tryd.func23, Tryd.ntmps23
  go_wp2_with fail
  refine (HSP _).mono ?_
  rintro e w1 ⟨sb, sc, spare, rfl, hsb, hsc, hB, u1⟩
  have HB0 := Lib.hid ((Blk.new w [.int .i64 0, .int .i64 0, .int .i64 0, .int .i64 0, .int .u64 0] 38).upd u1 (by simp))
  have HB1 := Lib.hid hB
  have HU1 := Lib.hid (((Upd.refl [] w).alloc (.cells #[.int .i64 0, .int .i64 0, .int .i64 0, .int .i64 0, .int .u64 0] 38)).trans u1)
  have hcc : ∀ j, j < n → (cs ++ spare)[j]? = some (.string (px j)) := fun j hj => by rw [List.getElem?_append_left (by omega)]; exact hcs j hj
  have c0 := hB.cell 0 (hcc 0 (by omega))
  obtain ⟨rb, hrb⟩ : ∃ rb, w.heap.size = rb := ⟨_, rfl⟩
  simp only [World.size_alloc, hrb] at hsb
  rw [hrb] at HB0 ⊢
  clear u1 hB hcs
  go_wp2_with fail
  refine (HNM _).mono ?_
  rintro e w2 ⟨rfl, u2⟩
  go_wp2_with fail
  refine (HI _).mono ?_
  rintro e w3 ⟨rfl, u3⟩
  have HB0' := Lib.hid ((HB0.out.upd (u2.trans u3) (by simp)).alloc (.cells #[.int .i64 (R : Int), .bool num, .bool tg, .bool ou, .bool ins] 24))
  have HB1' := Lib.hid ((HB1.out.upd (u2.trans u3) (by simp)).alloc (.cells #[.int .i64 (R : Int), .bool num, .bool tg, .bool ou, .bool ins] 24))
  have HF' := Lib.hid (Blk.new w3 [.int .i64 (R : Int), .bool num, .bool tg, .bool ou, .bool ins] 24)
  have HU3 := Lib.hid ((HU1.out.trans (u2.trans u3)).alloc (.cells #[.int .i64 (R : Int), .bool num, .bool tg, .bool ou, .bool ins] 24))
  have hfb0 := (HB1.out.upd (u2.trans u3) (by simp)).lt
  clear c0 HB0 HB1 HU1 u2 u3
  have hRn : (R : Int) ≤ 3 := by omega
  have r0 := (HB0'.out).cell 0 rfl
  have r1 := (HB0'.out).cell 1 rfl
  have r2 := (HB0'.out).cell 2 rfl
  have r3 := (HB0'.out).cell 3 rfl
  have r4 := (HB0'.out).cell 4 rfl
  have q0 := (HB0'.out).free 0
  have q1 := (HB0'.out).free 1
  have q2 := (HB0'.out).free 2
  have q3 := (HB0'.out).free 3
  have q4 := (HB0'.out).free 4
  cases ok with
  | false =>
    have HE : Hid (X = none) := Lib.hid (HX.out.trans (parseF_ok rfl))
    cases num
    all_goals
      go_wp2
      all_goals exact ⟨rfl, _, cell5_results rfl _ _ rb _ _ _ _ _ _ rfl rfl ((((((HB0'.out).set 0 _).set 1 _).set 2 _).set 3 _).set 4 _), hK _ _ ⟨by rw [HE.out]; rfl, by (repeat (refine Upd.setCell ?_ (Or.inr (by dsimp only; omega)) _)); first | exact (HU3).out | exact ((HU3).out.alloc _) | exact (((HU3).out.alloc _).alloc _)⟩⟩
  | true =>
    by_cases hlen : n = 1 + R + (if num then 1 else 0)
    · cases num with
      | false =>
        simp only [Bool.false_eq_true, if_false, Nat.add_zero] at hlen
        subst hlen
        have hxx : ((1 + (R : Int)) != 1 + (R : Int)) = false := by simp
        have HA0 := Lib.hid (Blk.new (w3.alloc (.cells #[.int .i64 (R : Int), .bool false, .bool tg, .bool ou, .bool ins] 24)) [.int .i64 0, .int .i64 0, .int .i64 0] 74)
        have HB0a := Lib.hid (HB0'.out.alloc (.cells #[.int .i64 0, .int .i64 0, .int .i64 0] 74))
        have HB1a := Lib.hid (HB1'.out.alloc (.cells #[.int .i64 0, .int .i64 0, .int .i64 0] 74))
        have HFa := Lib.hid (HF'.out.alloc (.cells #[.int .i64 0, .int .i64 0, .int .i64 0] 74))
        have HUa := Lib.hid (HU3.out.alloc (.cells #[.int .i64 0, .int .i64 0, .int .i64 0] 74))
        clear r0 r1 r2 r3 r4 q0 q1 q2 q3 q4
        go_wp2_with fail
        obtain ⟨W, hW⟩ : ∃ W, (w3.alloc (.cells #[.int .i64 (R : Int), .bool false, .bool tg, .bool ou, .bool ins] 24)).alloc (.cells #[.int .i64 0, .int .i64 0, .int .i64 0] 74) = W := ⟨_, rfl⟩
        rw [hW] at HA0 HB0a HB1a HFa HUa ⊢
        clear hW HB0' HB1' HF' HU3
        simp only [World.size_alloc] at HA0
        obtain ⟨fb, hfb⟩ : ∃ fb, w3.heap.size = fb := ⟨_, rfl⟩
        rw [hfb] at HA0 HFa hfb0 ⊢
        clear hfb
        go_loopw [11] (fun v11 wr => ∃ k : Nat, k ≤ R ∧ v11 = .int .i64 k ∧ Blk wr (fb + 1) [.int .i64 (rk P k 0), .int .i64 (rk P k 1), .int .i64 (rk P k 2)] 74 ∧ Upd [fb + 1] W wr ∧ ∀ j, j < k → regOk (P.getD (1 + j) []) = true) (fun v11 _ => R - (intOf v11).toNat)
        case atStart => exact ⟨0, by omega, rfl, by simpa [rk] using HA0.out, Upd.refl _ _, by omega⟩
        case round =>
          obtain ⟨k, hk, rfl, hba, hur, hall⟩ := hrel
          have HA := Lib.hid hall
          have HBr := Lib.hid hba
          have HUr := Lib.hid hur
          have HRr := Lib.hid (HB0a.out.upd hur (by simp; omega))
          have HSr := Lib.hid (HB1a.out.upd hur (by simp; omega))
          have HFr := Lib.hid (HFa.out.upd hur (by simp))
          have hUw := Lib.hid (HUa.out.tr hur (U := []) (by simp) (by simp; omega))
          have f0 := HFr.out.cell 0 rfl
          clear hba hur hall HA0 HB0a HB1a HFa HUa
          by_cases hlt : k < R
          · have hkl : (k : Int) < (R : Int) := by omega
            have hk3 : (k : Int) < 3 := by omega
            have cl := HSr.out.cell (1 + k) (hcc (1 + k) (by omega))
            go_wp2_with fail
            refine (HNU (1 + k) _).mono ?_
            rintro e w6 ⟨rfl, hw6⟩
            subst hw6
            rcases rnum_cases (P.getD (1 + k) []) with ⟨hq, hq2⟩ | ⟨hq, hq2⟩
            · rw [hq]
              have HE : Hid (X = none) := Lib.hid (HX.out.trans (parseF_reg hlt (by unfold regOk; rw [hq2]; rfl)))
              clear hq hq2
              have r0 := (HRr.out).cell 0 rfl
              have r1 := (HRr.out).cell 1 rfl
              have r2 := (HRr.out).cell 2 rfl
              have r3 := (HRr.out).cell 3 rfl
              have r4 := (HRr.out).cell 4 rfl
              have q0 := (HRr.out).free 0
              have q1 := (HRr.out).free 1
              have q2 := (HRr.out).free 2
              have q3 := (HRr.out).free 3
              have q4 := (HRr.out).free 4
              go_wp2
              all_goals exact ⟨rfl, _, cell5_results rfl _ _ rb _ _ _ _ _ _ rfl rfl ((((((HRr.out).set 0 _).set 1 _).set 2 _).set 3 _).set 4 _), hK _ _ ⟨by rw [HE.out]; rfl, by (repeat (refine Upd.setCell ?_ (Or.inr (by dsimp only; omega)) _)); first | exact (hUw).out | exact ((hUw).out.alloc _) | exact (((hUw).out.alloc _).alloc _)⟩⟩
            · rw [hq]
              obtain ⟨x, hx⟩ : ∃ x, (numL (P.getD (1 + k) [])).1 = x := ⟨_, rfl⟩
              have hxl := numL_lt (P.getD (1 + k) [])
              rw [hx] at hxl ⊢
              have HQX := Lib.hid hx
              have HQ2 := Lib.hid hq2
              clear hq hq2 hx
              by_cases hx8 : x < 8
              · obtain ⟨z, hz⟩ := ak_at P k k (by omega)
                have ci := HBr.out.cell k hz
                have cf := HBr.out.free k
                have BS := HBr.out.set k (.int .i64 (x : Int))
                rw [ak_set P k x (by omega) HQX.out] at BS
                have HBS := Lib.hid BS
                have hx8' : ¬ 8 ≤ x := by omega
                have hwx : IntKind.i64.wrap (x : Int) = x := by rw [IntKind.wrap_i64]; omega
                clear BS
                go_wp2_with fail
                go_roundw
                case rel => exact ⟨k + 1, by omega, by go_num, HBS.out, HUr.out.setCell (.inl (by simp)) _, fun j hj => by
                  rcases Nat.lt_succ_iff_lt_or_eq.1 hj with h | rfl
                  · exact HA.out j h
                  · unfold regOk; rw [HQ2.out, HQX.out]; simp [hx8]⟩
                case measure => simp [intOf]; omega
              · have HE : Hid (X = none) := Lib.hid (HX.out.trans (parseF_reg hlt (by unfold regOk; rw [HQ2.out, HQX.out]; simp [hx8])))
                have hx8' : 8 ≤ x := by omega
                have r0 := (HRr.out).cell 0 rfl
                have r1 := (HRr.out).cell 1 rfl
                have r2 := (HRr.out).cell 2 rfl
                have r3 := (HRr.out).cell 3 rfl
                have r4 := (HRr.out).cell 4 rfl
                have q0 := (HRr.out).free 0
                have q1 := (HRr.out).free 1
                have q2 := (HRr.out).free 2
                have q3 := (HRr.out).free 3
                have q4 := (HRr.out).free 4
                go_wp2
                all_goals exact ⟨rfl, _, cell5_results rfl _ _ rb _ _ _ _ _ _ rfl rfl ((((((HRr.out).set 0 _).set 1 _).set 2 _).set 3 _).set 4 _), hK _ _ ⟨by rw [HE.out]; rfl, by (repeat (refine Upd.setCell ?_ (Or.inr (by dsimp only; omega)) _)); first | exact (hUw).out | exact ((hUw).out.alloc _) | exact (((hUw).out.alloc _).alloc _)⟩⟩
          · obtain rfl : k = R := by omega
            have a0 := HBr.out.cell 0 rfl
            have a1 := HBr.out.cell 1 rfl
            have a2 := HBr.out.cell 2 rfl
            have f1 := HFr.out.cell 1 rfl
            rw [rk_rg] at a0 a1 a2
            have r0 := (HRr.out).cell 0 rfl
            have r1 := (HRr.out).cell 1 rfl
            have r2 := (HRr.out).cell 2 rfl
            have r3 := (HRr.out).cell 3 rfl
            have r4 := (HRr.out).cell 4 rfl
            have q0 := (HRr.out).free 0
            have q1 := (HRr.out).free 1
            have q2 := (HRr.out).free 2
            have q3 := (HRr.out).free 3
            have q4 := (HRr.out).free 4
            have HE := Lib.hid (HX.out.trans (parseF_yes rfl (by rw [← HNP.out]; simp) HA.out (fun e => by cases e)))
            go_wp2
            all_goals exact ⟨rfl, _, cell5_results rfl _ _ rb _ _ _ _ _ _ rfl rfl ((((((HRr.out).set 0 _).set 1 _).set 2 _).set 3 _).set 4 _), hK _ _ ⟨by rw [HE.out]; rfl, by (repeat (refine Upd.setCell ?_ (Or.inr (by dsimp only; omega)) _)); first | exact (hUw).out | exact ((hUw).out.alloc _) | exact (((hUw).out.alloc _).alloc _)⟩⟩
      | true =>
        simp only [if_true] at hlen
        subst hlen
        have hxx : ((1 + (R : Int) + 1) != 1 + (R : Int) + 1) = false := by simp
        have HA0 := Lib.hid (Blk.new (w3.alloc (.cells #[.int .i64 (R : Int), .bool true, .bool tg, .bool ou, .bool ins] 24)) [.int .i64 0, .int .i64 0, .int .i64 0] 74)
        have HB0a := Lib.hid (HB0'.out.alloc (.cells #[.int .i64 0, .int .i64 0, .int .i64 0] 74))
        have HB1a := Lib.hid (HB1'.out.alloc (.cells #[.int .i64 0, .int .i64 0, .int .i64 0] 74))
        have HFa := Lib.hid (HF'.out.alloc (.cells #[.int .i64 0, .int .i64 0, .int .i64 0] 74))
        have HUa := Lib.hid (HU3.out.alloc (.cells #[.int .i64 0, .int .i64 0, .int .i64 0] 74))
        clear r0 r1 r2 r3 r4 q0 q1 q2 q3 q4
        go_wp2_with fail
        obtain ⟨W, hW⟩ : ∃ W, (w3.alloc (.cells #[.int .i64 (R : Int), .bool true, .bool tg, .bool ou, .bool ins] 24)).alloc (.cells #[.int .i64 0, .int .i64 0, .int .i64 0] 74) = W := ⟨_, rfl⟩
        rw [hW] at HA0 HB0a HB1a HFa HUa ⊢
        clear hW HB0' HB1' HF' HU3
        simp only [World.size_alloc] at HA0
        obtain ⟨fb, hfb⟩ : ∃ fb, w3.heap.size = fb := ⟨_, rfl⟩
        rw [hfb] at HA0 HFa hfb0 ⊢
        clear hfb
        go_loopw [11] (fun v11 wr => ∃ k : Nat, k ≤ R ∧ v11 = .int .i64 k ∧ Blk wr (fb + 1) [.int .i64 (rk P k 0), .int .i64 (rk P k 1), .int .i64 (rk P k 2)] 74 ∧ Upd [fb + 1] W wr ∧ ∀ j, j < k → regOk (P.getD (1 + j) []) = true) (fun v11 _ => R - (intOf v11).toNat)
        case atStart => exact ⟨0, by omega, rfl, by simpa [rk] using HA0.out, Upd.refl _ _, by omega⟩
        case round =>
          obtain ⟨k, hk, rfl, hba, hur, hall⟩ := hrel
          have HA := Lib.hid hall
          have HBr := Lib.hid hba
          have HUr := Lib.hid hur
          have HRr := Lib.hid (HB0a.out.upd hur (by simp; omega))
          have HSr := Lib.hid (HB1a.out.upd hur (by simp; omega))
          have HFr := Lib.hid (HFa.out.upd hur (by simp))
          have hUw := Lib.hid (HUa.out.tr hur (U := []) (by simp) (by simp; omega))
          have f0 := HFr.out.cell 0 rfl
          clear hba hur hall HA0 HB0a HB1a HFa HUa
          by_cases hlt : k < R
          · have hkl : (k : Int) < (R : Int) := by omega
            have hk3 : (k : Int) < 3 := by omega
            have cl := HSr.out.cell (1 + k) (hcc (1 + k) (by omega))
            go_wp2_with fail
            refine (HNU (1 + k) _).mono ?_
            rintro e w6 ⟨rfl, hw6⟩
            subst hw6
            rcases rnum_cases (P.getD (1 + k) []) with ⟨hq, hq2⟩ | ⟨hq, hq2⟩
            · rw [hq]
              have HE : Hid (X = none) := Lib.hid (HX.out.trans (parseF_reg hlt (by unfold regOk; rw [hq2]; rfl)))
              clear hq hq2
              have r0 := (HRr.out).cell 0 rfl
              have r1 := (HRr.out).cell 1 rfl
              have r2 := (HRr.out).cell 2 rfl
              have r3 := (HRr.out).cell 3 rfl
              have r4 := (HRr.out).cell 4 rfl
              have q0 := (HRr.out).free 0
              have q1 := (HRr.out).free 1
              have q2 := (HRr.out).free 2
              have q3 := (HRr.out).free 3
              have q4 := (HRr.out).free 4
              go_wp2
              all_goals exact ⟨rfl, _, cell5_results rfl _ _ rb _ _ _ _ _ _ rfl rfl ((((((HRr.out).set 0 _).set 1 _).set 2 _).set 3 _).set 4 _), hK _ _ ⟨by rw [HE.out]; rfl, by (repeat (refine Upd.setCell ?_ (Or.inr (by dsimp only; omega)) _)); first | exact (hUw).out | exact ((hUw).out.alloc _) | exact (((hUw).out.alloc _).alloc _)⟩⟩
            · rw [hq]
              obtain ⟨x, hx⟩ : ∃ x, (numL (P.getD (1 + k) [])).1 = x := ⟨_, rfl⟩
              have hxl := numL_lt (P.getD (1 + k) [])
              rw [hx] at hxl ⊢
              have HQX := Lib.hid hx
              have HQ2 := Lib.hid hq2
              clear hq hq2 hx
              by_cases hx8 : x < 8
              · obtain ⟨z, hz⟩ := ak_at P k k (by omega)
                have ci := HBr.out.cell k hz
                have cf := HBr.out.free k
                have BS := HBr.out.set k (.int .i64 (x : Int))
                rw [ak_set P k x (by omega) HQX.out] at BS
                have HBS := Lib.hid BS
                have hx8' : ¬ 8 ≤ x := by omega
                have hwx : IntKind.i64.wrap (x : Int) = x := by rw [IntKind.wrap_i64]; omega
                clear BS
                go_wp2_with fail
                go_roundw
                case rel => exact ⟨k + 1, by omega, by go_num, HBS.out, HUr.out.setCell (.inl (by simp)) _, fun j hj => by
                  rcases Nat.lt_succ_iff_lt_or_eq.1 hj with h | rfl
                  · exact HA.out j h
                  · unfold regOk; rw [HQ2.out, HQX.out]; simp [hx8]⟩
                case measure => simp [intOf]; omega
              · have HE : Hid (X = none) := Lib.hid (HX.out.trans (parseF_reg hlt (by unfold regOk; rw [HQ2.out, HQX.out]; simp [hx8])))
                have hx8' : 8 ≤ x := by omega
                have r0 := (HRr.out).cell 0 rfl
                have r1 := (HRr.out).cell 1 rfl
                have r2 := (HRr.out).cell 2 rfl
                have r3 := (HRr.out).cell 3 rfl
                have r4 := (HRr.out).cell 4 rfl
                have q0 := (HRr.out).free 0
                have q1 := (HRr.out).free 1
                have q2 := (HRr.out).free 2
                have q3 := (HRr.out).free 3
                have q4 := (HRr.out).free 4
                go_wp2
                all_goals exact ⟨rfl, _, cell5_results rfl _ _ rb _ _ _ _ _ _ rfl rfl ((((((HRr.out).set 0 _).set 1 _).set 2 _).set 3 _).set 4 _), hK _ _ ⟨by rw [HE.out]; rfl, by (repeat (refine Upd.setCell ?_ (Or.inr (by dsimp only; omega)) _)); first | exact (hUw).out | exact ((hUw).out.alloc _) | exact (((hUw).out.alloc _).alloc _)⟩⟩
          · obtain rfl : k = R := by omega
            have a0 := HBr.out.cell 0 rfl
            have a1 := HBr.out.cell 1 rfl
            have a2 := HBr.out.cell 2 rfl
            have f1 := HFr.out.cell 1 rfl
            rw [rk_rg] at a0 a1 a2
            have r0 := (HRr.out).cell 0 rfl
            have r1 := (HRr.out).cell 1 rfl
            have r2 := (HRr.out).cell 2 rfl
            have r3 := (HRr.out).cell 3 rfl
            have r4 := (HRr.out).cell 4 rfl
            have q0 := (HRr.out).free 0
            have q1 := (HRr.out).free 1
            have q2 := (HRr.out).free 2
            have q3 := (HRr.out).free 3
            have q4 := (HRr.out).free 4
            have cl := HSr.out.cell (1 + k) (hcc (1 + k) (by omega))
            have hlast : Hid (lastN P = numL (P.getD (1 + k) [])) := Lib.hid (by unfold lastN; rw [← HNP.out, Nat.add_sub_cancel])
            go_wp2_with fail
            refine (HNU (1 + k) _).mono ?_
            rintro e w6 ⟨rfl, hw6⟩
            subst hw6
            rcases rnum_cases (P.getD (1 + k) []) with ⟨hq, hq2⟩ | ⟨hq, hq2⟩
            · rw [hq]
              have HE : Hid (X = none) := Lib.hid (HX.out.trans (parseF_num rfl (by rw [hlast.out]; exact hq2)))
              clear hq hq2
              go_wp2
              all_goals exact ⟨rfl, _, cell5_results rfl _ _ rb _ _ _ _ _ _ rfl rfl ((((((HRr.out).set 0 _).set 1 _).set 2 _).set 3 _).set 4 _), hK _ _ ⟨by rw [HE.out]; rfl, by (repeat (refine Upd.setCell ?_ (Or.inr (by dsimp only; omega)) _)); first | exact (hUw).out | exact ((hUw).out.alloc _) | exact (((hUw).out.alloc _).alloc _)⟩⟩
            · rw [hq]
              have HE := Lib.hid ((HX.out.trans (parseF_yes rfl (by rw [← HNP.out]; simp) HA.out (fun _ => by rw [hlast.out]; exact hq2))).trans (by rw [hlast.out]))
              clear hq hq2
              go_wp2
              all_goals exact ⟨rfl, _, cell5_results rfl _ _ rb _ _ _ _ _ _ rfl rfl ((((((HRr.out).set 0 _).set 1 _).set 2 _).set 3 _).set 4 _), hK _ _ ⟨by rw [HE.out]; rfl, by (repeat (refine Upd.setCell ?_ (Or.inr (by dsimp only; omega)) _)); first | exact (hUw).out | exact ((hUw).out.alloc _) | exact (((hUw).out.alloc _).alloc _)⟩⟩
    · have HE : Hid (X = none) := Lib.hid (HX.out.trans (parseF_len (by rw [← HNP.out]; exact hlen)))
      cases num with
      | false =>
        simp only [Bool.false_eq_true, if_false, Nat.add_zero] at hlen
        have g1 : ((n : Int) != 1 + (R : Int)) = true := by simp; omega
        have g2 : ((n : Int) == 1 + (R : Int)) = false := by simp; omega
        go_wp2
        all_goals exact ⟨rfl, _, cell5_results rfl _ _ rb _ _ _ _ _ _ rfl rfl ((((((HB0'.out).set 0 _).set 1 _).set 2 _).set 3 _).set 4 _), hK _ _ ⟨by rw [HE.out]; rfl, by (repeat (refine Upd.setCell ?_ (Or.inr (by dsimp only; omega)) _)); first | exact (HU3).out | exact ((HU3).out.alloc _) | exact (((HU3).out.alloc _).alloc _)⟩⟩
      | true =>
        simp only [if_true] at hlen
        have g1 : ((n : Int) != 1 + (R : Int) + 1) = true := by simp; omega
        have g2 : ((n : Int) == 1 + (R : Int) + 1) = false := by simp; omega
        go_wp2
        all_goals exact ⟨rfl, _, cell5_results rfl _ _ rb _ _ _ _ _ _ rfl rfl ((((((HB0'.out).set 0 _).set 1 _).set 2 _).set 3 _).set 4 _), hK _ _ ⟨by rw [HE.out]; rfl, by (repeat (refine Upd.setCell ?_ (Or.inr (by dsimp only; omega)) _)); first | exact (HU3).out | exact ((HU3).out.alloc _) | exact (((HU3).out.alloc _).alloc _)⟩⟩
end Go.Proofs.YtjcnlfihjfcpoaaDoor
