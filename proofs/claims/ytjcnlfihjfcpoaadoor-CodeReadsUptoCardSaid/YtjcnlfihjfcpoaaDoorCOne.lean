/- one: the instruction with whose bytes a text begins. The conditions are sizes. -/
import Derived.Test.YtjcnlfihjfcpoaaDoorCOneS
import Derived.Test.YtjcnlfihjfcpoaaDoorStoreMid
set_option linter.unusedSimpArgs false
set_option linter.unusedVariables false
set_option maxRecDepth 100000
namespace Go.Proofs.YtjcnlfihjfcpoaaDoor
open Go.RowKit

/-- what one answers -/
def oneOk (w : World) (X : Option (Ins × Nat)) (e : Ending) (w' : World) : Prop :=
  (∃ x n, X = some (x, n) ∧ e = .returned (.tuple #[x.val, .int .i64 (n : Int), .bool true]) ∧ Upd [] w w') ∨ (X = none ∧ (∃ (v : Ins) (n : Int), e = .returned (.tuple #[v.val, .int .i64 n, .bool false])) ∧ Upd [] w w')

theorem cell5_results3 {fn : Func} (hr : fn.results = #[.cell 2 38, .tmp 3, .tmp 4]) (t : Array Value) (w : World) (rb : Nat) (a b c d e v v2 : Value) (h2 : t.getD 2 undef = .pointer (some ⟨rb, 0, none⟩)) (h3 : t.getD 3 undef = v) (h4 : t.getD 4 undef = v2) (hb : Blk w rb [a, b, c, d, e] 38) :
    (results fn t).run Tryd.prog w = .ok (.tuple #[.agg #[a, b, c, d, e], v, v2]) w := by
  have c0 := hb.cell 0 rfl
  have c1 := hb.cell 1 rfl
  have c2 := hb.cell 2 rfl
  have c3 := hb.cell 3 rfl
  have c4 := hb.cell 4 rfl
  have h2' : t[2]?.getD undef = .pointer (some ⟨rb, 0, none⟩) := by simpa using h2
  have h3' : t[3]?.getD undef = v := by simpa using h3
  have h4' : t[4]?.getD undef = v2 := by simpa using h4
  simp [results, hr, h2', h3', h4', go_sem, c0, c1, c2, c3, c4]



set_option maxHeartbeats 4000000 in
theorem one_any (l : List UInt8) (p : Option Addr) (cp : Nat) (w : World) (h : SlB w p l) (hl : 0 < l.length) (hc : l.length ≤ cp) (hlb : l.length < 4611686018427387904) : Calls Tryd.prog 41 #[.slice p l.length cp] w (oneOk w (oneL l)) := by
  obtain ⟨b, o, rfl⟩ := h.ne (List.length_pos_iff.1 hl)
  obtain ⟨c, hcc⟩ : ∃ c, (l.getD 0 0).toNat = c := ⟨_, rfl⟩
  have hc0 := cell_upd (h.cells b o rfl 0 hl) ((Upd.refl [] w).alloc (.cells #[.int .i64 0, .int .i64 0, .int .i64 0, .int .i64 0, .int .u64 0] 38)) (by simp)
  rw [hcc, Nat.add_zero] at hc0
  have hc256 : c < 256 := hcc ▸ UInt8.toNat_lt (l.getD 0 0)
  have HIn := fun w => info (c : Int) w
  have hR3 := regs_le (c : Int)
  have HX : Hid (oneL l = _) := Lib.hid (by unfold oneL; rw [hcc])
  obtain ⟨X, hX⟩ : ∃ X, oneL l = X := ⟨_, rfl⟩
  rw [hX] at HX ⊢
  clear hX
  generalize isOp (c : Int) = ok at *
  generalize formI (c : Int) = f at *
  obtain ⟨R, num, tg, ou, ins⟩ := f
  simp only [Form.val] at HIn hR3
  have hwc : IntKind.i64.wrap (c : Int) = c := by rw [IntKind.wrap_i64]; omega
  refine calls_all fun K hK => ?_
  go_enter Tryd.func41, Tryd.ntmps41
  generalize hQ : bodyPost Tryd.prog Tryd.f41 K = Q
  have HQ := Lib.hid hQ
  clear hQ
  go_wp2_with fail
  refine (HIn _).mono ?_
  rintro e w1 ⟨rfl, u1⟩
  have R1 := Lib.hid ((((Blk.new w [.int .i64 0, .int .i64 0, .int .i64 0, .int .i64 0, .int .u64 0] 38).alloc (.cells #[.int .i64 (c : Int), .int .i64 0, .int .i64 0, .int .i64 0, .int .u64 0] 38)).upd u1 (by simp)).alloc (.cells #[.int .i64 (R : Int), .bool num, .bool tg, .bool ou, .bool ins] 24))
  have bi := Blk.new (w.alloc (.cells #[.int .i64 0, .int .i64 0, .int .i64 0, .int .i64 0, .int .u64 0] 38)) [.int .i64 (c : Int), .int .i64 0, .int .i64 0, .int .i64 0, .int .u64 0] 38
  simp only [World.size_alloc] at bi
  have I1 := Lib.hid ((bi.upd u1 (by simp)).alloc (.cells #[.int .i64 (R : Int), .bool num, .bool tg, .bool ou, .bool ins] 24))
  have F1 := Lib.hid (Blk.new w1 [.int .i64 (R : Int), .bool num, .bool tg, .bool ou, .bool ins] 24)
  have U1 := Lib.hid (((((Upd.refl [] w).alloc (.cells #[.int .i64 0, .int .i64 0, .int .i64 0, .int .i64 0, .int .u64 0] 38)).alloc (.cells #[.int .i64 (c : Int), .int .i64 0, .int .i64 0, .int .i64 0, .int .u64 0] 38)).trans u1).alloc (.cells #[.int .i64 (R : Int), .bool num, .bool tg, .bool ou, .bool ins] 24))
  have hsz := u1.size
  simp only [World.size_alloc] at hsz
  obtain ⟨rb, hrb⟩ : ∃ rb, w.heap.size = rb := ⟨_, rfl⟩
  have hwrb : w.heap.size ≤ rb := by omega
  rw [hrb] at R1 I1 hsz ⊢
  clear u1 bi hc0
  have i0 := I1.out.cell 0 rfl
  have i1 := I1.out.cell 1 rfl
  have i2 := I1.out.cell 2 rfl
  have i3 := I1.out.cell 3 rfl
  have i4 := I1.out.cell 4 rfl
  have r0 := (R1.out).cell 0 rfl
  have r1 := (R1.out).cell 1 rfl
  have r2 := (R1.out).cell 2 rfl
  have r3 := (R1.out).cell 3 rfl
  have r4 := (R1.out).cell 4 rfl
  have q0 := (R1.out).free 0
  have q1 := (R1.out).free 1
  have q2 := (R1.out).free 2
  have q3 := (R1.out).free 3
  have q4 := (R1.out).free 4
  by_cases hgo : ok = true ∧ R < l.length
  · obtain ⟨rfl, hRl⟩ := hgo
    have hRl' : ¬ l.length ≤ R := by omega
    have hR1 : (1 : Int) + (R : Int) ≤ (cp : Int) := by omega
    have hcc0 : (l.getD 0 0).toNat = c := hcc
    have hINS : ∀ k, k < 3 → rB l R k = rkB l R k := fun k _ => rfl
    by_cases hcp : 2 ≤ cp
    · go_wp2_with fail
      obtain ⟨W, hW⟩ : ∃ W, w1.alloc (.cells #[.int .i64 (R : Int), .bool num, .bool tg, .bool ou, .bool ins] 24) = W := ⟨_, rfl⟩
      rw [hW] at F1 R1 I1 U1 ⊢
      clear hW
      obtain ⟨fb, hfb⟩ : ∃ fb, w1.heap.size = fb := ⟨_, rfl⟩
      rw [hfb] at F1 hsz ⊢
      clear hfb
      clear r0 r1 r2 r3 r4 q0 q1 q2 q3 q4 i0 i1 i2 i3 i4
      have hx2 : (1 : Int) + (R : Int) - 1 = R := by omega
      go_loopw [40] (fun v40 wr => ∃ k : Nat, k ≤ R ∧ v40 = .int .i64 k ∧ Blk wr (rb + 1) [.int .i64 (c : Int), .int .i64 (rkB l k 0), .int .i64 (rkB l k 1), .int .i64 (rkB l k 2), .int .u64 0] 38 ∧ Upd [rb + 1] W wr) (fun v40 _ => R - (intOf v40).toNat)
      case atStart => exact ⟨0, by omega, rfl, by simpa [rkB] using I1.out, Upd.refl _ _⟩
      case round =>
        obtain ⟨k, hk, rfl, hbi, hur⟩ := hrel
        have HUr := Lib.hid hur
        have HBr := Lib.hid hbi
        clear hbi hur
        by_cases hlt : k < R
        · have hkl : (k : Int) < (R : Int) := by omega
          have hkl2 : k < 1 + R - 1 := by omega
          obtain ⟨x, hx⟩ : ∃ x, (l.getD (1 + k) 0).toNat = x := ⟨_, rfl⟩
          have cl := ((h.upd (U1.out.tr HUr.out (U := [rb + 1]) (by simp) (by simp)) (fun b' o' e _ => by
            simp only [Option.some.injEq, Addr.mk.injEq, and_true] at e
            obtain ⟨rfl, rfl⟩ := e
            have := h.lt (List.length_pos_iff.1 hl) rfl
            simp; omega)).cells b o rfl (1 + k) (by omega))
          rw [hx, ← Nat.add_assoc] at cl
          have hx256 : x < 256 := hx ▸ UInt8.toNat_lt (l.getD (1 + k) 0)
          have hwx : IntKind.i64.wrap (x : Int) = x := by rw [IntKind.wrap_i64]; omega
          have hix : ∀ W, (Instr.index 80 (.agg #[.pointer (some ⟨rb + 1, 1, none⟩), .pointer (some ⟨rb + 1, 2, none⟩), .pointer (some ⟨rb + 1, 3, none⟩)]) (.int .i64 (k : Int))).run Tryd.prog W = .ok (.pointer (some ⟨rb + 1, 1 + k, none⟩)) W := fun W => run_index_arr1 _ 79 3 _ _ k _ Tryd.underlying80 (fun w => by go_simp) (fun w => by go_simp) (by omega) (ptr_at _ _ (by omega))
          obtain ⟨z, hz⟩ := rkB_at l (c : Int) 0 k k (by omega)
          have ci := HBr.out.cell (1 + k) hz
          have cf := HBr.out.free (1 + k)
          have BS := HBr.out.set (1 + k) (.int .i64 (x : Int))
          rw [rkB_set l _ _ k x (by omega) hx] at BS
          have HBS := Lib.hid BS
          clear BS hx hz
          go_wp2_with fail
          go_roundw
          case rel => exact ⟨k + 1, by omega, by go_num, HBS.out, HUr.out.setCell (.inl (by simp)) _⟩
          case measure => simp [intOf]; omega
        · obtain rfl : k = R := by omega
          have II := Lib.hid (show Blk _ (rb + 1) (insB l k 0).cells 38 by unfold insB Ins.cells; rw [hcc]; exact HBr.out)
          have RR := Lib.hid (R1.out.upd HUr.out (by simp))
          have FF := Lib.hid (F1.out.upd HUr.out (by simp; omega))
          have UU := Lib.hid (U1.out.tr HUr.out (U := []) (by simp) (by simp; omega))
          clear HUr HBr R1 F1 I1
          have r0 := (RR.out).cell 0 rfl
          have r1 := (RR.out).cell 1 rfl
          have r2 := (RR.out).cell 2 rfl
          have r3 := (RR.out).cell 3 rfl
          have r4 := (RR.out).cell 4 rfl
          have q0 := (RR.out).free 0
          have q1 := (RR.out).free 1
          have q2 := (RR.out).free 2
          have q3 := (RR.out).free 3
          have q4 := (RR.out).free 4
          have f0 := FF.out.cell 0 rfl
          have f1 := FF.out.cell 1 rfl
          cases num with
          | false =>
            have HFo := fun w => formed_code (insB l k 0) w
            have HXX : Hid (X = if formed (insB l k 0) = true then some (insB l k 0, 1 + k) else none) := Lib.hid (HX.out.trans (by unfold oneF; rw [if_pos ⟨rfl, hRl⟩, if_neg (by simp)]))
            obtain ⟨fo, hfo⟩ : ∃ fo, formed (insB l k 0) = fo := ⟨_, rfl⟩
            rw [hfo] at HFo HXX
            clear hfo
            obtain ⟨x, hx⟩ : ∃ x, insB l k 0 = x := ⟨_, rfl⟩
            rw [hx] at HFo HXX II
            clear hx
            obtain ⟨op, xa, xb, xc, xn⟩ := x
            simp only [Ins.val] at HFo
            have i0 := II.out.cell 0 rfl
            have i1 := II.out.cell 1 rfl
            have i2 := II.out.cell 2 rfl
            have i3 := II.out.cell 3 rfl
            have i4 := II.out.cell 4 rfl
            go_wp2_with fail
            obtain ⟨T, hT, g, hg, hg2⟩ := fam [] wr
            have G0 : ∀ n, (g n).cell? ⟨rb + 1, 0, none⟩ = some (.int .i64 op) := fun n => (II.out.upd (hg n) (by simp)).cell 0 rfl
            have G1 : ∀ n, (g n).cell? ⟨rb + 1, 1, none⟩ = some (.int .i64 xa) := fun n => (II.out.upd (hg n) (by simp)).cell 1 rfl
            have G2 : ∀ n, (g n).cell? ⟨rb + 1, 2, none⟩ = some (.int .i64 xb) := fun n => (II.out.upd (hg n) (by simp)).cell 2 rfl
            have G3 : ∀ n, (g n).cell? ⟨rb + 1, 3, none⟩ = some (.int .i64 xc) := fun n => (II.out.upd (hg n) (by simp)).cell 3 rfl
            have G4 : ∀ n, (g n).cell? ⟨rb + 1, 4, none⟩ = some (.int .u64 xn) := fun n => (II.out.upd (hg n) (by simp)).cell 4 rfl
            have Q0 : ∀ n, (g n).cell? ⟨rb, 0, none⟩ = some (.int .i64 0) := fun n => (RR.out.upd (hg n) (by simp)).cell 0 rfl
            have Q1 : ∀ n, (g n).cell? ⟨rb, 1, none⟩ = some (.int .i64 0) := fun n => (RR.out.upd (hg n) (by simp)).cell 1 rfl
            have Q2 : ∀ n, (g n).cell? ⟨rb, 2, none⟩ = some (.int .i64 0) := fun n => (RR.out.upd (hg n) (by simp)).cell 2 rfl
            have Q3 : ∀ n, (g n).cell? ⟨rb, 3, none⟩ = some (.int .i64 0) := fun n => (RR.out.upd (hg n) (by simp)).cell 3 rfl
            have Q4 : ∀ n, (g n).cell? ⟨rb, 4, none⟩ = some (.int .u64 0) := fun n => (RR.out.upd (hg n) (by simp)).cell 4 rfl
            have F0 : ∀ n o, (g n).frozen? ⟨rb, o, none⟩ = false := fun n o => (RR.out.upd (hg n) (by simp)).free o
            clear i0 i1 i2 i3 i4 r0 r1 r2 r3 r4 q0 q1 q2 q3 q4
            refine wp_region_store g 4 _ rfl (by kernel_rfl) (by kernel_rfl) (hg2 _ ((Upd.refl [] _).drew)) ?_
            simp only [List.take_succ_cons, List.take_zero, List.drop_succ_cons, List.drop_zero]
            repeat (go_big_quiet_step ((go_at_call 19; exact Calls.fam_of0 hg hg2 (HFo _))))
            refine wpQuiet_nil ?_
            refine ⟨rfl, ?_, fun n => ?_, ?_⟩
            rotate_left 1
            · (go_simp; rfl)
            simp only [Act.put]
            repeat (go_big_quiet_step (fail))
            refine wpQuiet_nil ?_
            intro n9
            have RR9 := Lib.hid (RR.out.upd (hg n9) (by simp))
            have UU9 := Lib.hid (UU.out.trans (hg n9))
            clear G0 G1 G2 G3 G4 Q0 Q1 Q2 Q3 Q4 F0
            go_wp2_with fail
            rw [← HQ.out]
            refine bodyPost_ret (cell5_results3 rfl _ _ rb _ _ _ _ _ _ _ rfl rfl rfl ((((((RR9.out).set 0 _).set 1 _).set 2 _).set 3 _).set 4 _)) rfl (hK _ _ ?_)
            cases fo with
            | true => exact .inl ⟨⟨op, xa, xb, xc, xn⟩, 1 + k, by rw [HXX.out]; rfl, rfl, by (repeat (refine Upd.setCell ?_ (Or.inr (by dsimp only; omega)) _)); exact UU9.out⟩
            | false => exact .inr ⟨by rw [HXX.out]; rfl, ⟨⟨op, xa, xb, xc, xn⟩, _, rfl⟩, by (repeat (refine Upd.setCell ?_ (Or.inr (by dsimp only; omega)) _)); exact UU9.out⟩
          | true =>
            have HIc := Lib.hid (show Blk _ (rb + 1) [.int .i64 (c : Int), .int .i64 (rB l k 0), .int .i64 (rB l k 1), .int .i64 (rB l k 2), .int .u64 0] 38 by have := II.out; unfold insB Ins.cells at this; rw [hcc] at this; exact this)
            have HXX : Hid (X = match decV 0 0 (l.drop (1 + k)) with | some (N, j) => if formed (insB l k N) = true then some (insB l k N, 1 + k + j) else none | none => none) := Lib.hid (HX.out.trans (by unfold oneF; rw [if_pos ⟨rfl, hRl⟩, if_pos rfl]; rfl))
            clear II
            obtain ⟨ra, hra⟩ : ∃ ra, rB l k 0 = ra := ⟨_, rfl⟩
            obtain ⟨rbb, hrbb⟩ : ∃ rbb, rB l k 1 = rbb := ⟨_, rfl⟩
            obtain ⟨rc, hrc⟩ : ∃ rc, rB l k 2 = rc := ⟨_, rfl⟩
            have HINS : Hid (∀ N, insB l k N = ⟨(c : Int), ra, rbb, rc, (N : Int)⟩) := Lib.hid (fun N => by unfold insB; rw [hcc, hra, hrbb, hrc])
            rw [hra, hrbb, hrc] at HIc
            clear hra hrbb hrc
            obtain ⟨WW, hWW⟩ : ∃ WW, wr = WW := ⟨_, rfl⟩
            rw [hWW] at HIc RR FF UU f0 f1 r0 r1 r2 r3 r4 q0 q1 q2 q3 q4 ⊢
            clear hWW
            go_wp2_with fail
            clear r0 r1 r2 r3 r4 q0 q1 q2 q3 q4 f0 f1
            go_loopw [10, 11] (fun v10 v11 wr => ∃ (i acc : Nat), i ≤ 10 ∧ 1 + k + i ≤ l.length ∧ v10 = .int .i64 ((1 + k + i : Nat) : Int) ∧ v11 = .int .i64 ((7 * i : Nat) : Int) ∧ acc < 2 ^ (7 * i) ∧ acc < 18446744073709551616 ∧ Blk wr (rb + 1) [.int .i64 (c : Int), .int .i64 ra, .int .i64 rbb, .int .i64 rc, .int .u64 (acc : Int)] 38 ∧ Upd [rb + 1] WW wr ∧
              (decV 0 0 (l.drop (1 + k))) = (decV (7 * i) acc (l.drop (1 + k + i))).map (fun x => (x.1, x.2 + i))) (fun v10 _ _ => l.length - (intOf v10).toNat)
            case atStart => exact ⟨0, 0, by omega, by omega, by simp, by simp, by simp, by omega, HIc.out, Upd.refl _ _, by simp⟩
            case round =>
              obtain ⟨i, acc, hi, hil, rfl, rfl, hacc, hacc64, hbi, hu, hdec⟩ := hrel
              have HUi := Lib.hid hu
              have HBi := Lib.hid hbi
              have HD := Lib.hid hdec
              have RRi := Lib.hid (RR.out.upd hu (by simp))
              have UUi := Lib.hid (UU.out.tr hu (U := []) (by simp) (by simp; omega))
              have i0 := hbi.cell 0 rfl
              have i1 := hbi.cell 1 rfl
              have i2 := hbi.cell 2 rfl
              have i3 := hbi.cell 3 rfl
              have i4 := hbi.cell 4 rfl
              have z4 := hbi.free 4
              have r0 := (RRi.out).cell 0 rfl
              have r1 := (RRi.out).cell 1 rfl
              have r2 := (RRi.out).cell 2 rfl
              have r3 := (RRi.out).cell 3 rfl
              have r4 := (RRi.out).cell 4 rfl
              have q0 := (RRi.out).free 0
              have q1 := (RRi.out).free 1
              have q2 := (RRi.out).free 2
              have q3 := (RRi.out).free 3
              have q4 := (RRi.out).free 4
              clear hu hbi hdec HIc RR UU
              by_cases hgo2 : 1 + k + i < l.length ∧ i < 10
              · obtain ⟨hat, hi10⟩ := hgo2
                have g1 : ((1 + k + i : Nat) : Int) < (l.length : Int) := by omega
                have g2 : ((7 * i : Nat) : Int) < 70 := by omega
                obtain ⟨x, hx⟩ : ∃ x, (l.getD (1 + k + i) 0).toNat = x := ⟨_, rfl⟩
                have cl := ((h.upd (U1.out.tr (Upd.refl [] W) (U := []) (by simp) (by simp)) (by simp)).cells b o rfl (1 + k + i) hat)
                have cl2 := ((h.upd UUi.out (by simp)).cells b o rfl (1 + k + i) hat)
                rw [hx] at cl2
                have hx256 : x < 256 := hx ▸ UInt8.toNat_lt (l.getD (1 + k + i) 0)
                clear cl
                by_cases hbad : i = 9 ∧ 1 < x
                · have g3 : (((7 * i : Nat) : Int) == 63) = true := by rw [beq_iff_eq]; omega
                  have g4 : (1 : Int) < (x : Int) := by omega
                  have HE : Hid (X = none) := Lib.hid (by
                    rw [HXX.out, HD.out, dec_nine l (1 + k + i) i acc x hat hx hbad]
                    rfl)
                  have HB9 := Lib.hid hbad
                  clear hbad
                  go_wp2_with fail
                  all_goals first | (exfalso; have := HB9.out; omega) | skip
                  all_goals
                    rw [← HQ.out]
                    refine bodyPost_ret (cell5_results3 rfl _ _ rb _ _ _ _ _ _ _ rfl rfl rfl ((((((RRi.out).set 0 _).set 1 _).set 2 _).set 3 _).set 4 _)) rfl (hK _ _ ?_)
                    refine .inr ⟨HE.out, ⟨⟨_, _, _, _, _⟩, _, rfl⟩, ?_⟩
                    (repeat (refine Upd.setCell ?_ (Or.inr (by dsimp only; omega)) _))
                    exact UUi.out
                · by_cases hi9 : i = 9
                  · have g3 : (((7 * i : Nat) : Int) == 63) = true := by rw [beq_iff_eq]; omega
                    have g4 : ¬ (1 : Int) < (x : Int) := by omega
                    have hi9' := Lib.hid hi9
                    clear hi9
                    have hst := dec_step acc x i hx256 hacc hi10 (by omega)
                    obtain ⟨N2, hN2⟩ : ∃ N2 : Nat, acc + x % 128 * 2 ^ (7 * i) = N2 := ⟨_, rfl⟩
                    have HST9 := Lib.hid (dec_step9 acc x i hx256 hacc hi10 (by omega) N2 hN2)
                    rw [hN2] at hst
                    have HN2 := Lib.hid hN2
                    clear hN2
                    by_cases hx8 : x < 128
                    · have hx1 : ¬ 128 ≤ x := by omega
                      go_wp2_with fail
                      all_goals first | (exfalso; have h99 := hi9'.out; omega) | skip
                      clear g3
                      go_still_tail 9, (by kernel_rfl)
                      go_wp2_with fail
                      first | rw [HST9.out hi9'.out] | skip
                      have BI2 := Lib.hid ((HBi.out.set 4 (.int .u64 (N2 : Int))).drew)
                      have RR2 := Lib.hid ((RRi.out.other ⟨rb + 1, 4, none⟩ (.int .u64 (N2 : Int)) (by simp)).drew)
                      have UU2 := Lib.hid ((UUi.out.setCell (p := ⟨rb + 1, 4, none⟩) (.inr (by dsimp only; omega)) (.int .u64 (N2 : Int))).drew)
                      clear i0 i1 i2 i3 i4 z4 r0 r1 r2 r3 r4 q0 q1 q2 q3 q4 hst cl2
                      obtain ⟨W2, hW2⟩ : ∃ W2, (wr.setCell ⟨rb + 1, 4, none⟩ (.int .u64 (N2 : Int))).drew = W2 := ⟨_, rfl⟩
                      rw [hW2] at BI2 RR2 UU2 ⊢
                      clear hW2
                      have i0 := BI2.out.cell 0 rfl
                      have i1 := BI2.out.cell 1 rfl
                      have i2 := BI2.out.cell 2 rfl
                      have i3 := BI2.out.cell 3 rfl
                      have i4 := BI2.out.cell 4 rfl
                      have r0 := (RR2.out).cell 0 rfl
                      have r1 := (RR2.out).cell 1 rfl
                      have r2 := (RR2.out).cell 2 rfl
                      have r3 := (RR2.out).cell 3 rfl
                      have r4 := (RR2.out).cell 4 rfl
                      have q0 := (RR2.out).free 0
                      have q1 := (RR2.out).free 1
                      have q2 := (RR2.out).free 2
                      have q3 := (RR2.out).free 3
                      have q4 := (RR2.out).free 4
                      by_cases hx0 : 0 < x
                      · have hx0i : (0 : Int) < (x : Int) := by omega
                        have hx0d : decide ((0 : Int) < (x : Int)) = true := decide_eq_true hx0i
                        have HXN : Hid (X = if formed (insB l k N2) = true then some (insB l k N2, 1 + k + i + 1) else none) := Lib.hid (by
                          rw [HXX.out, HD.out, dec_end l (1 + k + i) i acc x hat hx hi10 hbad hx8 (by omega)]
                          simp only [Option.map_some]
                          rw [HN2.out, show 1 + k + (1 + i) = 1 + k + i + 1 by omega])
                        clear hx
                        have HFo := fun w => formed_code (insB l k N2) w
                        rw [HINS.out N2] at HFo HXN
                        simp only [Ins.val] at HFo
                        generalize formed ⟨(c : Int), ra, rbb, rc, (N2 : Int)⟩ = fo at HFo HXN
                        obtain ⟨T, hT, g, hg, hg2⟩ := fam [] W2
                        have G0 : ∀ n, (g n).cell? ⟨rb + 1, 0, none⟩ = some (.int .i64 (c : Int)) := fun n => (BI2.out.upd (hg n) (by simp)).cell 0 rfl
                        have G1 : ∀ n, (g n).cell? ⟨rb + 1, 1, none⟩ = some (.int .i64 ra) := fun n => (BI2.out.upd (hg n) (by simp)).cell 1 rfl
                        have G2 : ∀ n, (g n).cell? ⟨rb + 1, 2, none⟩ = some (.int .i64 rbb) := fun n => (BI2.out.upd (hg n) (by simp)).cell 2 rfl
                        have G3 : ∀ n, (g n).cell? ⟨rb + 1, 3, none⟩ = some (.int .i64 rc) := fun n => (BI2.out.upd (hg n) (by simp)).cell 3 rfl
                        have G4 : ∀ n, (g n).cell? ⟨rb + 1, 4, none⟩ = some (.int .u64 (N2 : Int)) := fun n => (BI2.out.upd (hg n) (by simp)).cell 4 rfl
                        have Q0 : ∀ n, (g n).cell? ⟨rb, 0, none⟩ = some (.int .i64 0) := fun n => (RR2.out.upd (hg n) (by simp)).cell 0 rfl
                        have Q1 : ∀ n, (g n).cell? ⟨rb, 1, none⟩ = some (.int .i64 0) := fun n => (RR2.out.upd (hg n) (by simp)).cell 1 rfl
                        have Q2 : ∀ n, (g n).cell? ⟨rb, 2, none⟩ = some (.int .i64 0) := fun n => (RR2.out.upd (hg n) (by simp)).cell 2 rfl
                        have Q3 : ∀ n, (g n).cell? ⟨rb, 3, none⟩ = some (.int .i64 0) := fun n => (RR2.out.upd (hg n) (by simp)).cell 3 rfl
                        have Q4 : ∀ n, (g n).cell? ⟨rb, 4, none⟩ = some (.int .u64 0) := fun n => (RR2.out.upd (hg n) (by simp)).cell 4 rfl
                        have F0 : ∀ n o, (g n).frozen? ⟨rb, o, none⟩ = false := fun n o => (RR2.out.upd (hg n) (by simp)).free o
                        clear i0 i1 i2 i3 i4 r0 r1 r2 r3 r4 q0 q1 q2 q3 q4
                        refine wp_region_store g 12 _ rfl (by kernel_rfl) (by kernel_rfl) (hg2 _ ((Upd.refl [] _).drew)) ?_
                        simp only [List.take_succ_cons, List.take_zero, List.drop_succ_cons, List.drop_zero]
                        repeat (go_big_quiet_step ((go_at_call 19; exact Calls.fam_of0 hg hg2 (HFo _))))
                        refine wpQuiet_nil ?_
                        refine ⟨rfl, ?_, fun n => ?_, ?_⟩
                        rotate_left 1
                        · (go_simp; rfl)
                        simp only [Act.put]
                        repeat (go_big_quiet_step (fail))
                        refine wpQuiet_nil ?_
                        intro n9
                        have RR9 := Lib.hid (RR2.out.upd (hg n9) (by simp))
                        have UU9 := Lib.hid (UU2.out.trans (hg n9))
                        clear G0 G1 G2 G3 G4 Q0 Q1 Q2 Q3 Q4 F0
                        go_wp2_with fail
                        rw [← HQ.out]
                        refine bodyPost_ret (cell5_results3 rfl _ _ rb _ _ _ _ _ _ _ rfl rfl rfl ((((((RR9.out).set 0 _).set 1 _).set 2 _).set 3 _).set 4 _)) rfl (hK _ _ ?_)
                        cases fo with
                        | true => exact .inl ⟨⟨c, ra, rbb, rc, N2⟩, 1 + k + i + 1, by rw [HXN.out]; rfl, rfl, by (repeat (refine Upd.setCell ?_ (Or.inr (by dsimp only; omega)) _)); exact UU9.out⟩
                        | false => exact .inr ⟨by rw [HXN.out]; rfl, ⟨⟨c, ra, rbb, rc, N2⟩, _, rfl⟩, by (repeat (refine Upd.setCell ?_ (Or.inr (by dsimp only; omega)) _)); exact UU9.out⟩
                      · have hx0i : ¬ (0 : Int) < (x : Int) := by omega
                        have hx0d : decide ((0 : Int) < (x : Int)) = false := decide_eq_false hx0i
                        by_cases hi0 : i = 0
                        · first
                          | (exfalso; have h9 := hi9'.out; omega)
                          | (have hi0d : ((7 * (i : Int)) == 0) = true := by rw [hi0]; rfl
                             have hi0d2 : (((7 * i : Nat) : Int) == 0) = true := by rw [hi0]; rfl
                             have hi0' := Lib.hid hi0
                             clear hi0
                             have hi0 := hi0'
                             clear hi0'
                             have hxz : ¬ (0 < x) → (0 < x ∨ i = 0) := fun _ => .inr hi0.out
                             have HXN : Hid (X = if formed (insB l k N2) = true then some (insB l k N2, 1 + k + i + 1) else none) := Lib.hid (by
                               rw [HXX.out, HD.out, dec_end l (1 + k + i) i acc x hat hx hi10 hbad hx8 (hxz hx0)]
                               simp only [Option.map_some]
                               rw [HN2.out, show 1 + k + (1 + i) = 1 + k + i + 1 by omega])
                             clear hx
                             have HFo := fun w => formed_code (insB l k N2) w
                             rw [HINS.out N2] at HFo HXN
                             simp only [Ins.val] at HFo
                             generalize formed ⟨(c : Int), ra, rbb, rc, (N2 : Int)⟩ = fo at HFo HXN
                             obtain ⟨T, hT, g, hg, hg2⟩ := fam [] W2
                             have G0 : ∀ n, (g n).cell? ⟨rb + 1, 0, none⟩ = some (.int .i64 (c : Int)) := fun n => (BI2.out.upd (hg n) (by simp)).cell 0 rfl
                             have G1 : ∀ n, (g n).cell? ⟨rb + 1, 1, none⟩ = some (.int .i64 ra) := fun n => (BI2.out.upd (hg n) (by simp)).cell 1 rfl
                             have G2 : ∀ n, (g n).cell? ⟨rb + 1, 2, none⟩ = some (.int .i64 rbb) := fun n => (BI2.out.upd (hg n) (by simp)).cell 2 rfl
                             have G3 : ∀ n, (g n).cell? ⟨rb + 1, 3, none⟩ = some (.int .i64 rc) := fun n => (BI2.out.upd (hg n) (by simp)).cell 3 rfl
                             have G4 : ∀ n, (g n).cell? ⟨rb + 1, 4, none⟩ = some (.int .u64 (N2 : Int)) := fun n => (BI2.out.upd (hg n) (by simp)).cell 4 rfl
                             have Q0 : ∀ n, (g n).cell? ⟨rb, 0, none⟩ = some (.int .i64 0) := fun n => (RR2.out.upd (hg n) (by simp)).cell 0 rfl
                             have Q1 : ∀ n, (g n).cell? ⟨rb, 1, none⟩ = some (.int .i64 0) := fun n => (RR2.out.upd (hg n) (by simp)).cell 1 rfl
                             have Q2 : ∀ n, (g n).cell? ⟨rb, 2, none⟩ = some (.int .i64 0) := fun n => (RR2.out.upd (hg n) (by simp)).cell 2 rfl
                             have Q3 : ∀ n, (g n).cell? ⟨rb, 3, none⟩ = some (.int .i64 0) := fun n => (RR2.out.upd (hg n) (by simp)).cell 3 rfl
                             have Q4 : ∀ n, (g n).cell? ⟨rb, 4, none⟩ = some (.int .u64 0) := fun n => (RR2.out.upd (hg n) (by simp)).cell 4 rfl
                             have F0 : ∀ n o, (g n).frozen? ⟨rb, o, none⟩ = false := fun n o => (RR2.out.upd (hg n) (by simp)).free o
                             clear i0 i1 i2 i3 i4 r0 r1 r2 r3 r4 q0 q1 q2 q3 q4
                             refine wp_region_store g 12 _ rfl (by kernel_rfl) (by kernel_rfl) (hg2 _ ((Upd.refl [] _).drew)) ?_
                             simp only [List.take_succ_cons, List.take_zero, List.drop_succ_cons, List.drop_zero]
                             repeat (go_big_quiet_step ((go_at_call 19; exact Calls.fam_of0 hg hg2 (HFo _))))
                             refine wpQuiet_nil ?_
                             refine ⟨rfl, ?_, fun n => ?_, ?_⟩
                             rotate_left 1
                             · (go_simp; rfl)
                             simp only [Act.put]
                             repeat (go_big_quiet_step (fail))
                             refine wpQuiet_nil ?_
                             intro n9
                             have RR9 := Lib.hid (RR2.out.upd (hg n9) (by simp))
                             have UU9 := Lib.hid (UU2.out.trans (hg n9))
                             clear G0 G1 G2 G3 G4 Q0 Q1 Q2 Q3 Q4 F0
                             go_wp2_with fail
                             rw [← HQ.out]
                             refine bodyPost_ret (cell5_results3 rfl _ _ rb _ _ _ _ _ _ _ rfl rfl rfl ((((((RR9.out).set 0 _).set 1 _).set 2 _).set 3 _).set 4 _)) rfl (hK _ _ ?_)
                             cases fo with
                             | true => exact .inl ⟨⟨c, ra, rbb, rc, N2⟩, 1 + k + i + 1, by rw [HXN.out]; rfl, rfl, by (repeat (refine Upd.setCell ?_ (Or.inr (by dsimp only; omega)) _)); exact UU9.out⟩
                             | false => exact .inr ⟨by rw [HXN.out]; rfl, ⟨⟨c, ra, rbb, rc, N2⟩, _, rfl⟩, by (repeat (refine Upd.setCell ?_ (Or.inr (by dsimp only; omega)) _)); exact UU9.out⟩
                             skip)
                        · have hi0d : ((7 * (i : Int)) == 0) = false := by rw [beq_eq_false_iff_ne]; omega
                          have hi0d2 : (((7 * i : Nat) : Int) == 0) = false := by rw [beq_eq_false_iff_ne]; omega
                          have HE : Hid (X = none) := Lib.hid (by
                            rw [HXX.out, HD.out, dec_zero l (1 + k + i) i acc x hat hx hi10 (by omega) (by omega)]
                            rfl)
                          have HFo := fun w => formed_code (insB l k N2) w
                          obtain ⟨T, hT, g, hg, hg2⟩ := fam [] W2
                          have G0 : ∀ n, (g n).cell? ⟨rb + 1, 0, none⟩ = some (.int .i64 (c : Int)) := fun n => (BI2.out.upd (hg n) (by simp)).cell 0 rfl
                          have G1 : ∀ n, (g n).cell? ⟨rb + 1, 1, none⟩ = some (.int .i64 ra) := fun n => (BI2.out.upd (hg n) (by simp)).cell 1 rfl
                          have G2 : ∀ n, (g n).cell? ⟨rb + 1, 2, none⟩ = some (.int .i64 rbb) := fun n => (BI2.out.upd (hg n) (by simp)).cell 2 rfl
                          have G3 : ∀ n, (g n).cell? ⟨rb + 1, 3, none⟩ = some (.int .i64 rc) := fun n => (BI2.out.upd (hg n) (by simp)).cell 3 rfl
                          have G4 : ∀ n, (g n).cell? ⟨rb + 1, 4, none⟩ = some (.int .u64 (N2 : Int)) := fun n => (BI2.out.upd (hg n) (by simp)).cell 4 rfl
                          have Q0 : ∀ n, (g n).cell? ⟨rb, 0, none⟩ = some (.int .i64 0) := fun n => (RR2.out.upd (hg n) (by simp)).cell 0 rfl
                          have Q1 : ∀ n, (g n).cell? ⟨rb, 1, none⟩ = some (.int .i64 0) := fun n => (RR2.out.upd (hg n) (by simp)).cell 1 rfl
                          have Q2 : ∀ n, (g n).cell? ⟨rb, 2, none⟩ = some (.int .i64 0) := fun n => (RR2.out.upd (hg n) (by simp)).cell 2 rfl
                          have Q3 : ∀ n, (g n).cell? ⟨rb, 3, none⟩ = some (.int .i64 0) := fun n => (RR2.out.upd (hg n) (by simp)).cell 3 rfl
                          have Q4 : ∀ n, (g n).cell? ⟨rb, 4, none⟩ = some (.int .u64 0) := fun n => (RR2.out.upd (hg n) (by simp)).cell 4 rfl
                          have F0 : ∀ n o, (g n).frozen? ⟨rb, o, none⟩ = false := fun n o => (RR2.out.upd (hg n) (by simp)).free o
                          clear i0 i1 i2 i3 i4 r0 r1 r2 r3 r4 q0 q1 q2 q3 q4
                          refine wp_region_store g 12 _ rfl (by kernel_rfl) (by kernel_rfl) (hg2 _ ((Upd.refl [] _).drew)) ?_
                          simp only [List.take_succ_cons, List.take_zero, List.drop_succ_cons, List.drop_zero]
                          repeat (go_big_quiet_step ((go_at_call 19; exact Calls.fam_of0 hg hg2 (HFo _))))
                          refine wpQuiet_nil ?_
                          refine ⟨rfl, ?_, fun n => ?_, ?_⟩
                          rotate_left 1
                          · (go_simp; rfl)
                          simp only [Act.put]
                          repeat (go_big_quiet_step (fail))
                          refine wpQuiet_nil ?_
                          intro n9
                          have RR9 := Lib.hid (RR2.out.upd (hg n9) (by simp))
                          have UU9 := Lib.hid (UU2.out.trans (hg n9))
                          clear G0 G1 G2 G3 G4 Q0 Q1 Q2 Q3 Q4 F0
                          go_wp2_with fail
                          rw [← HQ.out]
                          refine bodyPost_ret (cell5_results3 rfl _ _ rb _ _ _ _ _ _ _ rfl rfl rfl ((((((RR9.out).set 0 _).set 1 _).set 2 _).set 3 _).set 4 _)) rfl (hK _ _ ?_)
                          refine .inr ⟨HE.out, ⟨⟨_, _, _, _, _⟩, _, rfl⟩, ?_⟩
                          (repeat (refine Upd.setCell ?_ (Or.inr (by dsimp only; omega)) _))
                          exact UU9.out
                    · first
                      | (exfalso; omega)
                      | (have hx1 : 128 ≤ x := by omega
                         have hi9' : i < 9 := by omega
                         have HM := Lib.hid (HD.out.trans (congrArg _ (dec_more l (1 + k + i) i acc x hat hx hi9' hx1)))
                         have HLT := Lib.hid (dec_lt acc x i hacc)
                         rw [HN2.out] at HM HLT
                         go_wp2_with fail
                         clear g3
                         go_still_tail 9, (by kernel_rfl)
                         go_wp2_with fail
                         go_roundw
                         case rel => first | exact ⟨i + 1, N2, by omega, by omega, by go_num, by go_num, HLT.out, dec_lt64 N2 (i + 1) (by omega) HLT.out, (HBi.out.set 4 (.int .u64 (N2 : Int))).drew, (HUi.out.setCell (.inl (by simp)) _).drew, by rw [HM.out, Option.map_map]; congr 1; funext y; simp; omega⟩ | ((repeat apply Exists.intro); refine ⟨⟨i + 1, N2, by omega, by omega, by go_num, by go_num, HLT.out, dec_lt64 N2 (i + 1) (by omega) HLT.out, (HBi.out.set 4 (.int .u64 (N2 : Int))).drew, (HUi.out.setCell (.inl (by simp)) _).drew, by rw [HM.out, Option.map_map]; congr 1; funext y; simp; omega⟩, ?_⟩; first | rfl | (simp <;> (repeat' apply And.intro) <;> first | rfl | omega))
                         case measure => simp [intOf]; omega)
                  · have g3 : (((7 * i : Nat) : Int) == 63) = false := by rw [beq_eq_false_iff_ne]; omega
                    have hst := dec_step acc x i hx256 hacc hi10 (by omega)
                    obtain ⟨N2, hN2⟩ : ∃ N2 : Nat, acc + x % 128 * 2 ^ (7 * i) = N2 := ⟨_, rfl⟩
                    have HST9 := Lib.hid (dec_step9 acc x i hx256 hacc hi10 (by omega) N2 hN2)
                    rw [hN2] at hst
                    have HN2 := Lib.hid hN2
                    clear hN2
                    by_cases hx8 : x < 128
                    · have hx1 : ¬ 128 ≤ x := by omega
                      go_wp2_with fail
                      all_goals first | (exfalso; have h99 := hi9'.out; omega) | skip
                      clear g3
                      go_still_tail 9, (by kernel_rfl)
                      go_wp2_with fail
                      first | rw [HST9.out hi9'.out] | skip
                      have BI2 := Lib.hid ((HBi.out.set 4 (.int .u64 (N2 : Int))).drew)
                      have RR2 := Lib.hid ((RRi.out.other ⟨rb + 1, 4, none⟩ (.int .u64 (N2 : Int)) (by simp)).drew)
                      have UU2 := Lib.hid ((UUi.out.setCell (p := ⟨rb + 1, 4, none⟩) (.inr (by dsimp only; omega)) (.int .u64 (N2 : Int))).drew)
                      clear i0 i1 i2 i3 i4 z4 r0 r1 r2 r3 r4 q0 q1 q2 q3 q4 hst cl2
                      obtain ⟨W2, hW2⟩ : ∃ W2, (wr.setCell ⟨rb + 1, 4, none⟩ (.int .u64 (N2 : Int))).drew = W2 := ⟨_, rfl⟩
                      rw [hW2] at BI2 RR2 UU2 ⊢
                      clear hW2
                      have i0 := BI2.out.cell 0 rfl
                      have i1 := BI2.out.cell 1 rfl
                      have i2 := BI2.out.cell 2 rfl
                      have i3 := BI2.out.cell 3 rfl
                      have i4 := BI2.out.cell 4 rfl
                      have r0 := (RR2.out).cell 0 rfl
                      have r1 := (RR2.out).cell 1 rfl
                      have r2 := (RR2.out).cell 2 rfl
                      have r3 := (RR2.out).cell 3 rfl
                      have r4 := (RR2.out).cell 4 rfl
                      have q0 := (RR2.out).free 0
                      have q1 := (RR2.out).free 1
                      have q2 := (RR2.out).free 2
                      have q3 := (RR2.out).free 3
                      have q4 := (RR2.out).free 4
                      by_cases hx0 : 0 < x
                      · have hx0i : (0 : Int) < (x : Int) := by omega
                        have hx0d : decide ((0 : Int) < (x : Int)) = true := decide_eq_true hx0i
                        have HXN : Hid (X = if formed (insB l k N2) = true then some (insB l k N2, 1 + k + i + 1) else none) := Lib.hid (by
                          rw [HXX.out, HD.out, dec_end l (1 + k + i) i acc x hat hx hi10 hbad hx8 (by omega)]
                          simp only [Option.map_some]
                          rw [HN2.out, show 1 + k + (1 + i) = 1 + k + i + 1 by omega])
                        clear hx
                        have HFo := fun w => formed_code (insB l k N2) w
                        rw [HINS.out N2] at HFo HXN
                        simp only [Ins.val] at HFo
                        generalize formed ⟨(c : Int), ra, rbb, rc, (N2 : Int)⟩ = fo at HFo HXN
                        obtain ⟨T, hT, g, hg, hg2⟩ := fam [] W2
                        have G0 : ∀ n, (g n).cell? ⟨rb + 1, 0, none⟩ = some (.int .i64 (c : Int)) := fun n => (BI2.out.upd (hg n) (by simp)).cell 0 rfl
                        have G1 : ∀ n, (g n).cell? ⟨rb + 1, 1, none⟩ = some (.int .i64 ra) := fun n => (BI2.out.upd (hg n) (by simp)).cell 1 rfl
                        have G2 : ∀ n, (g n).cell? ⟨rb + 1, 2, none⟩ = some (.int .i64 rbb) := fun n => (BI2.out.upd (hg n) (by simp)).cell 2 rfl
                        have G3 : ∀ n, (g n).cell? ⟨rb + 1, 3, none⟩ = some (.int .i64 rc) := fun n => (BI2.out.upd (hg n) (by simp)).cell 3 rfl
                        have G4 : ∀ n, (g n).cell? ⟨rb + 1, 4, none⟩ = some (.int .u64 (N2 : Int)) := fun n => (BI2.out.upd (hg n) (by simp)).cell 4 rfl
                        have Q0 : ∀ n, (g n).cell? ⟨rb, 0, none⟩ = some (.int .i64 0) := fun n => (RR2.out.upd (hg n) (by simp)).cell 0 rfl
                        have Q1 : ∀ n, (g n).cell? ⟨rb, 1, none⟩ = some (.int .i64 0) := fun n => (RR2.out.upd (hg n) (by simp)).cell 1 rfl
                        have Q2 : ∀ n, (g n).cell? ⟨rb, 2, none⟩ = some (.int .i64 0) := fun n => (RR2.out.upd (hg n) (by simp)).cell 2 rfl
                        have Q3 : ∀ n, (g n).cell? ⟨rb, 3, none⟩ = some (.int .i64 0) := fun n => (RR2.out.upd (hg n) (by simp)).cell 3 rfl
                        have Q4 : ∀ n, (g n).cell? ⟨rb, 4, none⟩ = some (.int .u64 0) := fun n => (RR2.out.upd (hg n) (by simp)).cell 4 rfl
                        have F0 : ∀ n o, (g n).frozen? ⟨rb, o, none⟩ = false := fun n o => (RR2.out.upd (hg n) (by simp)).free o
                        clear i0 i1 i2 i3 i4 r0 r1 r2 r3 r4 q0 q1 q2 q3 q4
                        refine wp_region_store g 12 _ rfl (by kernel_rfl) (by kernel_rfl) (hg2 _ ((Upd.refl [] _).drew)) ?_
                        simp only [List.take_succ_cons, List.take_zero, List.drop_succ_cons, List.drop_zero]
                        repeat (go_big_quiet_step ((go_at_call 19; exact Calls.fam_of0 hg hg2 (HFo _))))
                        refine wpQuiet_nil ?_
                        refine ⟨rfl, ?_, fun n => ?_, ?_⟩
                        rotate_left 1
                        · (go_simp; rfl)
                        simp only [Act.put]
                        repeat (go_big_quiet_step (fail))
                        refine wpQuiet_nil ?_
                        intro n9
                        have RR9 := Lib.hid (RR2.out.upd (hg n9) (by simp))
                        have UU9 := Lib.hid (UU2.out.trans (hg n9))
                        clear G0 G1 G2 G3 G4 Q0 Q1 Q2 Q3 Q4 F0
                        go_wp2_with fail
                        rw [← HQ.out]
                        refine bodyPost_ret (cell5_results3 rfl _ _ rb _ _ _ _ _ _ _ rfl rfl rfl ((((((RR9.out).set 0 _).set 1 _).set 2 _).set 3 _).set 4 _)) rfl (hK _ _ ?_)
                        cases fo with
                        | true => exact .inl ⟨⟨c, ra, rbb, rc, N2⟩, 1 + k + i + 1, by rw [HXN.out]; rfl, rfl, by (repeat (refine Upd.setCell ?_ (Or.inr (by dsimp only; omega)) _)); exact UU9.out⟩
                        | false => exact .inr ⟨by rw [HXN.out]; rfl, ⟨⟨c, ra, rbb, rc, N2⟩, _, rfl⟩, by (repeat (refine Upd.setCell ?_ (Or.inr (by dsimp only; omega)) _)); exact UU9.out⟩
                      · have hx0i : ¬ (0 : Int) < (x : Int) := by omega
                        have hx0d : decide ((0 : Int) < (x : Int)) = false := decide_eq_false hx0i
                        by_cases hi0 : i = 0
                        · first
                          | (exfalso; have h9 := hi9'.out; omega)
                          | (have hi0d : ((7 * (i : Int)) == 0) = true := by rw [hi0]; rfl
                             have hi0d2 : (((7 * i : Nat) : Int) == 0) = true := by rw [hi0]; rfl
                             have hi0' := Lib.hid hi0
                             clear hi0
                             have hi0 := hi0'
                             clear hi0'
                             have hxz : ¬ (0 < x) → (0 < x ∨ i = 0) := fun _ => .inr hi0.out
                             have HXN : Hid (X = if formed (insB l k N2) = true then some (insB l k N2, 1 + k + i + 1) else none) := Lib.hid (by
                               rw [HXX.out, HD.out, dec_end l (1 + k + i) i acc x hat hx hi10 hbad hx8 (hxz hx0)]
                               simp only [Option.map_some]
                               rw [HN2.out, show 1 + k + (1 + i) = 1 + k + i + 1 by omega])
                             clear hx
                             have HFo := fun w => formed_code (insB l k N2) w
                             rw [HINS.out N2] at HFo HXN
                             simp only [Ins.val] at HFo
                             generalize formed ⟨(c : Int), ra, rbb, rc, (N2 : Int)⟩ = fo at HFo HXN
                             obtain ⟨T, hT, g, hg, hg2⟩ := fam [] W2
                             have G0 : ∀ n, (g n).cell? ⟨rb + 1, 0, none⟩ = some (.int .i64 (c : Int)) := fun n => (BI2.out.upd (hg n) (by simp)).cell 0 rfl
                             have G1 : ∀ n, (g n).cell? ⟨rb + 1, 1, none⟩ = some (.int .i64 ra) := fun n => (BI2.out.upd (hg n) (by simp)).cell 1 rfl
                             have G2 : ∀ n, (g n).cell? ⟨rb + 1, 2, none⟩ = some (.int .i64 rbb) := fun n => (BI2.out.upd (hg n) (by simp)).cell 2 rfl
                             have G3 : ∀ n, (g n).cell? ⟨rb + 1, 3, none⟩ = some (.int .i64 rc) := fun n => (BI2.out.upd (hg n) (by simp)).cell 3 rfl
                             have G4 : ∀ n, (g n).cell? ⟨rb + 1, 4, none⟩ = some (.int .u64 (N2 : Int)) := fun n => (BI2.out.upd (hg n) (by simp)).cell 4 rfl
                             have Q0 : ∀ n, (g n).cell? ⟨rb, 0, none⟩ = some (.int .i64 0) := fun n => (RR2.out.upd (hg n) (by simp)).cell 0 rfl
                             have Q1 : ∀ n, (g n).cell? ⟨rb, 1, none⟩ = some (.int .i64 0) := fun n => (RR2.out.upd (hg n) (by simp)).cell 1 rfl
                             have Q2 : ∀ n, (g n).cell? ⟨rb, 2, none⟩ = some (.int .i64 0) := fun n => (RR2.out.upd (hg n) (by simp)).cell 2 rfl
                             have Q3 : ∀ n, (g n).cell? ⟨rb, 3, none⟩ = some (.int .i64 0) := fun n => (RR2.out.upd (hg n) (by simp)).cell 3 rfl
                             have Q4 : ∀ n, (g n).cell? ⟨rb, 4, none⟩ = some (.int .u64 0) := fun n => (RR2.out.upd (hg n) (by simp)).cell 4 rfl
                             have F0 : ∀ n o, (g n).frozen? ⟨rb, o, none⟩ = false := fun n o => (RR2.out.upd (hg n) (by simp)).free o
                             clear i0 i1 i2 i3 i4 r0 r1 r2 r3 r4 q0 q1 q2 q3 q4
                             refine wp_region_store g 12 _ rfl (by kernel_rfl) (by kernel_rfl) (hg2 _ ((Upd.refl [] _).drew)) ?_
                             simp only [List.take_succ_cons, List.take_zero, List.drop_succ_cons, List.drop_zero]
                             repeat (go_big_quiet_step ((go_at_call 19; exact Calls.fam_of0 hg hg2 (HFo _))))
                             refine wpQuiet_nil ?_
                             refine ⟨rfl, ?_, fun n => ?_, ?_⟩
                             rotate_left 1
                             · (go_simp; rfl)
                             simp only [Act.put]
                             repeat (go_big_quiet_step (fail))
                             refine wpQuiet_nil ?_
                             intro n9
                             have RR9 := Lib.hid (RR2.out.upd (hg n9) (by simp))
                             have UU9 := Lib.hid (UU2.out.trans (hg n9))
                             clear G0 G1 G2 G3 G4 Q0 Q1 Q2 Q3 Q4 F0
                             go_wp2_with fail
                             rw [← HQ.out]
                             refine bodyPost_ret (cell5_results3 rfl _ _ rb _ _ _ _ _ _ _ rfl rfl rfl ((((((RR9.out).set 0 _).set 1 _).set 2 _).set 3 _).set 4 _)) rfl (hK _ _ ?_)
                             cases fo with
                             | true => exact .inl ⟨⟨c, ra, rbb, rc, N2⟩, 1 + k + i + 1, by rw [HXN.out]; rfl, rfl, by (repeat (refine Upd.setCell ?_ (Or.inr (by dsimp only; omega)) _)); exact UU9.out⟩
                             | false => exact .inr ⟨by rw [HXN.out]; rfl, ⟨⟨c, ra, rbb, rc, N2⟩, _, rfl⟩, by (repeat (refine Upd.setCell ?_ (Or.inr (by dsimp only; omega)) _)); exact UU9.out⟩
                             skip)
                        · have hi0d : ((7 * (i : Int)) == 0) = false := by rw [beq_eq_false_iff_ne]; omega
                          have hi0d2 : (((7 * i : Nat) : Int) == 0) = false := by rw [beq_eq_false_iff_ne]; omega
                          have HE : Hid (X = none) := Lib.hid (by
                            rw [HXX.out, HD.out, dec_zero l (1 + k + i) i acc x hat hx hi10 (by omega) (by omega)]
                            rfl)
                          have HFo := fun w => formed_code (insB l k N2) w
                          obtain ⟨T, hT, g, hg, hg2⟩ := fam [] W2
                          have G0 : ∀ n, (g n).cell? ⟨rb + 1, 0, none⟩ = some (.int .i64 (c : Int)) := fun n => (BI2.out.upd (hg n) (by simp)).cell 0 rfl
                          have G1 : ∀ n, (g n).cell? ⟨rb + 1, 1, none⟩ = some (.int .i64 ra) := fun n => (BI2.out.upd (hg n) (by simp)).cell 1 rfl
                          have G2 : ∀ n, (g n).cell? ⟨rb + 1, 2, none⟩ = some (.int .i64 rbb) := fun n => (BI2.out.upd (hg n) (by simp)).cell 2 rfl
                          have G3 : ∀ n, (g n).cell? ⟨rb + 1, 3, none⟩ = some (.int .i64 rc) := fun n => (BI2.out.upd (hg n) (by simp)).cell 3 rfl
                          have G4 : ∀ n, (g n).cell? ⟨rb + 1, 4, none⟩ = some (.int .u64 (N2 : Int)) := fun n => (BI2.out.upd (hg n) (by simp)).cell 4 rfl
                          have Q0 : ∀ n, (g n).cell? ⟨rb, 0, none⟩ = some (.int .i64 0) := fun n => (RR2.out.upd (hg n) (by simp)).cell 0 rfl
                          have Q1 : ∀ n, (g n).cell? ⟨rb, 1, none⟩ = some (.int .i64 0) := fun n => (RR2.out.upd (hg n) (by simp)).cell 1 rfl
                          have Q2 : ∀ n, (g n).cell? ⟨rb, 2, none⟩ = some (.int .i64 0) := fun n => (RR2.out.upd (hg n) (by simp)).cell 2 rfl
                          have Q3 : ∀ n, (g n).cell? ⟨rb, 3, none⟩ = some (.int .i64 0) := fun n => (RR2.out.upd (hg n) (by simp)).cell 3 rfl
                          have Q4 : ∀ n, (g n).cell? ⟨rb, 4, none⟩ = some (.int .u64 0) := fun n => (RR2.out.upd (hg n) (by simp)).cell 4 rfl
                          have F0 : ∀ n o, (g n).frozen? ⟨rb, o, none⟩ = false := fun n o => (RR2.out.upd (hg n) (by simp)).free o
                          clear i0 i1 i2 i3 i4 r0 r1 r2 r3 r4 q0 q1 q2 q3 q4
                          refine wp_region_store g 12 _ rfl (by kernel_rfl) (by kernel_rfl) (hg2 _ ((Upd.refl [] _).drew)) ?_
                          simp only [List.take_succ_cons, List.take_zero, List.drop_succ_cons, List.drop_zero]
                          repeat (go_big_quiet_step ((go_at_call 19; exact Calls.fam_of0 hg hg2 (HFo _))))
                          refine wpQuiet_nil ?_
                          refine ⟨rfl, ?_, fun n => ?_, ?_⟩
                          rotate_left 1
                          · (go_simp; rfl)
                          simp only [Act.put]
                          repeat (go_big_quiet_step (fail))
                          refine wpQuiet_nil ?_
                          intro n9
                          have RR9 := Lib.hid (RR2.out.upd (hg n9) (by simp))
                          have UU9 := Lib.hid (UU2.out.trans (hg n9))
                          clear G0 G1 G2 G3 G4 Q0 Q1 Q2 Q3 Q4 F0
                          go_wp2_with fail
                          rw [← HQ.out]
                          refine bodyPost_ret (cell5_results3 rfl _ _ rb _ _ _ _ _ _ _ rfl rfl rfl ((((((RR9.out).set 0 _).set 1 _).set 2 _).set 3 _).set 4 _)) rfl (hK _ _ ?_)
                          refine .inr ⟨HE.out, ⟨⟨_, _, _, _, _⟩, _, rfl⟩, ?_⟩
                          (repeat (refine Upd.setCell ?_ (Or.inr (by dsimp only; omega)) _))
                          exact UU9.out
                    · first
                      | (exfalso; omega)
                      | (have hx1 : 128 ≤ x := by omega
                         have hi9' : i < 9 := by omega
                         have HM := Lib.hid (HD.out.trans (congrArg _ (dec_more l (1 + k + i) i acc x hat hx hi9' hx1)))
                         have HLT := Lib.hid (dec_lt acc x i hacc)
                         rw [HN2.out] at HM HLT
                         go_wp2_with fail
                         clear g3
                         go_still_tail 9, (by kernel_rfl)
                         go_wp2_with fail
                         go_roundw
                         case rel => first | exact ⟨i + 1, N2, by omega, by omega, by go_num, by go_num, HLT.out, dec_lt64 N2 (i + 1) (by omega) HLT.out, (HBi.out.set 4 (.int .u64 (N2 : Int))).drew, (HUi.out.setCell (.inl (by simp)) _).drew, by rw [HM.out, Option.map_map]; congr 1; funext y; simp; omega⟩ | ((repeat apply Exists.intro); refine ⟨⟨i + 1, N2, by omega, by omega, by go_num, by go_num, HLT.out, dec_lt64 N2 (i + 1) (by omega) HLT.out, (HBi.out.set 4 (.int .u64 (N2 : Int))).drew, (HUi.out.setCell (.inl (by simp)) _).drew, by rw [HM.out, Option.map_map]; congr 1; funext y; simp; omega⟩, ?_⟩; first | rfl | (simp <;> (repeat' apply And.intro) <;> first | rfl | omega))
                         case measure => simp [intOf]; omega)
              · have HE : Hid (X = none) := Lib.hid (by
                  rw [HXX.out, HD.out, dec_out l (1 + k + i) i acc (by omega)]
                  rfl)
                by_cases hat : 1 + k + i < l.length
                · have g1 : ((1 + k + i : Nat) : Int) < (l.length : Int) := by omega
                  have g2 : ¬ ((7 * i : Nat) : Int) < 70 := by omega
                  go_wp2_with fail
                  all_goals
                    go_wp2_with fail
                    rw [← HQ.out]
                    refine bodyPost_ret (cell5_results3 rfl _ _ rb _ _ _ _ _ _ _ rfl rfl rfl ((((((RRi.out).set 0 _).set 1 _).set 2 _).set 3 _).set 4 _)) rfl (hK _ _ ?_)
                    refine .inr ⟨HE.out, ⟨⟨_, _, _, _, _⟩, _, rfl⟩, ?_⟩
                    (repeat (refine Upd.setCell ?_ (Or.inr (by dsimp only; omega)) _))
                    exact UUi.out
                · have g1 : ¬ ((1 + k + i : Nat) : Int) < (l.length : Int) := by omega
                  go_wp2_with fail
                  all_goals
                    go_wp2_with fail
                    rw [← HQ.out]
                    refine bodyPost_ret (cell5_results3 rfl _ _ rb _ _ _ _ _ _ _ rfl rfl rfl ((((((RRi.out).set 0 _).set 1 _).set 2 _).set 3 _).set 4 _)) rfl (hK _ _ ?_)
                    refine .inr ⟨HE.out, ⟨⟨_, _, _, _, _⟩, _, rfl⟩, ?_⟩
                    (repeat (refine Upd.setCell ?_ (Or.inr (by dsimp only; omega)) _))
                    exact UUi.out
    · obtain rfl : cp = 1 := by omega
      go_wp2_with fail
      obtain ⟨W, hW⟩ : ∃ W, w1.alloc (.cells #[.int .i64 (R : Int), .bool num, .bool tg, .bool ou, .bool ins] 24) = W := ⟨_, rfl⟩
      rw [hW] at F1 R1 I1 U1 ⊢
      clear hW
      obtain ⟨fb, hfb⟩ : ∃ fb, w1.heap.size = fb := ⟨_, rfl⟩
      rw [hfb] at F1 hsz ⊢
      clear hfb
      clear r0 r1 r2 r3 r4 q0 q1 q2 q3 q4 i0 i1 i2 i3 i4
      have hx2 : (1 : Int) + (R : Int) - 1 = R := by omega
      go_loopw [40] (fun v40 wr => ∃ k : Nat, k ≤ R ∧ v40 = .int .i64 k ∧ Blk wr (rb + 1) [.int .i64 (c : Int), .int .i64 (rkB l k 0), .int .i64 (rkB l k 1), .int .i64 (rkB l k 2), .int .u64 0] 38 ∧ Upd [rb + 1] W wr) (fun v40 _ => R - (intOf v40).toNat)
      case atStart => exact ⟨0, by omega, rfl, by simpa [rkB] using I1.out, Upd.refl _ _⟩
      case round =>
        obtain ⟨k, hk, rfl, hbi, hur⟩ := hrel
        have HUr := Lib.hid hur
        have HBr := Lib.hid hbi
        clear hbi hur
        by_cases hlt : k < R
        · (exfalso; omega)
        · obtain rfl : k = R := by omega
          have II := Lib.hid (show Blk _ (rb + 1) (insB l k 0).cells 38 by unfold insB Ins.cells; rw [hcc]; exact HBr.out)
          have RR := Lib.hid (R1.out.upd HUr.out (by simp))
          have FF := Lib.hid (F1.out.upd HUr.out (by simp; omega))
          have UU := Lib.hid (U1.out.tr HUr.out (U := []) (by simp) (by simp; omega))
          clear HUr HBr R1 F1 I1
          have r0 := (RR.out).cell 0 rfl
          have r1 := (RR.out).cell 1 rfl
          have r2 := (RR.out).cell 2 rfl
          have r3 := (RR.out).cell 3 rfl
          have r4 := (RR.out).cell 4 rfl
          have q0 := (RR.out).free 0
          have q1 := (RR.out).free 1
          have q2 := (RR.out).free 2
          have q3 := (RR.out).free 3
          have q4 := (RR.out).free 4
          have f0 := FF.out.cell 0 rfl
          have f1 := FF.out.cell 1 rfl
          cases num with
          | false =>
            have HFo := fun w => formed_code (insB l k 0) w
            have HXX : Hid (X = if formed (insB l k 0) = true then some (insB l k 0, 1 + k) else none) := Lib.hid (HX.out.trans (by unfold oneF; rw [if_pos ⟨rfl, hRl⟩, if_neg (by simp)]))
            obtain ⟨fo, hfo⟩ : ∃ fo, formed (insB l k 0) = fo := ⟨_, rfl⟩
            rw [hfo] at HFo HXX
            clear hfo
            obtain ⟨x, hx⟩ : ∃ x, insB l k 0 = x := ⟨_, rfl⟩
            rw [hx] at HFo HXX II
            clear hx
            obtain ⟨op, xa, xb, xc, xn⟩ := x
            simp only [Ins.val] at HFo
            have i0 := II.out.cell 0 rfl
            have i1 := II.out.cell 1 rfl
            have i2 := II.out.cell 2 rfl
            have i3 := II.out.cell 3 rfl
            have i4 := II.out.cell 4 rfl
            go_wp2_with fail
            obtain ⟨T, hT, g, hg, hg2⟩ := fam [] wr
            have G0 : ∀ n, (g n).cell? ⟨rb + 1, 0, none⟩ = some (.int .i64 op) := fun n => (II.out.upd (hg n) (by simp)).cell 0 rfl
            have G1 : ∀ n, (g n).cell? ⟨rb + 1, 1, none⟩ = some (.int .i64 xa) := fun n => (II.out.upd (hg n) (by simp)).cell 1 rfl
            have G2 : ∀ n, (g n).cell? ⟨rb + 1, 2, none⟩ = some (.int .i64 xb) := fun n => (II.out.upd (hg n) (by simp)).cell 2 rfl
            have G3 : ∀ n, (g n).cell? ⟨rb + 1, 3, none⟩ = some (.int .i64 xc) := fun n => (II.out.upd (hg n) (by simp)).cell 3 rfl
            have G4 : ∀ n, (g n).cell? ⟨rb + 1, 4, none⟩ = some (.int .u64 xn) := fun n => (II.out.upd (hg n) (by simp)).cell 4 rfl
            have Q0 : ∀ n, (g n).cell? ⟨rb, 0, none⟩ = some (.int .i64 0) := fun n => (RR.out.upd (hg n) (by simp)).cell 0 rfl
            have Q1 : ∀ n, (g n).cell? ⟨rb, 1, none⟩ = some (.int .i64 0) := fun n => (RR.out.upd (hg n) (by simp)).cell 1 rfl
            have Q2 : ∀ n, (g n).cell? ⟨rb, 2, none⟩ = some (.int .i64 0) := fun n => (RR.out.upd (hg n) (by simp)).cell 2 rfl
            have Q3 : ∀ n, (g n).cell? ⟨rb, 3, none⟩ = some (.int .i64 0) := fun n => (RR.out.upd (hg n) (by simp)).cell 3 rfl
            have Q4 : ∀ n, (g n).cell? ⟨rb, 4, none⟩ = some (.int .u64 0) := fun n => (RR.out.upd (hg n) (by simp)).cell 4 rfl
            have F0 : ∀ n o, (g n).frozen? ⟨rb, o, none⟩ = false := fun n o => (RR.out.upd (hg n) (by simp)).free o
            clear i0 i1 i2 i3 i4 r0 r1 r2 r3 r4 q0 q1 q2 q3 q4
            refine wp_region_store g 4 _ rfl (by kernel_rfl) (by kernel_rfl) (hg2 _ ((Upd.refl [] _).drew)) ?_
            simp only [List.take_succ_cons, List.take_zero, List.drop_succ_cons, List.drop_zero]
            repeat (go_big_quiet_step ((go_at_call 19; exact Calls.fam_of0 hg hg2 (HFo _))))
            refine wpQuiet_nil ?_
            refine ⟨rfl, ?_, fun n => ?_, ?_⟩
            rotate_left 1
            · (go_simp; rfl)
            simp only [Act.put]
            repeat (go_big_quiet_step (fail))
            refine wpQuiet_nil ?_
            intro n9
            have RR9 := Lib.hid (RR.out.upd (hg n9) (by simp))
            have UU9 := Lib.hid (UU.out.trans (hg n9))
            clear G0 G1 G2 G3 G4 Q0 Q1 Q2 Q3 Q4 F0
            go_wp2_with fail
            rw [← HQ.out]
            refine bodyPost_ret (cell5_results3 rfl _ _ rb _ _ _ _ _ _ _ rfl rfl rfl ((((((RR9.out).set 0 _).set 1 _).set 2 _).set 3 _).set 4 _)) rfl (hK _ _ ?_)
            cases fo with
            | true => exact .inl ⟨⟨op, xa, xb, xc, xn⟩, 1 + k, by rw [HXX.out]; rfl, rfl, by (repeat (refine Upd.setCell ?_ (Or.inr (by dsimp only; omega)) _)); exact UU9.out⟩
            | false => exact .inr ⟨by rw [HXX.out]; rfl, ⟨⟨op, xa, xb, xc, xn⟩, _, rfl⟩, by (repeat (refine Upd.setCell ?_ (Or.inr (by dsimp only; omega)) _)); exact UU9.out⟩
          | true =>
            have HIc := Lib.hid (show Blk _ (rb + 1) [.int .i64 (c : Int), .int .i64 (rB l k 0), .int .i64 (rB l k 1), .int .i64 (rB l k 2), .int .u64 0] 38 by have := II.out; unfold insB Ins.cells at this; rw [hcc] at this; exact this)
            have HXX : Hid (X = match decV 0 0 (l.drop (1 + k)) with | some (N, j) => if formed (insB l k N) = true then some (insB l k N, 1 + k + j) else none | none => none) := Lib.hid (HX.out.trans (by unfold oneF; rw [if_pos ⟨rfl, hRl⟩, if_pos rfl]; rfl))
            clear II
            obtain ⟨ra, hra⟩ : ∃ ra, rB l k 0 = ra := ⟨_, rfl⟩
            obtain ⟨rbb, hrbb⟩ : ∃ rbb, rB l k 1 = rbb := ⟨_, rfl⟩
            obtain ⟨rc, hrc⟩ : ∃ rc, rB l k 2 = rc := ⟨_, rfl⟩
            have HINS : Hid (∀ N, insB l k N = ⟨(c : Int), ra, rbb, rc, (N : Int)⟩) := Lib.hid (fun N => by unfold insB; rw [hcc, hra, hrbb, hrc])
            rw [hra, hrbb, hrc] at HIc
            clear hra hrbb hrc
            obtain ⟨WW, hWW⟩ : ∃ WW, wr = WW := ⟨_, rfl⟩
            rw [hWW] at HIc RR FF UU f0 f1 r0 r1 r2 r3 r4 q0 q1 q2 q3 q4 ⊢
            clear hWW
            go_wp2_with fail
            clear r0 r1 r2 r3 r4 q0 q1 q2 q3 q4 f0 f1
            go_loopw [10, 11] (fun v10 v11 wr => ∃ (i acc : Nat), i ≤ 10 ∧ 1 + k + i ≤ l.length ∧ v10 = .int .i64 ((1 + k + i : Nat) : Int) ∧ v11 = .int .i64 ((7 * i : Nat) : Int) ∧ acc < 2 ^ (7 * i) ∧ acc < 18446744073709551616 ∧ Blk wr (rb + 1) [.int .i64 (c : Int), .int .i64 ra, .int .i64 rbb, .int .i64 rc, .int .u64 (acc : Int)] 38 ∧ Upd [rb + 1] WW wr ∧
              (decV 0 0 (l.drop (1 + k))) = (decV (7 * i) acc (l.drop (1 + k + i))).map (fun x => (x.1, x.2 + i))) (fun v10 _ _ => l.length - (intOf v10).toNat)
            case atStart => exact ⟨0, 0, by omega, by omega, by simp, by simp, by simp, by omega, HIc.out, Upd.refl _ _, by simp⟩
            case round =>
              obtain ⟨i, acc, hi, hil, rfl, rfl, hacc, hacc64, hbi, hu, hdec⟩ := hrel
              have HUi := Lib.hid hu
              have HBi := Lib.hid hbi
              have HD := Lib.hid hdec
              have RRi := Lib.hid (RR.out.upd hu (by simp))
              have UUi := Lib.hid (UU.out.tr hu (U := []) (by simp) (by simp; omega))
              have i0 := hbi.cell 0 rfl
              have i1 := hbi.cell 1 rfl
              have i2 := hbi.cell 2 rfl
              have i3 := hbi.cell 3 rfl
              have i4 := hbi.cell 4 rfl
              have z4 := hbi.free 4
              have r0 := (RRi.out).cell 0 rfl
              have r1 := (RRi.out).cell 1 rfl
              have r2 := (RRi.out).cell 2 rfl
              have r3 := (RRi.out).cell 3 rfl
              have r4 := (RRi.out).cell 4 rfl
              have q0 := (RRi.out).free 0
              have q1 := (RRi.out).free 1
              have q2 := (RRi.out).free 2
              have q3 := (RRi.out).free 3
              have q4 := (RRi.out).free 4
              clear hu hbi hdec HIc RR UU
              by_cases hgo2 : 1 + k + i < l.length ∧ i < 10
              · (exfalso; omega)
              · have HE : Hid (X = none) := Lib.hid (by
                  rw [HXX.out, HD.out, dec_out l (1 + k + i) i acc (by omega)]
                  rfl)
                by_cases hat : 1 + k + i < l.length
                · have g1 : ((1 + k + i : Nat) : Int) < (l.length : Int) := by omega
                  have g2 : ¬ ((7 * i : Nat) : Int) < 70 := by omega
                  go_wp2_with fail
                  all_goals
                    go_wp2_with fail
                    rw [← HQ.out]
                    refine bodyPost_ret (cell5_results3 rfl _ _ rb _ _ _ _ _ _ _ rfl rfl rfl ((((((RRi.out).set 0 _).set 1 _).set 2 _).set 3 _).set 4 _)) rfl (hK _ _ ?_)
                    refine .inr ⟨HE.out, ⟨⟨_, _, _, _, _⟩, _, rfl⟩, ?_⟩
                    (repeat (refine Upd.setCell ?_ (Or.inr (by dsimp only; omega)) _))
                    exact UUi.out
                · have g1 : ¬ ((1 + k + i : Nat) : Int) < (l.length : Int) := by omega
                  go_wp2_with fail
                  all_goals
                    go_wp2_with fail
                    rw [← HQ.out]
                    refine bodyPost_ret (cell5_results3 rfl _ _ rb _ _ _ _ _ _ _ rfl rfl rfl ((((((RRi.out).set 0 _).set 1 _).set 2 _).set 3 _).set 4 _)) rfl (hK _ _ ?_)
                    refine .inr ⟨HE.out, ⟨⟨_, _, _, _, _⟩, _, rfl⟩, ?_⟩
                    (repeat (refine Upd.setCell ?_ (Or.inr (by dsimp only; omega)) _))
                    exact UUi.out
  · have HE : Hid (X = none) := Lib.hid (HX.out.trans (by unfold oneF; rw [if_neg hgo]))
    cases ok with
    | false =>
      go_wp2_with fail
      all_goals
        rw [← HQ.out]
        refine bodyPost_ret (cell5_results3 rfl _ _ rb _ _ _ _ _ _ _ rfl rfl rfl ((((((R1.out).set 0 _).set 1 _).set 2 _).set 3 _).set 4 _)) rfl (hK _ _ ?_)
        refine .inr ⟨HE.out, ⟨⟨_, _, _, _, _⟩, _, rfl⟩, ?_⟩
        (repeat (refine Upd.setCell ?_ (Or.inr (by dsimp only; omega)) _))
        first | exact (U1).out | exact ((U1).out.alloc _)
    | true =>
      have hRl : l.length ≤ R := by
        rcases Nat.lt_or_ge R l.length with h | h
        · exact absurd ⟨rfl, h⟩ hgo
        · exact h
      clear hgo
      go_wp2_with fail
      all_goals
        rw [← HQ.out]
        refine bodyPost_ret (cell5_results3 rfl _ _ rb _ _ _ _ _ _ _ rfl rfl rfl ((((((R1.out).set 0 _).set 1 _).set 2 _).set 3 _).set 4 _)) rfl (hK _ _ ?_)
        refine .inr ⟨HE.out, ⟨⟨_, _, _, _, _⟩, _, rfl⟩, ?_⟩
        (repeat (refine Upd.setCell ?_ (Or.inr (by dsimp only; omega)) _))
        first | exact (U1).out | exact ((U1).out.alloc _)
end Go.Proofs.YtjcnlfihjfcpoaaDoor
