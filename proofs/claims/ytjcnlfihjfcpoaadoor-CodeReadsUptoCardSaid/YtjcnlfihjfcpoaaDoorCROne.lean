/- The reference's one: the instruction with whose bytes a text begins. The conditions are sizes. -/
import Derived.Test.YtjcnlfihjfcpoaaDoorCOneS
import Derived.Test.YtjcnlfihjfcpoaaDoorHeadTail
import Derived.Deep.RegionWith
import Derived.Deep.RegionHeld
import Derived.Deep.RegionHeld3
import Derived.StillTailTactics
import Derived.Test.YtjcnlfihjfcpoaaDoorCPlain4
import Derived.Test.YtjcnlfihjfcpoaaDoorCRBytes
import Derived.Test.YtjcnlfihjfcpoaaDoorCWorks
set_option linter.unusedSimpArgs false
set_option linter.unusedVariables false
set_option maxRecDepth 100000
namespace Go.Proofs.YtjcnlfihjfcpoaaDoor
open Go.RowKit

/-- what the reference's one answers -/
def roneOk (w : World) (X : Option (Ins × Nat)) (e : Ending) (w' : World) : Prop :=
  (∃ x n, X = some (x, n) ∧ e = .returned (.tuple #[x.val, .int .i64 (n : Int), .bool true]) ∧ Upd [] w w') ∨ (X = none ∧ (∃ (v : Ins) (n : Int), e = .returned (.tuple #[v.val, .int .i64 n, .bool false])) ∧ Upd [] w w')

theorem cell5_results3r {fn : Func} (hr : fn.results = #[.cell 2 38, .tmp 3, .tmp 4]) (t : Array Value) (w : World) (rb : Nat) (a b c d e v v2 : Value) (h2 : t.getD 2 undef = .pointer (some ⟨rb, 0, none⟩)) (h3 : t.getD 3 undef = v) (h4 : t.getD 4 undef = v2) (hb : Blk w rb [a, b, c, d, e] 38) :
    (results fn t).run Tryd.prog w = .ok (.tuple #[.agg #[a, b, c, d, e], v, v2]) w := by
  have c0 := hb.cell 0 rfl
  have c1 := hb.cell 1 rfl
  have c2 := hb.cell 2 rfl
  have c3 := hb.cell 3 rfl
  have c4 := hb.cell 4 rfl
  have h2' : t[2]?.getD undef = .pointer (some ⟨rb, 0, none⟩) := by simpa using h2
  have h3' : t[3]?.getD undef = v := by simpa using h3
  have h4' : t[4]?.getD undef = v2 := by simpa using h4
  simp [results, hr, h2', h3', h4', go_sem, c0, c1, c2, c3, c4]

/-- string(b) of a slice that reads as these bytes -/
theorem conv_sl {w : World} {b o : Nat} {l : List UInt8} (n cp : Nat) (h : SlB w (some ⟨b, o, none⟩) l) (hn : n ≤ l.length) : (convert 59 9 (.slice (some ⟨b, o, none⟩) n cp)).run Tryd.prog w = .ok (.string ⟨(l.take n).toArray⟩) w := by
  have hl : (l.take n).length = n := by rw [List.length_take]; omega
  have := run_convert_bytes_back (P := Tryd.prog) w 59 9 5 ⟨b, o, none⟩ cp (l.take n) Tryd.underlying59 Tryd.underlying5 Tryd.underlying9 (fun j hj => by
    rw [addr_add, h.cells b o rfl j (by omega)]
    congr 3
    have hj' : j < l.length := by omega
    simp [List.getD, hj'])
  rw [hl] at this
  exact this

/-- an operation taken first, its slot named -/
theorem takeH {P : Program} {ops : Array Oper} {Q : Exit → Act → World → Prop} {md : Region.Mode} {S : World → Prop} (i d : Nat) {oi : Oper} {v : Value} {fuel : Nat} {listed : Array Bool} {a : Act} {w : World} (hi : ops[i]? = some oi) (hd : oi.dst = some d)
    (hs : Region.noSelect ops = true) (hf : Region.free md ops listed i = true) (hr : (Region.ready md ops listed).contains i = true)
    (hQ : ∀ c a w, Q (.panic c) (a.put oi.dst v) w → Q (.panic c) a w) (hy : YieldsIf P ops S oi v a) (hS : S w)
    (h : wpAnyH P md ops Q S fuel (listed.setIfInBounds i true) (a.put (some d) v) w) : wpAnyH P md ops Q S (fuel + 1) listed a w :=
  wpAnyH_take hi hs hf hr hQ hy hS (by rw [hd]; exact h)

theorem rk_row (l : List UInt8) (k x : Nat) (hk : k < 3) (hx : (l.getD (1 + k) 0).toNat = x) :
    [Value.int .i64 (rkB l k 0), .int .i64 (rkB l k 1), .int .i64 (rkB l k 2)].set k (.int .i64 (x : Int)) = [Value.int .i64 (rkB l (k + 1) 0), .int .i64 (rkB l (k + 1) 1), .int .i64 (rkB l (k + 1) 2)] := by
  subst hx
  have : k = 0 ∨ k = 1 ∨ k = 2 := by omega
  rcases this with rfl | rfl | rfl <;> simp [rkB]
theorem rkr_at (l : List UInt8) (k j : Nat) (hk : j < 3) : ∃ z, [Value.int .i64 (rkB l k 0), .int .i64 (rkB l k 1), .int .i64 (rkB l k 2)][j]? = some (.int .i64 z) := by
  have : j = 0 ∨ j = 1 ∨ j = 2 := by omega
  rcases this with rfl | rfl | rfl
  · exact ⟨_, rfl⟩
  · exact ⟨_, rfl⟩
  · exact ⟨_, rfl⟩

theorem refV_more (f wt acc : Nat) (l : List UInt8) (m x : Nat) (hm : m < l.length) (hx : (l.getD m 0).toNat = x) (h8 : 128 ≤ x) :
    refV (f + 1) wt acc (l.drop m) = ((refV f (wt * 128 % 18446744073709551616) ((acc + x % 128 * wt) % 18446744073709551616) (l.drop (m + 1))).1, (refV f (wt * 128 % 18446744073709551616) ((acc + x % 128 * wt) % 18446744073709551616) (l.drop (m + 1))).2 + 1) := by
  obtain ⟨c, hc, e⟩ := drop_at l m x hm hx
  rw [e, refV, hc, if_neg (by omega)]
theorem refV_end (f wt acc : Nat) (l : List UInt8) (m x : Nat) (hm : m < l.length) (hx : (l.getD m 0).toNat = x) (h8 : x < 128) :
    refV (f + 1) wt acc (l.drop m) = ((acc + x % 128 * wt) % 18446744073709551616, 1) := by
  obtain ⟨c, hc, e⟩ := drop_at l m x hm hx
  rw [e, refV, hc, if_pos h8]
theorem refV_out (f wt acc : Nat) (l : List UInt8) (m : Nat) (h : l.length ≤ m ∨ f = 0) : refV f wt acc (l.drop m) = (acc, 0) := by
  rcases h with h | h
  · rw [List.drop_eq_nil_of_le h]; cases f <;> rfl
  · subst h; rfl
theorem ref_step (acc x wt : Nat) (hx : x < 256) (ha : acc < 18446744073709551616) (hw : wt < 18446744073709551616) :
    IntKind.u64.wrap ((acc : Int) + IntKind.u64.wrap ((x : Int) % 128 * (wt : Int))) = (((acc + x % 128 * wt) % 18446744073709551616 : Nat) : Int) := by
  rw [IntKind.wrap_u64, IntKind.wrap_u64]
  rw [show (x : Int) % 128 * (wt : Int) = ((x % 128 * wt : Nat) : Int) by push_cast; rfl]
  omega
theorem ref_wt (wt : Nat) : IntKind.u64.wrap ((wt : Int) * 128) = ((wt * 128 % 18446744073709551616 : Nat) : Int) := by
  rw [IntKind.wrap_u64]; omega


set_option maxHeartbeats 6000000 in
theorem rone_any (l : List UInt8) (p : Option Addr) (cp : Nat) (w : World) (h : SlB w p l) (hl : 0 < l.length) (hc : l.length ≤ cp) (hlb : l.length < 4611686018427387904) : Calls Tryd.prog 42 #[.slice p l.length cp] w (roneOk w (roneL l)) := by
  obtain ⟨b, o, rfl⟩ := h.ne (List.length_pos_iff.1 hl)
  obtain ⟨c, hcc⟩ : ∃ c, (l.getD 0 0).toNat = c := ⟨_, rfl⟩
  have hc0 := cell_upd (h.cells b o rfl 0 hl) ((Upd.refl [] w).alloc (.cells #[.int .i64 0, .int .i64 0, .int .i64 0, .int .i64 0, .int .u64 0] 38)) (by simp)
  rw [hcc, Nat.add_zero] at hc0
  have hc256 : c < 256 := hcc ▸ UInt8.toNat_lt (l.getD 0 0)
  have HIn := fun w => rinfo (c : Int) w
  have hR3 := regs_le (c : Int)
  have HX : Hid (roneL l = _) := Lib.hid (by unfold roneL; rw [hcc])
  obtain ⟨X, hX⟩ : ∃ X, roneL l = X := ⟨_, rfl⟩
  rw [hX] at HX ⊢
  clear hX
  generalize isOp (c : Int) = ok at *
  generalize formI (c : Int) = f at *
  obtain ⟨R, num, tg, ou, ins⟩ := f
  simp only [Form.val] at HIn hR3
  have hwc : IntKind.i64.wrap (c : Int) = c := by rw [IntKind.wrap_i64]; omega
  have hl0 : ((l.length : Int) == 0) = false := by rw [beq_eq_false_iff_ne]; omega
  refine calls_all fun K hK => ?_
  go_enter Tryd.func42, Tryd.ntmps42
  generalize hQ : bodyPost Tryd.prog Tryd.f42 K = Q
  have HQ := Lib.hid hQ
  clear hQ
  go_wp2_with fail
  refine (HIn _).mono ?_
  rintro e w1 ⟨rfl, u1⟩
  have R1 := Lib.hid (((Blk.new w [.int .i64 0, .int .i64 0, .int .i64 0, .int .i64 0, .int .u64 0] 38).upd u1 (by simp)).alloc (.cells #[.int .i64 (R : Int), .bool num, .bool tg, .bool ou, .bool ins] 24))
  have F1 := Lib.hid (Blk.new w1 [.int .i64 (R : Int), .bool num, .bool tg, .bool ou, .bool ins] 24)
  have U1 := Lib.hid ((((Upd.refl [] w).alloc (.cells #[.int .i64 0, .int .i64 0, .int .i64 0, .int .i64 0, .int .u64 0] 38)).trans u1).alloc (.cells #[.int .i64 (R : Int), .bool num, .bool tg, .bool ou, .bool ins] 24))
  have hsz := u1.size
  simp only [World.size_alloc] at hsz
  obtain ⟨rb, hrb⟩ : ∃ rb, w.heap.size = rb := ⟨_, rfl⟩
  have hwrb : w.heap.size ≤ rb := by omega
  rw [hrb] at R1 hsz ⊢
  clear u1 hc0
  have r0 := (R1.out).cell 0 rfl
  have r1 := (R1.out).cell 1 rfl
  have r2 := (R1.out).cell 2 rfl
  have r3 := (R1.out).cell 3 rfl
  have r4 := (R1.out).cell 4 rfl
  have q0 := (R1.out).free 0
  have q1 := (R1.out).free 1
  have q2 := (R1.out).free 2
  have q3 := (R1.out).free 3
  have q4 := (R1.out).free 4
  by_cases hgo : ok = true ∧ R < l.length
  · obtain ⟨rfl, hRl⟩ := hgo
    have hRl' : ¬ (l.length : Int) < 1 + (R : Int) := by omega
    have U2 := Lib.hid (U1.out.alloc (.cells #[.int .i64 0, .int .i64 0, .int .i64 0] 74))
    have R2 := Lib.hid (R1.out.alloc (.cells #[.int .i64 0, .int .i64 0, .int .i64 0] 74))
    have F2 := Lib.hid (F1.out.alloc (.cells #[.int .i64 0, .int .i64 0, .int .i64 0] 74))
    have A2 := Lib.hid (Blk.new (w1.alloc (.cells #[.int .i64 (R : Int), .bool num, .bool tg, .bool ou, .bool ins] 24)) [.int .i64 0, .int .i64 0, .int .i64 0] 74)
    go_wp2_with fail
    obtain ⟨W, hW⟩ : ∃ W, (w1.alloc (.cells #[.int .i64 (R : Int), .bool num, .bool tg, .bool ou, .bool ins] 24)).alloc (.cells #[.int .i64 0, .int .i64 0, .int .i64 0] 74) = W := ⟨_, rfl⟩
    rw [hW] at A2 F2 R2 U2 ⊢
    clear hW F1 R1 U1
    simp only [World.size_alloc] at A2
    obtain ⟨fb, hfb⟩ : ∃ fb, w1.heap.size = fb := ⟨_, rfl⟩
    rw [hfb] at A2 F2 hsz ⊢
    clear hfb
    clear r0 r1 r2 r3 r4 q0 q1 q2 q3 q4
    go_loopw [8] (fun v8 wr => ∃ k : Nat, k ≤ R ∧ v8 = .int .i64 k ∧ Blk wr (fb + 1) [.int .i64 (rkB l k 0), .int .i64 (rkB l k 1), .int .i64 (rkB l k 2)] 74 ∧ Upd [fb + 1] W wr) (fun v8 _ => R - (intOf v8).toNat)
    case atStart => exact ⟨0, by omega, rfl, by simpa [rkB] using A2.out, Upd.refl _ _⟩
    case round =>
      obtain ⟨k, hk, rfl, hba, hur⟩ := hrel
      have HUr := Lib.hid hur
      have HAr := Lib.hid hba
      have HFr := Lib.hid (F2.out.upd hur (by simp))
      have f0 := HFr.out.cell 0 rfl
      clear hba hur
      by_cases hlt : k < R
      · have hkl : (k : Int) < (R : Int) := by omega
        have hkl2 : (1 : Int) + (k : Int) < (l.length : Int) := by omega
        have hk3 : (k : Int) < 3 := by omega
        obtain ⟨x, hx⟩ : ∃ x, (l.getD (1 + k) 0).toNat = x := ⟨_, rfl⟩
        have cl := ((h.upd (U2.out.tr HUr.out (U := [fb + 1]) (by simp) (by simp)) (fun b' o' e _ => by
          simp only [Option.some.injEq, Addr.mk.injEq, and_true] at e
          obtain ⟨rfl, rfl⟩ := e
          have := h.lt (List.length_pos_iff.1 hl) rfl
          simp; omega)).cells b o rfl (1 + k) (by omega))
        rw [hx] at cl
        have hx256 : x < 256 := hx ▸ UInt8.toNat_lt (l.getD (1 + k) 0)
        have hwx : IntKind.i64.wrap (x : Int) = x := by rw [IntKind.wrap_i64]; omega
        obtain ⟨z, hz⟩ := rkr_at l k k (by omega)
        have ci := HAr.out.cell k hz
        have cf := HAr.out.free k
        have BS := HAr.out.set k (.int .i64 (x : Int))
        rw [rk_row l k x (by omega) hx] at BS
        have HBS := Lib.hid BS
        clear BS hx hz
        go_wp2_with fail
        go_roundw
        case rel => exact ⟨k + 1, by omega, by go_num, HBS.out, HUr.out.setCell (.inl (by simp)) _⟩
        case measure => simp [intOf]; omega
      · obtain rfl : k = R := by omega
        have RR := Lib.hid (R2.out.upd HUr.out (by simp; omega))
        have UU := Lib.hid (U2.out.tr HUr.out (U := []) (by simp) (by simp; omega))
        have hHI : Hid (∀ N, insB l k N = ⟨(c : Int), rkB l k 0, rkB l k 1, rkB l k 2, (N : Int)⟩) := Lib.hid (fun N => by unfold insB; rw [hcc]; rfl)
        obtain ⟨ra, hra⟩ : ∃ ra, rkB l k 0 = ra := ⟨_, rfl⟩
        obtain ⟨rbb, hrbb⟩ : ∃ rbb, rkB l k 1 = rbb := ⟨_, rfl⟩
        obtain ⟨rc, hrc⟩ : ∃ rc, rkB l k 2 = rc := ⟨_, rfl⟩
        rw [hra, hrbb, hrc] at HAr
        have HINS : Hid (∀ N, insB l k N = ⟨(c : Int), ra, rbb, rc, (N : Int)⟩) := Lib.hid (fun N => by rw [hHI.out N, hra, hrbb, hrc])
        clear hra hrbb hrc hHI A2 F2 R2 U2 HUr
        have a0 := HAr.out.cell 0 rfl
        have a1 := HAr.out.cell 1 rfl
        have a2 := HAr.out.cell 2 rfl
        have cl := ((h.upd UU.out (by simp)).cells b o rfl 0 hl)
        rw [hcc, Nat.add_zero] at cl
        have f1 := HFr.out.cell 1 rfl
        have lt1 := HAr.out.lt
        have lt2 := HFr.out.lt
        have lt3 := RR.out.lt
        have lt4 := World.block_lt_of_cell? wr _ cl
        go_wp2_with fail
        go_region_held3 (fun w' => w'.cell? ⟨fb + 1, 0, none⟩ = some (.int .i64 ra) ∧ w'.cell? ⟨fb + 1, 1, none⟩ = some (.int .i64 rbb) ∧ w'.cell? ⟨fb + 1, 2, none⟩ = some (.int .i64 rc) ∧ w'.cell? ⟨b, o, none⟩ = some (.int .u8 (c : Int))) (first | exact ⟨a0, a1, a2, cl⟩ | go_keep) (fail)
        have HB := Lib.hid ((Blk.new wr [.int .i64 (c : Int), .int .i64 ra, .int .i64 rbb, .int .i64 rc, .int .u64 0] 38).drew)
        have HRR := Lib.hid ((RR.out.alloc (.cells #[.int .i64 (c : Int), .int .i64 ra, .int .i64 rbb, .int .i64 rc, .int .u64 0] 38)).drew)
        have UUe := Lib.hid ((UU.out.alloc (.cells #[.int .i64 (c : Int), .int .i64 ra, .int .i64 rbb, .int .i64 rc, .int .u64 0] 38)).drew)
        have FFe := Lib.hid ((HFr.out.alloc (.cells #[.int .i64 (c : Int), .int .i64 ra, .int .i64 rbb, .int .i64 rc, .int .u64 0] 38)).drew)
        have hqw := UU.out.size
        clear a0 a1 a2 cl f0 f1 HAr RR UU HFr
        obtain ⟨WW, hWW⟩ : ∃ WW, (wr.alloc (.cells #[.int .i64 (c : Int), .int .i64 ra, .int .i64 rbb, .int .i64 rc, .int .u64 0] 38)).drew = WW := ⟨_, rfl⟩
        rw [hWW] at HB HRR UUe FFe ⊢
        obtain ⟨q, hq⟩ : ∃ q, wr.heap.size = q := ⟨_, rfl⟩
        rw [hq] at HB hqw lt1 lt2 lt3 lt4 ⊢
        clear hWW hq
        have f0 := FFe.out.cell 0 rfl
        have f1 := FFe.out.cell 1 rfl
        cases num with
        | false =>
          have hXX : Hid (X = if formed ⟨(c : Int), ra, rbb, rc, 0⟩ = true ∧ bytesOf ⟨(c : Int), ra, rbb, rc, 0⟩ = l.take (1 + k) then some (⟨(c : Int), ra, rbb, rc, 0⟩, 1 + k) else none) := Lib.hid (by
            have h9 := roneF_plain l ⟨k, false, tg, ou, ins⟩ rfl hRl
            dsimp only at h9
            rw [HINS.out 0] at h9
            exact HX.out.trans h9)
          go_wp2_with fail
          -- the check: HB: the instruction's block q, HRR: the result's, U: since w; hXX: X = if formed x ∧ bytesOf x = l.take at then some (x, at) else none
          have i0 := HB.out.cell 0 rfl
          have i1 := HB.out.cell 1 rfl
          have i2 := HB.out.cell 2 rfl
          have i3 := HB.out.cell 3 rfl
          have i4 := HB.out.cell 4 rfl
          cases hfo : formed ⟨(c : Int), ra, rbb, rc, 0⟩ with
          | false =>
            have HFo := fun w => rformed ⟨(c : Int), ra, rbb, rc, 0⟩ w
            rw [hfo] at HFo
            simp only [Ins.val] at HFo
            have HE : Hid (X = none) := Lib.hid (by rw [hXX.out, hfo]; rfl)
            clear hfo
            go_wp2_with fail
            obtain ⟨T, hT, g, hg, hg2⟩ := fam [] WW
            have G0 : ∀ n, (g n).cell? ⟨q, 0, none⟩ = some (.int .i64 (c : Int)) := fun n => (HB.out.upd (hg n) (by simp)).cell 0 rfl
            have G1 : ∀ n, (g n).cell? ⟨q, 1, none⟩ = some (.int .i64 ra) := fun n => (HB.out.upd (hg n) (by simp)).cell 1 rfl
            have G2 : ∀ n, (g n).cell? ⟨q, 2, none⟩ = some (.int .i64 rbb) := fun n => (HB.out.upd (hg n) (by simp)).cell 2 rfl
            have G3 : ∀ n, (g n).cell? ⟨q, 3, none⟩ = some (.int .i64 rc) := fun n => (HB.out.upd (hg n) (by simp)).cell 3 rfl
            have G4 : ∀ n, (g n).cell? ⟨q, 4, none⟩ = some (.int .u64 0) := fun n => (HB.out.upd (hg n) (by simp)).cell 4 rfl
            refine wp_region_fam g (by kernel_rfl) (by kernel_rfl) (hg2 _ ((Upd.refl [] _).drew)) ?_
            repeat (go_big_quiet_step ((go_at_call 18; exact Calls.fam_of0 hg hg2 (HFo _))))
            refine wpQuiet_nil ?_
            intro w9 hw9
            obtain ⟨n9, rfl⟩ := hw9
            have RR9 := Lib.hid (HRR.out.upd (hg n9) (by simp))
            have UU9 := Lib.hid (UUe.out.trans (hg n9))
            clear i0 i1 i2 i3 i4 G0 G1 G2 G3 G4
            have r0 := (RR9.out).cell 0 rfl
            have r1 := (RR9.out).cell 1 rfl
            have r2 := (RR9.out).cell 2 rfl
            have r3 := (RR9.out).cell 3 rfl
            have r4 := (RR9.out).cell 4 rfl
            have q0 := (RR9.out).free 0
            have q1 := (RR9.out).free 1
            have q2 := (RR9.out).free 2
            have q3 := (RR9.out).free 3
            have q4 := (RR9.out).free 4
            go_wp2_with fail
            all_goals
              rw [← HQ.out]
              refine bodyPost_ret (cell5_results3r rfl _ _ rb _ _ _ _ _ _ _ rfl rfl rfl ((((((RR9.out).set 0 _).set 1 _).set 2 _).set 3 _).set 4 _)) rfl (hK _ _ ?_)
              refine .inr ⟨HE.out, ⟨⟨_, _, _, _, _⟩, _, rfl⟩, ?_⟩
              (repeat (refine Upd.setCell ?_ (Or.inr (by dsimp only; omega)) _))
              first | exact (UU9).out | exact ((UU9).out.alloc _)
          | true =>
            have HFo := fun w => rformed ⟨(c : Int), ra, rbb, rc, 0⟩ w
            rw [hfo] at HFo
            have HBy := fun w => rbytes ⟨(c : Int), ra, rbb, rc, 0⟩ w hfo ⟨by simp only; omega, by simp only; omega⟩
            simp only [Ins.val] at HFo HBy
            have HEX : Hid (X = if bytesOf ⟨(c : Int), ra, rbb, rc, 0⟩ = l.take (1 + k) then some (⟨(c : Int), ra, rbb, rc, 0⟩, 1 + k) else none) := Lib.hid (by rw [hXX.out, hfo]; simp)
            clear hfo
            have HSL := Lib.hid (fun w' (u : Upd [] w w') => conv_sl (1 + k) cp (h.upd u (by simp)) (by omega))
            have HSI := Lib.hid (fun w' (u : Upd [] w w') => conv_sl ((1 + (k : Int)).toNat) cp (h.upd u (by simp)) (by omega))
            have hlt9 : l.take ((1 + (k : Int)).toNat) = l.take (1 + k) := by rw [show (1 + (k : Int)).toNat = 1 + k by omega]
            rw [hlt9] at HSI
            clear hlt9
            generalize bytesOf ⟨(c : Int), ra, rbb, rc, 0⟩ = BI at *
            obtain ⟨LT, hLT⟩ : ∃ LT, l.take (1 + k) = LT := ⟨_, rfl⟩
            rw [hLT] at HEX HSL HSI
            clear hLT
            have hatl : 1 + k ≤ cp := by omega
            have hati : ((1 + k : Nat) : Int) ≤ (cp : Int) := by omega
            have hati2 : 1 + (k : Int) ≤ (cp : Int) := by omega
            have hati0 : 0 ≤ 1 + (k : Int) := by omega
            have hatg : decide ((l.length : Int) < 1 + (k : Int)) = false := decide_eq_false (by omega)
            by_cases heq : BI = LT
            · subst heq
              have HE := Lib.hid (HEX.out.trans (if_pos rfl))
              clear HEX
              go_wp2_with fail
              refine wp_region_noPanic ?_
              refine wp_region_held_drew (S := fun w' => w'.cell? ⟨q, 0, none⟩ = some (.int .i64 (c : Int)) ∧ w'.cell? ⟨q, 1, none⟩ = some (.int .i64 ra) ∧ w'.cell? ⟨q, 2, none⟩ = some (.int .i64 rbb) ∧ w'.cell? ⟨q, 3, none⟩ = some (.int .i64 rc) ∧ w'.cell? ⟨q, 4, none⟩ = some (.int .u64 0) ∧ (convert 59 9 (.slice (some ⟨b, o, none⟩) (1 + (k : Int)).toNat cp)).run Tryd.prog w' = .ok (.string ⟨(BI).toArray⟩) w') (by kernel_rfl) ⟨i0, i1, i2, i3, i4, HSI.out _ UUe.out.drew⟩ (fun hH0 => ?_)
              refine takeH 0 99 (v := ?_) rfl rfl (by kernel_rfl) (by kernel_rfl) (by kernel_rfl) (fun _ _ _ h => h) (Or.inl ⟨by rfl, ?_⟩) hH0 ?_
              rotate_left 1
              · ((intro w hSw; (try dsimp only at hSw); go_simp); try with_reducible rfl)
              try simp only [Act.put, List.setIfInBounds_toArray, List.set_cons_zero, List.set_cons_succ]
              refine wpAnyH_ready (rs := [1]) (by kernel_rfl) (by simp) ?_
              refine AllReadyH.cons rfl (fun K2 hK2 => ?_) AllReadyH.nil
              go_simp
              refine (HFo _).mono ?_
              rintro e w9 ⟨rfl, u9⟩
              have HU9 := Lib.hid (UUe.out.trans ((Upd.refl [] _).drew.trans u9))
              have HB9 := Lib.hid (HB.out.upd ((Upd.refl [] _).drew.trans u9) (by simp))
              have HR9 := Lib.hid (HRR.out.upd ((Upd.refl [] _).drew.trans u9) (by simp))
              refine hK2.out _ _ ⟨HB9.out.cell 0 rfl, HB9.out.cell 1 rfl, HB9.out.cell 2 rfl, HB9.out.cell 3 rfl, HB9.out.cell 4 rfl, HSI.out _ HU9.out⟩ (fun hH1 => ?_)
              clear hK2 K2 hH0 u9 i0 i1 i2 i3 i4
              try simp only [Act.put, List.setIfInBounds_toArray, List.set_cons_zero, List.set_cons_succ]
              refine takeH 2 101 (v := ?_) rfl rfl (by kernel_rfl) (by kernel_rfl) (by kernel_rfl) (fun _ _ _ h => h) (Or.inl ⟨by rfl, ?_⟩) hH1 ?_
              rotate_left 1
              · ((intro w hSw; (try dsimp only at hSw); go_simp); try with_reducible rfl)
              try simp only [Act.put, List.setIfInBounds_toArray, List.set_cons_zero, List.set_cons_succ]
              refine takeH 3 102 (v := ?_) rfl rfl (by kernel_rfl) (by kernel_rfl) (by kernel_rfl) (fun _ _ _ h => h) (Or.inl ⟨by rfl, ?_⟩) hH1 ?_
              rotate_left 1
              · ((intro w hSw; (try dsimp only at hSw); go_simp); try with_reducible rfl)
              try simp only [Act.put, List.setIfInBounds_toArray, List.set_cons_zero, List.set_cons_succ]
              refine takeH 4 103 (v := ?_) rfl rfl (by kernel_rfl) (by kernel_rfl) (by kernel_rfl) (fun _ _ _ h => h) (Or.inl ⟨by rfl, ?_⟩) hH1 ?_
              rotate_left 1
              · ((intro w hSw; (try dsimp only at hSw); go_simp); try with_reducible rfl)
              try simp only [Act.put, List.setIfInBounds_toArray, List.set_cons_zero, List.set_cons_succ]
              refine takeH 5 104 (v := ?_) rfl rfl (by kernel_rfl) (by kernel_rfl) (by kernel_rfl) (fun _ _ _ h => h) (Or.inl ⟨by rfl, ?_⟩) hH1 ?_
              rotate_left 1
              · ((intro w hSw; (try dsimp only at hSw); go_simp); try with_reducible rfl)
              try simp only [Act.put, List.setIfInBounds_toArray, List.set_cons_zero, List.set_cons_succ]
              refine takeH 6 105 (v := ?_) rfl rfl (by kernel_rfl) (by kernel_rfl) (by kernel_rfl) (fun _ _ _ h => h) (Or.inl ⟨by rfl, ?_⟩) hH1 ?_
              rotate_left 1
              · ((intro w hSw; (try dsimp only at hSw); go_simp); try with_reducible rfl)
              try simp only [Act.put, List.setIfInBounds_toArray, List.set_cons_zero, List.set_cons_succ]
              refine takeH 7 106 (v := ?_) rfl rfl (by kernel_rfl) (by kernel_rfl) (by kernel_rfl) (fun _ _ _ h => h) (Or.inl ⟨by rfl, ?_⟩) hH1 ?_
              rotate_left 1
              · ((intro w hSw; (try dsimp only at hSw); go_simp); try with_reducible rfl)
              try simp only [Act.put, List.setIfInBounds_toArray, List.set_cons_zero, List.set_cons_succ]
              refine takeH 8 107 (v := ?_) rfl rfl (by kernel_rfl) (by kernel_rfl) (by kernel_rfl) (fun _ _ _ h => h) (Or.inl ⟨by rfl, ?_⟩) hH1 ?_
              rotate_left 1
              · ((intro w hSw; (try dsimp only at hSw); go_simp); try with_reducible rfl)
              try simp only [Act.put, List.setIfInBounds_toArray, List.set_cons_zero, List.set_cons_succ]
              refine takeH 9 108 (v := ?_) rfl rfl (by kernel_rfl) (by kernel_rfl) (by kernel_rfl) (fun _ _ _ h => h) (Or.inl ⟨by rfl, ?_⟩) hH1 ?_
              rotate_left 1
              · ((intro w hSw; (try dsimp only at hSw); go_simp); try with_reducible rfl)
              try simp only [Act.put, List.setIfInBounds_toArray, List.set_cons_zero, List.set_cons_succ]
              refine takeH 10 109 (v := ?_) rfl rfl (by kernel_rfl) (by kernel_rfl) (by kernel_rfl) (fun _ _ _ h => h) (Or.inl ⟨by rfl, ?_⟩) hH1 ?_
              rotate_left 1
              · ((intro w hSw; (try dsimp only at hSw); go_simp); try with_reducible rfl)
              try simp only [Act.put, List.setIfInBounds_toArray, List.set_cons_zero, List.set_cons_succ]
              refine takeH 13 112 (v := ?_) rfl rfl (by kernel_rfl) (by kernel_rfl) (by kernel_rfl) (fun _ _ _ h => h) (Or.inl ⟨by rfl, ?_⟩) hH1 ?_
              rotate_left 1
              · ((intro w hSw; (try dsimp only at hSw); go_simp); try with_reducible rfl)
              try simp only [Act.put, List.setIfInBounds_toArray, List.set_cons_zero, List.set_cons_succ]
              refine takeH 14 113 (v := ?_) rfl rfl (by kernel_rfl) (by kernel_rfl) (by kernel_rfl) (fun _ _ _ h => h) (Or.inl ⟨by rfl, ?_⟩) hH1 ?_
              rotate_left 1
              · ((intro w hSw; (try dsimp only at hSw); go_simp); try with_reducible rfl)
              try simp only [Act.put, List.setIfInBounds_toArray, List.set_cons_zero, List.set_cons_succ]
              refine takeH 15 114 (v := ?_) rfl rfl (by kernel_rfl) (by kernel_rfl) (by kernel_rfl) (fun _ _ _ h => h) (Or.inl ⟨by rfl, ?_⟩) hH1 ?_
              rotate_left 1
              · ((intro w hSw; (try dsimp only at hSw); go_simp); try with_reducible rfl)
              try simp only [Act.put, List.setIfInBounds_toArray, List.set_cons_zero, List.set_cons_succ]
              refine takeH 16 115 (v := ?_) rfl rfl (by kernel_rfl) (by kernel_rfl) (by kernel_rfl) (fun _ _ _ h => h) (Or.inl ⟨by rfl, ?_⟩) hH1 ?_
              rotate_left 1
              · ((intro w hSw; (try dsimp only at hSw); go_simp); try with_reducible rfl)
              try simp only [Act.put, List.setIfInBounds_toArray, List.set_cons_zero, List.set_cons_succ]
              refine wpAnyH_ready (rs := [11]) (by kernel_rfl) (by simp) ?_
              refine AllReadyH.cons rfl (fun K3 hK3 => ?_) AllReadyH.nil
              go_simp
              refine (HBy _).mono ?_
              rintro e w8 ⟨v8, rfl, ob8, u8⟩
              have cvo := conv_own ob8
              have HU8 := Lib.hid (HU9.out.trans u8)
              have HB8 := Lib.hid (HB9.out.upd u8 (by simp))
              have HR8 := Lib.hid (HR9.out.upd u8 (by simp))
              refine hK3.out _ _ ⟨HB8.out.cell 0 rfl, HB8.out.cell 1 rfl, HB8.out.cell 2 rfl, HB8.out.cell 3 rfl, HB8.out.cell 4 rfl, HSI.out _ HU8.out⟩ (fun hH2 => ?_)
              clear hK3 K3 hH1 u8 ob8
              try simp only [Act.put, List.setIfInBounds_toArray, List.set_cons_zero, List.set_cons_succ]
              refine wpAnyH_ready (rs := [12]) (by kernel_rfl) (by simp) ?_
              refine AllReadyH.cons rfl (fun K4 hK4 => ?_) AllReadyH.nil
              go_simp
              refine hK4.out _ _ hH2 (fun _ => ?_)
              clear hK4 K4
              try simp only [Act.put, List.setIfInBounds_toArray, List.set_cons_zero, List.set_cons_succ]
              refine takeH 17 116 (v := ?_) rfl rfl (by kernel_rfl) (by kernel_rfl) (by kernel_rfl) (fun _ _ _ h => h) (Or.inl ⟨by rfl, ?_⟩) hH2 ?_
              rotate_left 1
              · ((intro w hSw; (try dsimp only at hSw); go_simp); try with_reducible rfl)
              try simp only [Act.put, List.setIfInBounds_toArray, List.set_cons_zero, List.set_cons_succ]
              refine takeH 18 117 (v := ?_) rfl rfl (by kernel_rfl) (by kernel_rfl) (by kernel_rfl) (fun _ _ _ h => h) (Or.inl ⟨by rfl, ?_⟩) hH2 ?_
              rotate_left 1
              · ((intro w hSw; (try dsimp only at hSw); go_simp); try with_reducible rfl)
              try simp only [Act.put, List.setIfInBounds_toArray, List.set_cons_zero, List.set_cons_succ]
              refine wpAnyH_done (by kernel_rfl) ?_ _
              refine NoPanic.normal ?_
              clear cvo hH2 HB9 HR9 HU9
              have l0 := HB8.out.cell 0 rfl
              have l1 := HB8.out.cell 1 rfl
              have l2 := HB8.out.cell 2 rfl
              have l3 := HB8.out.cell 3 rfl
              have l4 := HB8.out.cell 4 rfl
              all_goals
                have r0 := (HR8.out).cell 0 rfl
                have r1 := (HR8.out).cell 1 rfl
                have r2 := (HR8.out).cell 2 rfl
                have r3 := (HR8.out).cell 3 rfl
                have r4 := (HR8.out).cell 4 rfl
                have q0 := (HR8.out).free 0
                have q1 := (HR8.out).free 1
                have q2 := (HR8.out).free 2
                have q3 := (HR8.out).free 3
                have q4 := (HR8.out).free 4
                go_wp2_with fail
                rw [← HQ.out]
                refine bodyPost_ret (cell5_results3r rfl _ _ rb _ _ _ _ _ _ _ rfl rfl rfl ((((((HR8.out).set 0 _).set 1 _).set 2 _).set 3 _).set 4 _)) rfl (hK _ _ ?_)
                exact .inl ⟨⟨c, ra, rbb, rc, 0⟩, 1 + k, HE.out, by rw [show (((1 + k : Nat)) : Int) = 1 + (k : Int) from by omega]; rfl, by (repeat (refine Upd.setCell ?_ (Or.inr (by dsimp only; omega)) _)); exact HU8.out⟩
            · have HE := Lib.hid (HEX.out.trans (if_neg heq))
              have hbn : (BI == LT) = false := by simpa using heq
              clear HEX heq
              go_wp2_with fail
              refine wp_region_noPanic ?_
              refine wp_region_held_drew (S := fun w' => w'.cell? ⟨q, 0, none⟩ = some (.int .i64 (c : Int)) ∧ w'.cell? ⟨q, 1, none⟩ = some (.int .i64 ra) ∧ w'.cell? ⟨q, 2, none⟩ = some (.int .i64 rbb) ∧ w'.cell? ⟨q, 3, none⟩ = some (.int .i64 rc) ∧ w'.cell? ⟨q, 4, none⟩ = some (.int .u64 0) ∧ (convert 59 9 (.slice (some ⟨b, o, none⟩) (1 + (k : Int)).toNat cp)).run Tryd.prog w' = .ok (.string ⟨(LT).toArray⟩) w') (by kernel_rfl) ⟨i0, i1, i2, i3, i4, HSI.out _ UUe.out.drew⟩ (fun hH0 => ?_)
              refine takeH 0 99 (v := ?_) rfl rfl (by kernel_rfl) (by kernel_rfl) (by kernel_rfl) (fun _ _ _ h => h) (Or.inl ⟨by rfl, ?_⟩) hH0 ?_
              rotate_left 1
              · ((intro w hSw; (try dsimp only at hSw); go_simp); try with_reducible rfl)
              try simp only [Act.put, List.setIfInBounds_toArray, List.set_cons_zero, List.set_cons_succ]
              refine wpAnyH_ready (rs := [1]) (by kernel_rfl) (by simp) ?_
              refine AllReadyH.cons rfl (fun K2 hK2 => ?_) AllReadyH.nil
              go_simp
              refine (HFo _).mono ?_
              rintro e w9 ⟨rfl, u9⟩
              have HU9 := Lib.hid (UUe.out.trans ((Upd.refl [] _).drew.trans u9))
              have HB9 := Lib.hid (HB.out.upd ((Upd.refl [] _).drew.trans u9) (by simp))
              have HR9 := Lib.hid (HRR.out.upd ((Upd.refl [] _).drew.trans u9) (by simp))
              refine hK2.out _ _ ⟨HB9.out.cell 0 rfl, HB9.out.cell 1 rfl, HB9.out.cell 2 rfl, HB9.out.cell 3 rfl, HB9.out.cell 4 rfl, HSI.out _ HU9.out⟩ (fun hH1 => ?_)
              clear hK2 K2 hH0 u9 i0 i1 i2 i3 i4
              try simp only [Act.put, List.setIfInBounds_toArray, List.set_cons_zero, List.set_cons_succ]
              refine takeH 2 101 (v := ?_) rfl rfl (by kernel_rfl) (by kernel_rfl) (by kernel_rfl) (fun _ _ _ h => h) (Or.inl ⟨by rfl, ?_⟩) hH1 ?_
              rotate_left 1
              · ((intro w hSw; (try dsimp only at hSw); go_simp); try with_reducible rfl)
              try simp only [Act.put, List.setIfInBounds_toArray, List.set_cons_zero, List.set_cons_succ]
              refine takeH 3 102 (v := ?_) rfl rfl (by kernel_rfl) (by kernel_rfl) (by kernel_rfl) (fun _ _ _ h => h) (Or.inl ⟨by rfl, ?_⟩) hH1 ?_
              rotate_left 1
              · ((intro w hSw; (try dsimp only at hSw); go_simp); try with_reducible rfl)
              try simp only [Act.put, List.setIfInBounds_toArray, List.set_cons_zero, List.set_cons_succ]
              refine takeH 4 103 (v := ?_) rfl rfl (by kernel_rfl) (by kernel_rfl) (by kernel_rfl) (fun _ _ _ h => h) (Or.inl ⟨by rfl, ?_⟩) hH1 ?_
              rotate_left 1
              · ((intro w hSw; (try dsimp only at hSw); go_simp); try with_reducible rfl)
              try simp only [Act.put, List.setIfInBounds_toArray, List.set_cons_zero, List.set_cons_succ]
              refine takeH 5 104 (v := ?_) rfl rfl (by kernel_rfl) (by kernel_rfl) (by kernel_rfl) (fun _ _ _ h => h) (Or.inl ⟨by rfl, ?_⟩) hH1 ?_
              rotate_left 1
              · ((intro w hSw; (try dsimp only at hSw); go_simp); try with_reducible rfl)
              try simp only [Act.put, List.setIfInBounds_toArray, List.set_cons_zero, List.set_cons_succ]
              refine takeH 6 105 (v := ?_) rfl rfl (by kernel_rfl) (by kernel_rfl) (by kernel_rfl) (fun _ _ _ h => h) (Or.inl ⟨by rfl, ?_⟩) hH1 ?_
              rotate_left 1
              · ((intro w hSw; (try dsimp only at hSw); go_simp); try with_reducible rfl)
              try simp only [Act.put, List.setIfInBounds_toArray, List.set_cons_zero, List.set_cons_succ]
              refine takeH 7 106 (v := ?_) rfl rfl (by kernel_rfl) (by kernel_rfl) (by kernel_rfl) (fun _ _ _ h => h) (Or.inl ⟨by rfl, ?_⟩) hH1 ?_
              rotate_left 1
              · ((intro w hSw; (try dsimp only at hSw); go_simp); try with_reducible rfl)
              try simp only [Act.put, List.setIfInBounds_toArray, List.set_cons_zero, List.set_cons_succ]
              refine takeH 8 107 (v := ?_) rfl rfl (by kernel_rfl) (by kernel_rfl) (by kernel_rfl) (fun _ _ _ h => h) (Or.inl ⟨by rfl, ?_⟩) hH1 ?_
              rotate_left 1
              · ((intro w hSw; (try dsimp only at hSw); go_simp); try with_reducible rfl)
              try simp only [Act.put, List.setIfInBounds_toArray, List.set_cons_zero, List.set_cons_succ]
              refine takeH 9 108 (v := ?_) rfl rfl (by kernel_rfl) (by kernel_rfl) (by kernel_rfl) (fun _ _ _ h => h) (Or.inl ⟨by rfl, ?_⟩) hH1 ?_
              rotate_left 1
              · ((intro w hSw; (try dsimp only at hSw); go_simp); try with_reducible rfl)
              try simp only [Act.put, List.setIfInBounds_toArray, List.set_cons_zero, List.set_cons_succ]
              refine takeH 10 109 (v := ?_) rfl rfl (by kernel_rfl) (by kernel_rfl) (by kernel_rfl) (fun _ _ _ h => h) (Or.inl ⟨by rfl, ?_⟩) hH1 ?_
              rotate_left 1
              · ((intro w hSw; (try dsimp only at hSw); go_simp); try with_reducible rfl)
              try simp only [Act.put, List.setIfInBounds_toArray, List.set_cons_zero, List.set_cons_succ]
              refine takeH 13 112 (v := ?_) rfl rfl (by kernel_rfl) (by kernel_rfl) (by kernel_rfl) (fun _ _ _ h => h) (Or.inl ⟨by rfl, ?_⟩) hH1 ?_
              rotate_left 1
              · ((intro w hSw; (try dsimp only at hSw); go_simp); try with_reducible rfl)
              try simp only [Act.put, List.setIfInBounds_toArray, List.set_cons_zero, List.set_cons_succ]
              refine takeH 14 113 (v := ?_) rfl rfl (by kernel_rfl) (by kernel_rfl) (by kernel_rfl) (fun _ _ _ h => h) (Or.inl ⟨by rfl, ?_⟩) hH1 ?_
              rotate_left 1
              · ((intro w hSw; (try dsimp only at hSw); go_simp); try with_reducible rfl)
              try simp only [Act.put, List.setIfInBounds_toArray, List.set_cons_zero, List.set_cons_succ]
              refine takeH 15 114 (v := ?_) rfl rfl (by kernel_rfl) (by kernel_rfl) (by kernel_rfl) (fun _ _ _ h => h) (Or.inl ⟨by rfl, ?_⟩) hH1 ?_
              rotate_left 1
              · ((intro w hSw; (try dsimp only at hSw); go_simp); try with_reducible rfl)
              try simp only [Act.put, List.setIfInBounds_toArray, List.set_cons_zero, List.set_cons_succ]
              refine takeH 16 115 (v := ?_) rfl rfl (by kernel_rfl) (by kernel_rfl) (by kernel_rfl) (fun _ _ _ h => h) (Or.inl ⟨by rfl, ?_⟩) hH1 ?_
              rotate_left 1
              · ((intro w hSw; (try dsimp only at hSw); go_simp); try with_reducible rfl)
              try simp only [Act.put, List.setIfInBounds_toArray, List.set_cons_zero, List.set_cons_succ]
              refine wpAnyH_ready (rs := [11]) (by kernel_rfl) (by simp) ?_
              refine AllReadyH.cons rfl (fun K3 hK3 => ?_) AllReadyH.nil
              go_simp
              refine (HBy _).mono ?_
              rintro e w8 ⟨v8, rfl, ob8, u8⟩
              have cvo := conv_own ob8
              have HU8 := Lib.hid (HU9.out.trans u8)
              have HB8 := Lib.hid (HB9.out.upd u8 (by simp))
              have HR8 := Lib.hid (HR9.out.upd u8 (by simp))
              refine hK3.out _ _ ⟨HB8.out.cell 0 rfl, HB8.out.cell 1 rfl, HB8.out.cell 2 rfl, HB8.out.cell 3 rfl, HB8.out.cell 4 rfl, HSI.out _ HU8.out⟩ (fun hH2 => ?_)
              clear hK3 K3 hH1 u8 ob8
              try simp only [Act.put, List.setIfInBounds_toArray, List.set_cons_zero, List.set_cons_succ]
              refine wpAnyH_ready (rs := [12]) (by kernel_rfl) (by simp) ?_
              refine AllReadyH.cons rfl (fun K4 hK4 => ?_) AllReadyH.nil
              go_simp
              refine hK4.out _ _ hH2 (fun _ => ?_)
              clear hK4 K4
              try simp only [Act.put, List.setIfInBounds_toArray, List.set_cons_zero, List.set_cons_succ]
              refine takeH 17 116 (v := ?_) rfl rfl (by kernel_rfl) (by kernel_rfl) (by kernel_rfl) (fun _ _ _ h => h) (Or.inl ⟨by rfl, ?_⟩) hH2 ?_
              rotate_left 1
              · ((intro w hSw; (try dsimp only at hSw); go_simp); try with_reducible rfl)
              try simp only [Act.put, List.setIfInBounds_toArray, List.set_cons_zero, List.set_cons_succ]
              refine takeH 18 117 (v := ?_) rfl rfl (by kernel_rfl) (by kernel_rfl) (by kernel_rfl) (fun _ _ _ h => h) (Or.inl ⟨by rfl, ?_⟩) hH2 ?_
              rotate_left 1
              · ((intro w hSw; (try dsimp only at hSw); go_simp); try with_reducible rfl)
              try simp only [Act.put, List.setIfInBounds_toArray, List.set_cons_zero, List.set_cons_succ]
              refine wpAnyH_done (by kernel_rfl) ?_ _
              refine NoPanic.normal ?_
              clear cvo hH2 HB9 HR9 HU9
              have l0 := HB8.out.cell 0 rfl
              have l1 := HB8.out.cell 1 rfl
              have l2 := HB8.out.cell 2 rfl
              have l3 := HB8.out.cell 3 rfl
              have l4 := HB8.out.cell 4 rfl
              all_goals
                have r0 := (HR8.out).cell 0 rfl
                have r1 := (HR8.out).cell 1 rfl
                have r2 := (HR8.out).cell 2 rfl
                have r3 := (HR8.out).cell 3 rfl
                have r4 := (HR8.out).cell 4 rfl
                have q0 := (HR8.out).free 0
                have q1 := (HR8.out).free 1
                have q2 := (HR8.out).free 2
                have q3 := (HR8.out).free 3
                have q4 := (HR8.out).free 4
                go_wp2_with fail
                all_goals
                  rw [← HQ.out]
                  refine bodyPost_ret (cell5_results3r rfl _ _ rb _ _ _ _ _ _ _ rfl rfl rfl ((((((HR8.out).set 0 _).set 1 _).set 2 _).set 3 _).set 4 _)) rfl (hK _ _ ?_)
                  refine .inr ⟨HE.out, ⟨⟨_, _, _, _, _⟩, _, rfl⟩, ?_⟩
                  (repeat (refine Upd.setCell ?_ (Or.inr (by dsimp only; omega)) _))
                  first | exact (HU8).out | exact ((HU8).out.alloc _)
        | true =>
          go_wp2_with fail
          clear f0 f1
          go_loopw [10, 11] (fun v10 v11 wr => ∃ (i acc wt : Nat), i ≤ 10 ∧ 1 + k + i ≤ l.length ∧ v10 = .int .i64 ((1 + k + i : Nat) : Int) ∧ v11 = .int .u64 (wt : Int) ∧ acc < 18446744073709551616 ∧ wt < 18446744073709551616 ∧ Blk wr q [.int .i64 (c : Int), .int .i64 ra, .int .i64 rbb, .int .i64 rc, .int .u64 (acc : Int)] 38 ∧ Upd [q] WW wr ∧
            refV 10 1 0 (l.drop (1 + k)) = ((refV (10 - i) wt acc (l.drop (1 + k + i))).1, (refV (10 - i) wt acc (l.drop (1 + k + i))).2 + i)) (fun v10 _ _ => l.length - (intOf v10).toNat)
          case atStart => exact ⟨0, 0, 1, by omega, by omega, by simp, by simp, by omega, by omega, HB.out, Upd.refl _ _, by simp⟩
          case round =>
            obtain ⟨i, acc, wt, hi, hil, rfl, rfl, hacc, hwt, hbi, hu, hdec⟩ := hrel
            have HUi := Lib.hid hu
            have HBi := Lib.hid hbi
            have HD := Lib.hid hdec
            have HRi := Lib.hid (HRR.out.upd hu (by simp; omega))
            have HFi := Lib.hid (FFe.out.upd hu (by simp; omega))
            have UUi := Lib.hid (UUe.out.tr hu (U := []) (by simp) (by simp; omega))
            have f0 := HFi.out.cell 0 rfl
            clear hu hbi hdec HB HRR
            by_cases hgo2 : 1 + k + i < l.length ∧ i < 10
            · obtain ⟨hat, hi10⟩ := hgo2
              have g1 : ((1 + k + i : Nat) : Int) < (l.length : Int) := by omega
              have g1' : (1 : Int) + (k : Int) + (i : Int) < (l.length : Int) := by omega
              have g2 : (1 : Int) + (k : Int) + (i : Int) < 1 + (k : Int) + 10 := by omega
              obtain ⟨x, hx⟩ : ∃ x, (l.getD (1 + k + i) 0).toNat = x := ⟨_, rfl⟩
              have cl := ((h.upd UUi.out (by simp)).cells b o rfl (1 + k + i) hat)
              rw [hx] at cl
              have hx256 : x < 256 := hx ▸ UInt8.toNat_lt (l.getD (1 + k + i) 0)
              have HXA := Lib.hid hx
              clear hx
              obtain ⟨N2, hN2⟩ : ∃ N2 : Nat, (acc + x % 128 * wt) % 18446744073709551616 = N2 := ⟨_, rfl⟩
              have hN2l : N2 < 18446744073709551616 := by rw [← hN2]; exact Nat.mod_lt _ (by decide)
              have hst := ref_step acc x wt hx256 hacc hwt
              have hwtw := ref_wt wt
              rw [hN2] at hst
              have HN2 := Lib.hid hN2
              clear hN2
              obtain ⟨wt2, hwt2⟩ : ∃ wt2 : Nat, wt * 128 % 18446744073709551616 = wt2 := ⟨_, rfl⟩
              have hwt2l : wt2 < 18446744073709551616 := by rw [← hwt2]; exact Nat.mod_lt _ (by decide)
              rw [hwt2] at hwtw
              have HWT2 := Lib.hid hwt2
              clear hwt2
              have i0 := HBi.out.cell 0 rfl
              have i1 := HBi.out.cell 1 rfl
              have i2 := HBi.out.cell 2 rfl
              have i3 := HBi.out.cell 3 rfl
              have i4 := HBi.out.cell 4 rfl
              have z4 := HBi.out.free 4
              have hz1 : (0 : Int) ≤ 1 + (k : Int) + (i : Int) := by omega
              have hz2 : (1 + (k : Int) + (i : Int)).toNat = 1 + k + i := by omega
              by_cases hx8 : x < 128
              · have hx8i : (x : Int) < 128 := by omega
                go_wp2_with fail
                go_still_tail 12, (by kernel_rfl)
                go_wp2_with fail
                have BI2 := Lib.hid ((HBi.out.set 4 (.int .u64 (N2 : Int))).drew)
                have RR2 := Lib.hid ((HRi.out.other ⟨q, 4, none⟩ (.int .u64 (N2 : Int)) (by simp; omega)).drew)
                have VV2 := Lib.hid ((HUi.out.setCell (p := ⟨q, 4, none⟩) (.inl (by simp)) (.int .u64 (N2 : Int))).drew)
                have UU2 := Lib.hid ((UUi.out.setCell (p := ⟨q, 4, none⟩) (.inr (by dsimp only; omega)) (.int .u64 (N2 : Int))).drew)
                clear i0 i1 i2 i3 i4 z4 f0 cl hst HBi HRi HFi HUi UUi hz1 hz2
                obtain ⟨W2, hW2⟩ : ∃ W2, (wr.setCell ⟨q, 4, none⟩ (.int .u64 (N2 : Int))).drew = W2 := ⟨_, rfl⟩
                rw [hW2] at BI2 RR2 UU2 ⊢
                clear hW2 VV2
                have hdn : refV (10 - i) wt acc (l.drop (1 + k + i)) = (N2, 1) := by
                  rw [show 10 - i = (9 - i) + 1 by omega, refV_end _ _ _ l (1 + k + i) x hat HXA.out hx8, HN2.out]
                have hXX : Hid (X = if formed ⟨(c : Int), ra, rbb, rc, (N2 : Int)⟩ = true ∧ bytesOf ⟨(c : Int), ra, rbb, rc, (N2 : Int)⟩ = l.take (1 + k + i + 1) then some (⟨(c : Int), ra, rbb, rc, (N2 : Int)⟩, 1 + k + i + 1) else none) := Lib.hid (by
                  have h9 := roneF_num l ⟨k, true, tg, ou, ins⟩ rfl hRl N2 (1 + i) (by rw [HD.out, hdn])
                  dsimp only at h9
                  rw [HINS.out N2, show 1 + k + (1 + i) = 1 + k + i + 1 by omega] at h9
                  exact HX.out.trans h9)
                clear hdn
                have HB := Lib.hid BI2.out
                have HRR := Lib.hid RR2.out
                clear BI2 RR2
                -- the check: HB: the instruction's block q, HRR: the result's, U: since w; hXX: X = if formed x ∧ bytesOf x = l.take at then some (x, at) else none
                have i0 := HB.out.cell 0 rfl
                have i1 := HB.out.cell 1 rfl
                have i2 := HB.out.cell 2 rfl
                have i3 := HB.out.cell 3 rfl
                have i4 := HB.out.cell 4 rfl
                cases hfo : formed ⟨(c : Int), ra, rbb, rc, (N2 : Int)⟩ with
                | false =>
                  have HFo := fun w => rformed ⟨(c : Int), ra, rbb, rc, (N2 : Int)⟩ w
                  rw [hfo] at HFo
                  simp only [Ins.val] at HFo
                  have HE : Hid (X = none) := Lib.hid (by rw [hXX.out, hfo]; rfl)
                  clear hfo
                  go_wp2_with fail
                  obtain ⟨T, hT, g, hg, hg2⟩ := fam [] W2
                  have G0 : ∀ n, (g n).cell? ⟨q, 0, none⟩ = some (.int .i64 (c : Int)) := fun n => (HB.out.upd (hg n) (by simp)).cell 0 rfl
                  have G1 : ∀ n, (g n).cell? ⟨q, 1, none⟩ = some (.int .i64 ra) := fun n => (HB.out.upd (hg n) (by simp)).cell 1 rfl
                  have G2 : ∀ n, (g n).cell? ⟨q, 2, none⟩ = some (.int .i64 rbb) := fun n => (HB.out.upd (hg n) (by simp)).cell 2 rfl
                  have G3 : ∀ n, (g n).cell? ⟨q, 3, none⟩ = some (.int .i64 rc) := fun n => (HB.out.upd (hg n) (by simp)).cell 3 rfl
                  have G4 : ∀ n, (g n).cell? ⟨q, 4, none⟩ = some (.int .u64 (N2 : Int)) := fun n => (HB.out.upd (hg n) (by simp)).cell 4 rfl
                  refine wp_region_fam g (by kernel_rfl) (by kernel_rfl) (hg2 _ ((Upd.refl [] _).drew)) ?_
                  repeat (go_big_quiet_step ((go_at_call 18; exact Calls.fam_of0 hg hg2 (HFo _))))
                  refine wpQuiet_nil ?_
                  intro w9 hw9
                  obtain ⟨n9, rfl⟩ := hw9
                  have RR9 := Lib.hid (HRR.out.upd (hg n9) (by simp))
                  have UU9 := Lib.hid (UU2.out.trans (hg n9))
                  clear i0 i1 i2 i3 i4 G0 G1 G2 G3 G4
                  have r0 := (RR9.out).cell 0 rfl
                  have r1 := (RR9.out).cell 1 rfl
                  have r2 := (RR9.out).cell 2 rfl
                  have r3 := (RR9.out).cell 3 rfl
                  have r4 := (RR9.out).cell 4 rfl
                  have q0 := (RR9.out).free 0
                  have q1 := (RR9.out).free 1
                  have q2 := (RR9.out).free 2
                  have q3 := (RR9.out).free 3
                  have q4 := (RR9.out).free 4
                  go_wp2_with fail
                  all_goals
                    rw [← HQ.out]
                    refine bodyPost_ret (cell5_results3r rfl _ _ rb _ _ _ _ _ _ _ rfl rfl rfl ((((((RR9.out).set 0 _).set 1 _).set 2 _).set 3 _).set 4 _)) rfl (hK _ _ ?_)
                    refine .inr ⟨HE.out, ⟨⟨_, _, _, _, _⟩, _, rfl⟩, ?_⟩
                    (repeat (refine Upd.setCell ?_ (Or.inr (by dsimp only; omega)) _))
                    first | exact (UU9).out | exact ((UU9).out.alloc _)
                | true =>
                  have HFo := fun w => rformed ⟨(c : Int), ra, rbb, rc, (N2 : Int)⟩ w
                  rw [hfo] at HFo
                  have HBy := fun w => rbytes ⟨(c : Int), ra, rbb, rc, (N2 : Int)⟩ w hfo ⟨by simp only; omega, by simp only; omega⟩
                  simp only [Ins.val] at HFo HBy
                  have HEX : Hid (X = if bytesOf ⟨(c : Int), ra, rbb, rc, (N2 : Int)⟩ = l.take (1 + k + i + 1) then some (⟨(c : Int), ra, rbb, rc, (N2 : Int)⟩, 1 + k + i + 1) else none) := Lib.hid (by rw [hXX.out, hfo]; simp)
                  clear hfo
                  have HSL := Lib.hid (fun w' (u : Upd [] w w') => conv_sl (1 + k + i + 1) cp (h.upd u (by simp)) (by omega))
                  have HSI := Lib.hid (fun w' (u : Upd [] w w') => conv_sl ((1 + (k : Int) + (i : Int) + 1).toNat) cp (h.upd u (by simp)) (by omega))
                  have hlt9 : l.take ((1 + (k : Int) + (i : Int) + 1).toNat) = l.take (1 + k + i + 1) := by rw [show (1 + (k : Int) + (i : Int) + 1).toNat = 1 + k + i + 1 by omega]
                  rw [hlt9] at HSI
                  clear hlt9
                  generalize bytesOf ⟨(c : Int), ra, rbb, rc, (N2 : Int)⟩ = BI at *
                  obtain ⟨LT, hLT⟩ : ∃ LT, l.take (1 + k + i + 1) = LT := ⟨_, rfl⟩
                  rw [hLT] at HEX HSL HSI
                  clear hLT
                  have hatl : 1 + k + i + 1 ≤ cp := by omega
                  have hati : ((1 + k + i + 1 : Nat) : Int) ≤ (cp : Int) := by omega
                  have hati2 : 1 + (k : Int) + (i : Int) + 1 ≤ (cp : Int) := by omega
                  have hati0 : 0 ≤ 1 + (k : Int) + (i : Int) + 1 := by omega
                  have hatg : decide ((l.length : Int) < 1 + (k : Int) + (i : Int) + 1) = false := decide_eq_false (by omega)
                  by_cases heq : BI = LT
                  · subst heq
                    have HE := Lib.hid (HEX.out.trans (if_pos rfl))
                    clear HEX
                    go_wp2_with fail
                    refine wp_region_noPanic ?_
                    refine wp_region_held_drew (S := fun w' => w'.cell? ⟨q, 0, none⟩ = some (.int .i64 (c : Int)) ∧ w'.cell? ⟨q, 1, none⟩ = some (.int .i64 ra) ∧ w'.cell? ⟨q, 2, none⟩ = some (.int .i64 rbb) ∧ w'.cell? ⟨q, 3, none⟩ = some (.int .i64 rc) ∧ w'.cell? ⟨q, 4, none⟩ = some (.int .u64 (N2 : Int)) ∧ (convert 59 9 (.slice (some ⟨b, o, none⟩) (1 + (k : Int) + (i : Int) + 1).toNat cp)).run Tryd.prog w' = .ok (.string ⟨(BI).toArray⟩) w') (by kernel_rfl) ⟨i0, i1, i2, i3, i4, HSI.out _ UU2.out.drew⟩ (fun hH0 => ?_)
                    refine takeH 0 99 (v := ?_) rfl rfl (by kernel_rfl) (by kernel_rfl) (by kernel_rfl) (fun _ _ _ h => h) (Or.inl ⟨by rfl, ?_⟩) hH0 ?_
                    rotate_left 1
                    · ((intro w hSw; (try dsimp only at hSw); go_simp); try with_reducible rfl)
                    try simp only [Act.put, List.setIfInBounds_toArray, List.set_cons_zero, List.set_cons_succ]
                    refine wpAnyH_ready (rs := [1]) (by kernel_rfl) (by simp) ?_
                    refine AllReadyH.cons rfl (fun K2 hK2 => ?_) AllReadyH.nil
                    go_simp
                    refine (HFo _).mono ?_
                    rintro e w9 ⟨rfl, u9⟩
                    have HU9 := Lib.hid (UU2.out.trans ((Upd.refl [] _).drew.trans u9))
                    have HB9 := Lib.hid (HB.out.upd ((Upd.refl [] _).drew.trans u9) (by simp))
                    have HR9 := Lib.hid (HRR.out.upd ((Upd.refl [] _).drew.trans u9) (by simp))
                    refine hK2.out _ _ ⟨HB9.out.cell 0 rfl, HB9.out.cell 1 rfl, HB9.out.cell 2 rfl, HB9.out.cell 3 rfl, HB9.out.cell 4 rfl, HSI.out _ HU9.out⟩ (fun hH1 => ?_)
                    clear hK2 K2 hH0 u9 i0 i1 i2 i3 i4
                    try simp only [Act.put, List.setIfInBounds_toArray, List.set_cons_zero, List.set_cons_succ]
                    refine takeH 2 101 (v := ?_) rfl rfl (by kernel_rfl) (by kernel_rfl) (by kernel_rfl) (fun _ _ _ h => h) (Or.inl ⟨by rfl, ?_⟩) hH1 ?_
                    rotate_left 1
                    · ((intro w hSw; (try dsimp only at hSw); go_simp); try with_reducible rfl)
                    try simp only [Act.put, List.setIfInBounds_toArray, List.set_cons_zero, List.set_cons_succ]
                    refine takeH 3 102 (v := ?_) rfl rfl (by kernel_rfl) (by kernel_rfl) (by kernel_rfl) (fun _ _ _ h => h) (Or.inl ⟨by rfl, ?_⟩) hH1 ?_
                    rotate_left 1
                    · ((intro w hSw; (try dsimp only at hSw); go_simp); try with_reducible rfl)
                    try simp only [Act.put, List.setIfInBounds_toArray, List.set_cons_zero, List.set_cons_succ]
                    refine takeH 4 103 (v := ?_) rfl rfl (by kernel_rfl) (by kernel_rfl) (by kernel_rfl) (fun _ _ _ h => h) (Or.inl ⟨by rfl, ?_⟩) hH1 ?_
                    rotate_left 1
                    · ((intro w hSw; (try dsimp only at hSw); go_simp); try with_reducible rfl)
                    try simp only [Act.put, List.setIfInBounds_toArray, List.set_cons_zero, List.set_cons_succ]
                    refine takeH 5 104 (v := ?_) rfl rfl (by kernel_rfl) (by kernel_rfl) (by kernel_rfl) (fun _ _ _ h => h) (Or.inl ⟨by rfl, ?_⟩) hH1 ?_
                    rotate_left 1
                    · ((intro w hSw; (try dsimp only at hSw); go_simp); try with_reducible rfl)
                    try simp only [Act.put, List.setIfInBounds_toArray, List.set_cons_zero, List.set_cons_succ]
                    refine takeH 6 105 (v := ?_) rfl rfl (by kernel_rfl) (by kernel_rfl) (by kernel_rfl) (fun _ _ _ h => h) (Or.inl ⟨by rfl, ?_⟩) hH1 ?_
                    rotate_left 1
                    · ((intro w hSw; (try dsimp only at hSw); go_simp); try with_reducible rfl)
                    try simp only [Act.put, List.setIfInBounds_toArray, List.set_cons_zero, List.set_cons_succ]
                    refine takeH 7 106 (v := ?_) rfl rfl (by kernel_rfl) (by kernel_rfl) (by kernel_rfl) (fun _ _ _ h => h) (Or.inl ⟨by rfl, ?_⟩) hH1 ?_
                    rotate_left 1
                    · ((intro w hSw; (try dsimp only at hSw); go_simp); try with_reducible rfl)
                    try simp only [Act.put, List.setIfInBounds_toArray, List.set_cons_zero, List.set_cons_succ]
                    refine takeH 8 107 (v := ?_) rfl rfl (by kernel_rfl) (by kernel_rfl) (by kernel_rfl) (fun _ _ _ h => h) (Or.inl ⟨by rfl, ?_⟩) hH1 ?_
                    rotate_left 1
                    · ((intro w hSw; (try dsimp only at hSw); go_simp); try with_reducible rfl)
                    try simp only [Act.put, List.setIfInBounds_toArray, List.set_cons_zero, List.set_cons_succ]
                    refine takeH 9 108 (v := ?_) rfl rfl (by kernel_rfl) (by kernel_rfl) (by kernel_rfl) (fun _ _ _ h => h) (Or.inl ⟨by rfl, ?_⟩) hH1 ?_
                    rotate_left 1
                    · ((intro w hSw; (try dsimp only at hSw); go_simp); try with_reducible rfl)
                    try simp only [Act.put, List.setIfInBounds_toArray, List.set_cons_zero, List.set_cons_succ]
                    refine takeH 10 109 (v := ?_) rfl rfl (by kernel_rfl) (by kernel_rfl) (by kernel_rfl) (fun _ _ _ h => h) (Or.inl ⟨by rfl, ?_⟩) hH1 ?_
                    rotate_left 1
                    · ((intro w hSw; (try dsimp only at hSw); go_simp); try with_reducible rfl)
                    try simp only [Act.put, List.setIfInBounds_toArray, List.set_cons_zero, List.set_cons_succ]
                    refine takeH 13 112 (v := ?_) rfl rfl (by kernel_rfl) (by kernel_rfl) (by kernel_rfl) (fun _ _ _ h => h) (Or.inl ⟨by rfl, ?_⟩) hH1 ?_
                    rotate_left 1
                    · ((intro w hSw; (try dsimp only at hSw); go_simp); try with_reducible rfl)
                    try simp only [Act.put, List.setIfInBounds_toArray, List.set_cons_zero, List.set_cons_succ]
                    refine takeH 14 113 (v := ?_) rfl rfl (by kernel_rfl) (by kernel_rfl) (by kernel_rfl) (fun _ _ _ h => h) (Or.inl ⟨by rfl, ?_⟩) hH1 ?_
                    rotate_left 1
                    · ((intro w hSw; (try dsimp only at hSw); go_simp); try with_reducible rfl)
                    try simp only [Act.put, List.setIfInBounds_toArray, List.set_cons_zero, List.set_cons_succ]
                    refine takeH 15 114 (v := ?_) rfl rfl (by kernel_rfl) (by kernel_rfl) (by kernel_rfl) (fun _ _ _ h => h) (Or.inl ⟨by rfl, ?_⟩) hH1 ?_
                    rotate_left 1
                    · ((intro w hSw; (try dsimp only at hSw); go_simp); try with_reducible rfl)
                    try simp only [Act.put, List.setIfInBounds_toArray, List.set_cons_zero, List.set_cons_succ]
                    refine takeH 16 115 (v := ?_) rfl rfl (by kernel_rfl) (by kernel_rfl) (by kernel_rfl) (fun _ _ _ h => h) (Or.inl ⟨by rfl, ?_⟩) hH1 ?_
                    rotate_left 1
                    · ((intro w hSw; (try dsimp only at hSw); go_simp); try with_reducible rfl)
                    try simp only [Act.put, List.setIfInBounds_toArray, List.set_cons_zero, List.set_cons_succ]
                    refine wpAnyH_ready (rs := [11]) (by kernel_rfl) (by simp) ?_
                    refine AllReadyH.cons rfl (fun K3 hK3 => ?_) AllReadyH.nil
                    go_simp
                    refine (HBy _).mono ?_
                    rintro e w8 ⟨v8, rfl, ob8, u8⟩
                    have cvo := conv_own ob8
                    have HU8 := Lib.hid (HU9.out.trans u8)
                    have HB8 := Lib.hid (HB9.out.upd u8 (by simp))
                    have HR8 := Lib.hid (HR9.out.upd u8 (by simp))
                    refine hK3.out _ _ ⟨HB8.out.cell 0 rfl, HB8.out.cell 1 rfl, HB8.out.cell 2 rfl, HB8.out.cell 3 rfl, HB8.out.cell 4 rfl, HSI.out _ HU8.out⟩ (fun hH2 => ?_)
                    clear hK3 K3 hH1 u8 ob8
                    try simp only [Act.put, List.setIfInBounds_toArray, List.set_cons_zero, List.set_cons_succ]
                    refine wpAnyH_ready (rs := [12]) (by kernel_rfl) (by simp) ?_
                    refine AllReadyH.cons rfl (fun K4 hK4 => ?_) AllReadyH.nil
                    go_simp
                    refine hK4.out _ _ hH2 (fun _ => ?_)
                    clear hK4 K4
                    try simp only [Act.put, List.setIfInBounds_toArray, List.set_cons_zero, List.set_cons_succ]
                    refine takeH 17 116 (v := ?_) rfl rfl (by kernel_rfl) (by kernel_rfl) (by kernel_rfl) (fun _ _ _ h => h) (Or.inl ⟨by rfl, ?_⟩) hH2 ?_
                    rotate_left 1
                    · ((intro w hSw; (try dsimp only at hSw); go_simp); try with_reducible rfl)
                    try simp only [Act.put, List.setIfInBounds_toArray, List.set_cons_zero, List.set_cons_succ]
                    refine takeH 18 117 (v := ?_) rfl rfl (by kernel_rfl) (by kernel_rfl) (by kernel_rfl) (fun _ _ _ h => h) (Or.inl ⟨by rfl, ?_⟩) hH2 ?_
                    rotate_left 1
                    · ((intro w hSw; (try dsimp only at hSw); go_simp); try with_reducible rfl)
                    try simp only [Act.put, List.setIfInBounds_toArray, List.set_cons_zero, List.set_cons_succ]
                    refine wpAnyH_done (by kernel_rfl) ?_ _
                    refine NoPanic.normal ?_
                    clear cvo hH2 HB9 HR9 HU9
                    have l0 := HB8.out.cell 0 rfl
                    have l1 := HB8.out.cell 1 rfl
                    have l2 := HB8.out.cell 2 rfl
                    have l3 := HB8.out.cell 3 rfl
                    have l4 := HB8.out.cell 4 rfl
                    all_goals
                      have r0 := (HR8.out).cell 0 rfl
                      have r1 := (HR8.out).cell 1 rfl
                      have r2 := (HR8.out).cell 2 rfl
                      have r3 := (HR8.out).cell 3 rfl
                      have r4 := (HR8.out).cell 4 rfl
                      have q0 := (HR8.out).free 0
                      have q1 := (HR8.out).free 1
                      have q2 := (HR8.out).free 2
                      have q3 := (HR8.out).free 3
                      have q4 := (HR8.out).free 4
                      go_wp2_with fail
                      rw [← HQ.out]
                      refine bodyPost_ret (cell5_results3r rfl _ _ rb _ _ _ _ _ _ _ rfl rfl rfl ((((((HR8.out).set 0 _).set 1 _).set 2 _).set 3 _).set 4 _)) rfl (hK _ _ ?_)
                      exact .inl ⟨⟨c, ra, rbb, rc, (N2 : Int)⟩, 1 + k + i + 1, HE.out, by rw [show (((1 + k + i + 1 : Nat)) : Int) = 1 + (k : Int) + (i : Int) + 1 from by omega]; rfl, by (repeat (refine Upd.setCell ?_ (Or.inr (by dsimp only; omega)) _)); exact HU8.out⟩
                  · have HE := Lib.hid (HEX.out.trans (if_neg heq))
                    have hbn : (BI == LT) = false := by simpa using heq
                    clear HEX heq
                    go_wp2_with fail
                    refine wp_region_noPanic ?_
                    refine wp_region_held_drew (S := fun w' => w'.cell? ⟨q, 0, none⟩ = some (.int .i64 (c : Int)) ∧ w'.cell? ⟨q, 1, none⟩ = some (.int .i64 ra) ∧ w'.cell? ⟨q, 2, none⟩ = some (.int .i64 rbb) ∧ w'.cell? ⟨q, 3, none⟩ = some (.int .i64 rc) ∧ w'.cell? ⟨q, 4, none⟩ = some (.int .u64 (N2 : Int)) ∧ (convert 59 9 (.slice (some ⟨b, o, none⟩) (1 + (k : Int) + (i : Int) + 1).toNat cp)).run Tryd.prog w' = .ok (.string ⟨(LT).toArray⟩) w') (by kernel_rfl) ⟨i0, i1, i2, i3, i4, HSI.out _ UU2.out.drew⟩ (fun hH0 => ?_)
                    refine takeH 0 99 (v := ?_) rfl rfl (by kernel_rfl) (by kernel_rfl) (by kernel_rfl) (fun _ _ _ h => h) (Or.inl ⟨by rfl, ?_⟩) hH0 ?_
                    rotate_left 1
                    · ((intro w hSw; (try dsimp only at hSw); go_simp); try with_reducible rfl)
                    try simp only [Act.put, List.setIfInBounds_toArray, List.set_cons_zero, List.set_cons_succ]
                    refine wpAnyH_ready (rs := [1]) (by kernel_rfl) (by simp) ?_
                    refine AllReadyH.cons rfl (fun K2 hK2 => ?_) AllReadyH.nil
                    go_simp
                    refine (HFo _).mono ?_
                    rintro e w9 ⟨rfl, u9⟩
                    have HU9 := Lib.hid (UU2.out.trans ((Upd.refl [] _).drew.trans u9))
                    have HB9 := Lib.hid (HB.out.upd ((Upd.refl [] _).drew.trans u9) (by simp))
                    have HR9 := Lib.hid (HRR.out.upd ((Upd.refl [] _).drew.trans u9) (by simp))
                    refine hK2.out _ _ ⟨HB9.out.cell 0 rfl, HB9.out.cell 1 rfl, HB9.out.cell 2 rfl, HB9.out.cell 3 rfl, HB9.out.cell 4 rfl, HSI.out _ HU9.out⟩ (fun hH1 => ?_)
                    clear hK2 K2 hH0 u9 i0 i1 i2 i3 i4
                    try simp only [Act.put, List.setIfInBounds_toArray, List.set_cons_zero, List.set_cons_succ]
                    refine takeH 2 101 (v := ?_) rfl rfl (by kernel_rfl) (by kernel_rfl) (by kernel_rfl) (fun _ _ _ h => h) (Or.inl ⟨by rfl, ?_⟩) hH1 ?_
                    rotate_left 1
                    · ((intro w hSw; (try dsimp only at hSw); go_simp); try with_reducible rfl)
                    try simp only [Act.put, List.setIfInBounds_toArray, List.set_cons_zero, List.set_cons_succ]
                    refine takeH 3 102 (v := ?_) rfl rfl (by kernel_rfl) (by kernel_rfl) (by kernel_rfl) (fun _ _ _ h => h) (Or.inl ⟨by rfl, ?_⟩) hH1 ?_
                    rotate_left 1
                    · ((intro w hSw; (try dsimp only at hSw); go_simp); try with_reducible rfl)
                    try simp only [Act.put, List.setIfInBounds_toArray, List.set_cons_zero, List.set_cons_succ]
                    refine takeH 4 103 (v := ?_) rfl rfl (by kernel_rfl) (by kernel_rfl) (by kernel_rfl) (fun _ _ _ h => h) (Or.inl ⟨by rfl, ?_⟩) hH1 ?_
                    rotate_left 1
                    · ((intro w hSw; (try dsimp only at hSw); go_simp); try with_reducible rfl)
                    try simp only [Act.put, List.setIfInBounds_toArray, List.set_cons_zero, List.set_cons_succ]
                    refine takeH 5 104 (v := ?_) rfl rfl (by kernel_rfl) (by kernel_rfl) (by kernel_rfl) (fun _ _ _ h => h) (Or.inl ⟨by rfl, ?_⟩) hH1 ?_
                    rotate_left 1
                    · ((intro w hSw; (try dsimp only at hSw); go_simp); try with_reducible rfl)
                    try simp only [Act.put, List.setIfInBounds_toArray, List.set_cons_zero, List.set_cons_succ]
                    refine takeH 6 105 (v := ?_) rfl rfl (by kernel_rfl) (by kernel_rfl) (by kernel_rfl) (fun _ _ _ h => h) (Or.inl ⟨by rfl, ?_⟩) hH1 ?_
                    rotate_left 1
                    · ((intro w hSw; (try dsimp only at hSw); go_simp); try with_reducible rfl)
                    try simp only [Act.put, List.setIfInBounds_toArray, List.set_cons_zero, List.set_cons_succ]
                    refine takeH 7 106 (v := ?_) rfl rfl (by kernel_rfl) (by kernel_rfl) (by kernel_rfl) (fun _ _ _ h => h) (Or.inl ⟨by rfl, ?_⟩) hH1 ?_
                    rotate_left 1
                    · ((intro w hSw; (try dsimp only at hSw); go_simp); try with_reducible rfl)
                    try simp only [Act.put, List.setIfInBounds_toArray, List.set_cons_zero, List.set_cons_succ]
                    refine takeH 8 107 (v := ?_) rfl rfl (by kernel_rfl) (by kernel_rfl) (by kernel_rfl) (fun _ _ _ h => h) (Or.inl ⟨by rfl, ?_⟩) hH1 ?_
                    rotate_left 1
                    · ((intro w hSw; (try dsimp only at hSw); go_simp); try with_reducible rfl)
                    try simp only [Act.put, List.setIfInBounds_toArray, List.set_cons_zero, List.set_cons_succ]
                    refine takeH 9 108 (v := ?_) rfl rfl (by kernel_rfl) (by kernel_rfl) (by kernel_rfl) (fun _ _ _ h => h) (Or.inl ⟨by rfl, ?_⟩) hH1 ?_
                    rotate_left 1
                    · ((intro w hSw; (try dsimp only at hSw); go_simp); try with_reducible rfl)
                    try simp only [Act.put, List.setIfInBounds_toArray, List.set_cons_zero, List.set_cons_succ]
                    refine takeH 10 109 (v := ?_) rfl rfl (by kernel_rfl) (by kernel_rfl) (by kernel_rfl) (fun _ _ _ h => h) (Or.inl ⟨by rfl, ?_⟩) hH1 ?_
                    rotate_left 1
                    · ((intro w hSw; (try dsimp only at hSw); go_simp); try with_reducible rfl)
                    try simp only [Act.put, List.setIfInBounds_toArray, List.set_cons_zero, List.set_cons_succ]
                    refine takeH 13 112 (v := ?_) rfl rfl (by kernel_rfl) (by kernel_rfl) (by kernel_rfl) (fun _ _ _ h => h) (Or.inl ⟨by rfl, ?_⟩) hH1 ?_
                    rotate_left 1
                    · ((intro w hSw; (try dsimp only at hSw); go_simp); try with_reducible rfl)
                    try simp only [Act.put, List.setIfInBounds_toArray, List.set_cons_zero, List.set_cons_succ]
                    refine takeH 14 113 (v := ?_) rfl rfl (by kernel_rfl) (by kernel_rfl) (by kernel_rfl) (fun _ _ _ h => h) (Or.inl ⟨by rfl, ?_⟩) hH1 ?_
                    rotate_left 1
                    · ((intro w hSw; (try dsimp only at hSw); go_simp); try with_reducible rfl)
                    try simp only [Act.put, List.setIfInBounds_toArray, List.set_cons_zero, List.set_cons_succ]
                    refine takeH 15 114 (v := ?_) rfl rfl (by kernel_rfl) (by kernel_rfl) (by kernel_rfl) (fun _ _ _ h => h) (Or.inl ⟨by rfl, ?_⟩) hH1 ?_
                    rotate_left 1
                    · ((intro w hSw; (try dsimp only at hSw); go_simp); try with_reducible rfl)
                    try simp only [Act.put, List.setIfInBounds_toArray, List.set_cons_zero, List.set_cons_succ]
                    refine takeH 16 115 (v := ?_) rfl rfl (by kernel_rfl) (by kernel_rfl) (by kernel_rfl) (fun _ _ _ h => h) (Or.inl ⟨by rfl, ?_⟩) hH1 ?_
                    rotate_left 1
                    · ((intro w hSw; (try dsimp only at hSw); go_simp); try with_reducible rfl)
                    try simp only [Act.put, List.setIfInBounds_toArray, List.set_cons_zero, List.set_cons_succ]
                    refine wpAnyH_ready (rs := [11]) (by kernel_rfl) (by simp) ?_
                    refine AllReadyH.cons rfl (fun K3 hK3 => ?_) AllReadyH.nil
                    go_simp
                    refine (HBy _).mono ?_
                    rintro e w8 ⟨v8, rfl, ob8, u8⟩
                    have cvo := conv_own ob8
                    have HU8 := Lib.hid (HU9.out.trans u8)
                    have HB8 := Lib.hid (HB9.out.upd u8 (by simp))
                    have HR8 := Lib.hid (HR9.out.upd u8 (by simp))
                    refine hK3.out _ _ ⟨HB8.out.cell 0 rfl, HB8.out.cell 1 rfl, HB8.out.cell 2 rfl, HB8.out.cell 3 rfl, HB8.out.cell 4 rfl, HSI.out _ HU8.out⟩ (fun hH2 => ?_)
                    clear hK3 K3 hH1 u8 ob8
                    try simp only [Act.put, List.setIfInBounds_toArray, List.set_cons_zero, List.set_cons_succ]
                    refine wpAnyH_ready (rs := [12]) (by kernel_rfl) (by simp) ?_
                    refine AllReadyH.cons rfl (fun K4 hK4 => ?_) AllReadyH.nil
                    go_simp
                    refine hK4.out _ _ hH2 (fun _ => ?_)
                    clear hK4 K4
                    try simp only [Act.put, List.setIfInBounds_toArray, List.set_cons_zero, List.set_cons_succ]
                    refine takeH 17 116 (v := ?_) rfl rfl (by kernel_rfl) (by kernel_rfl) (by kernel_rfl) (fun _ _ _ h => h) (Or.inl ⟨by rfl, ?_⟩) hH2 ?_
                    rotate_left 1
                    · ((intro w hSw; (try dsimp only at hSw); go_simp); try with_reducible rfl)
                    try simp only [Act.put, List.setIfInBounds_toArray, List.set_cons_zero, List.set_cons_succ]
                    refine takeH 18 117 (v := ?_) rfl rfl (by kernel_rfl) (by kernel_rfl) (by kernel_rfl) (fun _ _ _ h => h) (Or.inl ⟨by rfl, ?_⟩) hH2 ?_
                    rotate_left 1
                    · ((intro w hSw; (try dsimp only at hSw); go_simp); try with_reducible rfl)
                    try simp only [Act.put, List.setIfInBounds_toArray, List.set_cons_zero, List.set_cons_succ]
                    refine wpAnyH_done (by kernel_rfl) ?_ _
                    refine NoPanic.normal ?_
                    clear cvo hH2 HB9 HR9 HU9
                    have l0 := HB8.out.cell 0 rfl
                    have l1 := HB8.out.cell 1 rfl
                    have l2 := HB8.out.cell 2 rfl
                    have l3 := HB8.out.cell 3 rfl
                    have l4 := HB8.out.cell 4 rfl
                    all_goals
                      have r0 := (HR8.out).cell 0 rfl
                      have r1 := (HR8.out).cell 1 rfl
                      have r2 := (HR8.out).cell 2 rfl
                      have r3 := (HR8.out).cell 3 rfl
                      have r4 := (HR8.out).cell 4 rfl
                      have q0 := (HR8.out).free 0
                      have q1 := (HR8.out).free 1
                      have q2 := (HR8.out).free 2
                      have q3 := (HR8.out).free 3
                      have q4 := (HR8.out).free 4
                      go_wp2_with fail
                      all_goals
                        rw [← HQ.out]
                        refine bodyPost_ret (cell5_results3r rfl _ _ rb _ _ _ _ _ _ _ rfl rfl rfl ((((((HR8.out).set 0 _).set 1 _).set 2 _).set 3 _).set 4 _)) rfl (hK _ _ ?_)
                        refine .inr ⟨HE.out, ⟨⟨_, _, _, _, _⟩, _, rfl⟩, ?_⟩
                        (repeat (refine Upd.setCell ?_ (Or.inr (by dsimp only; omega)) _))
                        first | exact (HU8).out | exact ((HU8).out.alloc _)
              · have hx8i : ¬ (x : Int) < 128 := by omega
                have hdn : refV (10 - i) wt acc (l.drop (1 + k + i)) = ((refV (10 - (i + 1)) wt2 N2 (l.drop (1 + k + (i + 1)))).1, (refV (10 - (i + 1)) wt2 N2 (l.drop (1 + k + (i + 1)))).2 + 1) := by
                  rw [show 10 - i = (10 - (i + 1)) + 1 by omega, refV_more _ _ _ l (1 + k + i) x hat HXA.out (by omega), HN2.out, HWT2.out, show 1 + k + (i + 1) = 1 + k + i + 1 by omega]
                have HDN := Lib.hid (HD.out.trans (by rw [hdn]))
                clear hdn
                go_wp2_with fail
                go_still_tail 12, (by kernel_rfl)
                go_wp2_with fail
                have BI2 := Lib.hid ((HBi.out.set 4 (.int .u64 (N2 : Int))).drew)
                have RR2 := Lib.hid ((HRi.out.other ⟨q, 4, none⟩ (.int .u64 (N2 : Int)) (by simp; omega)).drew)
                have VV2 := Lib.hid ((HUi.out.setCell (p := ⟨q, 4, none⟩) (.inl (by simp)) (.int .u64 (N2 : Int))).drew)
                have UU2 := Lib.hid ((UUi.out.setCell (p := ⟨q, 4, none⟩) (.inr (by dsimp only; omega)) (.int .u64 (N2 : Int))).drew)
                clear i0 i1 i2 i3 i4 z4 f0 cl hst HBi HRi HFi HUi UUi hz1 hz2
                go_roundw
                case rel => exact ⟨i + 1, N2, wt2, by omega, by omega, by go_num, by go_num, hN2l, hwt2l, BI2.out, VV2.out, by rw [HDN.out]; simp; omega⟩
                case measure => simp [intOf]; omega
            · have hdn : refV (10 - i) wt acc (l.drop (1 + k + i)) = (acc, 0) := refV_out _ _ _ _ _ (by omega)
              have hXX : Hid (X = if formed ⟨(c : Int), ra, rbb, rc, (acc : Int)⟩ = true ∧ bytesOf ⟨(c : Int), ra, rbb, rc, (acc : Int)⟩ = l.take (1 + k + i) then some (⟨(c : Int), ra, rbb, rc, (acc : Int)⟩, 1 + k + i) else none) := Lib.hid (by
                have h9 := roneF_num l ⟨k, true, tg, ou, ins⟩ rfl hRl acc i (by rw [HD.out, hdn]; simp)
                dsimp only at h9
                rw [HINS.out acc] at h9
                exact HX.out.trans h9)
              clear hdn
              have HB := Lib.hid HBi.out
              have HRR := Lib.hid HRi.out
              by_cases hat : 1 + k + i < l.length
              · have g1 : (1 : Int) + (k : Int) + (i : Int) < (l.length : Int) := by omega
                have g2 : ¬ (1 : Int) + (k : Int) + (i : Int) < 1 + (k : Int) + 10 := by omega
                go_wp2_with fail
                -- the check: HB: the instruction's block q, HRR: the result's, U: since w; hXX: X = if formed x ∧ bytesOf x = l.take at then some (x, at) else none
                have i0 := HB.out.cell 0 rfl
                have i1 := HB.out.cell 1 rfl
                have i2 := HB.out.cell 2 rfl
                have i3 := HB.out.cell 3 rfl
                have i4 := HB.out.cell 4 rfl
                cases hfo : formed ⟨(c : Int), ra, rbb, rc, (acc : Int)⟩ with
                | false =>
                  have HFo := fun w => rformed ⟨(c : Int), ra, rbb, rc, (acc : Int)⟩ w
                  rw [hfo] at HFo
                  simp only [Ins.val] at HFo
                  have HE : Hid (X = none) := Lib.hid (by rw [hXX.out, hfo]; rfl)
                  clear hfo
                  go_wp2_with fail
                  obtain ⟨T, hT, g, hg, hg2⟩ := fam [] wr
                  have G0 : ∀ n, (g n).cell? ⟨q, 0, none⟩ = some (.int .i64 (c : Int)) := fun n => (HB.out.upd (hg n) (by simp)).cell 0 rfl
                  have G1 : ∀ n, (g n).cell? ⟨q, 1, none⟩ = some (.int .i64 ra) := fun n => (HB.out.upd (hg n) (by simp)).cell 1 rfl
                  have G2 : ∀ n, (g n).cell? ⟨q, 2, none⟩ = some (.int .i64 rbb) := fun n => (HB.out.upd (hg n) (by simp)).cell 2 rfl
                  have G3 : ∀ n, (g n).cell? ⟨q, 3, none⟩ = some (.int .i64 rc) := fun n => (HB.out.upd (hg n) (by simp)).cell 3 rfl
                  have G4 : ∀ n, (g n).cell? ⟨q, 4, none⟩ = some (.int .u64 (acc : Int)) := fun n => (HB.out.upd (hg n) (by simp)).cell 4 rfl
                  refine wp_region_fam g (by kernel_rfl) (by kernel_rfl) (hg2 _ ((Upd.refl [] _).drew)) ?_
                  repeat (go_big_quiet_step ((go_at_call 18; exact Calls.fam_of0 hg hg2 (HFo _))))
                  refine wpQuiet_nil ?_
                  intro w9 hw9
                  obtain ⟨n9, rfl⟩ := hw9
                  have RR9 := Lib.hid (HRR.out.upd (hg n9) (by simp))
                  have UU9 := Lib.hid (UUi.out.trans (hg n9))
                  clear i0 i1 i2 i3 i4 G0 G1 G2 G3 G4
                  have r0 := (RR9.out).cell 0 rfl
                  have r1 := (RR9.out).cell 1 rfl
                  have r2 := (RR9.out).cell 2 rfl
                  have r3 := (RR9.out).cell 3 rfl
                  have r4 := (RR9.out).cell 4 rfl
                  have q0 := (RR9.out).free 0
                  have q1 := (RR9.out).free 1
                  have q2 := (RR9.out).free 2
                  have q3 := (RR9.out).free 3
                  have q4 := (RR9.out).free 4
                  go_wp2_with fail
                  all_goals
                    rw [← HQ.out]
                    refine bodyPost_ret (cell5_results3r rfl _ _ rb _ _ _ _ _ _ _ rfl rfl rfl ((((((RR9.out).set 0 _).set 1 _).set 2 _).set 3 _).set 4 _)) rfl (hK _ _ ?_)
                    refine .inr ⟨HE.out, ⟨⟨_, _, _, _, _⟩, _, rfl⟩, ?_⟩
                    (repeat (refine Upd.setCell ?_ (Or.inr (by dsimp only; omega)) _))
                    first | exact (UU9).out | exact ((UU9).out.alloc _)
                | true =>
                  have HFo := fun w => rformed ⟨(c : Int), ra, rbb, rc, (acc : Int)⟩ w
                  rw [hfo] at HFo
                  have HBy := fun w => rbytes ⟨(c : Int), ra, rbb, rc, (acc : Int)⟩ w hfo ⟨by simp only; omega, by simp only; omega⟩
                  simp only [Ins.val] at HFo HBy
                  have HEX : Hid (X = if bytesOf ⟨(c : Int), ra, rbb, rc, (acc : Int)⟩ = l.take (1 + k + i) then some (⟨(c : Int), ra, rbb, rc, (acc : Int)⟩, 1 + k + i) else none) := Lib.hid (by rw [hXX.out, hfo]; simp)
                  clear hfo
                  have HSL := Lib.hid (fun w' (u : Upd [] w w') => conv_sl (1 + k + i) cp (h.upd u (by simp)) (by omega))
                  have HSI := Lib.hid (fun w' (u : Upd [] w w') => conv_sl ((1 + (k : Int) + (i : Int)).toNat) cp (h.upd u (by simp)) (by omega))
                  have hlt9 : l.take ((1 + (k : Int) + (i : Int)).toNat) = l.take (1 + k + i) := by rw [show (1 + (k : Int) + (i : Int)).toNat = 1 + k + i by omega]
                  rw [hlt9] at HSI
                  clear hlt9
                  generalize bytesOf ⟨(c : Int), ra, rbb, rc, (acc : Int)⟩ = BI at *
                  obtain ⟨LT, hLT⟩ : ∃ LT, l.take (1 + k + i) = LT := ⟨_, rfl⟩
                  rw [hLT] at HEX HSL HSI
                  clear hLT
                  have hatl : 1 + k + i ≤ cp := by omega
                  have hati : ((1 + k + i : Nat) : Int) ≤ (cp : Int) := by omega
                  have hati2 : 1 + (k : Int) + (i : Int) ≤ (cp : Int) := by omega
                  have hati0 : 0 ≤ 1 + (k : Int) + (i : Int) := by omega
                  have hatg : decide ((l.length : Int) < 1 + (k : Int) + (i : Int)) = false := decide_eq_false (by omega)
                  by_cases heq : BI = LT
                  · subst heq
                    have HE := Lib.hid (HEX.out.trans (if_pos rfl))
                    clear HEX
                    go_wp2_with fail
                    refine wp_region_noPanic ?_
                    refine wp_region_held_drew (S := fun w' => w'.cell? ⟨q, 0, none⟩ = some (.int .i64 (c : Int)) ∧ w'.cell? ⟨q, 1, none⟩ = some (.int .i64 ra) ∧ w'.cell? ⟨q, 2, none⟩ = some (.int .i64 rbb) ∧ w'.cell? ⟨q, 3, none⟩ = some (.int .i64 rc) ∧ w'.cell? ⟨q, 4, none⟩ = some (.int .u64 (acc : Int)) ∧ (convert 59 9 (.slice (some ⟨b, o, none⟩) (1 + (k : Int) + (i : Int)).toNat cp)).run Tryd.prog w' = .ok (.string ⟨(BI).toArray⟩) w') (by kernel_rfl) ⟨i0, i1, i2, i3, i4, HSI.out _ UUi.out.drew⟩ (fun hH0 => ?_)
                    refine takeH 0 99 (v := ?_) rfl rfl (by kernel_rfl) (by kernel_rfl) (by kernel_rfl) (fun _ _ _ h => h) (Or.inl ⟨by rfl, ?_⟩) hH0 ?_
                    rotate_left 1
                    · ((intro w hSw; (try dsimp only at hSw); go_simp); try with_reducible rfl)
                    try simp only [Act.put, List.setIfInBounds_toArray, List.set_cons_zero, List.set_cons_succ]
                    refine wpAnyH_ready (rs := [1]) (by kernel_rfl) (by simp) ?_
                    refine AllReadyH.cons rfl (fun K2 hK2 => ?_) AllReadyH.nil
                    go_simp
                    refine (HFo _).mono ?_
                    rintro e w9 ⟨rfl, u9⟩
                    have HU9 := Lib.hid (UUi.out.trans ((Upd.refl [] _).drew.trans u9))
                    have HB9 := Lib.hid (HB.out.upd ((Upd.refl [] _).drew.trans u9) (by simp))
                    have HR9 := Lib.hid (HRR.out.upd ((Upd.refl [] _).drew.trans u9) (by simp))
                    refine hK2.out _ _ ⟨HB9.out.cell 0 rfl, HB9.out.cell 1 rfl, HB9.out.cell 2 rfl, HB9.out.cell 3 rfl, HB9.out.cell 4 rfl, HSI.out _ HU9.out⟩ (fun hH1 => ?_)
                    clear hK2 K2 hH0 u9 i0 i1 i2 i3 i4
                    try simp only [Act.put, List.setIfInBounds_toArray, List.set_cons_zero, List.set_cons_succ]
                    refine takeH 2 101 (v := ?_) rfl rfl (by kernel_rfl) (by kernel_rfl) (by kernel_rfl) (fun _ _ _ h => h) (Or.inl ⟨by rfl, ?_⟩) hH1 ?_
                    rotate_left 1
                    · ((intro w hSw; (try dsimp only at hSw); go_simp); try with_reducible rfl)
                    try simp only [Act.put, List.setIfInBounds_toArray, List.set_cons_zero, List.set_cons_succ]
                    refine takeH 3 102 (v := ?_) rfl rfl (by kernel_rfl) (by kernel_rfl) (by kernel_rfl) (fun _ _ _ h => h) (Or.inl ⟨by rfl, ?_⟩) hH1 ?_
                    rotate_left 1
                    · ((intro w hSw; (try dsimp only at hSw); go_simp); try with_reducible rfl)
                    try simp only [Act.put, List.setIfInBounds_toArray, List.set_cons_zero, List.set_cons_succ]
                    refine takeH 4 103 (v := ?_) rfl rfl (by kernel_rfl) (by kernel_rfl) (by kernel_rfl) (fun _ _ _ h => h) (Or.inl ⟨by rfl, ?_⟩) hH1 ?_
                    rotate_left 1
                    · ((intro w hSw; (try dsimp only at hSw); go_simp); try with_reducible rfl)
                    try simp only [Act.put, List.setIfInBounds_toArray, List.set_cons_zero, List.set_cons_succ]
                    refine takeH 5 104 (v := ?_) rfl rfl (by kernel_rfl) (by kernel_rfl) (by kernel_rfl) (fun _ _ _ h => h) (Or.inl ⟨by rfl, ?_⟩) hH1 ?_
                    rotate_left 1
                    · ((intro w hSw; (try dsimp only at hSw); go_simp); try with_reducible rfl)
                    try simp only [Act.put, List.setIfInBounds_toArray, List.set_cons_zero, List.set_cons_succ]
                    refine takeH 6 105 (v := ?_) rfl rfl (by kernel_rfl) (by kernel_rfl) (by kernel_rfl) (fun _ _ _ h => h) (Or.inl ⟨by rfl, ?_⟩) hH1 ?_
                    rotate_left 1
                    · ((intro w hSw; (try dsimp only at hSw); go_simp); try with_reducible rfl)
                    try simp only [Act.put, List.setIfInBounds_toArray, List.set_cons_zero, List.set_cons_succ]
                    refine takeH 7 106 (v := ?_) rfl rfl (by kernel_rfl) (by kernel_rfl) (by kernel_rfl) (fun _ _ _ h => h) (Or.inl ⟨by rfl, ?_⟩) hH1 ?_
                    rotate_left 1
                    · ((intro w hSw; (try dsimp only at hSw); go_simp); try with_reducible rfl)
                    try simp only [Act.put, List.setIfInBounds_toArray, List.set_cons_zero, List.set_cons_succ]
                    refine takeH 8 107 (v := ?_) rfl rfl (by kernel_rfl) (by kernel_rfl) (by kernel_rfl) (fun _ _ _ h => h) (Or.inl ⟨by rfl, ?_⟩) hH1 ?_
                    rotate_left 1
                    · ((intro w hSw; (try dsimp only at hSw); go_simp); try with_reducible rfl)
                    try simp only [Act.put, List.setIfInBounds_toArray, List.set_cons_zero, List.set_cons_succ]
                    refine takeH 9 108 (v := ?_) rfl rfl (by kernel_rfl) (by kernel_rfl) (by kernel_rfl) (fun _ _ _ h => h) (Or.inl ⟨by rfl, ?_⟩) hH1 ?_
                    rotate_left 1
                    · ((intro w hSw; (try dsimp only at hSw); go_simp); try with_reducible rfl)
                    try simp only [Act.put, List.setIfInBounds_toArray, List.set_cons_zero, List.set_cons_succ]
                    refine takeH 10 109 (v := ?_) rfl rfl (by kernel_rfl) (by kernel_rfl) (by kernel_rfl) (fun _ _ _ h => h) (Or.inl ⟨by rfl, ?_⟩) hH1 ?_
                    rotate_left 1
                    · ((intro w hSw; (try dsimp only at hSw); go_simp); try with_reducible rfl)
                    try simp only [Act.put, List.setIfInBounds_toArray, List.set_cons_zero, List.set_cons_succ]
                    refine takeH 13 112 (v := ?_) rfl rfl (by kernel_rfl) (by kernel_rfl) (by kernel_rfl) (fun _ _ _ h => h) (Or.inl ⟨by rfl, ?_⟩) hH1 ?_
                    rotate_left 1
                    · ((intro w hSw; (try dsimp only at hSw); go_simp); try with_reducible rfl)
                    try simp only [Act.put, List.setIfInBounds_toArray, List.set_cons_zero, List.set_cons_succ]
                    refine takeH 14 113 (v := ?_) rfl rfl (by kernel_rfl) (by kernel_rfl) (by kernel_rfl) (fun _ _ _ h => h) (Or.inl ⟨by rfl, ?_⟩) hH1 ?_
                    rotate_left 1
                    · ((intro w hSw; (try dsimp only at hSw); go_simp); try with_reducible rfl)
                    try simp only [Act.put, List.setIfInBounds_toArray, List.set_cons_zero, List.set_cons_succ]
                    refine takeH 15 114 (v := ?_) rfl rfl (by kernel_rfl) (by kernel_rfl) (by kernel_rfl) (fun _ _ _ h => h) (Or.inl ⟨by rfl, ?_⟩) hH1 ?_
                    rotate_left 1
                    · ((intro w hSw; (try dsimp only at hSw); go_simp); try with_reducible rfl)
                    try simp only [Act.put, List.setIfInBounds_toArray, List.set_cons_zero, List.set_cons_succ]
                    refine takeH 16 115 (v := ?_) rfl rfl (by kernel_rfl) (by kernel_rfl) (by kernel_rfl) (fun _ _ _ h => h) (Or.inl ⟨by rfl, ?_⟩) hH1 ?_
                    rotate_left 1
                    · ((intro w hSw; (try dsimp only at hSw); go_simp); try with_reducible rfl)
                    try simp only [Act.put, List.setIfInBounds_toArray, List.set_cons_zero, List.set_cons_succ]
                    refine wpAnyH_ready (rs := [11]) (by kernel_rfl) (by simp) ?_
                    refine AllReadyH.cons rfl (fun K3 hK3 => ?_) AllReadyH.nil
                    go_simp
                    refine (HBy _).mono ?_
                    rintro e w8 ⟨v8, rfl, ob8, u8⟩
                    have cvo := conv_own ob8
                    have HU8 := Lib.hid (HU9.out.trans u8)
                    have HB8 := Lib.hid (HB9.out.upd u8 (by simp))
                    have HR8 := Lib.hid (HR9.out.upd u8 (by simp))
                    refine hK3.out _ _ ⟨HB8.out.cell 0 rfl, HB8.out.cell 1 rfl, HB8.out.cell 2 rfl, HB8.out.cell 3 rfl, HB8.out.cell 4 rfl, HSI.out _ HU8.out⟩ (fun hH2 => ?_)
                    clear hK3 K3 hH1 u8 ob8
                    try simp only [Act.put, List.setIfInBounds_toArray, List.set_cons_zero, List.set_cons_succ]
                    refine wpAnyH_ready (rs := [12]) (by kernel_rfl) (by simp) ?_
                    refine AllReadyH.cons rfl (fun K4 hK4 => ?_) AllReadyH.nil
                    go_simp
                    refine hK4.out _ _ hH2 (fun _ => ?_)
                    clear hK4 K4
                    try simp only [Act.put, List.setIfInBounds_toArray, List.set_cons_zero, List.set_cons_succ]
                    refine takeH 17 116 (v := ?_) rfl rfl (by kernel_rfl) (by kernel_rfl) (by kernel_rfl) (fun _ _ _ h => h) (Or.inl ⟨by rfl, ?_⟩) hH2 ?_
                    rotate_left 1
                    · ((intro w hSw; (try dsimp only at hSw); go_simp); try with_reducible rfl)
                    try simp only [Act.put, List.setIfInBounds_toArray, List.set_cons_zero, List.set_cons_succ]
                    refine takeH 18 117 (v := ?_) rfl rfl (by kernel_rfl) (by kernel_rfl) (by kernel_rfl) (fun _ _ _ h => h) (Or.inl ⟨by rfl, ?_⟩) hH2 ?_
                    rotate_left 1
                    · ((intro w hSw; (try dsimp only at hSw); go_simp); try with_reducible rfl)
                    try simp only [Act.put, List.setIfInBounds_toArray, List.set_cons_zero, List.set_cons_succ]
                    refine wpAnyH_done (by kernel_rfl) ?_ _
                    refine NoPanic.normal ?_
                    clear cvo hH2 HB9 HR9 HU9
                    have l0 := HB8.out.cell 0 rfl
                    have l1 := HB8.out.cell 1 rfl
                    have l2 := HB8.out.cell 2 rfl
                    have l3 := HB8.out.cell 3 rfl
                    have l4 := HB8.out.cell 4 rfl
                    all_goals
                      have r0 := (HR8.out).cell 0 rfl
                      have r1 := (HR8.out).cell 1 rfl
                      have r2 := (HR8.out).cell 2 rfl
                      have r3 := (HR8.out).cell 3 rfl
                      have r4 := (HR8.out).cell 4 rfl
                      have q0 := (HR8.out).free 0
                      have q1 := (HR8.out).free 1
                      have q2 := (HR8.out).free 2
                      have q3 := (HR8.out).free 3
                      have q4 := (HR8.out).free 4
                      go_wp2_with fail
                      rw [← HQ.out]
                      refine bodyPost_ret (cell5_results3r rfl _ _ rb _ _ _ _ _ _ _ rfl rfl rfl ((((((HR8.out).set 0 _).set 1 _).set 2 _).set 3 _).set 4 _)) rfl (hK _ _ ?_)
                      exact .inl ⟨⟨c, ra, rbb, rc, (acc : Int)⟩, 1 + k + i, HE.out, by rw [show (((1 + k + i : Nat)) : Int) = 1 + (k : Int) + (i : Int) from by omega]; rfl, by (repeat (refine Upd.setCell ?_ (Or.inr (by dsimp only; omega)) _)); exact HU8.out⟩
                  · have HE := Lib.hid (HEX.out.trans (if_neg heq))
                    have hbn : (BI == LT) = false := by simpa using heq
                    clear HEX heq
                    go_wp2_with fail
                    refine wp_region_noPanic ?_
                    refine wp_region_held_drew (S := fun w' => w'.cell? ⟨q, 0, none⟩ = some (.int .i64 (c : Int)) ∧ w'.cell? ⟨q, 1, none⟩ = some (.int .i64 ra) ∧ w'.cell? ⟨q, 2, none⟩ = some (.int .i64 rbb) ∧ w'.cell? ⟨q, 3, none⟩ = some (.int .i64 rc) ∧ w'.cell? ⟨q, 4, none⟩ = some (.int .u64 (acc : Int)) ∧ (convert 59 9 (.slice (some ⟨b, o, none⟩) (1 + (k : Int) + (i : Int)).toNat cp)).run Tryd.prog w' = .ok (.string ⟨(LT).toArray⟩) w') (by kernel_rfl) ⟨i0, i1, i2, i3, i4, HSI.out _ UUi.out.drew⟩ (fun hH0 => ?_)
                    refine takeH 0 99 (v := ?_) rfl rfl (by kernel_rfl) (by kernel_rfl) (by kernel_rfl) (fun _ _ _ h => h) (Or.inl ⟨by rfl, ?_⟩) hH0 ?_
                    rotate_left 1
                    · ((intro w hSw; (try dsimp only at hSw); go_simp); try with_reducible rfl)
                    try simp only [Act.put, List.setIfInBounds_toArray, List.set_cons_zero, List.set_cons_succ]
                    refine wpAnyH_ready (rs := [1]) (by kernel_rfl) (by simp) ?_
                    refine AllReadyH.cons rfl (fun K2 hK2 => ?_) AllReadyH.nil
                    go_simp
                    refine (HFo _).mono ?_
                    rintro e w9 ⟨rfl, u9⟩
                    have HU9 := Lib.hid (UUi.out.trans ((Upd.refl [] _).drew.trans u9))
                    have HB9 := Lib.hid (HB.out.upd ((Upd.refl [] _).drew.trans u9) (by simp))
                    have HR9 := Lib.hid (HRR.out.upd ((Upd.refl [] _).drew.trans u9) (by simp))
                    refine hK2.out _ _ ⟨HB9.out.cell 0 rfl, HB9.out.cell 1 rfl, HB9.out.cell 2 rfl, HB9.out.cell 3 rfl, HB9.out.cell 4 rfl, HSI.out _ HU9.out⟩ (fun hH1 => ?_)
                    clear hK2 K2 hH0 u9 i0 i1 i2 i3 i4
                    try simp only [Act.put, List.setIfInBounds_toArray, List.set_cons_zero, List.set_cons_succ]
                    refine takeH 2 101 (v := ?_) rfl rfl (by kernel_rfl) (by kernel_rfl) (by kernel_rfl) (fun _ _ _ h => h) (Or.inl ⟨by rfl, ?_⟩) hH1 ?_
                    rotate_left 1
                    · ((intro w hSw; (try dsimp only at hSw); go_simp); try with_reducible rfl)
                    try simp only [Act.put, List.setIfInBounds_toArray, List.set_cons_zero, List.set_cons_succ]
                    refine takeH 3 102 (v := ?_) rfl rfl (by kernel_rfl) (by kernel_rfl) (by kernel_rfl) (fun _ _ _ h => h) (Or.inl ⟨by rfl, ?_⟩) hH1 ?_
                    rotate_left 1
                    · ((intro w hSw; (try dsimp only at hSw); go_simp); try with_reducible rfl)
                    try simp only [Act.put, List.setIfInBounds_toArray, List.set_cons_zero, List.set_cons_succ]
                    refine takeH 4 103 (v := ?_) rfl rfl (by kernel_rfl) (by kernel_rfl) (by kernel_rfl) (fun _ _ _ h => h) (Or.inl ⟨by rfl, ?_⟩) hH1 ?_
                    rotate_left 1
                    · ((intro w hSw; (try dsimp only at hSw); go_simp); try with_reducible rfl)
                    try simp only [Act.put, List.setIfInBounds_toArray, List.set_cons_zero, List.set_cons_succ]
                    refine takeH 5 104 (v := ?_) rfl rfl (by kernel_rfl) (by kernel_rfl) (by kernel_rfl) (fun _ _ _ h => h) (Or.inl ⟨by rfl, ?_⟩) hH1 ?_
                    rotate_left 1
                    · ((intro w hSw; (try dsimp only at hSw); go_simp); try with_reducible rfl)
                    try simp only [Act.put, List.setIfInBounds_toArray, List.set_cons_zero, List.set_cons_succ]
                    refine takeH 6 105 (v := ?_) rfl rfl (by kernel_rfl) (by kernel_rfl) (by kernel_rfl) (fun _ _ _ h => h) (Or.inl ⟨by rfl, ?_⟩) hH1 ?_
                    rotate_left 1
                    · ((intro w hSw; (try dsimp only at hSw); go_simp); try with_reducible rfl)
                    try simp only [Act.put, List.setIfInBounds_toArray, List.set_cons_zero, List.set_cons_succ]
                    refine takeH 7 106 (v := ?_) rfl rfl (by kernel_rfl) (by kernel_rfl) (by kernel_rfl) (fun _ _ _ h => h) (Or.inl ⟨by rfl, ?_⟩) hH1 ?_
                    rotate_left 1
                    · ((intro w hSw; (try dsimp only at hSw); go_simp); try with_reducible rfl)
                    try simp only [Act.put, List.setIfInBounds_toArray, List.set_cons_zero, List.set_cons_succ]
                    refine takeH 8 107 (v := ?_) rfl rfl (by kernel_rfl) (by kernel_rfl) (by kernel_rfl) (fun _ _ _ h => h) (Or.inl ⟨by rfl, ?_⟩) hH1 ?_
                    rotate_left 1
                    · ((intro w hSw; (try dsimp only at hSw); go_simp); try with_reducible rfl)
                    try simp only [Act.put, List.setIfInBounds_toArray, List.set_cons_zero, List.set_cons_succ]
                    refine takeH 9 108 (v := ?_) rfl rfl (by kernel_rfl) (by kernel_rfl) (by kernel_rfl) (fun _ _ _ h => h) (Or.inl ⟨by rfl, ?_⟩) hH1 ?_
                    rotate_left 1
                    · ((intro w hSw; (try dsimp only at hSw); go_simp); try with_reducible rfl)
                    try simp only [Act.put, List.setIfInBounds_toArray, List.set_cons_zero, List.set_cons_succ]
                    refine takeH 10 109 (v := ?_) rfl rfl (by kernel_rfl) (by kernel_rfl) (by kernel_rfl) (fun _ _ _ h => h) (Or.inl ⟨by rfl, ?_⟩) hH1 ?_
                    rotate_left 1
                    · ((intro w hSw; (try dsimp only at hSw); go_simp); try with_reducible rfl)
                    try simp only [Act.put, List.setIfInBounds_toArray, List.set_cons_zero, List.set_cons_succ]
                    refine takeH 13 112 (v := ?_) rfl rfl (by kernel_rfl) (by kernel_rfl) (by kernel_rfl) (fun _ _ _ h => h) (Or.inl ⟨by rfl, ?_⟩) hH1 ?_
                    rotate_left 1
                    · ((intro w hSw; (try dsimp only at hSw); go_simp); try with_reducible rfl)
                    try simp only [Act.put, List.setIfInBounds_toArray, List.set_cons_zero, List.set_cons_succ]
                    refine takeH 14 113 (v := ?_) rfl rfl (by kernel_rfl) (by kernel_rfl) (by kernel_rfl) (fun _ _ _ h => h) (Or.inl ⟨by rfl, ?_⟩) hH1 ?_
                    rotate_left 1
                    · ((intro w hSw; (try dsimp only at hSw); go_simp); try with_reducible rfl)
                    try simp only [Act.put, List.setIfInBounds_toArray, List.set_cons_zero, List.set_cons_succ]
                    refine takeH 15 114 (v := ?_) rfl rfl (by kernel_rfl) (by kernel_rfl) (by kernel_rfl) (fun _ _ _ h => h) (Or.inl ⟨by rfl, ?_⟩) hH1 ?_
                    rotate_left 1
                    · ((intro w hSw; (try dsimp only at hSw); go_simp); try with_reducible rfl)
                    try simp only [Act.put, List.setIfInBounds_toArray, List.set_cons_zero, List.set_cons_succ]
                    refine takeH 16 115 (v := ?_) rfl rfl (by kernel_rfl) (by kernel_rfl) (by kernel_rfl) (fun _ _ _ h => h) (Or.inl ⟨by rfl, ?_⟩) hH1 ?_
                    rotate_left 1
                    · ((intro w hSw; (try dsimp only at hSw); go_simp); try with_reducible rfl)
                    try simp only [Act.put, List.setIfInBounds_toArray, List.set_cons_zero, List.set_cons_succ]
                    refine wpAnyH_ready (rs := [11]) (by kernel_rfl) (by simp) ?_
                    refine AllReadyH.cons rfl (fun K3 hK3 => ?_) AllReadyH.nil
                    go_simp
                    refine (HBy _).mono ?_
                    rintro e w8 ⟨v8, rfl, ob8, u8⟩
                    have cvo := conv_own ob8
                    have HU8 := Lib.hid (HU9.out.trans u8)
                    have HB8 := Lib.hid (HB9.out.upd u8 (by simp))
                    have HR8 := Lib.hid (HR9.out.upd u8 (by simp))
                    refine hK3.out _ _ ⟨HB8.out.cell 0 rfl, HB8.out.cell 1 rfl, HB8.out.cell 2 rfl, HB8.out.cell 3 rfl, HB8.out.cell 4 rfl, HSI.out _ HU8.out⟩ (fun hH2 => ?_)
                    clear hK3 K3 hH1 u8 ob8
                    try simp only [Act.put, List.setIfInBounds_toArray, List.set_cons_zero, List.set_cons_succ]
                    refine wpAnyH_ready (rs := [12]) (by kernel_rfl) (by simp) ?_
                    refine AllReadyH.cons rfl (fun K4 hK4 => ?_) AllReadyH.nil
                    go_simp
                    refine hK4.out _ _ hH2 (fun _ => ?_)
                    clear hK4 K4
                    try simp only [Act.put, List.setIfInBounds_toArray, List.set_cons_zero, List.set_cons_succ]
                    refine takeH 17 116 (v := ?_) rfl rfl (by kernel_rfl) (by kernel_rfl) (by kernel_rfl) (fun _ _ _ h => h) (Or.inl ⟨by rfl, ?_⟩) hH2 ?_
                    rotate_left 1
                    · ((intro w hSw; (try dsimp only at hSw); go_simp); try with_reducible rfl)
                    try simp only [Act.put, List.setIfInBounds_toArray, List.set_cons_zero, List.set_cons_succ]
                    refine takeH 18 117 (v := ?_) rfl rfl (by kernel_rfl) (by kernel_rfl) (by kernel_rfl) (fun _ _ _ h => h) (Or.inl ⟨by rfl, ?_⟩) hH2 ?_
                    rotate_left 1
                    · ((intro w hSw; (try dsimp only at hSw); go_simp); try with_reducible rfl)
                    try simp only [Act.put, List.setIfInBounds_toArray, List.set_cons_zero, List.set_cons_succ]
                    refine wpAnyH_done (by kernel_rfl) ?_ _
                    refine NoPanic.normal ?_
                    clear cvo hH2 HB9 HR9 HU9
                    have l0 := HB8.out.cell 0 rfl
                    have l1 := HB8.out.cell 1 rfl
                    have l2 := HB8.out.cell 2 rfl
                    have l3 := HB8.out.cell 3 rfl
                    have l4 := HB8.out.cell 4 rfl
                    all_goals
                      have r0 := (HR8.out).cell 0 rfl
                      have r1 := (HR8.out).cell 1 rfl
                      have r2 := (HR8.out).cell 2 rfl
                      have r3 := (HR8.out).cell 3 rfl
                      have r4 := (HR8.out).cell 4 rfl
                      have q0 := (HR8.out).free 0
                      have q1 := (HR8.out).free 1
                      have q2 := (HR8.out).free 2
                      have q3 := (HR8.out).free 3
                      have q4 := (HR8.out).free 4
                      go_wp2_with fail
                      all_goals
                        rw [← HQ.out]
                        refine bodyPost_ret (cell5_results3r rfl _ _ rb _ _ _ _ _ _ _ rfl rfl rfl ((((((HR8.out).set 0 _).set 1 _).set 2 _).set 3 _).set 4 _)) rfl (hK _ _ ?_)
                        refine .inr ⟨HE.out, ⟨⟨_, _, _, _, _⟩, _, rfl⟩, ?_⟩
                        (repeat (refine Upd.setCell ?_ (Or.inr (by dsimp only; omega)) _))
                        first | exact (HU8).out | exact ((HU8).out.alloc _)
              · have g1 : ¬ (1 : Int) + (k : Int) + (i : Int) < (l.length : Int) := by omega
                go_wp2_with fail
                -- the check: HB: the instruction's block q, HRR: the result's, U: since w; hXX: X = if formed x ∧ bytesOf x = l.take at then some (x, at) else none
                have i0 := HB.out.cell 0 rfl
                have i1 := HB.out.cell 1 rfl
                have i2 := HB.out.cell 2 rfl
                have i3 := HB.out.cell 3 rfl
                have i4 := HB.out.cell 4 rfl
                cases hfo : formed ⟨(c : Int), ra, rbb, rc, (acc : Int)⟩ with
                | false =>
                  have HFo := fun w => rformed ⟨(c : Int), ra, rbb, rc, (acc : Int)⟩ w
                  rw [hfo] at HFo
                  simp only [Ins.val] at HFo
                  have HE : Hid (X = none) := Lib.hid (by rw [hXX.out, hfo]; rfl)
                  clear hfo
                  go_wp2_with fail
                  obtain ⟨T, hT, g, hg, hg2⟩ := fam [] wr
                  have G0 : ∀ n, (g n).cell? ⟨q, 0, none⟩ = some (.int .i64 (c : Int)) := fun n => (HB.out.upd (hg n) (by simp)).cell 0 rfl
                  have G1 : ∀ n, (g n).cell? ⟨q, 1, none⟩ = some (.int .i64 ra) := fun n => (HB.out.upd (hg n) (by simp)).cell 1 rfl
                  have G2 : ∀ n, (g n).cell? ⟨q, 2, none⟩ = some (.int .i64 rbb) := fun n => (HB.out.upd (hg n) (by simp)).cell 2 rfl
                  have G3 : ∀ n, (g n).cell? ⟨q, 3, none⟩ = some (.int .i64 rc) := fun n => (HB.out.upd (hg n) (by simp)).cell 3 rfl
                  have G4 : ∀ n, (g n).cell? ⟨q, 4, none⟩ = some (.int .u64 (acc : Int)) := fun n => (HB.out.upd (hg n) (by simp)).cell 4 rfl
                  refine wp_region_fam g (by kernel_rfl) (by kernel_rfl) (hg2 _ ((Upd.refl [] _).drew)) ?_
                  repeat (go_big_quiet_step ((go_at_call 18; exact Calls.fam_of0 hg hg2 (HFo _))))
                  refine wpQuiet_nil ?_
                  intro w9 hw9
                  obtain ⟨n9, rfl⟩ := hw9
                  have RR9 := Lib.hid (HRR.out.upd (hg n9) (by simp))
                  have UU9 := Lib.hid (UUi.out.trans (hg n9))
                  clear i0 i1 i2 i3 i4 G0 G1 G2 G3 G4
                  have r0 := (RR9.out).cell 0 rfl
                  have r1 := (RR9.out).cell 1 rfl
                  have r2 := (RR9.out).cell 2 rfl
                  have r3 := (RR9.out).cell 3 rfl
                  have r4 := (RR9.out).cell 4 rfl
                  have q0 := (RR9.out).free 0
                  have q1 := (RR9.out).free 1
                  have q2 := (RR9.out).free 2
                  have q3 := (RR9.out).free 3
                  have q4 := (RR9.out).free 4
                  go_wp2_with fail
                  all_goals
                    rw [← HQ.out]
                    refine bodyPost_ret (cell5_results3r rfl _ _ rb _ _ _ _ _ _ _ rfl rfl rfl ((((((RR9.out).set 0 _).set 1 _).set 2 _).set 3 _).set 4 _)) rfl (hK _ _ ?_)
                    refine .inr ⟨HE.out, ⟨⟨_, _, _, _, _⟩, _, rfl⟩, ?_⟩
                    (repeat (refine Upd.setCell ?_ (Or.inr (by dsimp only; omega)) _))
                    first | exact (UU9).out | exact ((UU9).out.alloc _)
                | true =>
                  have HFo := fun w => rformed ⟨(c : Int), ra, rbb, rc, (acc : Int)⟩ w
                  rw [hfo] at HFo
                  have HBy := fun w => rbytes ⟨(c : Int), ra, rbb, rc, (acc : Int)⟩ w hfo ⟨by simp only; omega, by simp only; omega⟩
                  simp only [Ins.val] at HFo HBy
                  have HEX : Hid (X = if bytesOf ⟨(c : Int), ra, rbb, rc, (acc : Int)⟩ = l.take (1 + k + i) then some (⟨(c : Int), ra, rbb, rc, (acc : Int)⟩, 1 + k + i) else none) := Lib.hid (by rw [hXX.out, hfo]; simp)
                  clear hfo
                  have HSL := Lib.hid (fun w' (u : Upd [] w w') => conv_sl (1 + k + i) cp (h.upd u (by simp)) (by omega))
                  have HSI := Lib.hid (fun w' (u : Upd [] w w') => conv_sl ((1 + (k : Int) + (i : Int)).toNat) cp (h.upd u (by simp)) (by omega))
                  have hlt9 : l.take ((1 + (k : Int) + (i : Int)).toNat) = l.take (1 + k + i) := by rw [show (1 + (k : Int) + (i : Int)).toNat = 1 + k + i by omega]
                  rw [hlt9] at HSI
                  clear hlt9
                  generalize bytesOf ⟨(c : Int), ra, rbb, rc, (acc : Int)⟩ = BI at *
                  obtain ⟨LT, hLT⟩ : ∃ LT, l.take (1 + k + i) = LT := ⟨_, rfl⟩
                  rw [hLT] at HEX HSL HSI
                  clear hLT
                  have hatl : 1 + k + i ≤ cp := by omega
                  have hati : ((1 + k + i : Nat) : Int) ≤ (cp : Int) := by omega
                  have hati2 : 1 + (k : Int) + (i : Int) ≤ (cp : Int) := by omega
                  have hati0 : 0 ≤ 1 + (k : Int) + (i : Int) := by omega
                  have hatg : decide ((l.length : Int) < 1 + (k : Int) + (i : Int)) = false := decide_eq_false (by omega)
                  by_cases heq : BI = LT
                  · subst heq
                    have HE := Lib.hid (HEX.out.trans (if_pos rfl))
                    clear HEX
                    go_wp2_with fail
                    refine wp_region_noPanic ?_
                    refine wp_region_held_drew (S := fun w' => w'.cell? ⟨q, 0, none⟩ = some (.int .i64 (c : Int)) ∧ w'.cell? ⟨q, 1, none⟩ = some (.int .i64 ra) ∧ w'.cell? ⟨q, 2, none⟩ = some (.int .i64 rbb) ∧ w'.cell? ⟨q, 3, none⟩ = some (.int .i64 rc) ∧ w'.cell? ⟨q, 4, none⟩ = some (.int .u64 (acc : Int)) ∧ (convert 59 9 (.slice (some ⟨b, o, none⟩) (1 + (k : Int) + (i : Int)).toNat cp)).run Tryd.prog w' = .ok (.string ⟨(BI).toArray⟩) w') (by kernel_rfl) ⟨i0, i1, i2, i3, i4, HSI.out _ UUi.out.drew⟩ (fun hH0 => ?_)
                    refine takeH 0 99 (v := ?_) rfl rfl (by kernel_rfl) (by kernel_rfl) (by kernel_rfl) (fun _ _ _ h => h) (Or.inl ⟨by rfl, ?_⟩) hH0 ?_
                    rotate_left 1
                    · ((intro w hSw; (try dsimp only at hSw); go_simp); try with_reducible rfl)
                    try simp only [Act.put, List.setIfInBounds_toArray, List.set_cons_zero, List.set_cons_succ]
                    refine wpAnyH_ready (rs := [1]) (by kernel_rfl) (by simp) ?_
                    refine AllReadyH.cons rfl (fun K2 hK2 => ?_) AllReadyH.nil
                    go_simp
                    refine (HFo _).mono ?_
                    rintro e w9 ⟨rfl, u9⟩
                    have HU9 := Lib.hid (UUi.out.trans ((Upd.refl [] _).drew.trans u9))
                    have HB9 := Lib.hid (HB.out.upd ((Upd.refl [] _).drew.trans u9) (by simp))
                    have HR9 := Lib.hid (HRR.out.upd ((Upd.refl [] _).drew.trans u9) (by simp))
                    refine hK2.out _ _ ⟨HB9.out.cell 0 rfl, HB9.out.cell 1 rfl, HB9.out.cell 2 rfl, HB9.out.cell 3 rfl, HB9.out.cell 4 rfl, HSI.out _ HU9.out⟩ (fun hH1 => ?_)
                    clear hK2 K2 hH0 u9 i0 i1 i2 i3 i4
                    try simp only [Act.put, List.setIfInBounds_toArray, List.set_cons_zero, List.set_cons_succ]
                    refine takeH 2 101 (v := ?_) rfl rfl (by kernel_rfl) (by kernel_rfl) (by kernel_rfl) (fun _ _ _ h => h) (Or.inl ⟨by rfl, ?_⟩) hH1 ?_
                    rotate_left 1
                    · ((intro w hSw; (try dsimp only at hSw); go_simp); try with_reducible rfl)
                    try simp only [Act.put, List.setIfInBounds_toArray, List.set_cons_zero, List.set_cons_succ]
                    refine takeH 3 102 (v := ?_) rfl rfl (by kernel_rfl) (by kernel_rfl) (by kernel_rfl) (fun _ _ _ h => h) (Or.inl ⟨by rfl, ?_⟩) hH1 ?_
                    rotate_left 1
                    · ((intro w hSw; (try dsimp only at hSw); go_simp); try with_reducible rfl)
                    try simp only [Act.put, List.setIfInBounds_toArray, List.set_cons_zero, List.set_cons_succ]
                    refine takeH 4 103 (v := ?_) rfl rfl (by kernel_rfl) (by kernel_rfl) (by kernel_rfl) (fun _ _ _ h => h) (Or.inl ⟨by rfl, ?_⟩) hH1 ?_
                    rotate_left 1
                    · ((intro w hSw; (try dsimp only at hSw); go_simp); try with_reducible rfl)
                    try simp only [Act.put, List.setIfInBounds_toArray, List.set_cons_zero, List.set_cons_succ]
                    refine takeH 5 104 (v := ?_) rfl rfl (by kernel_rfl) (by kernel_rfl) (by kernel_rfl) (fun _ _ _ h => h) (Or.inl ⟨by rfl, ?_⟩) hH1 ?_
                    rotate_left 1
                    · ((intro w hSw; (try dsimp only at hSw); go_simp); try with_reducible rfl)
                    try simp only [Act.put, List.setIfInBounds_toArray, List.set_cons_zero, List.set_cons_succ]
                    refine takeH 6 105 (v := ?_) rfl rfl (by kernel_rfl) (by kernel_rfl) (by kernel_rfl) (fun _ _ _ h => h) (Or.inl ⟨by rfl, ?_⟩) hH1 ?_
                    rotate_left 1
                    · ((intro w hSw; (try dsimp only at hSw); go_simp); try with_reducible rfl)
                    try simp only [Act.put, List.setIfInBounds_toArray, List.set_cons_zero, List.set_cons_succ]
                    refine takeH 7 106 (v := ?_) rfl rfl (by kernel_rfl) (by kernel_rfl) (by kernel_rfl) (fun _ _ _ h => h) (Or.inl ⟨by rfl, ?_⟩) hH1 ?_
                    rotate_left 1
                    · ((intro w hSw; (try dsimp only at hSw); go_simp); try with_reducible rfl)
                    try simp only [Act.put, List.setIfInBounds_toArray, List.set_cons_zero, List.set_cons_succ]
                    refine takeH 8 107 (v := ?_) rfl rfl (by kernel_rfl) (by kernel_rfl) (by kernel_rfl) (fun _ _ _ h => h) (Or.inl ⟨by rfl, ?_⟩) hH1 ?_
                    rotate_left 1
                    · ((intro w hSw; (try dsimp only at hSw); go_simp); try with_reducible rfl)
                    try simp only [Act.put, List.setIfInBounds_toArray, List.set_cons_zero, List.set_cons_succ]
                    refine takeH 9 108 (v := ?_) rfl rfl (by kernel_rfl) (by kernel_rfl) (by kernel_rfl) (fun _ _ _ h => h) (Or.inl ⟨by rfl, ?_⟩) hH1 ?_
                    rotate_left 1
                    · ((intro w hSw; (try dsimp only at hSw); go_simp); try with_reducible rfl)
                    try simp only [Act.put, List.setIfInBounds_toArray, List.set_cons_zero, List.set_cons_succ]
                    refine takeH 10 109 (v := ?_) rfl rfl (by kernel_rfl) (by kernel_rfl) (by kernel_rfl) (fun _ _ _ h => h) (Or.inl ⟨by rfl, ?_⟩) hH1 ?_
                    rotate_left 1
                    · ((intro w hSw; (try dsimp only at hSw); go_simp); try with_reducible rfl)
                    try simp only [Act.put, List.setIfInBounds_toArray, List.set_cons_zero, List.set_cons_succ]
                    refine takeH 13 112 (v := ?_) rfl rfl (by kernel_rfl) (by kernel_rfl) (by kernel_rfl) (fun _ _ _ h => h) (Or.inl ⟨by rfl, ?_⟩) hH1 ?_
                    rotate_left 1
                    · ((intro w hSw; (try dsimp only at hSw); go_simp); try with_reducible rfl)
                    try simp only [Act.put, List.setIfInBounds_toArray, List.set_cons_zero, List.set_cons_succ]
                    refine takeH 14 113 (v := ?_) rfl rfl (by kernel_rfl) (by kernel_rfl) (by kernel_rfl) (fun _ _ _ h => h) (Or.inl ⟨by rfl, ?_⟩) hH1 ?_
                    rotate_left 1
                    · ((intro w hSw; (try dsimp only at hSw); go_simp); try with_reducible rfl)
                    try simp only [Act.put, List.setIfInBounds_toArray, List.set_cons_zero, List.set_cons_succ]
                    refine takeH 15 114 (v := ?_) rfl rfl (by kernel_rfl) (by kernel_rfl) (by kernel_rfl) (fun _ _ _ h => h) (Or.inl ⟨by rfl, ?_⟩) hH1 ?_
                    rotate_left 1
                    · ((intro w hSw; (try dsimp only at hSw); go_simp); try with_reducible rfl)
                    try simp only [Act.put, List.setIfInBounds_toArray, List.set_cons_zero, List.set_cons_succ]
                    refine takeH 16 115 (v := ?_) rfl rfl (by kernel_rfl) (by kernel_rfl) (by kernel_rfl) (fun _ _ _ h => h) (Or.inl ⟨by rfl, ?_⟩) hH1 ?_
                    rotate_left 1
                    · ((intro w hSw; (try dsimp only at hSw); go_simp); try with_reducible rfl)
                    try simp only [Act.put, List.setIfInBounds_toArray, List.set_cons_zero, List.set_cons_succ]
                    refine wpAnyH_ready (rs := [11]) (by kernel_rfl) (by simp) ?_
                    refine AllReadyH.cons rfl (fun K3 hK3 => ?_) AllReadyH.nil
                    go_simp
                    refine (HBy _).mono ?_
                    rintro e w8 ⟨v8, rfl, ob8, u8⟩
                    have cvo := conv_own ob8
                    have HU8 := Lib.hid (HU9.out.trans u8)
                    have HB8 := Lib.hid (HB9.out.upd u8 (by simp))
                    have HR8 := Lib.hid (HR9.out.upd u8 (by simp))
                    refine hK3.out _ _ ⟨HB8.out.cell 0 rfl, HB8.out.cell 1 rfl, HB8.out.cell 2 rfl, HB8.out.cell 3 rfl, HB8.out.cell 4 rfl, HSI.out _ HU8.out⟩ (fun hH2 => ?_)
                    clear hK3 K3 hH1 u8 ob8
                    try simp only [Act.put, List.setIfInBounds_toArray, List.set_cons_zero, List.set_cons_succ]
                    refine wpAnyH_ready (rs := [12]) (by kernel_rfl) (by simp) ?_
                    refine AllReadyH.cons rfl (fun K4 hK4 => ?_) AllReadyH.nil
                    go_simp
                    refine hK4.out _ _ hH2 (fun _ => ?_)
                    clear hK4 K4
                    try simp only [Act.put, List.setIfInBounds_toArray, List.set_cons_zero, List.set_cons_succ]
                    refine takeH 17 116 (v := ?_) rfl rfl (by kernel_rfl) (by kernel_rfl) (by kernel_rfl) (fun _ _ _ h => h) (Or.inl ⟨by rfl, ?_⟩) hH2 ?_
                    rotate_left 1
                    · ((intro w hSw; (try dsimp only at hSw); go_simp); try with_reducible rfl)
                    try simp only [Act.put, List.setIfInBounds_toArray, List.set_cons_zero, List.set_cons_succ]
                    refine takeH 18 117 (v := ?_) rfl rfl (by kernel_rfl) (by kernel_rfl) (by kernel_rfl) (fun _ _ _ h => h) (Or.inl ⟨by rfl, ?_⟩) hH2 ?_
                    rotate_left 1
                    · ((intro w hSw; (try dsimp only at hSw); go_simp); try with_reducible rfl)
                    try simp only [Act.put, List.setIfInBounds_toArray, List.set_cons_zero, List.set_cons_succ]
                    refine wpAnyH_done (by kernel_rfl) ?_ _
                    refine NoPanic.normal ?_
                    clear cvo hH2 HB9 HR9 HU9
                    have l0 := HB8.out.cell 0 rfl
                    have l1 := HB8.out.cell 1 rfl
                    have l2 := HB8.out.cell 2 rfl
                    have l3 := HB8.out.cell 3 rfl
                    have l4 := HB8.out.cell 4 rfl
                    all_goals
                      have r0 := (HR8.out).cell 0 rfl
                      have r1 := (HR8.out).cell 1 rfl
                      have r2 := (HR8.out).cell 2 rfl
                      have r3 := (HR8.out).cell 3 rfl
                      have r4 := (HR8.out).cell 4 rfl
                      have q0 := (HR8.out).free 0
                      have q1 := (HR8.out).free 1
                      have q2 := (HR8.out).free 2
                      have q3 := (HR8.out).free 3
                      have q4 := (HR8.out).free 4
                      go_wp2_with fail
                      rw [← HQ.out]
                      refine bodyPost_ret (cell5_results3r rfl _ _ rb _ _ _ _ _ _ _ rfl rfl rfl ((((((HR8.out).set 0 _).set 1 _).set 2 _).set 3 _).set 4 _)) rfl (hK _ _ ?_)
                      exact .inl ⟨⟨c, ra, rbb, rc, (acc : Int)⟩, 1 + k + i, HE.out, by rw [show (((1 + k + i : Nat)) : Int) = 1 + (k : Int) + (i : Int) from by omega]; rfl, by (repeat (refine Upd.setCell ?_ (Or.inr (by dsimp only; omega)) _)); exact HU8.out⟩
                  · have HE := Lib.hid (HEX.out.trans (if_neg heq))
                    have hbn : (BI == LT) = false := by simpa using heq
                    clear HEX heq
                    go_wp2_with fail
                    refine wp_region_noPanic ?_
                    refine wp_region_held_drew (S := fun w' => w'.cell? ⟨q, 0, none⟩ = some (.int .i64 (c : Int)) ∧ w'.cell? ⟨q, 1, none⟩ = some (.int .i64 ra) ∧ w'.cell? ⟨q, 2, none⟩ = some (.int .i64 rbb) ∧ w'.cell? ⟨q, 3, none⟩ = some (.int .i64 rc) ∧ w'.cell? ⟨q, 4, none⟩ = some (.int .u64 (acc : Int)) ∧ (convert 59 9 (.slice (some ⟨b, o, none⟩) (1 + (k : Int) + (i : Int)).toNat cp)).run Tryd.prog w' = .ok (.string ⟨(LT).toArray⟩) w') (by kernel_rfl) ⟨i0, i1, i2, i3, i4, HSI.out _ UUi.out.drew⟩ (fun hH0 => ?_)
                    refine takeH 0 99 (v := ?_) rfl rfl (by kernel_rfl) (by kernel_rfl) (by kernel_rfl) (fun _ _ _ h => h) (Or.inl ⟨by rfl, ?_⟩) hH0 ?_
                    rotate_left 1
                    · ((intro w hSw; (try dsimp only at hSw); go_simp); try with_reducible rfl)
                    try simp only [Act.put, List.setIfInBounds_toArray, List.set_cons_zero, List.set_cons_succ]
                    refine wpAnyH_ready (rs := [1]) (by kernel_rfl) (by simp) ?_
                    refine AllReadyH.cons rfl (fun K2 hK2 => ?_) AllReadyH.nil
                    go_simp
                    refine (HFo _).mono ?_
                    rintro e w9 ⟨rfl, u9⟩
                    have HU9 := Lib.hid (UUi.out.trans ((Upd.refl [] _).drew.trans u9))
                    have HB9 := Lib.hid (HB.out.upd ((Upd.refl [] _).drew.trans u9) (by simp))
                    have HR9 := Lib.hid (HRR.out.upd ((Upd.refl [] _).drew.trans u9) (by simp))
                    refine hK2.out _ _ ⟨HB9.out.cell 0 rfl, HB9.out.cell 1 rfl, HB9.out.cell 2 rfl, HB9.out.cell 3 rfl, HB9.out.cell 4 rfl, HSI.out _ HU9.out⟩ (fun hH1 => ?_)
                    clear hK2 K2 hH0 u9 i0 i1 i2 i3 i4
                    try simp only [Act.put, List.setIfInBounds_toArray, List.set_cons_zero, List.set_cons_succ]
                    refine takeH 2 101 (v := ?_) rfl rfl (by kernel_rfl) (by kernel_rfl) (by kernel_rfl) (fun _ _ _ h => h) (Or.inl ⟨by rfl, ?_⟩) hH1 ?_
                    rotate_left 1
                    · ((intro w hSw; (try dsimp only at hSw); go_simp); try with_reducible rfl)
                    try simp only [Act.put, List.setIfInBounds_toArray, List.set_cons_zero, List.set_cons_succ]
                    refine takeH 3 102 (v := ?_) rfl rfl (by kernel_rfl) (by kernel_rfl) (by kernel_rfl) (fun _ _ _ h => h) (Or.inl ⟨by rfl, ?_⟩) hH1 ?_
                    rotate_left 1
                    · ((intro w hSw; (try dsimp only at hSw); go_simp); try with_reducible rfl)
                    try simp only [Act.put, List.setIfInBounds_toArray, List.set_cons_zero, List.set_cons_succ]
                    refine takeH 4 103 (v := ?_) rfl rfl (by kernel_rfl) (by kernel_rfl) (by kernel_rfl) (fun _ _ _ h => h) (Or.inl ⟨by rfl, ?_⟩) hH1 ?_
                    rotate_left 1
                    · ((intro w hSw; (try dsimp only at hSw); go_simp); try with_reducible rfl)
                    try simp only [Act.put, List.setIfInBounds_toArray, List.set_cons_zero, List.set_cons_succ]
                    refine takeH 5 104 (v := ?_) rfl rfl (by kernel_rfl) (by kernel_rfl) (by kernel_rfl) (fun _ _ _ h => h) (Or.inl ⟨by rfl, ?_⟩) hH1 ?_
                    rotate_left 1
                    · ((intro w hSw; (try dsimp only at hSw); go_simp); try with_reducible rfl)
                    try simp only [Act.put, List.setIfInBounds_toArray, List.set_cons_zero, List.set_cons_succ]
                    refine takeH 6 105 (v := ?_) rfl rfl (by kernel_rfl) (by kernel_rfl) (by kernel_rfl) (fun _ _ _ h => h) (Or.inl ⟨by rfl, ?_⟩) hH1 ?_
                    rotate_left 1
                    · ((intro w hSw; (try dsimp only at hSw); go_simp); try with_reducible rfl)
                    try simp only [Act.put, List.setIfInBounds_toArray, List.set_cons_zero, List.set_cons_succ]
                    refine takeH 7 106 (v := ?_) rfl rfl (by kernel_rfl) (by kernel_rfl) (by kernel_rfl) (fun _ _ _ h => h) (Or.inl ⟨by rfl, ?_⟩) hH1 ?_
                    rotate_left 1
                    · ((intro w hSw; (try dsimp only at hSw); go_simp); try with_reducible rfl)
                    try simp only [Act.put, List.setIfInBounds_toArray, List.set_cons_zero, List.set_cons_succ]
                    refine takeH 8 107 (v := ?_) rfl rfl (by kernel_rfl) (by kernel_rfl) (by kernel_rfl) (fun _ _ _ h => h) (Or.inl ⟨by rfl, ?_⟩) hH1 ?_
                    rotate_left 1
                    · ((intro w hSw; (try dsimp only at hSw); go_simp); try with_reducible rfl)
                    try simp only [Act.put, List.setIfInBounds_toArray, List.set_cons_zero, List.set_cons_succ]
                    refine takeH 9 108 (v := ?_) rfl rfl (by kernel_rfl) (by kernel_rfl) (by kernel_rfl) (fun _ _ _ h => h) (Or.inl ⟨by rfl, ?_⟩) hH1 ?_
                    rotate_left 1
                    · ((intro w hSw; (try dsimp only at hSw); go_simp); try with_reducible rfl)
                    try simp only [Act.put, List.setIfInBounds_toArray, List.set_cons_zero, List.set_cons_succ]
                    refine takeH 10 109 (v := ?_) rfl rfl (by kernel_rfl) (by kernel_rfl) (by kernel_rfl) (fun _ _ _ h => h) (Or.inl ⟨by rfl, ?_⟩) hH1 ?_
                    rotate_left 1
                    · ((intro w hSw; (try dsimp only at hSw); go_simp); try with_reducible rfl)
                    try simp only [Act.put, List.setIfInBounds_toArray, List.set_cons_zero, List.set_cons_succ]
                    refine takeH 13 112 (v := ?_) rfl rfl (by kernel_rfl) (by kernel_rfl) (by kernel_rfl) (fun _ _ _ h => h) (Or.inl ⟨by rfl, ?_⟩) hH1 ?_
                    rotate_left 1
                    · ((intro w hSw; (try dsimp only at hSw); go_simp); try with_reducible rfl)
                    try simp only [Act.put, List.setIfInBounds_toArray, List.set_cons_zero, List.set_cons_succ]
                    refine takeH 14 113 (v := ?_) rfl rfl (by kernel_rfl) (by kernel_rfl) (by kernel_rfl) (fun _ _ _ h => h) (Or.inl ⟨by rfl, ?_⟩) hH1 ?_
                    rotate_left 1
                    · ((intro w hSw; (try dsimp only at hSw); go_simp); try with_reducible rfl)
                    try simp only [Act.put, List.setIfInBounds_toArray, List.set_cons_zero, List.set_cons_succ]
                    refine takeH 15 114 (v := ?_) rfl rfl (by kernel_rfl) (by kernel_rfl) (by kernel_rfl) (fun _ _ _ h => h) (Or.inl ⟨by rfl, ?_⟩) hH1 ?_
                    rotate_left 1
                    · ((intro w hSw; (try dsimp only at hSw); go_simp); try with_reducible rfl)
                    try simp only [Act.put, List.setIfInBounds_toArray, List.set_cons_zero, List.set_cons_succ]
                    refine takeH 16 115 (v := ?_) rfl rfl (by kernel_rfl) (by kernel_rfl) (by kernel_rfl) (fun _ _ _ h => h) (Or.inl ⟨by rfl, ?_⟩) hH1 ?_
                    rotate_left 1
                    · ((intro w hSw; (try dsimp only at hSw); go_simp); try with_reducible rfl)
                    try simp only [Act.put, List.setIfInBounds_toArray, List.set_cons_zero, List.set_cons_succ]
                    refine wpAnyH_ready (rs := [11]) (by kernel_rfl) (by simp) ?_
                    refine AllReadyH.cons rfl (fun K3 hK3 => ?_) AllReadyH.nil
                    go_simp
                    refine (HBy _).mono ?_
                    rintro e w8 ⟨v8, rfl, ob8, u8⟩
                    have cvo := conv_own ob8
                    have HU8 := Lib.hid (HU9.out.trans u8)
                    have HB8 := Lib.hid (HB9.out.upd u8 (by simp))
                    have HR8 := Lib.hid (HR9.out.upd u8 (by simp))
                    refine hK3.out _ _ ⟨HB8.out.cell 0 rfl, HB8.out.cell 1 rfl, HB8.out.cell 2 rfl, HB8.out.cell 3 rfl, HB8.out.cell 4 rfl, HSI.out _ HU8.out⟩ (fun hH2 => ?_)
                    clear hK3 K3 hH1 u8 ob8
                    try simp only [Act.put, List.setIfInBounds_toArray, List.set_cons_zero, List.set_cons_succ]
                    refine wpAnyH_ready (rs := [12]) (by kernel_rfl) (by simp) ?_
                    refine AllReadyH.cons rfl (fun K4 hK4 => ?_) AllReadyH.nil
                    go_simp
                    refine hK4.out _ _ hH2 (fun _ => ?_)
                    clear hK4 K4
                    try simp only [Act.put, List.setIfInBounds_toArray, List.set_cons_zero, List.set_cons_succ]
                    refine takeH 17 116 (v := ?_) rfl rfl (by kernel_rfl) (by kernel_rfl) (by kernel_rfl) (fun _ _ _ h => h) (Or.inl ⟨by rfl, ?_⟩) hH2 ?_
                    rotate_left 1
                    · ((intro w hSw; (try dsimp only at hSw); go_simp); try with_reducible rfl)
                    try simp only [Act.put, List.setIfInBounds_toArray, List.set_cons_zero, List.set_cons_succ]
                    refine takeH 18 117 (v := ?_) rfl rfl (by kernel_rfl) (by kernel_rfl) (by kernel_rfl) (fun _ _ _ h => h) (Or.inl ⟨by rfl, ?_⟩) hH2 ?_
                    rotate_left 1
                    · ((intro w hSw; (try dsimp only at hSw); go_simp); try with_reducible rfl)
                    try simp only [Act.put, List.setIfInBounds_toArray, List.set_cons_zero, List.set_cons_succ]
                    refine wpAnyH_done (by kernel_rfl) ?_ _
                    refine NoPanic.normal ?_
                    clear cvo hH2 HB9 HR9 HU9
                    have l0 := HB8.out.cell 0 rfl
                    have l1 := HB8.out.cell 1 rfl
                    have l2 := HB8.out.cell 2 rfl
                    have l3 := HB8.out.cell 3 rfl
                    have l4 := HB8.out.cell 4 rfl
                    all_goals
                      have r0 := (HR8.out).cell 0 rfl
                      have r1 := (HR8.out).cell 1 rfl
                      have r2 := (HR8.out).cell 2 rfl
                      have r3 := (HR8.out).cell 3 rfl
                      have r4 := (HR8.out).cell 4 rfl
                      have q0 := (HR8.out).free 0
                      have q1 := (HR8.out).free 1
                      have q2 := (HR8.out).free 2
                      have q3 := (HR8.out).free 3
                      have q4 := (HR8.out).free 4
                      go_wp2_with fail
                      all_goals
                        rw [← HQ.out]
                        refine bodyPost_ret (cell5_results3r rfl _ _ rb _ _ _ _ _ _ _ rfl rfl rfl ((((((HR8.out).set 0 _).set 1 _).set 2 _).set 3 _).set 4 _)) rfl (hK _ _ ?_)
                        refine .inr ⟨HE.out, ⟨⟨_, _, _, _, _⟩, _, rfl⟩, ?_⟩
                        (repeat (refine Upd.setCell ?_ (Or.inr (by dsimp only; omega)) _))
                        first | exact (HU8).out | exact ((HU8).out.alloc _)
  · have HE : Hid (X = none) := Lib.hid (HX.out.trans (by unfold roneF; rw [if_neg hgo]))
    cases ok with
    | false =>
      go_wp2_with fail
      all_goals
        rw [← HQ.out]
        refine bodyPost_ret (cell5_results3r rfl _ _ rb _ _ _ _ _ _ _ rfl rfl rfl ((((((R1.out).set 0 _).set 1 _).set 2 _).set 3 _).set 4 _)) rfl (hK _ _ ?_)
        refine .inr ⟨HE.out, ⟨⟨_, _, _, _, _⟩, _, rfl⟩, ?_⟩
        (repeat (refine Upd.setCell ?_ (Or.inr (by dsimp only; omega)) _))
        first | exact (U1).out | exact ((U1).out.alloc _)
    | true =>
      have hRl : (l.length : Int) < 1 + (R : Int) := by
        rcases Nat.lt_or_ge R l.length with h | h
        · exact absurd ⟨rfl, h⟩ hgo
        · omega
      clear hgo
      go_wp2_with fail
      all_goals
        rw [← HQ.out]
        refine bodyPost_ret (cell5_results3r rfl _ _ rb _ _ _ _ _ _ _ rfl rfl rfl ((((((R1.out).set 0 _).set 1 _).set 2 _).set 3 _).set 4 _)) rfl (hK _ _ ?_)
        refine .inr ⟨HE.out, ⟨⟨_, _, _, _, _⟩, _, rfl⟩, ?_⟩
        (repeat (refine Upd.setCell ?_ (Or.inr (by dsimp only; omega)) _))
        first | exact (U1).out | exact ((U1).out.alloc _)
end Go.Proofs.YtjcnlfihjfcpoaaDoor
