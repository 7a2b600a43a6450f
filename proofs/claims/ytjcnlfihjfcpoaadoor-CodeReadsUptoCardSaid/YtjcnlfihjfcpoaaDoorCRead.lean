/- Read: the instructions of any bytes. The conditions are sizes. -/
import Derived.Test.YtjcnlfihjfcpoaaDoorCOne
import Derived.Test.YtjcnlfihjfcpoaaDoorCPlain3
import Derived.Test.YtjcnlfihjfcpoaaDoorCJoin
set_option linter.unusedSimpArgs false
set_option linter.unusedVariables false
set_option maxRecDepth 100000
namespace Go.Proofs.YtjcnlfihjfcpoaaDoor
open Go.RowKit

theorem one_at (l : List UInt8) (n : Nat) (p : Option Addr) (cp : Nat) (w : World) (h : SlB w p l) (hn : l.length = n) (hl : 0 < n) (hc : n ≤ cp) (hlb : n < 4611686018427387904) (X : Option (Ins × Nat)) (hX : oneL l = X) : Calls Tryd.prog 41 #[.slice p n cp] w (oneOk w X) := by
  subst hn
  subst hX
  exact one_any l p cp w h hl hc hlb
theorem SlB.drop {w : World} {b o : Nat} {l : List UInt8} (h : SlB w (some ⟨b, o, none⟩) l) (m : Nat) : SlB w (some ⟨b, o + m, none⟩) (l.drop m) := by
  refine ⟨fun _ => ⟨_, _, rfl⟩, fun b' o' e j hj => ?_⟩
  simp only [Option.some.injEq, Addr.mk.injEq, and_true] at e
  obtain ⟨rfl, rfl⟩ := e
  rw [List.length_drop] at hj
  have := h.cells b o rfl (m + j) (by omega)
  rw [Nat.add_assoc, this]
  congr 3
  simp [List.getD, List.getElem?_drop]

/-- what Read answers -/
def readOk (w : World) (okv badv : Value) (X : List Ins × Nat × Bool) (e : Ending) (w' : World) : Prop :=
  (X.2.2 = true ∧ ∃ v, e = .returned (.tuple #[v, .int .i64 (X.2.1 : Int), okv]) ∧ OwnI w' w.heap.size v X.1 ∧ Upd [] w w') ∨
  (X.2.2 = false ∧ e = .returned (.tuple #[.slice none 0 0, .int .i64 (X.2.1 : Int), badv]) ∧ Upd [] w w')

set_option maxHeartbeats 4000000 in
theorem read_code (l : List UInt8) (p : Option Addr) (cp : Nat) (w : World) (h : SlB w p l) (hc : l.length ≤ cp) (hlb : l.length < 4611686018427387904) (hN : (readL l).1.length * 40 ≤ 140737488351232) :
    Calls Tryd.prog 31 #[.slice p l.length cp] w (readOk w (.int .i64 0) (.int .i64 180) (readL l)) := by
  obtain ⟨i0, hi, hz0, hz1, hz2⟩ := info_parts info_instr
  obtain ⟨X, hX⟩ : ∃ X, readL l = X := ⟨_, rfl⟩
  rw [hX] at hN ⊢
  have HX := Lib.hid hX
  clear hX
  refine calls_all fun K hK => ?_
  go_enter Tryd.func31, Tryd.ntmps31
  go_wp2_with fail
  go_loopw [5, 6] (fun v5 v6 wr => ∃ (m : Nat) (L : List Ins), m ≤ l.length ∧ v6 = .int .i64 m ∧ OwnI wr w.heap.size v5 L ∧ Upd [] w wr ∧ X = (L ++ (readL (l.drop m)).1, m + (readL (l.drop m)).2.1, (readL (l.drop m)).2.2)) (fun _ v6 _ => l.length - (intOf v6).toNat)
  case atStart => exact ⟨0, [], by omega, rfl, World.ownsRow_nil _ _ _ _, Upd.refl _ _, by rw [List.drop_zero, HX.out]; simp⟩
  case round =>
    obtain ⟨m, L, hm, rfl, ho, hu, hx⟩ := hrel
    have HO := Lib.hid ho
    have HU := Lib.hid hu
    have HXX := Lib.hid hx
    clear ho hu hx
    by_cases hlt : m < l.length
    · have hlt' : (m : Int) < (l.length : Int) := by omega
      have hmc : (m : Int) ≤ (cp : Int) := by omega
      obtain ⟨b, o, rfl⟩ := h.ne (by rintro rfl; simp at hlt)
      obtain ⟨d, hd⟩ : ∃ d, l.drop m = d := ⟨_, rfl⟩
      have hdl : Hid (d.length = l.length - m) := Lib.hid (by rw [← hd, List.length_drop])
      have hdne : d ≠ [] := by intro e; have := hdl.out; rw [e] at this; simp at this; omega
      have hS : SlB wr (some ⟨b, o + m, none⟩) d := hd ▸ (h.upd HU.out (by simp)).drop m
      have HS := Lib.hid hS
      have HDD := Lib.hid hd
      have HXD : Hid (X = (L ++ (readL d).1, m + (readL d).2.1, (readL d).2.2)) := Lib.hid (by have := HXX.out; rw [hd] at this; exact this)
      have hnk : ¬ m = cp := by omega
      clear hS hd
      cases hone : oneL d with
      | none =>
        have HE := Lib.hid (readL_no hdne hone)
        have HONE := Lib.hid hone
        have hcall := fun w' h' => one_at d (l.length - m) (some ⟨b, o + m, none⟩) (cp - m) w' h' hdl.out (by omega) (by omega) (by omega) none HONE.out
        clear hone hdne
        go_wp2_with fail
        refine (hcall _ HS.out).mono ?_
        rintro e w1 (⟨x, n, hx, _⟩ | ⟨_, ⟨v, n, rfl⟩, u1⟩)
        · cases hx
        · obtain ⟨op, xa, xb, xc, xn⟩ := v
          simp only [Ins.val]
          have HU1 := Lib.hid ((HU.out.trans u1).alloc (.cells #[.int .i64 op, .int .i64 xa, .int .i64 xb, .int .i64 xc, .int .u64 xn] 38))
          clear u1
          have HF : Hid (X.2.2 = false ∧ (X.2.1 : Int) = m) := Lib.hid (by rw [HXD.out, HE.out]; exact ⟨rfl, by simp⟩)
          go_wp2_with fail
          all_goals exact .inr ⟨HF.out.1, by rw [HF.out.2], HU1.out⟩
      | some y =>
        obtain ⟨x, n⟩ := y
        have HE := Lib.hid (readL_one hdne hone)
        obtain ⟨_, _, hnb, r, hr⟩ := one_says (List.length_pos_iff.2 hdne) hone
        have hpos := bytesOf_pos x
        have hn1 : 1 ≤ n := by omega
        have hmn : m + n ≤ l.length := by have := congrArg List.length hr; rw [List.length_append, hdl.out] at this; omega
        have HONE := Lib.hid hone
        have hcall := fun w' h' => one_at d (l.length - m) (some ⟨b, o + m, none⟩) (cp - m) w' h' hdl.out (by omega) (by omega) (by omega) (some (x, n)) HONE.out
        have hLl : Hid ((L.length + 1) * 40 ≤ 140737488351232) := Lib.hid (by
          have h1 := HXD.out
          rw [HE.out] at h1
          have h2 := congrArg (fun z : List Ins × Nat × Bool => z.1.length) h1
          simp only [List.length_append, List.length_cons] at h2
          omega)
        have HNX : Hid (X = ((L ++ [x]) ++ (readL (l.drop (m + n))).1, (m + n) + (readL (l.drop (m + n))).2.1, (readL (l.drop (m + n))).2.2)) := Lib.hid (by
          rw [HXD.out, HE.out, ← HDD.out, List.drop_drop]
          simp [Nat.add_assoc])
        clear hone hdne hr hnb
        go_wp2_with fail
        refine (hcall _ HS.out).mono ?_
        rintro e w1 (⟨x', n', hx, rfl, u1⟩ | ⟨hx, _⟩)
        · simp only [Option.some.injEq, Prod.mk.injEq] at hx
          obtain ⟨rfl, rfl⟩ := hx
          have HO1 := Lib.hid (own_upd HO.out u1 (by simp))
          have hB1 := Blk.new w1 x.cells 38
          have HU1 := Lib.hid ((HU.out.trans u1).alloc (.cells x.cells.toArray 38))
          have hws := HU1.out.size
          obtain ⟨op, xa, xb, xc, xn⟩ := x
          simp only [Ins.cells, World.size_alloc] at hws
          simp only [Ins.cells] at hB1 HU1
          simp only [Ins.val]
          have r0 := hB1.cell 0 rfl
          have r1 := hB1.cell 1 rfl
          have r2 := hB1.cell 2 rfl
          have r3 := hB1.cell 3 rfl
          have r4 := hB1.cell 4 rfl
          clear u1 hB1
          go_wp2_with (at_builtin; (refine wpList_append_own _ rfl (.tmp 25) (.tmp 27) 50 rfl w.heap.size 38 i0 (.agg #[.int .i64 0, .int .i64 0, .int .i64 0, .int .i64 0, .int .u64 0]) 5 40 Tryd.underlying50 hi hz0 hz1 hz2 rfl (by decide) _ _ _ rfl ((HO1.out.alloc _).alloc _) ⟨_, 0, none⟩ 1 1 _ rfl rfl (news_new _ 38 (by simp)) (by simp [Value.oneCell']) (by unfold maxLen; have := hLl.out; omega) (by have := hLl.out; omega) (by simp; omega) ?_); intro v3 w3 ho3 hg3 _)
          have HU3 := Lib.hid ((HU1.out.alloc _).tr (U := []) (Upd.own hg3) (by simp) (fun g hg => .inr (own_blocks HO1.out g hg).1))
          have HO3 := Lib.hid (own_pushI ⟨op, xa, xb, xc, xn⟩ ho3)
          clear ho3 hg3
          go_wp2_with fail
          go_roundw
          case rel => exact ⟨m + n, _, by omega, by go_num, HO3.out, HU3.out, HNX.out⟩
          case measure => simp [intOf]; omega
        · cases hx
    · obtain rfl : m = l.length := by omega
      have HF : Hid (X = (L, l.length, true)) := Lib.hid (by rw [HXX.out, List.drop_length, readL_nil]; simp)
      go_wp2_with fail
      all_goals
        rw [HF.out]
        exact .inl ⟨rfl, _, rfl, HO.out, HU.out⟩
end Go.Proofs.YtjcnlfihjfcpoaaDoor
