/- The law's over, walked. The conditions are sizes. The law's again: what its calls leave. The conditions are sizes. The law's again: an attempt goes on from its own state. No condition. The law's others: what somebody else does, on both halves. The conditions are sizes. -/
import Derived.Test.YthfeljongackcaaM7p32
set_option linter.unusedSimpArgs false
set_option linter.unusedVariables false
set_option maxRecDepth 100000
namespace Go.Proofs.Ythfeljongackcaa
open Go.RowKit
open Go.Maps
-- a round that writes one cell
theorem updN (w : World) (n : Nat) : Upd [] w (w.drewN n) := ⟨rfl, rfl, rfl, Nat.le_refl _, fun _ _ _ => rfl⟩
theorem OwnP.form3 {w : World} {v : Value} {l : List (Int × Int)} {F : List Nat} (h : OwnP w v l F) : ∃ p n c, v = .slice p n c ∧ n = l.length := let ⟨p, c, e⟩ := h.form; ⟨p, _, c, e, rfl⟩
set_option maxHeartbeats 1000000 in
theorem grown_code (w : World) (s : AS) (rv wv : Value) (F1 F2 : List Nat) (h1 : OwnP w rv s.reads F1) (h2 : OwnP w wv s.writes F2) (ap : ∀ g, rv.ownBlock = some g → wv.ownBlock ≠ some g) (hl1 : (s.reads.length + 31) * 16 ≤ 140737488355328) (hl2 : (s.writes.length + 31) * 16 ≤ 140737488355328) :
    Calls Try.prog 27 #[stateV s rv wv] w fun e w' => e = .returned (.bool true) ∧ Upd (rv.ownBlock.toList ++ wv.ownBlock.toList) w w' := by
  have hlt1 : ∀ g, rv.ownBlock = some g → g < w.heap.size := fun g hg => h1.lt hg
  have hlt2 : ∀ g, wv.ownBlock = some g → g < w.heap.size := fun g hg => h2.lt hg
  obtain ⟨sn, rd, wl, ph, th, ad, wo, fo, at_⟩ := s
  dsimp only at h1 h2 hl1 hl2
  simp only [stateV]
  obtain ⟨W1, hW1⟩ : ∃ W1, (w.alloc (.cells #[.int .u64 sn, rv, wv, .int .i64 ph, .int .i64 th, .int .u64 ad, .int .u64 wo, .int .u64 fo, .int .i64 at_] 60)).alloc (.cells #[.int .u64 0, .int .u64 0] 53) = W1 := ⟨_, rfl⟩
  have uW : Upd [] w W1 := by rw [← hW1]; exact ((Upd.refl [] _).alloc _).alloc _
  have BW : Blk W1 w.heap.size [.int .u64 sn, rv, wv, .int .i64 ph, .int .i64 th, .int .u64 ad, .int .u64 wo, .int .u64 fo, .int .i64 at_] 60 := by rw [← hW1]; exact (Blk.new w _ _).alloc _
  have MW : Blk W1 (w.heap.size + 1) [.int .u64 0, .int .u64 0] 53 := by
    have := Blk.new (w.alloc (.cells #[.int .u64 sn, rv, wv, .int .i64 ph, .int .i64 th, .int .u64 ad, .int .u64 wo, .int .u64 fo, .int .i64 at_] 60)) [.int .u64 0, .int .u64 0] 53
    rw [World.size_alloc] at this
    rw [← hW1]; exact this
  have um : Upd [w.heap.size + 1] W1 ((W1.setCell ⟨w.heap.size + 1, 0, none⟩ (.int .u64 991)).setCell ⟨w.heap.size + 1, 1, none⟩ (.int .u64 992)) := ((Upd.refl _ _).setCell (.inl (by simp)) _).setCell (.inl (by simp)) _
  have O0 : Ov w w.heap.size (w.heap.size + 1) [.int .u64 sn, rv, wv, .int .i64 ph, .int .i64 th, .int .u64 ad, .int .u64 wo, .int .u64 fo, .int .i64 at_] rv wv rv wv rd wl ((W1.setCell ⟨w.heap.size + 1, 0, none⟩ (.int .u64 991)).setCell ⟨w.heap.size + 1, 1, none⟩ (.int .u64 992)) := by
    have a1 : ∀ g ∈ [w.heap.size + 1], rv.ownBlock ≠ some g := fun g hg e => by simp at hg; have := hlt1 g e; omega
    have a2 : ∀ g ∈ [w.heap.size + 1], wv.ownBlock ≠ some g := fun g hg e => by simp at hg; have := hlt2 g e; omega
    have b1 := (h1.upd uW (by simp)).upd um a1
    have b2 := (h2.upd uW (by simp)).upd um a2
    exact ⟨⟨b1.own, b1.nil, fun g hg => by simp [hg]⟩, ⟨b2.own, b2.nil, fun g hg => by simp [hg]⟩, ap, BW.upd um (by simp), (MW.set 0 _).set 1 _, fun e => by have := hlt1 _ e; omega, fun e => by have := hlt2 _ e; omega, by omega, by omega, fun g hg => .inl hg, fun g hg => .inl hg, uW.tr um (by simp) (by simp)⟩
  obtain ⟨p, c, rfl⟩ := h1.form
  obtain ⟨q, d, rfl⟩ := h2.form
  have m0 := MW.cell 0 rfl
  have m1 := MW.cell 1 rfl
  have f0 := MW.free 0
  have f1 := MW.free 1
  clear uW BW MW um h1 h2 ap hlt1 hlt2
  refine calls_all fun K hK => ?_
  go_enter Try.func27, Try.ntmps27
  go_wp2_with fail
  clear hW1 m0 m1 f0 f1
  generalize ((W1.setCell ⟨w.heap.size + 1, 0, none⟩ (.int .u64 991)).setCell ⟨w.heap.size + 1, 1, none⟩ (.int .u64 992)) = W2 at O0 ⊢
  generalize w.heap.size + 1 = mb at O0 ⊢
  generalize hsb : w.heap.size = sb at O0 ⊢
  clear hsb
  have HO := Lib.hid O0
  clear O0
  go_loopw [4] (fun v4 wr => ∃ k : Nat, k ≤ rd.length ∧ v4 = .int .i64 k ∧ Ov w sb mb [.int .u64 sn, .slice p rd.length c, .slice q wl.length d, .int .i64 ph, .int .i64 th, .int .u64 ad, .int .u64 wo, .int .u64 fo, .int .i64 at_] (.slice p rd.length c) (.slice q wl.length d) (.slice p rd.length c) (.slice q wl.length d) (mk2 k rd) wl wr) (fun v4 _ => rd.length - (intOf v4).toNat)
  case atStart => exact ⟨0, by omega, rfl, by rw [mk2_zero]; exact HO.out⟩
  case round =>
    clear HO
    obtain ⟨k, hk, rfl, O⟩ := hrel
    have c1 := O.b.cell 1 rfl
    by_cases hlt : k < rd.length
    · have hlt' : (k : Int) < (rd.length : Int) := by omega
      obtain ⟨g, cap, sp, hv, _, hB, _⟩ := (O.rd).open (fun e => by have := congrArg List.length e; rw [mk2_len hk, List.length_nil] at this; omega)
      simp only [Value.slice.injEq] at hv
      obtain ⟨rfl, -, -⟩ := hv
      have k0 := O.m.cell 0 rfl
      have k1 := O.m.cell 1 rfl
      have hkl : k < (mk2 k rd).length := by rw [mk2_len hk]; omega
      obtain ⟨⟨x, y⟩, hxy⟩ : ∃ z, (mk2 k rd)[k]? = some z := ⟨_, List.getElem?_eq_getElem hkl⟩
      obtain ⟨r0, r1⟩ := pcells_get _ _ _ _ hxy
      have s0 := hB.cell (k * 2) (by rw [List.getElem?_append_left (List.getElem?_eq_some_iff.1 r0).1]; exact r0)
      have s1 := hB.cell (k * 2 + 1) (by rw [List.getElem?_append_left (List.getElem?_eq_some_iff.1 r1).1]; exact r1)
      have f0 := hB.free (k * 2)
      have f1 := hB.free (k * 2 + 1)
      have HO := Lib.hid O
      clear O hB hxy r0 r1
      go_wp2_with fail
      have u2 : Upd [g] wr ((wr.setCell ⟨g, k * 2, none⟩ (.int .u64 991)).setCell ⟨g, k * 2 + 1, none⟩ (.int .u64 992)) := ((Upd.refl _ _).setCell (.inl (by simp)) _).setCell (.inl (by simp)) _
      have O2 := HO.out.fst u2 (by have := HO.out.rd.put2 hkl 991 992; rw [mk2_set (by omega)] at this; exact this) (.inl rfl)
      go_roundw
      case rel => exact ⟨k + 1, by omega, by go_num, O2⟩
      case measure => simp [intOf]; omega
    · obtain rfl : k = rd.length := by omega
      rw [mk2_all] at O
      go_wp2_with fail
      clear c1
      have HO := Lib.hid O
      clear O
      go_loopw [5] (fun v5 wr => ∃ k : Nat, k ≤ wl.length ∧ v5 = .int .i64 k ∧ Ov w sb mb [.int .u64 sn, .slice p rd.length c, .slice q wl.length d, .int .i64 ph, .int .i64 th, .int .u64 ad, .int .u64 wo, .int .u64 fo, .int .i64 at_] (.slice p rd.length c) (.slice q wl.length d) (.slice p rd.length c) (.slice q wl.length d) (List.replicate rd.length mark2) (mk2 k wl) wr) (fun v5 _ => wl.length - (intOf v5).toNat)
      case atStart => exact ⟨0, by omega, rfl, by rw [mk2_zero]; exact HO.out⟩
      case round =>
        clear HO
        obtain ⟨k, hk, rfl, O⟩ := hrel
        have c2 := O.b.cell 2 rfl
        by_cases hlt : k < wl.length
        · have hlt' : (k : Int) < (wl.length : Int) := by omega
          obtain ⟨g, cap, sp, hv, _, hB, _⟩ := (O.wt).open (fun e => by have := congrArg List.length e; rw [mk2_len hk, List.length_nil] at this; omega)
          simp only [Value.slice.injEq] at hv
          obtain ⟨rfl, -, -⟩ := hv
          have k0 := O.m.cell 0 rfl
          have k1 := O.m.cell 1 rfl
          have hkl : k < (mk2 k wl).length := by rw [mk2_len hk]; omega
          obtain ⟨⟨x, y⟩, hxy⟩ : ∃ z, (mk2 k wl)[k]? = some z := ⟨_, List.getElem?_eq_getElem hkl⟩
          obtain ⟨r0, r1⟩ := pcells_get _ _ _ _ hxy
          have s0 := hB.cell (k * 2) (by rw [List.getElem?_append_left (List.getElem?_eq_some_iff.1 r0).1]; exact r0)
          have s1 := hB.cell (k * 2 + 1) (by rw [List.getElem?_append_left (List.getElem?_eq_some_iff.1 r1).1]; exact r1)
          have f0 := hB.free (k * 2)
          have f1 := hB.free (k * 2 + 1)
          have HO := Lib.hid O
          clear O hB hxy r0 r1
          go_wp2_with fail
          have u2 : Upd [g] wr ((wr.setCell ⟨g, k * 2, none⟩ (.int .u64 991)).setCell ⟨g, k * 2 + 1, none⟩ (.int .u64 992)) := ((Upd.refl _ _).setCell (.inl (by simp)) _).setCell (.inl (by simp)) _
          have O2 := HO.out.snd u2 (by have := HO.out.wt.put2 hkl 991 992; rw [mk2_set (by omega)] at this; exact this) (.inl rfl)
          go_roundw
          case rel => exact ⟨k + 1, by omega, by go_num, O2⟩
          case measure => simp [intOf]; omega
        · obtain rfl : k = wl.length := by omega
          rw [mk2_all] at O
          have c1 := O.b.cell 1 rfl
          have HO := Lib.hid O
          clear O
          go_wp2_with fail
          have ud := (Upd.refl [] wr).drew
          have HOd := Lib.hid (HO.out.free0 ud)
          clear HO c1 c2 ud
          have d1 := HOd.out.b.cell 1 rfl
          have d2 := HOd.out.b.cell 2 rfl
          refine wp_region_ord (fun w' => w'.cell? ⟨sb, 1, none⟩ = some (.slice p rd.length c) ∧ w'.cell? ⟨sb, 2, none⟩ = some (.slice q wl.length d)) [0, 1, 2, 3, 4, 5] (by kernel_rfl) (by kernel_rfl) ⟨d1, d2⟩ ?_
          generalize wr.drew = W3 at HOd d1 d2 ⊢
          repeat
            first
              | (refine wpL_skip rfl (by rfl) ?_)
              | ((refine wpL_take (v := ?_) rfl rfl (by rfl) ?_ ?_); rotate_left 1; (· ((intro w hSw; (try dsimp only at hSw); go_simp); try with_reducible rfl)))
            try simp only [Act.put, List.setIfInBounds_toArray, List.set_cons_zero, List.set_cons_succ]
          refine wpO_end (NoPanic.normal ?_)
          clear d1 d2
          go_wp2_with fail
          go_loopw [6, 7, 8] (fun v6 v7 v8 wr => ∃ (k : Nat) (l2 : List (Int × Int)), k ≤ 30 ∧ l2.length = wl.length + k ∧ v8 = .int .i64 k ∧ Ov w sb mb [.int .u64 sn, .slice p rd.length c, .slice q wl.length d, .int .i64 ph, .int .i64 th, .int .u64 ad, .int .u64 wo, .int .u64 fo, .int .i64 at_] v6 v7 (.slice p rd.length c) (.slice q wl.length d) (List.replicate (rd.length + k) mark2) l2 wr) (fun _ _ v8 _ => 30 - (intOf v8).toNat)
          case atStart => exact ⟨0, _, by omega, by simp, rfl, HOd.out⟩
          case round =>
            clear HOd
            obtain ⟨k, l2, hk, hll, rfl, O⟩ := hrel
            obtain ⟨p6, n6, c6, rfl, hn6⟩ := O.rd.form3
            obtain ⟨p7, n7, c7, rfl, hn7⟩ := O.wt.form3
            rw [List.length_replicate] at hn6
            rw [hll] at hn7
            by_cases hlt : k < 30
            · have hlt' : (k : Int) < 30 := by omega
              obtain ⟨v8, w8, hr8, o8, u8, hat8⟩ := app_pair2 O.rd 991 992 (by have e := @List.length_replicate _ (rd.length + k) mark2; omega)
              have O8 := O.fst u8 o8 (hat8.imp id (fun e g hg => by rw [e] at hg; cases hg; omega))
              obtain ⟨v9, w9, hr9, o9, u9, hat9⟩ := app_pair2 O8.wt 0 0 (by omega)
              have O9 := O8.snd u9 o9 (hat9.imp id (fun e g hg => by rw [e] at hg; cases hg; omega))
              have k0 := O.m.cell 0 rfl
              have k1 := O.m.cell 1 rfl
              have HO := Lib.hid O9
              have HL := Lib.hid hll
              clear O O8 O9 o8 u8 hat8 o9 u9 hat9 hll
              obtain ⟨p8, n8, c8, rfl, hn8⟩ := HO.out.rd.form3
              obtain ⟨p9, n9, c9, rfl, hn9⟩ := HO.out.wt.form3
              clear hn6 hn7 hn8 hn9
              go_wp2_with (first | (at_builtin; refine wpList_append_eq rfl (.tmp 43) (.tmp 45) _ _ rfl _ _ _ rfl rfl hr8 ?_) | (at_builtin; refine wpList_append_eq rfl (.tmp 47) (.tmp 49) _ _ rfl _ _ _ rfl rfl hr9 ?_))
              have e31 : List.replicate (rd.length + k) mark2 ++ [(991, 992)] = List.replicate (rd.length + (k + 1)) mark2 := by rw [← Nat.add_assoc, List.replicate_succ']; rfl
              have O9 := HO.out
              rw [e31] at O9
              have HE := Lib.hid e31
              clear e31 hr8 hr9
              go_roundw
              case rel => exact ⟨k + 1, _, by omega, by rw [List.length_append, HL.out]; simp only [List.length_cons, List.length_nil]; omega, by go_num, O9⟩
              case measure => simp [intOf]; omega
            · obtain rfl : k = 30 := by omega
              have HO := Lib.hid O
              clear O hll
              have hn7' : (n7 : Int) = (wl.length : Int) + 30 := by omega
              have hq7 : ((n7 : Int) == (wl.length : Int) + 30) = true := by simp [hn7']
              have HN6 := Lib.hid hn6
              have hnb : n6 ≤ 4611686018427387904 := by omega
              clear hn6 hn7 hn7'
              go_wp2_with fail
              go_loopw [9] (fun v9 wr => ∃ k : Nat, k ≤ n6 ∧ v9 = .int .i64 k ∧ Ov w sb mb [.int .u64 sn, .slice p rd.length c, .slice q wl.length d, .int .i64 ph, .int .i64 th, .int .u64 ad, .int .u64 wo, .int .u64 fo, .int .i64 at_] (.slice p6 n6 c6) (.slice p7 n7 c7) (.slice p rd.length c) (.slice q wl.length d) (List.replicate (rd.length + 30) mark2) l2 wr) (fun v9 _ => n6 - (intOf v9).toNat)
              case atStart => exact ⟨0, by omega, rfl, HO.out⟩
              case round =>
                clear HO
                obtain ⟨k, hk, rfl, O⟩ := hrel
                by_cases hlt : k < n6
                · have hlt' : (k : Int) < (n6 : Int) := by omega
                  have hkl : k < (List.replicate (rd.length + 30) mark2).length := by have e := @List.length_replicate _ (rd.length + 30) mark2; have := HN6.out; omega
                  have hxy : (List.replicate (rd.length + 30) mark2)[k]? = some (991, 992) := by rw [List.getElem?_eq_getElem hkl, List.getElem_replicate]; rfl
                  obtain ⟨g, cap, sp, hv, _, hB, _⟩ := O.rd.open (fun e => by rw [e] at hkl; exact Nat.not_lt_zero _ hkl)
                  simp only [Value.slice.injEq] at hv
                  obtain ⟨rfl, -, -⟩ := hv
                  have k0 := O.m.cell 0 rfl
                  have k1 := O.m.cell 1 rfl
                  obtain ⟨r0, r1⟩ := pcells_get _ _ _ _ hxy
                  have s0 := hB.cell (k * 2) (by rw [List.getElem?_append_left (List.getElem?_eq_some_iff.1 r0).1]; exact r0)
                  have s1 := hB.cell (k * 2 + 1) (by rw [List.getElem?_append_left (List.getElem?_eq_some_iff.1 r1).1]; exact r1)
                  have HO := Lib.hid O
                  clear O hB hxy r0 r1 hkl
                  go_wp2_with fail
                  go_quiet (fail)
                  have O2 := HO.out.free0 (updN wr nq)
                  clear k0 k1 s0 s1 HO
                  generalize wr.drewN nq = W9 at O2 ⊢
                  go_wp2_with fail
                  go_roundw
                  case rel => exact ⟨k + 1, by omega, by go_num, O2⟩
                  case measure => simp [intOf]; omega
                · obtain rfl : k = n6 := by omega
                  have c2 := O.b.cell 2 rfl
                  have HU := Lib.hid O.u
                  clear O
                  go_wp2_with fail
                  exact ⟨rfl, HU.out⟩
end Go.Proofs.Ythfeljongackcaa
set_option linter.unusedSimpArgs false
set_option linter.unusedVariables false
set_option maxRecDepth 100000
namespace Go.Proofs.Ythfeljongackcaa
open Go.RowKit
open Go.Maps
section
variable {w0 W W' : World} {X : SX} {Y : RX} {sh rsh sh' : Sh} {att ratt : Atts} {p : Nat} {hd : List Value}
theorem two_zero (u : Upd [] W W') : TwoNew W W' zeroAS (.slice none 0 0) (.slice none 0 0) :=
  ⟨own_nil W' _, own_nil W' _, by simp [Value.ownBlock], by simp [Value.ownBlock], by simp [Value.ownBlock], u⟩
theorem pstateN (h : PH w0 X sh att W) (i : Nat) : Calls Try.prog 26 #[.pointer (ptrO (att i))] W (NewState W (stG (att i))) := by
  cases hi : att i with
  | none => exact (state_no (.inl rfl)).mono fun e w' ⟨he, hu⟩ => ⟨_, _, he, two_zero hu⟩
  | some t =>
    obtain ⟨a, s, F⟩ := t
    obtain ⟨acc, st, rv, wv, mv, hL⟩ := h.m.hL i a s F hi
    exact state_live hL (h.may i a s F hi)
theorem wide_zero : Wide zeroAS := ⟨by simp [zeroAS], by simp [zeroAS], by simp [zeroAS], by simp [zeroAS], by simp [zeroAS], by simp [zeroAS]⟩
theorem PH.wideG (h : PH w0 X sh att W) (i : Nat) : Wide (stG (att i)) := by
  unfold stG stO
  cases hi : att i with
  | none => exact wide_zero
  | some t => obtain ⟨a, s, F⟩ := t; obtain ⟨acc, st, rv, wv, mv, hL⟩ := h.m.hL i a s F hi; exact hL.wide
/-- From's outcome, with the play's half -/
def PFrom (w0 W : World) (X : SX) (sh : Sh) (att : Atts) (i : Nat) (s : AS) (o : Option One) (c : Int) (W' : World) : Prop :=
  (May s ∧ c = 0 ∧ PTake w0 W X sh att i (some s) o W' ∧ o.isSome = true) ∨ (¬ May s ∧ c = 2 ∧ o = none ∧ Upd [] W W')
def RFromP (w0 W : World) (Y : RX) (sh : Sh) (att : Atts) (i : Nat) (s : AS) (o : Option One) (c : Int) (W' : World) : Prop :=
  (May s ∧ c = 0 ∧ RTake w0 W Y sh att i (some s) o W' ∧ o.isSome = true) ∨ (¬ May s ∧ c = 2 ∧ o = none ∧ Upd [] W W')
theorem pfrom (h : PH w0 X sh att W) (i : Nat) {s : AS} {rv wv : Value} (h1 : SlC W rv s.reads) (h2 : SlC W wv s.writes) (n1 : s.reads = [] → rv = .slice none 0 0) (n2 : s.writes = [] → wv = .slice none 0 0) (hW : Wide s) (hl1 : s.reads.length * 16 ≤ 140737488355328) (hl2 : s.writes.length * 16 ≤ 140737488355328) :
    Calls Try.prog 22 #[stateV s rv wv, .pointer (some ⟨X.ra, 0, none⟩), .pointer (some ⟨X.ca, 0, none⟩)] W fun e W' => ∃ o c, e = .returned (.tuple #[.pointer (ptrO o), .int .i64 c]) ∧ PFrom w0 W X sh att i s o c W' := by
  obtain ⟨acc, st, hX⟩ := h.m.x
  refine (from_x hX h1 h2 n1 n2 hW hl1 hl2).mono fun e w' hx => ?_
  rcases hx with ⟨hM, q, he, a', F', rfl, hL, hu, ha, hF⟩ | ⟨hM, he, hu⟩
  · obtain ⟨k1, k2⟩ := h.set i hL (hu.mono (by simp)) (fun g hg => by rcases List.mem_cons.1 hg with e | e; omega; exact hF g e) hM
    exact ⟨some (a', s, F'), 0, he, .inl ⟨hM, rfl, ⟨k1, k2, rfl⟩, rfl⟩⟩
  · exact ⟨none, 2, he, .inr ⟨hM, rfl, rfl, hu⟩⟩
theorem rfromP (h : RH w0 Y sh att W) (i : Nat) {s : AS} {rv wv : Value} (h1 : SlC W rv s.reads) (h2 : SlC W wv s.writes) (hW : Wide s) (hl1 : s.reads.length * 16 ≤ 140737488355328) (hl2 : s.writes.length * 16 ≤ 140737488355328) :
    Calls Try.prog 30 #[stateV s rv wv] W fun e W' => ∃ o c, e = .returned (.tuple #[.pointer (ptrO o), .int .i64 c]) ∧ RFromP w0 W Y sh att i s o c W' := by
  obtain ⟨acc, hY⟩ := h.m.x
  refine (rfrom_code hY h1 h2 hW hl1 hl2).mono fun e w' hx => ?_
  rcases hx with ⟨hM, q, he, a', F', rfl, hL, hu, ha, hF⟩ | ⟨hM, he, hu⟩
  · obtain ⟨k1, k2⟩ := h.set i hL (hu.mono (by simp)) (fun g hg => by rcases List.mem_cons.1 hg with e | e; omega; exact hF g e) hM
    exact ⟨some (a', s, F'), 0, he, .inl ⟨hM, rfl, ⟨k1, k2, rfl⟩, rfl⟩⟩
  · exact ⟨none, 2, he, .inr ⟨hM, rfl, rfl, hu⟩⟩
/-- what From leaves, in one word -/
def attF (att : Atts) (i : Nat) (o : Option One) : Atts := match o with | none => att | some t => upd1 att i (some t)
structure FromP (w0 W : World) (X : SX) (sh : Sh) (att : Atts) (i : Nat) (s : AS) (o : Option One) (c : Int) (W' : World) : Prop where
  m : PH w0 X sh (attF att i o) W'
  mv : Moved (Foot X.foot att) (Foot X.foot (attF att i o)) W W'
  is : o.isSome = true ↔ May s
  c : c = if o.isSome = true then 0 else 2
  st : stO o = if o.isSome = true then some s else none
structure FromR (w0 W : World) (Y : RX) (sh : Sh) (att : Atts) (i : Nat) (s : AS) (o : Option One) (c : Int) (W' : World) : Prop where
  m : RH w0 Y sh (attF att i o) W'
  mv : Moved (Foot Y.foot att) (Foot Y.foot (attF att i o)) W W'
  is : o.isSome = true ↔ May s
  c : c = if o.isSome = true then 0 else 2
  st : stO o = if o.isSome = true then some s else none
theorem PFrom.all {i : Nat} {s : AS} {o : Option One} {c : Int} (h0 : PH w0 X sh att W) (h : PFrom w0 W X sh att i s o c W') : FromP w0 W X sh att i s o c W' := by
  rcases h with ⟨hM, hc, ⟨h1, h2, h3⟩, ho⟩ | ⟨hM, hc, rfl, hu⟩
  · cases o with
    | none => cases ho
    | some t => exact ⟨h1, h2, ⟨fun _ => hM, fun _ => rfl⟩, by simp [hc], by simpa using h3⟩
  · exact ⟨h0.free0 hu, Moved.of0 hu, ⟨fun e => (by cases e), fun e => absurd e hM⟩, by simp [hc], rfl⟩
theorem RFromP.all {i : Nat} {s : AS} {o : Option One} {c : Int} (h0 : RH w0 Y sh att W) (h : RFromP w0 W Y sh att i s o c W') : FromR w0 W Y sh att i s o c W' := by
  rcases h with ⟨hM, hc, ⟨h1, h2, h3⟩, ho⟩ | ⟨hM, hc, rfl, hu⟩
  · cases o with
    | none => cases ho
    | some t => exact ⟨h1, h2, ⟨fun _ => hM, fun _ => rfl⟩, by simp [hc], by simpa using h3⟩
  · exact ⟨h0.free0 hu, Moved.of0 hu, ⟨fun e => (by cases e), fun e => absurd e hM⟩, by simp [hc], rfl⟩
end
end Go.Proofs.Ythfeljongackcaa
set_option linter.unusedSimpArgs false
set_option linter.unusedVariables false
set_option maxRecDepth 100000
namespace Go.Proofs.Ythfeljongackcaa
open Go.RowKit
open Go.Maps

theorem PL.scratchL {w0 W W' : World} {X : SX} {Y : RX} {sh rsh : Sh} {att ratt : Atts} {p : Nat} {hd : List Value} {S : List Nat} (h : PL w0 p hd X Y sh rsh att ratt W) (u : Upd S W W') (h0 : ∀ b ∈ S, w0.heap.size ≤ b) (hX : ∀ b ∈ S, ¬ Foot X.foot att b) (hY : ∀ b ∈ S, ¬ Foot Y.foot ratt b) (hp : p ∉ S) : PL w0 p hd X Y sh rsh att ratt W' :=
  ⟨h.head.upd u hp, ⟨h.m.m.free u (fun g hg => h0 g hg) (fun g hg e => hX g e (.inl hg)) (fun i a s F hi g hg e => hX g e (.inr ⟨i, a, s, F, hi, hg⟩)), h.m.may⟩,
    ⟨h.r.m.free u (fun g hg => h0 g hg) (fun g hg e => hY g e (.inl hg)) (fun i a s F hi g hg e => hY g e (.inr ⟨i, a, s, F, hi, hg⟩)), h.r.may⟩, h.sep, h.pf, h.pn⟩
set_option maxHeartbeats 2000000 in
theorem again_code {w0 W : World} {p : Nat} {X : SX} {Y : RX} {sh : Sh} {att ratt : Atts} {held : Bool} {tk : Int} (h : PS w0 p X Y sh att ratt held tk W) (i : Nat) (hi : i < 3) :
    Calls Try.prog 61 #[.pointer (some ⟨p, 0, none⟩), .int .i64 i] W (OwnOk w0 p X Y held tk) := by
  have hi3 : (i : Int) < 3 := by omega
  have HSM := Lib.hid h.same
  have htk := h.tkw
  have P1 := h.pl
  clear h
  have c3 := P1.head.cell (3 + i) (head_att hi)
  have HLT := Lib.hid (show ∀ g, Foot X.foot att g → g < W.heap.size from fun g hg => (P1.m.out hg).2)
  have HRL := Lib.hid (show ∀ g, Foot Y.foot ratt g → g < W.heap.size from fun g hg => (P1.r.out hg).2)
  have hpW := P1.head.lt
  have hwW := P1.low.size
  refine calls_all fun K hK => ?_
  go_enter Try.func61, Try.ntmps61
  go_wp2_with fail
  have hc := pstateN P1.m i
  have hwd := P1.m.wideG i
  have hlen := P1.m.len i
  obtain ⟨s, hs⟩ : ∃ s, stG (att i) = s := ⟨_, rfl⟩
  rw [hs] at hc hwd hlen
  have HS := Lib.hid hs
  have HWD := Lib.hid hwd
  clear hs hwd c3
  refine hc.mono ?_
  clear hc
  rintro e W2 ⟨rv, wv, rfl, TN⟩
  replace P1 := P1.free0 TN.u
  have hpl := P1.head.lt
  have hlo := P1.low.size
  obtain ⟨W3, hW3⟩ : ∃ W3, W2.alloc (.cells (rheadV zeroS (.slice none 0 0) (.slice none 0 0)).toArray 60) = W3 := ⟨_, rfl⟩
  have uE : Upd [] W2 W3 := by rw [← hW3]; exact (Upd.refl [] _).alloc _
  have B1 : Blk W3 W2.heap.size (rheadV zeroS (.slice none 0 0) (.slice none 0 0)) 60 := by rw [← hW3]; exact Blk.new W2 _ _
  obtain ⟨pr, nr, cr, hrv, hnr⟩ := TN.rd.form3
  obtain ⟨pw, nw, cw, hwv, hnw⟩ := TN.wr.form3
  have u4 := nine_upd (S := []) uE (b := W2.heap.size) (.inr (Nat.le_refl _)) (.int .u64 s.snap) rv wv (.int .i64 s.phase) (.int .i64 s.thn) (.int .u64 s.addr) (.int .u64 s.word) (.int .u64 s.found) (.int .i64 s.at_)
  have B4 := nine_set B1 s rv wv
  have HTN := Lib.hid TN
  simp only [rheadV, zeroS] at hW3
  clear TN
  subst hrv
  subst hwv
  subst hnr
  subst hnw
  simp only [stateV]
  have q0 := (B1).cell 0 rfl
  have q1 := (B1).cell 1 rfl
  have q2 := (B1).cell 2 rfl
  have q3 := (B1).cell 3 rfl
  have q4 := (B1).cell 4 rfl
  have q5 := (B1).cell 5 rfl
  have q6 := (B1).cell 6 rfl
  have q7 := (B1).cell 7 rfl
  have q8 := (B1).cell 8 rfl
  have g0 := (B1).free 0
  have g1 := (B1).free 1
  have g2 := (B1).free 2
  have g3 := (B1).free 3
  have g4 := (B1).free 4
  have g5 := (B1).free 5
  have g6 := (B1).free 6
  have g7 := (B1).free 7
  have g8 := (B1).free 8
  go_wp2_with fail
  clear q0 q1 q2 q3 q4 q5 q6 q7 q8 g0 g1 g2 g3 g4 g5 g6 g7 g8
  clear B1 hW3 uE
  generalize ((((((((((W3.setCell ⟨W2.heap.size, 0, none⟩ (.int .u64 s.snap)).setCell ⟨W2.heap.size, 1, none⟩ (.slice pr s.reads.length cr)).setCell ⟨W2.heap.size, 2, none⟩ (.slice pw s.writes.length cw)).setCell ⟨W2.heap.size, 3, none⟩ (.int .i64 s.phase)).setCell ⟨W2.heap.size, 4, none⟩ (.int .i64 s.thn)).setCell ⟨W2.heap.size, 5, none⟩ (.int .u64 s.addr)).setCell ⟨W2.heap.size, 6, none⟩ (.int .u64 s.word)).setCell ⟨W2.heap.size, 7, none⟩ (.int .u64 s.found)).setCell ⟨W2.heap.size, 8, none⟩ (.int .i64 s.at_))) = W4 at u4 B4 ⊢
  have P4 := P1.free0 u4
  have R4 := HTN.out.rd.upd u4 (by simp)
  have V4 := HTN.out.wr.upd u4 (by simp)
  have hsz4 := B4.lt
  have hbp : p ≠ W2.heap.size := by omega
  have hWtb : W.heap.size ≤ W2.heap.size := HTN.out.u.size
  have hb0 : w0.heap.size ≤ W2.heap.size := by omega
  have HBX := Lib.hid (show ¬ Foot X.foot att W2.heap.size from fun e => by have := (P1.m.out e).2; omega)
  have HBY := Lib.hid (show ¬ Foot Y.foot ratt W2.heap.size from fun e => by have := (P1.r.out e).2; omega)
  have HRX := Lib.hid (show ∀ g, (Value.slice pr s.reads.length cr).ownBlock = some g ∨ (Value.slice pw s.writes.length cw).ownBlock = some g → W.heap.size ≤ g ∧ g < W2.heap.size from fun g hg => by
    rcases hg with k | k
    · exact ⟨HTN.out.nr g k, HTN.out.rd.lt k⟩
    · exact ⟨HTN.out.nw g k, HTN.out.wr.lt k⟩)
  have hap := Lib.hid HTN.out.ap
  clear P1 u4 HTN
  refine (twin_code W4 s _ _ R4.slc V4.slc (by omega) (by omega)).mono ?_
  rintro e W5 ⟨rv2, wv2, rfl, TN2⟩
  have P5 := P4.free0 TN2.u
  replace B4 := B4.upd TN2.u (by simp)
  replace R4 := R4.upd TN2.u (by simp)
  replace V4 := V4.upd TN2.u (by simp)
  have hs5 := TN2.u.size
  clear P4
  obtain ⟨W6, hW6⟩ : ∃ W6, W5.alloc (.cells (rheadV zeroS (.slice none 0 0) (.slice none 0 0)).toArray 60) = W6 := ⟨_, rfl⟩
  have uE : Upd [] W5 W6 := by rw [← hW6]; exact (Upd.refl [] _).alloc _
  have B5 : Blk W6 W5.heap.size (rheadV zeroS (.slice none 0 0) (.slice none 0 0)) 60 := by rw [← hW6]; exact Blk.new W5 _ _
  obtain ⟨pr2, nr2, cr2, hrv, hnr⟩ := TN2.rd.form3
  obtain ⟨pw2, nw2, cw2, hwv, hnw⟩ := TN2.wr.form3
  have u7 := nine_upd (S := []) uE (b := W5.heap.size) (.inr (Nat.le_refl _)) (.int .u64 s.snap) rv2 wv2 (.int .i64 s.phase) (.int .i64 s.thn) (.int .u64 s.addr) (.int .u64 s.word) (.int .u64 s.found) (.int .i64 s.at_)
  have B7 := nine_set B5 s rv2 wv2
  have HRX2 := Lib.hid (show ∀ g, rv2.ownBlock = some g ∨ wv2.ownBlock = some g → W4.heap.size ≤ g from fun g hg => by rcases hg with k | k; exact TN2.nr g k; exact TN2.nw g k)
  have HR2 := Lib.hid TN2.rd
  have HV2 := Lib.hid TN2.wr
  simp only [rheadV, zeroS] at hW6
  clear TN2
  subst hrv
  subst hwv
  subst hnr
  subst hnw
  simp only [stateV]
  have q0 := (B5).cell 0 rfl
  have q1 := (B5).cell 1 rfl
  have q2 := (B5).cell 2 rfl
  have q3 := (B5).cell 3 rfl
  have q4 := (B5).cell 4 rfl
  have q5 := (B5).cell 5 rfl
  have q6 := (B5).cell 6 rfl
  have q7 := (B5).cell 7 rfl
  have q8 := (B5).cell 8 rfl
  have g0 := (B5).free 0
  have g1 := (B5).free 1
  have g2 := (B5).free 2
  have g3 := (B5).free 3
  have g4 := (B5).free 4
  have g5 := (B5).free 5
  have g6 := (B5).free 6
  have g7 := (B5).free 7
  have g8 := (B5).free 8
  go_wp2_with fail
  clear q0 q1 q2 q3 q4 q5 q6 q7 q8 g0 g1 g2 g3 g4 g5 g6 g7 g8
  clear B5 hW6 uE
  generalize ((((((((((W6.setCell ⟨W5.heap.size, 0, none⟩ (.int .u64 s.snap)).setCell ⟨W5.heap.size, 1, none⟩ (.slice pr2 s.reads.length cr2)).setCell ⟨W5.heap.size, 2, none⟩ (.slice pw2 s.writes.length cw2)).setCell ⟨W5.heap.size, 3, none⟩ (.int .i64 s.phase)).setCell ⟨W5.heap.size, 4, none⟩ (.int .i64 s.thn)).setCell ⟨W5.heap.size, 5, none⟩ (.int .u64 s.addr)).setCell ⟨W5.heap.size, 6, none⟩ (.int .u64 s.word)).setCell ⟨W5.heap.size, 7, none⟩ (.int .u64 s.found)).setCell ⟨W5.heap.size, 8, none⟩ (.int .i64 s.at_))) = W7 at u7 B7 ⊢
  replace u7 := u7.trans ((Upd.refl [] W7).drew)
  have P7 := P5.free0 u7
  have B8 := (B4.upd u7 (by simp))
  have R8 := R4.upd u7 (by simp)
  have V8 := V4.upd u7 (by simp)
  have R28 := HR2.out.upd u7 (by simp)
  have V28 := HV2.out.upd u7 (by simp)
  replace B7 := B7.drew
  have hs7 := u7.size
  clear P5 B4 R4 V4 HR2 HV2 u7
  generalize W2.heap.size = tb at *
  refine wp_region_br (fun w' => w'.cell? ⟨tb, 0, none⟩ = some (.int .u64 s.snap) ∧ w'.cell? ⟨tb, 1, none⟩ = some (.slice pr s.reads.length cr) ∧ w'.cell? ⟨tb, 2, none⟩ = some (.slice pw s.writes.length cw) ∧ w'.cell? ⟨tb, 3, none⟩ = some (.int .i64 s.phase) ∧ w'.cell? ⟨tb, 4, none⟩ = some (.int .i64 s.thn) ∧ w'.cell? ⟨tb, 5, none⟩ = some (.int .u64 s.addr) ∧ w'.cell? ⟨tb, 6, none⟩ = some (.int .u64 s.word) ∧ w'.cell? ⟨tb, 7, none⟩ = some (.int .u64 s.found) ∧ w'.cell? ⟨tb, 8, none⟩ = some (.int .i64 s.at_) ∧ w'.cell? ⟨p, 0, none⟩ = some (.pointer (some ⟨X.ra, 0, none⟩)) ∧ w'.cell? ⟨p, 1, none⟩ = some (.pointer (some ⟨X.ca, 0, none⟩))) [0, 1, 2, 3, 4, 5, 6, 7, 8, 9, 10, 11, 12, 13, 14] (by kernel_rfl) (by kernel_rfl) ⟨B8.cell 0 rfl, B8.cell 1 rfl, B8.cell 2 rfl, B8.cell 3 rfl, B8.cell 4 rfl, B8.cell 5 rfl, B8.cell 6 rfl, B8.cell 7 rfl, B8.cell 8 rfl, P7.head.cell 0 rfl, P7.head.cell 1 rfl⟩ ?_
  generalize W7.drew = W8 at P7 B8 R8 V8 R28 V28 B7 hs7 ⊢
  repeat
    first
      | (refine wpB_skip rfl (by kernel_rfl) (by rfl) ?_)
      | ((refine wpB_take (v := ?_) rfl rfl (by kernel_rfl) (by rfl) ?_ ?_); rotate_left 1; (· ((intro w hSw; (try dsimp only at hSw); go_simp); try with_reducible rfl)))
    try simp only [Act.put, List.setIfInBounds_toArray, List.set_cons_zero, List.set_cons_succ]
  refine wpB_eff rfl (by kernel_rfl) (by rfl) (fun K2 hK2 => ?_)
  go_simp
  have hc := pfrom P7.m i R8.slc V8.slc R8.nil V8.nil HWD.out (by omega) (by omega)
  simp only [stateV] at hc
  refine hc.mono ?_
  clear hc
  rintro e W9 ⟨o, c, rfl, hF⟩
  have hF := PFrom.all P7.m hF
  obtain ⟨m9, mv9, is9, hc9, st9⟩ := hF
  have P9 := P7.prog m9 mv9
  obtain ⟨S9, hS9, u9⟩ := mv9.u
  have hlw : W.heap.size ≤ tb := hWtb
  have B9 := B8.upd u9 (fun e => by have := HLT.out _ (hS9 _ e); omega)
  have R9 := R8.upd u9 (fun g hg e => by have := HLT.out _ (hS9 _ hg); have := (HRX.out g (.inl e)).1; omega)
  have V9 := V8.upd u9 (fun g hg e => by have := HLT.out _ (hS9 _ hg); have := (HRX.out g (.inr e)).1; omega)
  have HMV9 := Lib.hid mv9
  have B79 := B7.upd u9 (fun e => by have := HLT.out _ (hS9 _ e); omega)
  have R29 := R28.upd u9 (fun g hg e => by have := HLT.out _ (hS9 _ hg); have := (HRX2.out g (.inl e)); omega)
  have V29 := V28.upd u9 (fun g hg e => by have := HLT.out _ (hS9 _ hg); have := (HRX2.out g (.inr e)); omega)
  have HIS := Lib.hid is9
  have HC := Lib.hid hc9
  have HST := Lib.hid st9
  have hs9 := u9.size
  refine hK2.out _ _ ⟨B9.cell 0 rfl, B9.cell 1 rfl, B9.cell 2 rfl, B9.cell 3 rfl, B9.cell 4 rfl, B9.cell 5 rfl, B9.cell 6 rfl, B9.cell 7 rfl, B9.cell 8 rfl, P9.head.cell 0 rfl, P9.head.cell 1 rfl⟩ ?_
  clear hK2 K2 P7 B8 R8 V8 B7 R28 V28 m9 mv9 is9 hc9 st9 hS9 u9
  repeat
    first
      | (refine wpB_skip rfl (by kernel_rfl) (by rfl) ?_)
      | ((refine wpB_take (v := ?_) rfl rfl (by kernel_rfl) (by rfl) ?_ ?_); rotate_left 1; (· ((intro w hSw; (try dsimp only at hSw); go_simp); try with_reducible rfl)))
    try simp only [Act.put, List.setIfInBounds_toArray, List.set_cons_zero, List.set_cons_succ]
  refine wpB_end (by kernel_rfl) (NoPanic.normal ?_)
  have q0 := (B79).cell 0 rfl
  have q1 := (B79).cell 1 rfl
  have q2 := (B79).cell 2 rfl
  have q3 := (B79).cell 3 rfl
  have q4 := (B79).cell 4 rfl
  have q5 := (B79).cell 5 rfl
  have q6 := (B79).cell 6 rfl
  have q7 := (B79).cell 7 rfl
  have q8 := (B79).cell 8 rfl
  have g0 := (B79).free 0
  have g1 := (B79).free 1
  have g2 := (B79).free 2
  have g3 := (B79).free 3
  have g4 := (B79).free 4
  have g5 := (B79).free 5
  have g6 := (B79).free 6
  have g7 := (B79).free 7
  have g8 := (B79).free 8
  go_wp2_with fail
  clear q0 q1 q2 q3 q4 q5 q6 q7 q8 g0 g1 g2 g3 g4 g5 g6 g7 g8
  have hc := rfromP P9.r i R29.slc V29.slc HWD.out (by omega) (by omega)
  simp only [stateV] at hc
  refine hc.mono ?_
  clear hc
  rintro e W10 ⟨o2, c2, rfl, hF⟩
  have hF := RFromP.all P9.r hF
  obtain ⟨m9, mv9, is9, hc9, st9⟩ := hF
  have P10 := P9.doc m9 mv9
  obtain ⟨S9, hS9, u9⟩ := mv9.u
  have B10 := B9.upd u9 (fun e => by have := HRL.out _ (hS9 _ e); omega)
  have R10 := R9.upd u9 (fun g hg e => by have := HRL.out _ (hS9 _ hg); have := (HRX.out g (.inl e)).1; omega)
  have V10 := V9.upd u9 (fun g hg e => by have := HRL.out _ (hS9 _ hg); have := (HRX.out g (.inr e)).1; omega)
  have HMV10 := Lib.hid mv9
  have HIS2 := Lib.hid is9
  have HC2 := Lib.hid hc9
  have HST2 := Lib.hid st9
  clear P9 B9 R9 V9 B79 R29 V29 m9 mv9 is9 hc9 st9 hS9 u9
  cases o with
  | none =>
    obtain rfl : o2 = none := by
      cases o2 with
      | none => rfl
      | some t => exact absurd (HIS.out.2 (HIS2.out.1 rfl)) (by simp)
    obtain rfl : c = 2 := by simpa using HC.out
    obtain rfl : c2 = 2 := by simpa using HC2.out
    have E1 : ∀ w, (binOp .eql 29 (.pointer (ptrO none)) (.pointer none)).run Try.prog w = .ok (.bool true) w := eql_attp _
    have E2 : ∀ w, (binOp .eql 73 (.pointer (ptrO none)) (.pointer none)).run Try.prog w = .ok (.bool true) w := eql_rattp _
    have E3 : ∀ w, (binOp .neq 29 (.pointer (ptrO none)) (.pointer none)).run Try.prog w = .ok (.bool false) w := fun w => by kernel_rfl
    have q0 := (B10).cell 0 rfl
    have q1 := (B10).cell 1 rfl
    have q2 := (B10).cell 2 rfl
    have q3 := (B10).cell 3 rfl
    have q4 := (B10).cell 4 rfl
    have q5 := (B10).cell 5 rfl
    have q6 := (B10).cell 6 rfl
    have q7 := (B10).cell 7 rfl
    have q8 := (B10).cell 8 rfl
    have g0 := (B10).free 0
    have g1 := (B10).free 1
    have g2 := (B10).free 2
    have g3 := (B10).free 3
    have g4 := (B10).free 4
    have g5 := (B10).free 5
    have g6 := (B10).free 6
    have g7 := (B10).free 7
    have g8 := (B10).free 8
    go_wp2_with (go_at_call 12; refine (num07 _ _).mono ?_; rintro e w' ⟨rfl, rfl⟩)
    clear q0 q1 q2 q3 q4 q5 q6 q7 q8 g0 g1 g2 g3 g4 g5 g6 g7 g8
    have hc := grown_code W10 s _ _ _ _ R10 V10 hap.out (by omega) (by omega)
    simp only [stateV] at hc
    refine hc.mono ?_
    clear hc
    rintro e W11 ⟨rfl, u11⟩
    have hg : ∀ g ∈ (Value.slice pr s.reads.length cr).ownBlock.toList ++ (Value.slice pw s.writes.length cw).ownBlock.toList, W.heap.size ≤ g ∧ g < tb := fun g hg => HRX.out g (by simpa using hg)
    have P11 := P10.scratchL u11 (fun b hb => by have := (hg b hb).1; omega) (fun b hb => HMV9.out.not (fun e => by have := HLT.out _ e; have := (hg b hb).1; omega) (by have := (hg b hb).2; omega)) (fun b hb => HMV10.out.not (fun e => by have := HRL.out _ e; have := (hg b hb).1; omega) (by have := (hg b hb).2; omega)) (fun hb => by have := (hg p hb).1; omega)
    clear u11 hg P10 B10 R10 V10
    have HP := Lib.hid (show PS w0 p X Y sh att ratt held tk W11 from ⟨P11, HSM.out, htk⟩)
    clear P11
    go_wp2_with fail
    exact ⟨rfl, _, _, _, HP.out⟩
  | some t =>
    obtain ⟨t2, rfl⟩ : ∃ t2, o2 = some t2 := by
      cases o2 with
      | none => exact absurd (HIS2.out.2 (HIS.out.1 rfl)) (by simp)
      | some t2 => exact ⟨t2, rfl⟩
    obtain rfl : c = 0 := by simpa using HC.out
    obtain rfl : c2 = 0 := by simpa using HC2.out
    have E1 : ∀ w, (binOp .eql 29 (.pointer (ptrO (some t))) (.pointer none)).run Try.prog w = .ok (.bool false) w := eql_attp _
    have E2 : ∀ w, (binOp .eql 73 (.pointer (ptrO (some t2))) (.pointer none)).run Try.prog w = .ok (.bool false) w := eql_rattp _
    have E3 : ∀ w, (binOp .neq 29 (.pointer (ptrO (some t))) (.pointer none)).run Try.prog w = .ok (.bool true) w := fun w => by kernel_rfl
    have q0 := (B10).cell 0 rfl
    have q1 := (B10).cell 1 rfl
    have q2 := (B10).cell 2 rfl
    have q3 := (B10).cell 3 rfl
    have q4 := (B10).cell 4 rfl
    have q5 := (B10).cell 5 rfl
    have q6 := (B10).cell 6 rfl
    have q7 := (B10).cell 7 rfl
    have q8 := (B10).cell 8 rfl
    have g0 := (B10).free 0
    have g1 := (B10).free 1
    have g2 := (B10).free 2
    have g3 := (B10).free 3
    have g4 := (B10).free 4
    have g5 := (B10).free 5
    have g6 := (B10).free 6
    have g7 := (B10).free 7
    have g8 := (B10).free 8
    go_wp2_with (go_at_call 12; refine (num07 _ _).mono ?_; rintro e w' ⟨rfl, rfl⟩)
    clear q0 q1 q2 q3 q4 q5 q6 q7 q8 g0 g1 g2 g3 g4 g5 g6 g7 g8
    have hc := grown_code W10 s _ _ _ _ R10 V10 hap.out (by omega) (by omega)
    simp only [stateV] at hc
    refine hc.mono ?_
    clear hc
    rintro e W11 ⟨rfl, u11⟩
    have hg : ∀ g ∈ (Value.slice pr s.reads.length cr).ownBlock.toList ++ (Value.slice pw s.writes.length cw).ownBlock.toList, W.heap.size ≤ g ∧ g < tb := fun g hg => HRX.out g (by simpa using hg)
    have P11 := P10.scratchL u11 (fun b hb => by have := (hg b hb).1; omega) (fun b hb => HMV9.out.not (fun e => by have := HLT.out _ e; have := (hg b hb).1; omega) (by have := (hg b hb).2; omega)) (fun b hb => HMV10.out.not (fun e => by have := HRL.out _ e; have := (hg b hb).1; omega) (by have := (hg b hb).2; omega)) (fun hb => by have := (hg p hb).1; omega)
    clear u11 hg P10 B10 R10 V10
    have hst : stO (some t) = stO (some t2) := by
      have h1 := HST.out
      have h2 := HST2.out
      exact h1.trans h2.symm
    have HSTT := Lib.hid hst
    replace P11 : PL w0 p (headP X Y att ratt held tk) X Y sh sh (upd1 att i (some t)) (upd1 ratt i (some t2)) W11 := P11
    clear hst
    go_wp2_with fail
    have ud := (Upd.refl [] W11).drew
    replace P11 := P11.free0 ud
    refine wp_region_br (fun w' => True) [0, 1, 2, 3, 4, 5, 6, 7, 8, 10, 11, 9, 12, 13] (by kernel_rfl) (by kernel_rfl) trivial ?_
    clear ud
    generalize W11.drew = W12 at P11 ⊢
    have hi6 : (i : Int) < 3 := by omega
    repeat
      first
        | (refine wpB_skip rfl (by kernel_rfl) (by rfl) ?_)
        | ((refine wpB_take (v := ?_) rfl rfl (by kernel_rfl) (by rfl) ?_ ?_); rotate_left 1; (· ((intro w hSw; (try dsimp only at hSw); go_simp); try with_reducible rfl)))
      try simp only [Act.put, List.setIfInBounds_toArray, List.set_cons_zero, List.set_cons_succ]
    have q3 := P11.head.cell (3 + i) (head_att hi)
    have g3 := P11.head.free (3 + i)
    refine wpB_eff rfl (by kernel_rfl) (by rfl) (fun K2 hK2 => ?_)
    go_simp
    refine hK2.out _ _ trivial ?_
    clear hK2 K2 q3 g3
    replace P11 := P11.put (3 + i) (.pointer (ptrO (some t)))
    rw [head_set_att hi (some t)] at P11
    generalize W12.setCell ⟨p, 3 + i, none⟩ (.pointer (ptrO (some t))) = Wa at P11 ⊢
    repeat
      first
        | (refine wpB_skip rfl (by kernel_rfl) (by rfl) ?_)
        | ((refine wpB_take (v := ?_) rfl rfl (by kernel_rfl) (by rfl) ?_ ?_); rotate_left 1; (· ((intro w hSw; (try dsimp only at hSw); go_simp); try with_reducible rfl)))
      try simp only [Act.put, List.setIfInBounds_toArray, List.set_cons_zero, List.set_cons_succ]
    have q3 := P11.head.cell (6 + i) (head_ratt hi)
    have g3 := P11.head.free (6 + i)
    refine wpB_eff rfl (by kernel_rfl) (by rfl) (fun K2 hK2 => ?_)
    go_simp
    refine hK2.out _ _ trivial ?_
    clear hK2 K2 q3 g3
    replace P11 := P11.put (6 + i) (.pointer (ptrO (some t2)))
    rw [head_set_ratt hi (some t2)] at P11
    generalize Wa.setCell ⟨p, 6 + i, none⟩ (.pointer (ptrO (some t2))) = Wb at P11 ⊢
    refine wpB_end (by kernel_rfl) (NoPanic.normal ?_)
    have PSn : PS w0 p X Y sh (upd1 att i (some t)) (upd1 ratt i (some t2)) held tk Wb := ⟨P11, fun j => by
      by_cases hj : j = i
      · subst hj; rw [upd1_same, upd1_same]; exact HSTT.out
      · rw [upd1_other _ _ hj, upd1_other _ _ hj]; exact HSM.out j, htk⟩
    have HPS := Lib.hid PSn
    clear PSn P11
    go_wp2_with fail
    exact ⟨rfl, _, _, _, HPS.out⟩
end Go.Proofs.Ythfeljongackcaa
set_option linter.unusedSimpArgs false
set_option linter.unusedVariables false
set_option maxRecDepth 100000
namespace Go.Proofs.Ythfeljongackcaa
open Go.RowKit
open Go.Maps
section
variable {w0 W W' : World} {X : SX} {Y : RX} {sh rsh sh' : Sh} {att ratt : Atts} {p : Nat} {hd : List Value}
theorem WideSh.store (h : WideSh sh) {x v : Int} (hv : 0 ≤ v ∧ v < 18446744073709551616) : WideSh ⟨sh.row.set x.toNat v, sh.clock⟩ := by
  refine ⟨fun u hu => ?_, h.clock⟩
  rcases List.mem_or_eq_of_mem_set hu with k | k
  · exact h.row u k
  · exact k ▸ hv
theorem pstore (h : PH w0 X sh att W) (x v : Int) (hx : 0 ≤ x) (hv : 0 ≤ v ∧ v < 18446744073709551616) : Calls Try.prog 94 #[.pointer (some ⟨X.ra, 0, none⟩), .int .u64 x, .int .u64 v] W fun e W' =>
    e = .returned (.int .i64 (rLoad sh.row x).2) ∧ PH w0 X ⟨sh.row.set x.toNat v, sh.clock⟩ att W' ∧ Moved (Foot X.foot att) (Foot X.foot att) W W' := by
  obtain ⟨acc, st, hX⟩ := h.m.x
  refine (store_any hX.row x v hx).mono fun e w' ⟨he, r, u⟩ => ⟨he, ?_⟩
  have hx2 : XAt w' X ⟨sh.row.set x.toNat v, sh.clock⟩ := ⟨_, _, ⟨r, hX.clk.upd u (by have := hX.a1; have := hX.a2; simp; omega) (by have := hX.a1; have := hX.a2; simp; omega) (by have := hX.a1; have := hX.a2; simp; omega), hX.a1, hX.a2, hX.wide.store hv⟩⟩
  exact h.shared hx2 (u.mono (by simp [SX.foot]))
theorem rstoreP (h : RH w0 Y sh att W) (x v : Int) (hx : 0 ≤ x) (hv : 0 ≤ v ∧ v < 18446744073709551616) : Calls Try.prog 95 #[.pointer (some ⟨Y.ra, 0, none⟩), .int .u64 x, .int .u64 v] W fun e W' =>
    e = .returned (.int .i64 (rLoad sh.row x).2) ∧ RH w0 Y ⟨sh.row.set x.toNat v, sh.clock⟩ att W' ∧ Moved (Foot Y.foot att) (Foot Y.foot att) W W' := by
  obtain ⟨acc, hY⟩ := h.m.x
  refine (rstore_any hY.row x v hx).mono fun e w' ⟨he, r, u⟩ => ⟨he, ?_⟩
  have hx2 : YAt w' Y ⟨sh.row.set x.toNat v, sh.clock⟩ := ⟨_, ⟨hY.wld.upd u (by simpa using hY.ne), r, hY.wide.store hv⟩⟩
  exact h.shared hx2 (u.mono (by simp [RX.foot]))
theorem ptake (h : PH w0 X sh att W) (c' : Int) (ht : takes sh.clock sh.clock = true) (hc : up64 sh.clock = c') (hw : 0 ≤ c' ∧ c' < 18446744073709551616) : Calls Try.prog 96 #[.pointer (some ⟨X.ca, 0, none⟩), .int .u64 sh.clock] W fun e W' =>
    e = .returned (.tuple #[.bool true, .int .i64 0]) ∧ PH w0 X ⟨sh.row, c'⟩ att W' ∧ Moved (Foot X.foot att) (Foot X.foot att) W W' := by
  obtain ⟨acc, st, hX⟩ := h.m.x
  refine (clkTake_yes hX.clk _ c' ht hc).mono fun e w' ⟨he, r, u⟩ => ⟨he, ?_⟩
  have hx2 : XAt w' X ⟨sh.row, c'⟩ := ⟨_, _, ⟨hX.row.upd u (by have := hX.a1; have := hX.a2; simp; omega) (by have := hX.a1; have := hX.a2; simp; omega), r, hX.a1, hX.a2, ⟨hX.wide.row, hw⟩⟩⟩
  exact h.shared hx2 (u.mono (by simp [SX.foot]))
theorem pleave (h : PH w0 X sh att W) (s c' : Int) (ht : holds sh.clock s = true) (hc : up64b s = c') (hw : 0 ≤ c' ∧ c' < 18446744073709551616) : Calls Try.prog 97 #[.pointer (some ⟨X.ca, 0, none⟩), .int .u64 s] W fun e W' =>
    e = .returned (.int .i64 0) ∧ PH w0 X ⟨sh.row, c'⟩ att W' ∧ Moved (Foot X.foot att) (Foot X.foot att) W W' := by
  obtain ⟨acc, st, hX⟩ := h.m.x
  refine (clkLeave_yes hX.clk s c' ht hc).mono fun e w' ⟨he, r, u⟩ => ⟨he, ?_⟩
  have hx2 : XAt w' X ⟨sh.row, c'⟩ := ⟨_, _, ⟨hX.row.upd u (by have := hX.a1; have := hX.a2; simp; omega) (by have := hX.a1; have := hX.a2; simp; omega), r, hX.a1, hX.a2, ⟨hX.wide.row, hw⟩⟩⟩
  exact h.shared hx2 (u.mono (by simp [SX.foot]))
/-- the document's clock is set -/
theorem RH.clockd (h : RH w0 Y sh att W) (c' : Int) (hw : 0 ≤ c' ∧ c' < 18446744073709551616) : RH w0 Y ⟨sh.row, c'⟩ att (W.setCell ⟨Y.wb, 1, none⟩ (.int .u64 c')) ∧ Moved (Foot Y.foot att) (Foot Y.foot att) W (W.setCell ⟨Y.wb, 1, none⟩ (.int .u64 c')) := by
  obtain ⟨acc, hY⟩ := h.m.x
  have u : Upd [Y.wb] W (W.setCell ⟨Y.wb, 1, none⟩ (.int .u64 c')) := (Upd.refl _ _).setCell (.inl (by simp)) _
  have hx2 : YAt (W.setCell ⟨Y.wb, 1, none⟩ (.int .u64 c')) Y ⟨sh.row, c'⟩ := ⟨_, ⟨hY.wld.set 1 (.int .u64 c'), hY.row.upd u (by simpa using hY.ne.1.symm) (by simpa using hY.ne.2.symm), ⟨hY.wide.row, hw⟩⟩⟩
  exact h.shared hx2 (u.mono (by simp [RX.foot]))
end
end Go.Proofs.Ythfeljongackcaa
