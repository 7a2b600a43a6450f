/- EventsCheck (layer 13): any history: whether it can be, its attempts, its commits, or the first event that can't be; it stays; the answers are the caller's. The conditions: the row's own list of variables; the arguments hold at most 1048576 values. -/
import Derived.Test.YtfldpejifpmapaaDoorEventsCheckA
import Derived.Test.YtfldpejifpmapaaDoorCards
import Derived.Test.YtfldpejifpmapaaDoorTie
import Derived.SevenTiedAt
import Derived.ChangeMaps5
set_option linter.unusedSimpArgs false
set_option linter.unusedVariables false
set_option maxRecDepth 100000
namespace Go.Proofs.YtfldpejifpmapaaDoor
open Go.RowKit
open Go.Maps
/-- the places of the commits -/
def comI : Nat → List Ev → List Int
  | _, [] => []
  | i, x :: l => if x.kd = 6 then (i : Int) :: comI (i + 1) l else comI (i + 1) l
theorem com_snoc : ∀ (l : List Ev) (i : Nat) (x : Ev), comI i (l ++ [x]) = if x.kd = 6 then comI i l ++ [((i + l.length : Nat) : Int)] else comI i l
  | [], i, x => by
    rw [List.nil_append, comI]
    split <;> simp_all [comI]
  | y :: l, i, x => by
    rw [List.cons_append, comI, comI, com_snoc l (i + 1) x]
    have : i + 1 + l.length = i + (y :: l).length := by rw [List.length_cons]; omega
    rw [this]
    split <;> split <;> simp
theorem com_len : ∀ (l : List Ev) (i : Nat), (comI i l).length ≤ l.length
  | [], _ => Nat.le_refl _
  | x :: l, i => by
    rw [comI]
    have := com_len l (i + 1)
    split
    · simp only [List.length_cons]; omega
    · simp only [List.length_cons]; omega
def intsL (L : List Int) : List Value := L.map (Value.int .i64)
theorem info_int : (Tryd.prog.info? 3).map (fun i => (i.zero, i.size, i.bytes)) = some (some (.int .i64 0), 1, 8) := by kernel_rfl
/-- one more number -/
theorem app_int {W : World} {base : Nat} {v : Value} {L : List Int} (h : W.ownsRow base 3 1 v L.length (intsL L)) (x : Int) (hn : L.length ≤ 1000000000000) (hb : base ≤ W.heap.size) :
    ∃ v' w', (Builtin.append_ #[56, 56] 56 #[v, .slice (some ⟨W.heap.size, 0, none⟩) 1 1]).run Tryd.prog (W.alloc (.cells #[.int .i64 x] 3)) = .ok v' w' ∧ w'.ownsRow base 3 1 v' (L.length + 1) (intsL (L ++ [x])) ∧ Upd v.ownBlock.toList (W.alloc (.cells #[.int .i64 x] 3)) w' := by
  obtain ⟨i0, hi, hz0, hz1, hz2⟩ := info_parts info_int
  have hW := own_upd h ((Upd.refl [] W).alloc (.cells #[.int .i64 x] 3)) (by simp)
  obtain ⟨v', w', hr, ho, hg, _, hat⟩ := run_append_own_at (P := Tryd.prog) (W.alloc (.cells #[.int .i64 x] 3)) base 56 56 3 i0 _ 1 8 Tryd.underlying56 hi hz0 hz1 hz2 rfl (by decide) v L.length _ hW
    ⟨W.heap.size, 0, none⟩ 1 1 [.int .i64 x] rfl (news_new _ 3 rfl) (by intro u hu; simp at hu; subst hu; rfl) (by unfold maxLen; omega) (by omega) (by rw [World.size_alloc]; omega)
  refine ⟨v', w', hr, ?_, Upd.own hg⟩
  rw [show intsL (L ++ [x]) = intsL L ++ [.int .i64 x] by unfold intsL; rw [List.map_append]; rfl]
  exact ho
/-- what Commits answers -/
def ComOk (w : World) (l : List Ev) (e : Ending) (w' : World) : Prop := Upd [] w w' ∧ ∃ v, e = .returned (.tuple #[v, .agg #[.int .i64 (oddE l).1, .int .i64 (oddE l).2]]) ∧ ((oddE l).2 = 0 → w'.ownsRow w.heap.size 3 1 v (comI 0 l).length (intsL (comI 0 l))) ∧ ((oddE l).2 ≠ 0 → v = .slice none 0 0)
-- the odd's block behind the call
-- the last region: the odd is stored; WX the world, OB the odd's block, V the list
-- behind Check: the names
set_option maxHeartbeats 8000000 in
theorem ecommits_code (w : World) (po : Option Addr) (cap : Nat) (l : List Ev) (hH : HistAt w po l) (hl : l.length ≤ 1000000000) (hw : wideL l) : Calls Tryd.prog 24 #[.slice po l.length cap] w (ComOk w l) := by
  have HH := Lib.hid hH
  have HCH := Lib.hid (fun W (u : Upd [] w W) => check_code W po cap l (hH.upd0 u) (by omega) hw)
  unfold ComOk
  obtain ⟨A, B, hAB⟩ : ∃ A B, oddE l = (A, B) := ⟨_, _, rfl⟩
  rw [hAB] at HCH ⊢
  dsimp only at HCH ⊢
  obtain ⟨W1, hW1⟩ : ∃ W, w.alloc (.cells #[.int .i64 0, .int .i64 0] 46) = W := ⟨_, rfl⟩
  have HU1 := Lib.hid (show Upd [] w W1 by rw [← hW1]; exact (Upd.refl [] _).alloc _)
  have HB1 := Lib.hid (show Blk W1 w.heap.size [.int .i64 0, .int .i64 0] 46 by rw [← hW1]; exact Blk.new w _ _)
  clear hH hw hAB
  refine calls_all fun K hK => ?_
  go_enter Tryd.func24, Tryd.ntmps24
  go_wp2_with fail
  refine (HCH.out W1 HU1.out).mono ?_
  rintro e W2 ⟨rfl, u2⟩
  have HB3 := Lib.hid (Blk.new W2 [.int .i64 A, .int .i64 B] 46)
  have u3 : Upd [] W2 (W2.alloc (.cells #[.int .i64 A, .int .i64 B] 46)) := (Upd.refl _ _).alloc _
  have HU3 := Lib.hid ((HU1.out.trans u2).trans u3)
  have HR3 := Lib.hid ((HB1.out.upd u2 (by simp)).upd u3 (by simp))
  obtain ⟨rb, hrb⟩ : ∃ b, w.heap.size = b := ⟨_, rfl⟩
  have HRB := Lib.hid (Nat.le_of_eq hrb)
  rw [hrb] at HR3 ⊢
  clear u2 HU1 HB1 HCH hW1
  obtain ⟨ob, hob⟩ : ∃ b, W2.heap.size = b := ⟨_, rfl⟩
  have HLO := Lib.hid (show ob < (W2.alloc (.cells #[.int .i64 A, .int .i64 B] 46)).heap.size by rw [World.size_alloc]; omega)
  go_upto_region 2 with fail
  try rw [hob]
  obtain ⟨W3, hW3⟩ : ∃ W, W2.alloc (.cells #[.int .i64 A, .int .i64 B] 46) = W := ⟨_, rfl⟩
  rw [hW3] at HU3 HR3 u3 HLO ⊢
  rw [show W2.alloc (.cells [.int .i64 A, .int .i64 B].toArray 46) = W3 from hW3, hob] at HB3
  have HLR := Lib.hid (show rb < W3.heap.size from HR3.out.lt)
  have HWS := Lib.hid (show w.heap.size ≤ W3.heap.size from HU3.out.size)
  clear u3 hrb
  by_cases hB : B = 0
  · subst hB
    have q0 := HB3.out.cell 0 rfl
    have q1 := HB3.out.cell 1 rfl
    go_wp2_with fail
    clear q0 q1 hW3 hob
    have HO0 := Lib.hid (show World.ownsRow (W3.alloc (.cells #[] 3)) W3.heap.size 3 1 (.slice (some ⟨W3.heap.size, 0, none⟩) 0 0) ([] : List Int).length (intsL []) from
      ⟨rfl, .inr ⟨W3.heap.size, 0, #[], rfl, Nat.le_refl _, heap_alloc_new W3 (.cells #[] 3), Nat.le_refl _, by unfold maxLen; omega, rfl, rfl⟩⟩)
    have HU0 := Lib.hid (show Upd [] W3 (W3.alloc (.cells #[] 3)) from (Upd.refl _ _).alloc _)
    go_loopw [5, 17] (fun v5 v17 wr => ∃ k : Nat, k ≤ l.length ∧ v17 = .int .i64 k ∧ wr.ownsRow W3.heap.size 3 1 v5 (comI 0 (l.take k)).length (intsL (comI 0 (l.take k))) ∧ Upd [] W3 wr) (fun _ v17 _ => l.length - (intOf v17).toNat)
    case atStart => exact ⟨0, by omega, rfl, HO0.out, HU0.out⟩
    case round =>
      obtain ⟨k, hk, rfl, ho, hu⟩ := hrel
      have HO := Lib.hid ho
      have HU := Lib.hid (HU3.out.trans hu)
      have HUK := Lib.hid hu
      obtain ⟨p5, c5, rfl⟩ := own_form ho
      clear ho hu
      by_cases hlt : k < l.length
      · have hlt' : (k : Int) < (l.length : Int) := by omega
        have hk0 : 0 ≤ (k : Int) := by omega
        obtain ⟨x, hx⟩ : ∃ x, l[k]? = some x := ⟨_, List.getElem?_eq_getElem hlt⟩
        obtain ⟨b, o, hpo, h0, h1, h2, h3, h4, h5⟩ := (HH.out.upd0 HU.out) k x hx
        have HTK := Lib.hid (show l.take (k + 1) = l.take k ++ [x] by rw [List.take_add_one, hx]; rfl)
        have HTL := Lib.hid (show 0 + (l.take k).length = k by rw [List.length_take]; omega)
        subst hpo
        clear hx
        obtain ⟨xt, xk, xa, xd, xo, xe⟩ := x
        dsimp only at h0 h1 h2 h3 h4 h5
        have hcl := com_len (l.take k) 0
        have hcs := com_snoc (l.take k) 0 ⟨xt, xk, xa, xd, xo, xe⟩
        rw [← HTK.out, HTL.out] at hcs
        have HCL := Lib.hid (show (comI 0 (l.take k)).length ≤ 1000000000 by have := HTL.out; omega)
        have HUA := Lib.hid (show Upd [] W3 (wr.alloc (.cells #[.int .i64 xt, .int .i64 xk, .int .u64 xa, .int .u64 xd, .bool xo, .int .i64 xe] 27)) from HUK.out.alloc _)
        have HOA := Lib.hid (own_upd HO.out ((Upd.refl [] wr).alloc (.cells #[.int .i64 xt, .int .i64 xk, .int .u64 xa, .int .u64 xd, .bool xo, .int .i64 xe] 27)) (by simp))
        clear hcl
        by_cases h6 : xk = 6
        · subst h6
          rw [if_pos rfl] at hcs
          have HCS := Lib.hid hcs
          clear hcs
          go_upto_region 9 with fail
          obtain ⟨W4, hW4⟩ : ∃ W, wr.alloc (.cells #[.int .i64 xt, .int .i64 6, .int .u64 xa, .int .u64 xd, .bool xo, .int .i64 xe] 27) = W := ⟨_, rfl⟩
          rw [hW4] at HUA HOA ⊢
          obtain ⟨xb, hxb⟩ : ∃ b, wr.heap.size = b := ⟨_, rfl⟩
          rw [hxb]
          clear hW4 hxb h0 h1 h2 h3 h4 h5
          obtain ⟨v', W10, hrun, ho', hu'⟩ := app_int HOA.out (k : Int) (by have := HCL.out; omega) HUA.out.size
          have ub : Upd [] W4 (W4.alloc (.cells #[.int .i64 (k : Int)] 3)) := (Upd.refl _ _).alloc _
          have HO10 := Lib.hid ho'
          have HU10 := Lib.hid (show Upd [] W3 W10 from (HUA.out.trans ub).tr (U := []) hu' (by simp) (fun g hg => .inr (own_blocks HOA.out g hg).1))
          obtain ⟨p', c', rfl⟩ := own_form ho'
          clear ho' hu' ub
          go_wp2_with (at_builtin; refine wpList_append_eq rfl _ _ _ _ rfl _ _ _ rfl rfl hrun ?_)
          go_roundw
          case rel => exact ⟨k + 1, by omega, by go_num, by rw [HCS.out, List.length_append, List.length_singleton]; exact HO10.out, HU10.out⟩
          case measure => simp [intOf]; omega
        · have h61 : (xk == 6) = false := by simpa using h6
          rw [if_neg h6] at hcs
          have HCS := Lib.hid hcs
          clear hcs h6
          go_wp2_with fail
          go_roundw
          case rel => exact ⟨k + 1, by omega, by go_num, by rw [HCS.out]; exact HOA.out, HUA.out⟩
          case measure => simp [intOf]; omega
      · obtain rfl : k = l.length := by omega
        have HO2 := HO
        rw [List.take_length] at HO2 ⊢
        have HBX := Lib.hid (HB3.out.upd HUK.out (by simp))
        have HRX := Lib.hid (HR3.out.upd HUK.out (by simp))
        have HUX := HU
        go_upto_region 11 with fail
        have ud : Upd [] wr wr.drew := (Upd.refl _ _).drew
        have HB8 := Lib.hid (HBX.out.upd ud (by simp))
        have HR8 := Lib.hid (HRX.out.upd ud (by simp))
        have HU8 := Lib.hid (HUX.out.trans ud)
        have HV8 := Lib.hid (fun base sz n us tt (h : wr.ownsRow base tt sz (.slice p5 (comI 0 l).length c5) n us) => own_upd h ud (by simp))
        obtain ⟨W8, hW8⟩ : ∃ W, wr.drew = W := ⟨_, rfl⟩
        refine wp_region_brT (fun w' => w' = wr.drew) [0, 1, 2, 3] 3 (by kernel_rfl) (by kernel_rfl) (by kernel_rfl) ?_
        rw [hW8] at HB8 HR8 HU8 HV8 ⊢
        clear hW8 ud
        have m0 := HB8.out.cell 0 rfl
        have m1 := HB8.out.cell 1 rfl
        have q0 := HR8.out.cell 0 rfl
        have q1 := HR8.out.cell 1 rfl
        have f0 := HR8.out.free 0
        have f1 := HR8.out.free 1
        repeat ((refine wpC_take (v := ?_) rfl (by decide) rfl (by kernel_rfl) (by rfl) rfl ?_ ?_); rotate_left 1; (· ((intro w hSw; (try dsimp only at hSw); go_simp); try with_reducible rfl)); try simp only [Act.put, List.setIfInBounds_toArray, List.set_cons_zero, List.set_cons_succ])
        refine wpC_eff rfl (by kernel_rfl) (by rfl) (fun K2 hK2 => ?_)
        go_simp
        refine hK2.out _ _ (.inl (by decide)) ?_
        refine wpC_end (by kernel_rfl) (NoPanic.normal ?_)
        clear hK2 K2 m0 m1 q0 q1 f0 f1
        go_wp2_with fail
        have hus : Upd [rb] W8 ((W8.setCell ⟨rb, 0, none⟩ (.int .i64 A)).setCell ⟨rb, 1, none⟩ (.int .i64 0)) := ((Upd.refl _ _).setCell (.inl (by simp)) _).setCell (.inl (by simp)) _
        have hu9 : Upd [] w ((W8.setCell ⟨rb, 0, none⟩ (.int .i64 A)).setCell ⟨rb, 1, none⟩ (.int .i64 0)) := (HU8.out.setCell (.inr HRB.out) _).setCell (.inr HRB.out) _
        exact bodyPost_ret (odd_results rfl _ _ rb (.slice p5 (comI 0 l).length c5) _ _ rfl rfl ((HR8.out.set 0 _).set 1 _)) rfl (hK _ _ ⟨hu9, .slice p5 (comI 0 l).length c5, rfl, fun _ => own_mono (own_upd (HV8.out _ _ _ _ _ HO2.out) hus (fun g hg e => by have := (own_blocks HO2.out g (by rw [e]; simp)).1; have := HLR.out; simp at hg; omega)) HWS.out, fun h => absurd rfl h⟩)
  · have hB1 : (B != 0) = true := by simpa using hB
    have HBN := Lib.hid hB
    have q0 := HB3.out.cell 0 rfl
    have q1 := HB3.out.cell 1 rfl
    clear hB
    go_upto_region 3 with fail
    clear hW3 hob q0 q1
    have HBX := HB3
    have HRX := HR3
    have HUX := HU3
    have ud : Upd [] W3 W3.drew := (Upd.refl _ _).drew
    have HB8 := Lib.hid (HBX.out.upd ud (by simp))
    have HR8 := Lib.hid (HRX.out.upd ud (by simp))
    have HU8 := Lib.hid (HUX.out.trans ud)
    have HV8 := Lib.hid (fun base sz n us tt (h : W3.ownsRow base tt sz (.slice none 0 0) n us) => own_upd h ud (by simp))
    obtain ⟨W8, hW8⟩ : ∃ W, W3.drew = W := ⟨_, rfl⟩
    refine wp_region_brT (fun w' => w' = W3.drew) [0, 1, 2] 2 (by kernel_rfl) (by kernel_rfl) (by kernel_rfl) ?_
    rw [hW8] at HB8 HR8 HU8 HV8 ⊢
    clear hW8 ud
    have m0 := HB8.out.cell 0 rfl
    have m1 := HB8.out.cell 1 rfl
    have q0 := HR8.out.cell 0 rfl
    have q1 := HR8.out.cell 1 rfl
    have f0 := HR8.out.free 0
    have f1 := HR8.out.free 1
    repeat ((refine wpC_take (v := ?_) rfl (by decide) rfl (by kernel_rfl) (by rfl) rfl ?_ ?_); rotate_left 1; (· ((intro w hSw; (try dsimp only at hSw); go_simp); try with_reducible rfl)); try simp only [Act.put, List.setIfInBounds_toArray, List.set_cons_zero, List.set_cons_succ])
    refine wpC_eff rfl (by kernel_rfl) (by rfl) (fun K2 hK2 => ?_)
    go_simp
    refine hK2.out _ _ (.inl (by decide)) ?_
    refine wpC_end (by kernel_rfl) (NoPanic.normal ?_)
    clear hK2 K2 m0 m1 q0 q1 f0 f1
    go_wp2_with fail
    have hus : Upd [rb] W8 ((W8.setCell ⟨rb, 0, none⟩ (.int .i64 A)).setCell ⟨rb, 1, none⟩ (.int .i64 B)) := ((Upd.refl _ _).setCell (.inl (by simp)) _).setCell (.inl (by simp)) _
    have hu9 : Upd [] w ((W8.setCell ⟨rb, 0, none⟩ (.int .i64 A)).setCell ⟨rb, 1, none⟩ (.int .i64 B)) := (HU8.out.setCell (.inr HRB.out) _).setCell (.inr HRB.out) _
    exact bodyPost_ret (odd_results rfl _ _ rb (.slice none 0 0) _ _ rfl rfl ((HR8.out.set 0 _).set 1 _)) rfl (hK _ _ ⟨hu9, .slice none 0 0, rfl, fun h => absurd h HBN.out, fun _ => rfl⟩)
set_option maxHeartbeats 8000000 in
theorem rcommits_code (w : World) (po : Option Addr) (cap : Nat) (l : List Ev) (hH : HistAt w po l) (hl : l.length ≤ 1000000000) (hw : wideL l) : Calls Tryd.prog 27 #[.slice po l.length cap] w (ComOk w l) := by
  have HH := Lib.hid hH
  have HCH := Lib.hid (fun W (u : Upd [] w W) => rcheck_code W po cap l (hH.upd0 u) (by omega) hw)
  unfold ComOk
  obtain ⟨A, B, hAB⟩ : ∃ A B, oddE l = (A, B) := ⟨_, _, rfl⟩
  rw [hAB] at HCH ⊢
  dsimp only at HCH ⊢
  obtain ⟨W1, hW1⟩ : ∃ W, w.alloc (.cells #[.int .i64 0, .int .i64 0] 46) = W := ⟨_, rfl⟩
  have HU1 := Lib.hid (show Upd [] w W1 by rw [← hW1]; exact (Upd.refl [] _).alloc _)
  have HB1 := Lib.hid (show Blk W1 w.heap.size [.int .i64 0, .int .i64 0] 46 by rw [← hW1]; exact Blk.new w _ _)
  clear hH hw hAB
  refine calls_all fun K hK => ?_
  go_enter Tryd.func27, Tryd.ntmps27
  go_wp2_with fail
  refine (HCH.out W1 HU1.out).mono ?_
  rintro e W2 ⟨rfl, u2⟩
  have HB3 := Lib.hid (Blk.new W2 [.int .i64 A, .int .i64 B] 46)
  have u3 : Upd [] W2 (W2.alloc (.cells #[.int .i64 A, .int .i64 B] 46)) := (Upd.refl _ _).alloc _
  have HU3 := Lib.hid ((HU1.out.trans u2).trans u3)
  have HR3 := Lib.hid ((HB1.out.upd u2 (by simp)).upd u3 (by simp))
  obtain ⟨rb, hrb⟩ : ∃ b, w.heap.size = b := ⟨_, rfl⟩
  have HRB := Lib.hid (Nat.le_of_eq hrb)
  rw [hrb] at HR3 ⊢
  clear u2 HU1 HB1 HCH hW1
  obtain ⟨ob, hob⟩ : ∃ b, W2.heap.size = b := ⟨_, rfl⟩
  have HLO := Lib.hid (show ob < (W2.alloc (.cells #[.int .i64 A, .int .i64 B] 46)).heap.size by rw [World.size_alloc]; omega)
  go_upto_region 2 with fail
  try rw [hob]
  obtain ⟨W3, hW3⟩ : ∃ W, W2.alloc (.cells #[.int .i64 A, .int .i64 B] 46) = W := ⟨_, rfl⟩
  rw [hW3] at HU3 HR3 u3 HLO ⊢
  rw [show W2.alloc (.cells [.int .i64 A, .int .i64 B].toArray 46) = W3 from hW3, hob] at HB3
  have HLR := Lib.hid (show rb < W3.heap.size from HR3.out.lt)
  have HWS := Lib.hid (show w.heap.size ≤ W3.heap.size from HU3.out.size)
  clear u3 hrb
  by_cases hB : B = 0
  · subst hB
    have q0 := HB3.out.cell 0 rfl
    have q1 := HB3.out.cell 1 rfl
    go_wp2_with fail
    clear q0 q1 hW3 hob
    go_loopw [5, 6] (fun v5 v17 wr => ∃ k : Nat, k ≤ l.length ∧ v17 = .int .i64 k ∧ wr.ownsRow W3.heap.size 3 1 v5 (comI 0 (l.take k)).length (intsL (comI 0 (l.take k))) ∧ Upd [] W3 wr) (fun _ v17 _ => l.length - (intOf v17).toNat)
    case atStart => exact ⟨0, by omega, rfl, ⟨rfl, .inl ⟨rfl, rfl⟩⟩, Upd.refl _ _⟩
    case round =>
      obtain ⟨k, hk, rfl, ho, hu⟩ := hrel
      have HO := Lib.hid ho
      have HU := Lib.hid (HU3.out.trans hu)
      have HUK := Lib.hid hu
      have q0 := (HB3.out.upd hu (by simp)).cell 0 rfl
      have q1 := (HB3.out.upd hu (by simp)).cell 1 rfl
      obtain ⟨p5, c5, rfl⟩ := own_form ho
      clear ho hu
      by_cases hlt : k < l.length
      · have hlt' : (k : Int) < (l.length : Int) := by omega
        have hk0 : 0 ≤ (k : Int) := by omega
        obtain ⟨x, hx⟩ : ∃ x, l[k]? = some x := ⟨_, List.getElem?_eq_getElem hlt⟩
        obtain ⟨b, o, hpo, h0, h1, h2, h3, h4, h5⟩ := (HH.out.upd0 HU.out) k x hx
        have HTK := Lib.hid (show l.take (k + 1) = l.take k ++ [x] by rw [List.take_add_one, hx]; rfl)
        have HTL := Lib.hid (show 0 + (l.take k).length = k by rw [List.length_take]; omega)
        subst hpo
        clear hx
        obtain ⟨xt, xk, xa, xd, xo, xe⟩ := x
        dsimp only at h0 h1 h2 h3 h4 h5
        have hcl := com_len (l.take k) 0
        have hcs := com_snoc (l.take k) 0 ⟨xt, xk, xa, xd, xo, xe⟩
        rw [← HTK.out, HTL.out] at hcs
        have HCL := Lib.hid (show (comI 0 (l.take k)).length ≤ 1000000000 by have := HTL.out; omega)
        clear hcl
        by_cases h6 : xk = 6
        · subst h6
          rw [if_pos rfl] at hcs
          have HCS := Lib.hid hcs
          clear hcs
          obtain ⟨v', W10, hrun, ho', hu'⟩ := app_int HO.out (k : Int) (by have := HCL.out; omega) HUK.out.size
          have ub : Upd [] wr (wr.alloc (.cells #[.int .i64 (k : Int)] 3)) := (Upd.refl _ _).alloc _
          have HO10 := Lib.hid ho'
          have HU10 := Lib.hid (show Upd [] W3 W10 from (HUK.out.trans ub).tr (U := []) hu' (by simp) (fun g hg => .inr (own_blocks HO.out g hg).1))
          obtain ⟨p', c', rfl⟩ := own_form ho'
          clear ho' hu' ub
          go_wp2_with (at_builtin; refine wpList_append_eq rfl _ _ _ _ rfl _ _ _ rfl rfl hrun ?_)
          go_roundw
          case rel => exact ⟨k + 1, by omega, by go_num, by rw [HCS.out, List.length_append, List.length_singleton]; exact HO10.out, HU10.out⟩
          case measure => simp [intOf]; omega
        · have h61 : (xk == 6) = false := by simpa using h6
          rw [if_neg h6] at hcs
          have HCS := Lib.hid hcs
          clear hcs h6
          go_wp2_with fail
          go_roundw
          case rel => exact ⟨k + 1, by omega, by go_num, by rw [HCS.out]; exact HO.out, HUK.out⟩
          case measure => simp [intOf]; omega
      · obtain rfl : k = l.length := by omega
        have HO2 := HO
        rw [List.take_length] at HO2 ⊢
        have HBX := Lib.hid (HB3.out.upd HUK.out (by simp))
        have HRX := Lib.hid (HR3.out.upd HUK.out (by simp))
        have HUX := HU
        go_upto_region 8 with fail
        clear q0 q1
        have ud : Upd [] wr wr.drew := (Upd.refl _ _).drew
        have HB8 := Lib.hid (HBX.out.upd ud (by simp))
        have HR8 := Lib.hid (HRX.out.upd ud (by simp))
        have HU8 := Lib.hid (HUX.out.trans ud)
        have HV8 := Lib.hid (fun base sz n us tt (h : wr.ownsRow base tt sz (.slice p5 (comI 0 l).length c5) n us) => own_upd h ud (by simp))
        obtain ⟨W8, hW8⟩ : ∃ W, wr.drew = W := ⟨_, rfl⟩
        refine wp_region_brT (fun w' => w' = wr.drew) [0, 1, 2, 3] 3 (by kernel_rfl) (by kernel_rfl) (by kernel_rfl) ?_
        rw [hW8] at HB8 HR8 HU8 HV8 ⊢
        clear hW8 ud
        have m0 := HB8.out.cell 0 rfl
        have m1 := HB8.out.cell 1 rfl
        have q0 := HR8.out.cell 0 rfl
        have q1 := HR8.out.cell 1 rfl
        have f0 := HR8.out.free 0
        have f1 := HR8.out.free 1
        repeat ((refine wpC_take (v := ?_) rfl (by decide) rfl (by kernel_rfl) (by rfl) rfl ?_ ?_); rotate_left 1; (· ((intro w hSw; (try dsimp only at hSw); go_simp); try with_reducible rfl)); try simp only [Act.put, List.setIfInBounds_toArray, List.set_cons_zero, List.set_cons_succ])
        refine wpC_eff rfl (by kernel_rfl) (by rfl) (fun K2 hK2 => ?_)
        go_simp
        refine hK2.out _ _ (.inl (by decide)) ?_
        refine wpC_end (by kernel_rfl) (NoPanic.normal ?_)
        clear hK2 K2 m0 m1 q0 q1 f0 f1
        go_wp2_with fail
        have hus : Upd [rb] W8 ((W8.setCell ⟨rb, 0, none⟩ (.int .i64 A)).setCell ⟨rb, 1, none⟩ (.int .i64 0)) := ((Upd.refl _ _).setCell (.inl (by simp)) _).setCell (.inl (by simp)) _
        have hu9 : Upd [] w ((W8.setCell ⟨rb, 0, none⟩ (.int .i64 A)).setCell ⟨rb, 1, none⟩ (.int .i64 0)) := (HU8.out.setCell (.inr HRB.out) _).setCell (.inr HRB.out) _
        exact bodyPost_ret (odd_results rfl _ _ rb (.slice p5 (comI 0 l).length c5) _ _ rfl rfl ((HR8.out.set 0 _).set 1 _)) rfl (hK _ _ ⟨hu9, .slice p5 (comI 0 l).length c5, rfl, fun _ => own_mono (own_upd (HV8.out _ _ _ _ _ HO2.out) hus (fun g hg e => by have := (own_blocks HO2.out g (by rw [e]; simp)).1; have := HLR.out; simp at hg; omega)) HWS.out, fun h => absurd rfl h⟩)
  · have hB1 : (B == 0) = false := by simpa using hB
    have HBN := Lib.hid hB
    clear hB
    have q0 := HB3.out.cell 0 rfl
    have q1 := HB3.out.cell 1 rfl
    go_wp2_with fail
    clear hW3 hob q0 q1
    go_loopw [5, 6] (fun v5 v6 wr => v5 = .slice none 0 0 ∧ v6 = .int .i64 0 ∧ W3 = wr) (fun _ _ _ => 0)
    case atStart => exact ⟨rfl, rfl, rfl⟩
    case round =>
      obtain ⟨rfl, rfl, rfl⟩ := hrel
      have q0 := HB3.out.cell 0 rfl
      have q1 := HB3.out.cell 1 rfl
      have HBX := HB3
      have HRX := HR3
      have HUX := HU3
      by_cases h0l : 0 < l.length
      · have h0i : 0 < (l.length : Int) := by omega
        have h0d : decide (0 < (l.length : Int)) = true := decide_eq_true h0i
        go_upto_region 8 with fail
        clear q0 q1
        have ud : Upd [] W3 W3.drew := (Upd.refl _ _).drew
        have HB8 := Lib.hid (HBX.out.upd ud (by simp))
        have HR8 := Lib.hid (HRX.out.upd ud (by simp))
        have HU8 := Lib.hid (HUX.out.trans ud)
        have HV8 := Lib.hid (fun base sz n us tt (h : W3.ownsRow base tt sz (.slice none 0 0) n us) => own_upd h ud (by simp))
        obtain ⟨W8, hW8⟩ : ∃ W, W3.drew = W := ⟨_, rfl⟩
        refine wp_region_brT (fun w' => w' = W3.drew) [0, 1, 2, 3] 3 (by kernel_rfl) (by kernel_rfl) (by kernel_rfl) ?_
        rw [hW8] at HB8 HR8 HU8 HV8 ⊢
        clear hW8 ud
        have m0 := HB8.out.cell 0 rfl
        have m1 := HB8.out.cell 1 rfl
        have q0 := HR8.out.cell 0 rfl
        have q1 := HR8.out.cell 1 rfl
        have f0 := HR8.out.free 0
        have f1 := HR8.out.free 1
        repeat ((refine wpC_take (v := ?_) rfl (by decide) rfl (by kernel_rfl) (by rfl) rfl ?_ ?_); rotate_left 1; (· ((intro w hSw; (try dsimp only at hSw); go_simp); try with_reducible rfl)); try simp only [Act.put, List.setIfInBounds_toArray, List.set_cons_zero, List.set_cons_succ])
        refine wpC_eff rfl (by kernel_rfl) (by rfl) (fun K2 hK2 => ?_)
        go_simp
        refine hK2.out _ _ (.inl (by decide)) ?_
        refine wpC_end (by kernel_rfl) (NoPanic.normal ?_)
        clear hK2 K2 m0 m1 q0 q1 f0 f1
        go_wp2_with fail
        have hus : Upd [rb] W8 ((W8.setCell ⟨rb, 0, none⟩ (.int .i64 A)).setCell ⟨rb, 1, none⟩ (.int .i64 B)) := ((Upd.refl _ _).setCell (.inl (by simp)) _).setCell (.inl (by simp)) _
        have hu9 : Upd [] w ((W8.setCell ⟨rb, 0, none⟩ (.int .i64 A)).setCell ⟨rb, 1, none⟩ (.int .i64 B)) := (HU8.out.setCell (.inr HRB.out) _).setCell (.inr HRB.out) _
        exact bodyPost_ret (odd_results rfl _ _ rb (.slice none 0 0) _ _ rfl rfl ((HR8.out.set 0 _).set 1 _)) rfl (hK _ _ ⟨hu9, .slice none 0 0, rfl, fun h => absurd h HBN.out, fun _ => rfl⟩)
      · have h0i : ¬ 0 < (l.length : Int) := by omega
        have h0d : decide (0 < (l.length : Int)) = false := decide_eq_false h0i
        go_upto_region 8 with fail
        clear q0 q1
        have ud : Upd [] W3 W3.drew := (Upd.refl _ _).drew
        have HB8 := Lib.hid (HBX.out.upd ud (by simp))
        have HR8 := Lib.hid (HRX.out.upd ud (by simp))
        have HU8 := Lib.hid (HUX.out.trans ud)
        have HV8 := Lib.hid (fun base sz n us tt (h : W3.ownsRow base tt sz (.slice none 0 0) n us) => own_upd h ud (by simp))
        obtain ⟨W8, hW8⟩ : ∃ W, W3.drew = W := ⟨_, rfl⟩
        refine wp_region_brT (fun w' => w' = W3.drew) [0, 1, 2, 3] 3 (by kernel_rfl) (by kernel_rfl) (by kernel_rfl) ?_
        rw [hW8] at HB8 HR8 HU8 HV8 ⊢
        clear hW8 ud
        have m0 := HB8.out.cell 0 rfl
        have m1 := HB8.out.cell 1 rfl
        have q0 := HR8.out.cell 0 rfl
        have q1 := HR8.out.cell 1 rfl
        have f0 := HR8.out.free 0
        have f1 := HR8.out.free 1
        repeat ((refine wpC_take (v := ?_) rfl (by decide) rfl (by kernel_rfl) (by rfl) rfl ?_ ?_); rotate_left 1; (· ((intro w hSw; (try dsimp only at hSw); go_simp); try with_reducible rfl)); try simp only [Act.put, List.setIfInBounds_toArray, List.set_cons_zero, List.set_cons_succ])
        refine wpC_eff rfl (by kernel_rfl) (by rfl) (fun K2 hK2 => ?_)
        go_simp
        refine hK2.out _ _ (.inl (by decide)) ?_
        refine wpC_end (by kernel_rfl) (NoPanic.normal ?_)
        clear hK2 K2 m0 m1 q0 q1 f0 f1
        go_wp2_with fail
        have hus : Upd [rb] W8 ((W8.setCell ⟨rb, 0, none⟩ (.int .i64 A)).setCell ⟨rb, 1, none⟩ (.int .i64 B)) := ((Upd.refl _ _).setCell (.inl (by simp)) _).setCell (.inl (by simp)) _
        have hu9 : Upd [] w ((W8.setCell ⟨rb, 0, none⟩ (.int .i64 A)).setCell ⟨rb, 1, none⟩ (.int .i64 B)) := (HU8.out.setCell (.inr HRB.out) _).setCell (.inr HRB.out) _
        exact bodyPost_ret (odd_results rfl _ _ rb (.slice none 0 0) _ _ rfl rfl ((HR8.out.set 0 _).set 1 _)) rfl (hK _ _ ⟨hu9, .slice none 0 0, rfl, fun h => absurd h HBN.out, fun _ => rfl⟩)
end Go.Proofs.YtfldpejifpmapaaDoor
set_option linter.unusedSimpArgs false
set_option linter.unusedVariables false
set_option maxRecDepth 100000
namespace Go.Proofs.YtfldpejifpmapaaDoor
open Go.RowKit
open Go.Maps
def IntsAt (w : World) (p : Option Addr) (L : List Int) : Prop := ∀ i x, L[i]? = some x → ∃ b o, p = some ⟨b, o, none⟩ ∧ w.cell? ⟨b, o + i, none⟩ = some (.int .i64 x)
theorem IntsAt.upd0 {w w' : World} {p : Option Addr} {L : List Int} (h : IntsAt w p L) (u : Upd [] w w') : IntsAt w' p L := by
  intro i x hx
  obtain ⟨b, o, rfl, h0⟩ := h i x hx
  exact ⟨b, o, rfl, u.cell (by simp) h0⟩
theorem own_intsAt {w : World} {base : Nat} {v : Value} {L : List Int} (h : w.ownsRow base 3 1 v L.length (intsL L)) : ∃ p c, v = .slice p L.length c ∧ IntsAt w p L := by
  obtain ⟨p, c, rfl⟩ := own_form h
  refine ⟨p, c, rfl, fun i x hx => ?_⟩
  have hi : i < L.length := (List.getElem?_eq_some_iff.1 hx).1
  obtain ⟨g, c', e⟩ := own_some h (by omega)
  cases e
  obtain ⟨_, _, sp, hB⟩ := own_openN h
  refine ⟨g, 0, rfl, ?_⟩
  rw [Nat.zero_add]
  refine hB.cell i ?_
  unfold intsL
  rw [List.getElem?_append_left (by rw [List.length_map]; exact hi), List.getElem?_map, hx]
  rfl
set_option maxHeartbeats 4000000 in
theorem rsameInts_code (w : World) (p q : Option Addr) (c d : Nat) (l : List Int) (hp : IntsAt w p l) (hq : IntsAt w q l) (hl : l.length ≤ 1000000000000) : Calls Tryd.prog 31 #[.slice p l.length c, .slice q l.length d] w fun e w' => e = .returned (.bool true) ∧ Upd [] w w' := by
  have HPP := Lib.hid hp
  have HQQ := Lib.hid hq
  clear hp hq
  refine calls_all fun K hK => ?_
  go_enter Tryd.func31, Tryd.ntmps31
  go_wp2_with fail
  go_loopw [5] (fun v5 wr => ∃ k : Nat, k ≤ l.length ∧ v5 = .int .i64 k ∧ Upd [] w wr) (fun v5 _ => l.length - (intOf v5).toNat)
  case atStart => exact ⟨0, by omega, rfl, Upd.refl _ _⟩
  case round =>
    obtain ⟨k, hk, rfl, hu⟩ := hrel
    have HU := Lib.hid hu
    clear hu
    by_cases hlt : k < l.length
    · have hlt' : (k : Int) < (l.length : Int) := by omega
      have hk0 : 0 ≤ (k : Int) := by omega
      obtain ⟨x, hx⟩ : ∃ x, l[k]? = some x := ⟨_, List.getElem?_eq_getElem hlt⟩
      obtain ⟨b, o, hpo, h0⟩ := (HPP.out.upd0 HU.out) k x hx
      obtain ⟨b', o', hpo', g0⟩ := (HQQ.out.upd0 HU.out) k x hx
      subst hpo
      subst hpo'
      clear hx
      go_wp2_with fail
      go_quiet (fail)
      go_wp2_with fail
      go_roundw
      case rel => exact ⟨k + 1, by omega, by go_num, HU.out.trans ((Upd.refl _ _).drewN _)⟩
      case measure => simp [intOf]; omega
    · obtain rfl : k = l.length := by omega
      go_wp2_with fail
      exact ⟨rfl, HU.out⟩
set_option maxHeartbeats 4000000 in
theorem rsameTries_code (w : World) (p q : Option Addr) (c d : Nat) (l : List Try) (hp : TryAt w p l) (hq : TryAt w q l) (hl : l.length ≤ 1000000000000) : Calls Tryd.prog 30 #[.slice p l.length c, .slice q l.length d] w fun e w' => e = .returned (.bool true) ∧ Upd [] w w' := by
  have HPP := Lib.hid hp
  have HQQ := Lib.hid hq
  clear hp hq
  refine calls_all fun K hK => ?_
  go_enter Tryd.func30, Tryd.ntmps30
  go_wp2_with fail
  go_loopw [5] (fun v5 wr => ∃ k : Nat, k ≤ l.length ∧ v5 = .int .i64 k ∧ Upd [] w wr) (fun v5 _ => l.length - (intOf v5).toNat)
  case atStart => exact ⟨0, by omega, rfl, Upd.refl _ _⟩
  case round =>
    obtain ⟨k, hk, rfl, hu⟩ := hrel
    have HU := Lib.hid hu
    clear hu
    by_cases hlt : k < l.length
    · have hlt' : (k : Int) < (l.length : Int) := by omega
      have hk0 : 0 ≤ (k : Int) := by omega
      obtain ⟨x, hx⟩ : ∃ x, l[k]? = some x := ⟨_, List.getElem?_eq_getElem hlt⟩
      obtain ⟨b, o, hpo, h0, h1, h2, h3, h4, h5, h6⟩ := (HPP.out.upd0 HU.out) k x hx
      obtain ⟨b', o', hpo', g0, g1, g2, g3, g4, g5, g6⟩ := (HQQ.out.upd0 HU.out) k x hx
      subst hpo
      subst hpo'
      clear hx
      obtain ⟨xt, xf, xl, xs, xh, xr, xw⟩ := x
      dsimp only at h0 h1 h2 h3 h4 h5 h6 g0 g1 g2 g3 g4 g5 g6
      go_wp2_with fail
      go_quiet (fail)
      go_wp2_with fail
      go_roundw
      case rel => exact ⟨k + 1, by omega, by go_num, HU.out.trans ((Upd.refl _ _).drewN _)⟩
      case measure => simp [intOf]; omega
    · obtain rfl : k = l.length := by omega
      go_wp2_with fail
      exact ⟨rfl, HU.out⟩
end Go.Proofs.YtfldpejifpmapaaDoor
set_option linter.unusedSimpArgs false
set_option linter.unusedVariables false
set_option maxRecDepth 100000
namespace Go.Proofs.YtfldpejifpmapaaDoor
open Go.RowKit
open Go.Maps
theorem fold_snoc : ∀ (m : List Ev) (x : Try) (i : Nat) (e : Ev), refFold x i (m ++ [e]) = refTry (refFold x i m) (i + m.length) e
  | [], x, i, e => rfl
  | y :: m, x, i, e => by
    rw [List.cons_append, refFold, refFold, fold_snoc m _ (i + 1) e, List.length_cons]
    congr 1
    omega
theorem fold_done : ∀ (m : List Ev) (x : Try) (i : Nat), x.how ≠ 0 → refFold x i m = x
  | [], x, i, _ => rfl
  | y :: m, x, i, h => by
    rw [refFold]
    have : refTry x i y = x := by unfold refTry; rw [if_neg (fun q => h q.1)]
    rw [this]
    exact fold_done m x (i + 1) h
theorem fold_app : ∀ (a m : List Ev) (x : Try) (i : Nat), refFold x i (a ++ m) = refFold (refFold x i a) (i + a.length) m
  | [], m, x, i => rfl
  | y :: a, m, x, i => by
    rw [List.cons_append, refFold, refFold, fold_app a m, List.length_cons]
    congr 1
    omega
theorem try_results {fn : Func} {m : Nat} (hr : fn.results = #[.cell m 52]) (t : Array Value) (w : World) (rb : Nat) (x : Try) (h2 : t.getD m undef = .pointer (some ⟨rb, 0, none⟩)) (hb : Blk w rb x.cells 52) :
    (results fn t).run Tryd.prog w = .ok x.val w := by
  have c0 := hb.cell 0 rfl
  have c1 := hb.cell 1 rfl
  have c2 := hb.cell 2 rfl
  have c3 := hb.cell 3 rfl
  have c4 := hb.cell 4 rfl
  have c5 := hb.cell 5 rfl
  have c6 := hb.cell 6 rfl
  have h2' : t[m]?.getD undef = .pointer (some ⟨rb, 0, none⟩) := by simpa using h2
  simp [results, hr, h2', go_sem, c0, c1, c2, c3, c4, c5, c6, Try.val]
theorem try7_upd {S : List Nat} {w0 w : World} {rb : Nat} (u : Upd S w0 w) (h : w0.heap.size ≤ rb) (x0 x1 x2 x3 x4 x5 x6 : Int) : Upd S w0 (((((((w.setCell ⟨rb, 0, none⟩ (.int .i64 x0)).setCell ⟨rb, 1, none⟩ (.int .i64 x1)).setCell ⟨rb, 2, none⟩ (.int .i64 x2)).setCell ⟨rb, 3, none⟩ (.int .u64 x3)).setCell ⟨rb, 4, none⟩ (.int .i64 x4)).setCell ⟨rb, 5, none⟩ (.int .i64 x5)).setCell ⟨rb, 6, none⟩ (.int .i64 x6)) :=
  ((((((u.setCell (.inr h) _).setCell (.inr h) _).setCell (.inr h) _).setCell (.inr h) _).setCell (.inr h) _).setCell (.inr h) _).setCell (.inr h) _
theorem try7_results {fn : Func} {m : Nat} (hr : fn.results = #[.cell m 52]) (t : Array Value) (w : World) (rb : Nat) (x0 x1 x2 x3 x4 x5 x6 : Int) {y : Try} (h2 : t.getD m undef = .pointer (some ⟨rb, 0, none⟩)) (hb : Blk w rb y.cells 52) :
    (results fn t).run Tryd.prog (((((((w.setCell ⟨rb, 0, none⟩ (.int .i64 x0)).setCell ⟨rb, 1, none⟩ (.int .i64 x1)).setCell ⟨rb, 2, none⟩ (.int .i64 x2)).setCell ⟨rb, 3, none⟩ (.int .u64 x3)).setCell ⟨rb, 4, none⟩ (.int .i64 x4)).setCell ⟨rb, 5, none⟩ (.int .i64 x5)).setCell ⟨rb, 6, none⟩ (.int .i64 x6)) = .ok (⟨x0, x1, x2, x3, x4, x5, x6⟩ : Try).val (((((((w.setCell ⟨rb, 0, none⟩ (.int .i64 x0)).setCell ⟨rb, 1, none⟩ (.int .i64 x1)).setCell ⟨rb, 2, none⟩ (.int .i64 x2)).setCell ⟨rb, 3, none⟩ (.int .u64 x3)).setCell ⟨rb, 4, none⟩ (.int .i64 x4)).setCell ⟨rb, 5, none⟩ (.int .i64 x5)).setCell ⟨rb, 6, none⟩ (.int .i64 x6)) :=
  try_results hr t _ rb ⟨x0, x1, x2, x3, x4, x5, x6⟩ h2 (((((((hb.set 0 _).set 1 _).set 2 _).set 3 _).set 4 _).set 5 _).set 6 _)
-- a round's end
set_option maxHeartbeats 8000000 in
theorem rtry_code (w : World) (po : Option Addr) (cap : Nat) (l : List Ev) (at_ : Nat) (y : Ev) (hy : l[at_]? = some y) (hH : HistAt w po l) (hl : l.length ≤ 1000000000) : Calls Tryd.prog 54 #[.slice po l.length cap, .int .i64 (at_ : Int)] w fun e w' => e = .returned (refFold (refStart at_ y) (at_ + 1) (l.drop (at_ + 1))).val ∧ Upd [] w w' := by
  have HY := Lib.hid hy
  have hal : at_ < l.length := (List.getElem?_eq_some_iff.1 hy).1
  obtain ⟨W1, hW1⟩ : ∃ W, w.alloc (.cells #[.int .i64 0, .int .i64 0, .int .i64 0, .int .u64 0, .int .i64 0, .int .i64 0, .int .i64 0] 52) = W := ⟨_, rfl⟩
  have HU1 := Lib.hid (show Upd [] w W1 by rw [← hW1]; exact (Upd.refl _ _).alloc _)
  have HR1 := Lib.hid (show Blk W1 w.heap.size [.int .i64 0, .int .i64 0, .int .i64 0, .int .u64 0, .int .i64 0, .int .i64 0, .int .i64 0] 52 by rw [← hW1]; exact Blk.new w _ _)
  obtain ⟨rb, hrb⟩ : ∃ b, w.heap.size = b := ⟨_, rfl⟩
  have HRB := Lib.hid (Nat.le_of_eq hrb)
  rw [hrb] at HR1
  have HH := Lib.hid hH
  obtain ⟨b, o, hpo, h0, h1, h2, h3, h4, h5⟩ := (hH.upd0 HU1.out) at_ y hy
  subst hpo
  have ha0 : 0 ≤ (at_ : Int) := by omega
  have haN : (at_ : Int) < (l.length : Int) := by omega
  clear hH hy
  refine calls_all fun K hK => ?_
  go_enter Tryd.func54, Tryd.ntmps54
  go_upto_region 1 with fail
  try rw [hrb]
  try rw [hW1]
  clear hrb hW1
  go_cut [5] from 8 to 20 (fun v5 wx => ∃ tb, v5 = .pointer (some ⟨tb, 0, none⟩) ∧ Blk wx tb (refStart at_ y).cells 52 ∧ Upd [] W1 wx ∧ W1.heap.size ≤ tb)
  case first =>
    obtain ⟨yt, yk, ya, yw, yo, ye⟩ := y
    dsimp only at h0 h3
    have ud : Upd [] W1 W1.drew := (Upd.refl _ _).drew
    have g0 := ud.cell (by simp) h0
    have g3 := ud.cell (by simp) h3
    refine wp_region_brT (fun w' => w'.cell? ⟨b, o + at_ * 6, none⟩ = some (.int .i64 yt) ∧ w'.cell? ⟨b, o + at_ * 6 + 3, none⟩ = some (.int .u64 yw)) [0, 1, 2, 3, 4, 5, 6, 7, 8, 9, 10, 11, 12, 13, 14] 14 (by kernel_rfl) (by kernel_rfl) (by kernel_rfl) ?_
    generalize W1.drew = W2 at ud g0 g3 ⊢
    have HUD := Lib.hid ud
    have hS : W2.cell? ⟨b, o + at_ * 6, none⟩ = some (.int .i64 yt) ∧ W2.cell? ⟨b, o + at_ * 6 + 3, none⟩ = some (.int .u64 yw) := ⟨g0, g3⟩
    have HSS := Lib.hid hS
    clear ud g0 g3 h0 h1 h2 h3 h4 h5
    repeat ((refine wpC_take (v := ?_) rfl (by decide) rfl (by kernel_rfl) (by rfl) hS ?_ ?_); rotate_left 1; (· ((intro w hSw; (try dsimp only at hSw); go_simp); try with_reducible rfl)); try simp only [Act.put, List.setIfInBounds_toArray, List.set_cons_zero, List.set_cons_succ])
    refine wpC_eff rfl (by kernel_rfl) (by rfl) (fun K2 hK2 => ?_)
    go_simp
    have ua : Upd [] W2 (W2.alloc (.cells #[.int .i64 0, .int .i64 0, .int .i64 0, .int .u64 0, .int .i64 0, .int .i64 0, .int .i64 0] 52)) := (Upd.refl _ _).alloc _
    have HSa := Lib.hid (show (W2.alloc (.cells #[.int .i64 0, .int .i64 0, .int .i64 0, .int .u64 0, .int .i64 0, .int .i64 0, .int .i64 0] 52)).cell? ⟨b, o + at_ * 6, none⟩ = some (.int .i64 yt) ∧ (W2.alloc (.cells #[.int .i64 0, .int .i64 0, .int .i64 0, .int .u64 0, .int .i64 0, .int .i64 0, .int .i64 0] 52)).cell? ⟨b, o + at_ * 6 + 3, none⟩ = some (.int .u64 yw) from ⟨ua.cell (by simp) HSS.out.1, ua.cell (by simp) HSS.out.2⟩)
    have HB3 := Lib.hid (Blk.new W2 [.int .i64 0, .int .i64 0, .int .i64 0, .int .u64 0, .int .i64 0, .int .i64 0, .int .i64 0] 52)
    refine hK2.out _ _ (.inr HSa.out) ?_
    clear hK2 K2 hS
    obtain ⟨tb, htb⟩ : ∃ t, W2.heap.size = t := ⟨_, rfl⟩
    have HTB := Lib.hid htb
    try rw [htb]
    rw [htb] at HB3
    have HUa := Lib.hid (HUD.out.trans ua)
    obtain ⟨W3, hW3⟩ : ∃ W, W2.alloc (.cells #[.int .i64 0, .int .i64 0, .int .i64 0, .int .u64 0, .int .i64 0, .int .i64 0, .int .i64 0] 52) = W := ⟨_, rfl⟩
    rw [hW3] at HSa HUa ⊢
    rw [show W2.alloc (.cells [.int .i64 0, .int .i64 0, .int .i64 0, .int .u64 0, .int .i64 0, .int .i64 0, .int .i64 0].toArray 52) = W3 from hW3] at HB3
    clear hW3 htb ua
    have hS := HSa.out
    repeat ((refine wpC_take (v := ?_) rfl (by decide) rfl (by kernel_rfl) (by rfl) hS ?_ ?_); rotate_left 1; (· ((intro w hSw; (try dsimp only at hSw); go_simp); try with_reducible rfl)); try simp only [Act.put, List.setIfInBounds_toArray, List.set_cons_zero, List.set_cons_succ])
    have c0 := HB3.out.cell 0 rfl
    have c1 := HB3.out.cell 1 rfl
    have c2 := HB3.out.cell 2 rfl
    have c3 := HB3.out.cell 3 rfl
    have c4 := HB3.out.cell 4 rfl
    have c5 := HB3.out.cell 5 rfl
    have c6 := HB3.out.cell 6 rfl
    have f0 := HB3.out.free 0
    have f1 := HB3.out.free 1
    have f2 := HB3.out.free 2
    have f3 := HB3.out.free 3
    have f4 := HB3.out.free 4
    have f5 := HB3.out.free 5
    have f6 := HB3.out.free 6
    refine wpC_eff rfl (by kernel_rfl) (by rfl) (fun K2 hK2 => ?_)
    go_simp
    refine hK2.out _ _ (.inl (by decide)) ?_
    refine wpC_end (by kernel_rfl) (NoPanic.normal ?_)
    clear hK2 K2 c0 c1 c2 c3 c4 c5 c6 f0 f1 f2 f3 f4 f5 f6 hS
    have hW2s : W1.heap.size ≤ W2.heap.size := HUD.out.size
    go_wp2_with fail
    go_meet
    exact ⟨tb, rfl, (((((((HB3.out.set 0 _).set 1 _).set 2 _).set 3 _).set 4 _).set 5 _).set 6 _), (((((((HUa.out.setCell (.inr (by have := HTB.out; dsimp only; omega)) _).setCell (.inr (by have := HTB.out; dsimp only; omega)) _).setCell (.inr (by have := HTB.out; dsimp only; omega)) _).setCell (.inr (by have := HTB.out; dsimp only; omega)) _).setCell (.inr (by have := HTB.out; dsimp only; omega)) _).setCell (.inr (by have := HTB.out; dsimp only; omega)) _).setCell (.inr (by have := HTB.out; dsimp only; omega)) _), by have := HTB.out; omega⟩
  case rest =>
    obtain ⟨tb, rfl, hbt, hut, htb⟩ := hcut
    obtain ⟨W2, rfl⟩ : ∃ W, W = wc := ⟨wc, rfl⟩
    have HT2 := Lib.hid hbt
    have HU2 := Lib.hid hut
    have HTB := Lib.hid htb
    have HR2 := Lib.hid (HR1.out.upd hut (by simp))
    have HH2 := Lib.hid (HH.out.upd0 (HU1.out.trans hut))
    have HRT := Lib.hid (show rb ≠ tb by have := HR1.out.lt; omega)
    clear hbt hut htb h0 h1 h2 h3 h4 h5
    have hal1 : at_ + 1 ≤ l.length := by omega
    go_wp2_with fail
    go_loopw [6] (fun v6 wr => ∃ (k : Nat) (s : Try), at_ + 1 ≤ k ∧ k ≤ l.length ∧ v6 = .int .i64 k ∧ s = refFold (refStart at_ y) (at_ + 1) ((l.take k).drop (at_ + 1)) ∧ s.how = 0 ∧ (0 ≤ s.reads ∧ s.reads ≤ k ∧ 0 ≤ s.writes ∧ s.writes ≤ k) ∧ Blk wr tb s.cells 52 ∧ Upd [tb] W2 wr) (fun v6 _ => l.length - (intOf v6).toNat)
    case atStart => exact ⟨at_ + 1, refStart at_ y, by omega, by omega, by go_num, by rw [List.drop_eq_nil_of_le (by rw [List.length_take]; omega)]; rfl, rfl, by unfold refStart; dsimp only; omega, HT2.out, Upd.refl _ _⟩
    case round =>
      obtain ⟨k, s, hak, hk, rfl, hs, hs0, hsr, hbt, hu⟩ := hrel
      have HS := Lib.hid hs
      have HS0 := Lib.hid hs0
      have HT := Lib.hid hbt
      have HU := Lib.hid hu
      have HR := Lib.hid (HR2.out.upd hu (by simpa using HRT.out))
      have HUW := Lib.hid (show Upd [] w wr from (HU1.out.trans HU2.out).tr (U := []) hu (by simp) (fun g hg => by simp at hg; subst hg; exact .inr (Nat.le_trans HU1.out.size HTB.out)))
      have HHR := Lib.hid (HH2.out.upd hu (fun b' o' e => by
        cases e
        have := HH.out.lt b o rfl (by intro e; rw [e] at hal; simp at hal)
        have h2 := HU1.out.size
        have h3 := HTB.out
        simp; omega))
      clear hs hs0 hbt hu
      by_cases hlt : k < l.length
      · have hlt' : (k : Int) < (l.length : Int) := by omega
        have hk0 : 0 ≤ (k : Int) := by omega
        obtain ⟨x, hx⟩ : ∃ x, l[k]? = some x := ⟨_, List.getElem?_eq_getElem hlt⟩
        obtain ⟨b', o', hpo', h0, h1, h2, h3, h4, h5⟩ := HHR.out k x hx
        obtain ⟨rfl, rfl⟩ : b = b' ∧ o = o' := by cases hpo'; exact ⟨rfl, rfl⟩
        have HTK := Lib.hid (show (l.take (k + 1)).drop (at_ + 1) = (l.take k).drop (at_ + 1) ++ [x] by
          rw [List.take_add_one, hx, List.drop_append_of_le_length (by rw [List.length_take]; omega)]; rfl)
        have HNX := Lib.hid (show refFold (refStart at_ y) (at_ + 1) ((l.take (k + 1)).drop (at_ + 1)) = refTry s k x by
          rw [HTK.out, fold_snoc, ← HS.out]
          congr 1
          rw [List.length_drop, List.length_take]
          omega)
        have HFIN := Lib.hid (show (refTry s k x).how ≠ 0 → refFold (refStart at_ y) (at_ + 1) (l.drop (at_ + 1)) = refTry s k x from fun h => by
          have hsp : l.drop (at_ + 1) = (l.take (k + 1)).drop (at_ + 1) ++ l.drop (k + 1) := by
            conv => lhs; rw [← List.take_append_drop (k + 1) l]
            rw [List.drop_append_of_le_length (by rw [List.length_take]; omega)]
          rw [hsp, fold_app, HNX.out]
          exact fold_done _ _ _ h)
        clear hx hpo'
        have HNT := Lib.hid (show refTry s k x = if x.th = s.th then refNext s k x else s by
          unfold refTry
          by_cases h : x.th = s.th
          · rw [if_pos ⟨HS0.out, h⟩, if_pos h]
          · rw [if_neg (fun q => h q.2), if_neg h])
        obtain ⟨xt, xk, xa, xd, xo, xe⟩ := x
        obtain ⟨st, sf, sl, ss, sh, sr, sw⟩ := s
        dsimp only at h0 h1 h2 h3 h4 h5 hsr
        have hsh := HS0.out
        dsimp only at hsh
        subst hsh
        have HTA := Lib.hid (HT.out.alloc (.cells #[.int .i64 xt, .int .i64 xk, .int .u64 xa, .int .u64 xd, .bool xo, .int .i64 xe] 27))
        have HRA := Lib.hid (HR.out.alloc (.cells #[.int .i64 xt, .int .i64 xk, .int .u64 xa, .int .u64 xd, .bool xo, .int .i64 xe] 27))
        have HUA := Lib.hid (HU.out.alloc (.cells #[.int .i64 xt, .int .i64 xk, .int .u64 xa, .int .u64 xd, .bool xo, .int .i64 xe] 27))
        have HUWA := Lib.hid (HUW.out.alloc (.cells #[.int .i64 xt, .int .i64 xk, .int .u64 xa, .int .u64 xd, .bool xo, .int .i64 xe] 27))
        have HEA := Lib.hid (Blk.new wr [.int .i64 xt, .int .i64 xk, .int .u64 xa, .int .u64 xd, .bool xo, .int .i64 xe] 27)
        have HTL := Lib.hid (show tb < wr.heap.size from HT.out.lt)
        go_upto_region 6 with fail
        obtain ⟨eb, heb⟩ : ∃ b, wr.heap.size = b := ⟨_, rfl⟩
        rw [heb] at HEA HTL ⊢
        obtain ⟨W3, hW3⟩ : ∃ W, wr.alloc (.cells #[.int .i64 xt, .int .i64 xk, .int .u64 xa, .int .u64 xd, .bool xo, .int .i64 xe] 27) = W := ⟨_, rfl⟩
        rw [hW3] at HTA HRA HUA HUWA ⊢
        rw [show wr.alloc (.cells [.int .i64 xt, .int .i64 xk, .int .u64 xa, .int .u64 xd, .bool xo, .int .i64 xe].toArray 27) = W3 from hW3] at HEA
        clear hW3 heb h0 h1 h2 h3 h4 h5 HT HR HU HUW HHR
        have t0 := (HTA.out).cell 0 rfl
        have t1 := (HTA.out).cell 1 rfl
        have t2 := (HTA.out).cell 2 rfl
        have t3 := (HTA.out).cell 3 rfl
        have t4 := (HTA.out).cell 4 rfl
        have t5 := (HTA.out).cell 5 rfl
        have t6 := (HTA.out).cell 6 rfl
        have g0 := (HTA.out).free 0
        have g1 := (HTA.out).free 1
        have g2 := (HTA.out).free 2
        have g3 := (HTA.out).free 3
        have g4 := (HTA.out).free 4
        have g5 := (HTA.out).free 5
        have g6 := (HTA.out).free 6
        have m0 := HEA.out.cell 0 rfl
        have m1 := HEA.out.cell 1 rfl
        have m2 := HEA.out.cell 2 rfl
        have m3 := HEA.out.cell 3 rfl
        have m4 := HEA.out.cell 4 rfl
        have m5 := HEA.out.cell 5 rfl
        have hne : eb ≠ tb := by have := HTL.out; omega
        have hne2 : tb ≠ eb := fun e => hne e.symm
        by_cases hth : xt = st
        · have HL := Lib.hid (show refTry ⟨st, sf, sl, ss, 0, sr, sw⟩ k ⟨xt, xk, xa, xd, xo, xe⟩ = refNext ⟨st, sf, sl, ss, 0, sr, sw⟩ k ⟨xt, xk, xa, xd, xo, xe⟩ from HNT.out.trans (if_pos hth))
          subst hth
          rw [HL.out] at HNX HFIN
          clear HL HNT
          by_cases k4 : xk = 4
          · subst k4
            have HNL := Lib.hid (show refFold (refStart at_ y) (at_ + 1) ((l.take (k + 1)).drop (at_ + 1)) = ⟨xt, sf, (k : Int), xd, 0, sr, sw⟩ from HNX.out.trans (rfl))
            clear HNX HFIN
            go_wp2_with fail
            go_roundw
            case rel => exact ⟨k + 1, ⟨xt, sf, (k : Int), xd, 0, sr, sw⟩, by omega, by omega, by go_num, HNL.out.symm, rfl, by dsimp only; omega, (HTA.out.set 2 _).set 3 _, (HUA.out.setCell (.inl (by simp)) _).setCell (.inl (by simp)) _⟩
            case measure => simp [intOf]; omega
          by_cases k2 : xk = 2
          · subst k2
            cases xo with
            | true =>
              have HNL := Lib.hid (show refFold (refStart at_ y) (at_ + 1) ((l.take (k + 1)).drop (at_ + 1)) = ⟨xt, sf, (k : Int), ss, 0, sr, sw⟩ from HNX.out.trans (rfl))
              clear HNX HFIN
              go_wp2_with fail
              go_roundw
              case rel => exact ⟨k + 1, ⟨xt, sf, (k : Int), ss, 0, sr, sw⟩, by omega, by omega, by go_num, HNL.out.symm, rfl, by dsimp only; omega, HTA.out.set 2 _, HUA.out.setCell (.inl (by simp)) _⟩
              case measure => simp [intOf]; omega
            | false =>
              have hwr : IntKind.i64.wrap (sr + 1) = sr + 1 := by rw [IntKind.wrap_i64]; omega
              have HNL := Lib.hid (show refFold (refStart at_ y) (at_ + 1) ((l.take (k + 1)).drop (at_ + 1)) = ⟨xt, sf, (k : Int), ss, 0, sr + 1, sw⟩ from HNX.out.trans (rfl))
              clear HNX HFIN
              go_wp2_with fail
              go_roundw
              case rel => exact ⟨k + 1, ⟨xt, sf, (k : Int), ss, 0, sr + 1, sw⟩, by omega, by omega, by go_num, HNL.out.symm, rfl, by dsimp only; omega, (HTA.out.set 2 _).set 5 _, (HUA.out.setCell (.inl (by simp)) _).setCell (.inl (by simp)) _⟩
              case measure => simp [intOf]; omega
          by_cases k3 : xk = 3
          · subst k3
            have hwr : IntKind.i64.wrap (sw + 1) = sw + 1 := by rw [IntKind.wrap_i64]; omega
            have HNL := Lib.hid (show refFold (refStart at_ y) (at_ + 1) ((l.take (k + 1)).drop (at_ + 1)) = ⟨xt, sf, (k : Int), ss, 0, sr, sw + 1⟩ from HNX.out.trans (rfl))
            clear HNX HFIN
            go_wp2_with fail
            go_roundw
            case rel => exact ⟨k + 1, ⟨xt, sf, (k : Int), ss, 0, sr, sw + 1⟩, by omega, by omega, by go_num, HNL.out.symm, rfl, by dsimp only; omega, (HTA.out.set 2 _).set 6 _, (HUA.out.setCell (.inl (by simp)) _).setCell (.inl (by simp)) _⟩
            case measure => simp [intOf]; omega
          by_cases kend : xk = 6 ∨ xk = 7 ∨ xk = 8 ∨ xk = 9
          · have HF2 := Lib.hid (show refFold (refStart at_ y) (at_ + 1) (l.drop (at_ + 1)) = ⟨xt, sf, (k : Int), ss, xk, sr, sw⟩ by
              have e : refNext ⟨xt, sf, sl, ss, 0, sr, sw⟩ k ⟨xt, xk, xa, xd, xo, xe⟩ = ⟨xt, sf, (k : Int), ss, xk, sr, sw⟩ := by
                unfold refNext
                dsimp only
                rw [if_neg k4, if_pos kend, if_neg (fun q => k2 q.1), if_neg k3]
              rw [← e]
              refine HFIN.out ?_
              rw [e]
              dsimp only
              omega)
            clear HFIN HNX HTK k4 k2 k3
            have r0 := (HRA.out).cell 0 rfl
            have r1 := (HRA.out).cell 1 rfl
            have r2 := (HRA.out).cell 2 rfl
            have r3 := (HRA.out).cell 3 rfl
            have r4 := (HRA.out).cell 4 rfl
            have r5 := (HRA.out).cell 5 rfl
            have r6 := (HRA.out).cell 6 rfl
            have f0 := (HRA.out).free 0
            have f1 := (HRA.out).free 1
            have f2 := (HRA.out).free 2
            have f3 := (HRA.out).free 3
            have f4 := (HRA.out).free 4
            have f5 := (HRA.out).free 5
            have f6 := (HRA.out).free 6
            have hnr : rb ≠ tb := HRT.out
            have hnr2 : tb ≠ rb := fun e => hnr e.symm
            rcases kend with rfl | rfl | rfl | rfl
            · skip
              go_wp2_with fail
              have HRB2 := Lib.hid (show Blk ((W3.setCell ⟨tb, 2, none⟩ (.int .i64 (k : Int))).setCell ⟨tb, 4, none⟩ (.int .i64 6)) rb (⟨0, 0, 0, 0, 0, 0, 0⟩ : Try).cells 52 from (HRA.out.upd (((Upd.refl [tb] _).setCell (.inl (by simp)) _).setCell (.inl (by simp)) _) (by simpa using HRT.out)))
              exact bodyPost_ret (try7_results (y := ⟨0, 0, 0, 0, 0, 0, 0⟩) rfl _ _ rb xt sf k ss 6 sr sw rfl HRB2.out) rfl (hK _ _ ⟨by rw [HF2.out], try7_upd ((HUWA.out.setCell (.inr (Nat.le_trans HU1.out.size HTB.out)) _).setCell (.inr (Nat.le_trans HU1.out.size HTB.out)) _) HRB.out xt sf k ss 6 sr sw⟩)
            · skip
              go_wp2_with fail
              have HRB2 := Lib.hid (show Blk ((W3.setCell ⟨tb, 2, none⟩ (.int .i64 (k : Int))).setCell ⟨tb, 4, none⟩ (.int .i64 7)) rb (⟨0, 0, 0, 0, 0, 0, 0⟩ : Try).cells 52 from (HRA.out.upd (((Upd.refl [tb] _).setCell (.inl (by simp)) _).setCell (.inl (by simp)) _) (by simpa using HRT.out)))
              exact bodyPost_ret (try7_results (y := ⟨0, 0, 0, 0, 0, 0, 0⟩) rfl _ _ rb xt sf k ss 7 sr sw rfl HRB2.out) rfl (hK _ _ ⟨by rw [HF2.out], try7_upd ((HUWA.out.setCell (.inr (Nat.le_trans HU1.out.size HTB.out)) _).setCell (.inr (Nat.le_trans HU1.out.size HTB.out)) _) HRB.out xt sf k ss 7 sr sw⟩)
            · skip
              go_wp2_with fail
              have HRB2 := Lib.hid (show Blk ((W3.setCell ⟨tb, 2, none⟩ (.int .i64 (k : Int))).setCell ⟨tb, 4, none⟩ (.int .i64 8)) rb (⟨0, 0, 0, 0, 0, 0, 0⟩ : Try).cells 52 from (HRA.out.upd (((Upd.refl [tb] _).setCell (.inl (by simp)) _).setCell (.inl (by simp)) _) (by simpa using HRT.out)))
              exact bodyPost_ret (try7_results (y := ⟨0, 0, 0, 0, 0, 0, 0⟩) rfl _ _ rb xt sf k ss 8 sr sw rfl HRB2.out) rfl (hK _ _ ⟨by rw [HF2.out], try7_upd ((HUWA.out.setCell (.inr (Nat.le_trans HU1.out.size HTB.out)) _).setCell (.inr (Nat.le_trans HU1.out.size HTB.out)) _) HRB.out xt sf k ss 8 sr sw⟩)
            · skip
              go_wp2_with fail
              have HRB2 := Lib.hid (show Blk ((W3.setCell ⟨tb, 2, none⟩ (.int .i64 (k : Int))).setCell ⟨tb, 4, none⟩ (.int .i64 9)) rb (⟨0, 0, 0, 0, 0, 0, 0⟩ : Try).cells 52 from (HRA.out.upd (((Upd.refl [tb] _).setCell (.inl (by simp)) _).setCell (.inl (by simp)) _) (by simpa using HRT.out)))
              exact bodyPost_ret (try7_results (y := ⟨0, 0, 0, 0, 0, 0, 0⟩) rfl _ _ rb xt sf k ss 9 sr sw rfl HRB2.out) rfl (hK _ _ ⟨by rw [HF2.out], try7_upd ((HUWA.out.setCell (.inr (Nat.le_trans HU1.out.size HTB.out)) _).setCell (.inr (Nat.le_trans HU1.out.size HTB.out)) _) HRB.out xt sf k ss 9 sr sw⟩)
          · have k41 : (xk == 4) = false := by simpa using k4
            have k21 : (xk == 2) = false := by simpa using k2
            have k31 : (xk == 3) = false := by simpa using k3
            have k61 : (xk == 6) = false := by rw [beq_eq_false_iff_ne]; omega
            have k71 : (xk == 7) = false := by rw [beq_eq_false_iff_ne]; omega
            have k81 : (xk == 8) = false := by rw [beq_eq_false_iff_ne]; omega
            have k91 : (xk == 9) = false := by rw [beq_eq_false_iff_ne]; omega
            have HEQ := Lib.hid (show refNext ⟨xt, sf, sl, ss, 0, sr, sw⟩ k ⟨xt, xk, xa, xd, xo, xe⟩ = ⟨xt, sf, (k : Int), ss, 0, sr, sw⟩ by
              unfold refNext
              dsimp only
              rw [if_neg k4, if_neg kend, if_neg (fun q => k2 q.1), if_neg k3])
            clear k4 k2 k3 kend
            have HNL := Lib.hid (show refFold (refStart at_ y) (at_ + 1) ((l.take (k + 1)).drop (at_ + 1)) = ⟨xt, sf, (k : Int), ss, 0, sr, sw⟩ from HNX.out.trans (HEQ.out))
            clear HNX HFIN
            go_wp2_with fail
            go_roundw
            case rel => exact ⟨k + 1, ⟨xt, sf, (k : Int), ss, 0, sr, sw⟩, by omega, by omega, by go_num, HNL.out.symm, rfl, by dsimp only; omega, HTA.out.set 2 _, HUA.out.setCell (.inl (by simp)) _⟩
            case measure => simp [intOf]; omega
        · have hth1 : (xt != st) = true := by simpa using hth
          rw [HNT.out, if_neg hth] at HNX
          clear hth HNT HFIN
          go_wp2_with fail
          go_roundw
          case rel => exact ⟨k + 1, ⟨st, sf, sl, ss, 0, sr, sw⟩, by omega, by omega, by go_num, HNX.out.symm, rfl, by dsimp only; omega, HTA.out, HUA.out⟩
          case measure => simp [intOf]; omega
      · obtain rfl : k = l.length := by omega
        have HFE := Lib.hid (show refFold (refStart at_ y) (at_ + 1) (l.drop (at_ + 1)) = s by
          have h := HS.out
          rw [List.take_length] at h
          exact h.symm)
        obtain ⟨st, sf, sl, ss, sh, sr, sw⟩ := s
        have t0 := (HT.out).cell 0 rfl
        have t1 := (HT.out).cell 1 rfl
        have t2 := (HT.out).cell 2 rfl
        have t3 := (HT.out).cell 3 rfl
        have t4 := (HT.out).cell 4 rfl
        have t5 := (HT.out).cell 5 rfl
        have t6 := (HT.out).cell 6 rfl
        have r0 := (HR.out).cell 0 rfl
        have r1 := (HR.out).cell 1 rfl
        have r2 := (HR.out).cell 2 rfl
        have r3 := (HR.out).cell 3 rfl
        have r4 := (HR.out).cell 4 rfl
        have r5 := (HR.out).cell 5 rfl
        have r6 := (HR.out).cell 6 rfl
        have f0 := (HR.out).free 0
        have f1 := (HR.out).free 1
        have f2 := (HR.out).free 2
        have f3 := (HR.out).free 3
        have f4 := (HR.out).free 4
        have f5 := (HR.out).free 5
        have f6 := (HR.out).free 6
        go_wp2_with fail
        exact bodyPost_ret (try7_results (y := ⟨0, 0, 0, 0, 0, 0, 0⟩) rfl _ _ rb st sf sl ss sh sr sw rfl HR.out) rfl (hK _ _ ⟨by rw [HFE.out], try7_upd HUW.out HRB.out st sf sl ss sh sr sw⟩)
end Go.Proofs.YtfldpejifpmapaaDoor
set_option linter.unusedSimpArgs false
set_option linter.unusedVariables false
set_option maxRecDepth 100000
namespace Go.Proofs.YtfldpejifpmapaaDoor
open Go.RowKit
open Go.Maps
theorem info_tryR : (Tryd.prog.info? 52).map (fun i => (i.zero, i.size, i.bytes)) = some (some (.agg #[.int .i64 0, .int .i64 0, .int .i64 0, .int .u64 0, .int .i64 0, .int .i64 0, .int .i64 0]), 7, 56) := by kernel_rfl
/-- one more attempt -/
theorem app_tryR {W : World} {base : Nat} {v : Value} {l : List Try} (h : W.ownsRow base 52 7 v l.length (l.flatMap Try.cells)) (x : Try) (hn : l.length ≤ 1000000000) (hb : base ≤ W.heap.size) :
    ∃ v' w', (Builtin.append_ #[48, 48] 48 #[v, .slice (some ⟨W.heap.size, 0, none⟩) 1 1]).run Tryd.prog (W.alloc (.cells x.cells.toArray 52)) = .ok v' w' ∧ w'.ownsRow base 52 7 v' (l.length + 1) ((l ++ [x]).flatMap Try.cells) ∧ Upd v.ownBlock.toList (W.alloc (.cells x.cells.toArray 52)) w' := by
  obtain ⟨i0, hi, hz0, hz1, hz2⟩ := info_parts info_tryR
  have hW := own_upd h ((Upd.refl [] W).alloc (.cells x.cells.toArray 52)) (by simp)
  obtain ⟨v', w', hr, ho, hg, _, hat⟩ := run_append_own_at (P := Tryd.prog) (W.alloc (.cells x.cells.toArray 52)) base 48 48 52 i0 _ 7 56 Tryd.underlying48 hi hz0 hz1 hz2 rfl (by decide) v l.length _ hW
    ⟨W.heap.size, 0, none⟩ 1 1 x.cells rfl (news_new _ 52 rfl) (by intro u hu; simp [Try.cells] at hu; rcases hu with rfl | rfl | rfl | rfl | rfl | rfl | rfl <;> rfl) (by unfold maxLen; omega) (by omega) (by rw [World.size_alloc]; omega)
  refine ⟨v', w', hr, ?_, Upd.own hg⟩
  rw [List.flatMap_append, List.flatMap_singleton]
  exact ho
theorem refTries_len : ∀ (l : List Ev) (i : Nat), (refTries i l).length ≤ l.length
  | [], _ => Nat.le_refl _
  | x :: l, i => by
    rw [refTries]
    have := refTries_len l (i + 1)
    split
    · simp only [List.length_cons]; omega
    · simp only [List.length_cons]; omega
/-- what the reference's Tries answers -/
def RTriesOk (w : World) (l : List Ev) (e : Ending) (w' : World) : Prop := Upd [] w w' ∧ ∃ v, e = .returned (.tuple #[v, .agg #[.int .i64 (oddE l).1, .int .i64 (oddE l).2]]) ∧ ((oddE l).2 = 0 → w'.ownsRow w.heap.size 52 7 v (refTries 0 l).length ((refTries 0 l).flatMap Try.cells)) ∧ ((oddE l).2 ≠ 0 → v = .slice none 0 0)
set_option maxHeartbeats 8000000 in
theorem rtries_code (w : World) (po : Option Addr) (cap : Nat) (l : List Ev) (hH : HistAt w po l) (hl : l.length ≤ 1000000000) (hw : wideL l) : Calls Tryd.prog 26 #[.slice po l.length cap] w (RTriesOk w l) := by
  have HH := Lib.hid hH
  have HCH := Lib.hid (fun W (u : Upd [] w W) => rcheck_code W po cap l (hH.upd0 u) (by omega) hw)
  unfold RTriesOk
  obtain ⟨A, B, hAB⟩ : ∃ A B, oddE l = (A, B) := ⟨_, _, rfl⟩
  rw [hAB] at HCH ⊢
  dsimp only at HCH ⊢
  obtain ⟨W1, hW1⟩ : ∃ W, w.alloc (.cells #[.int .i64 0, .int .i64 0] 46) = W := ⟨_, rfl⟩
  have HU1 := Lib.hid (show Upd [] w W1 by rw [← hW1]; exact (Upd.refl [] _).alloc _)
  have HB1 := Lib.hid (show Blk W1 w.heap.size [.int .i64 0, .int .i64 0] 46 by rw [← hW1]; exact Blk.new w _ _)
  clear hH hw hAB
  refine calls_all fun K hK => ?_
  go_enter Tryd.func26, Tryd.ntmps26
  go_wp2_with fail
  refine (HCH.out W1 HU1.out).mono ?_
  rintro e W2 ⟨rfl, u2⟩
  have HB3 := Lib.hid (Blk.new W2 [.int .i64 A, .int .i64 B] 46)
  have u3 : Upd [] W2 (W2.alloc (.cells #[.int .i64 A, .int .i64 B] 46)) := (Upd.refl _ _).alloc _
  have HU3 := Lib.hid ((HU1.out.trans u2).trans u3)
  have HR3 := Lib.hid ((HB1.out.upd u2 (by simp)).upd u3 (by simp))
  obtain ⟨rb, hrb⟩ : ∃ b, w.heap.size = b := ⟨_, rfl⟩
  have HRB := Lib.hid (Nat.le_of_eq hrb)
  rw [hrb] at HR3 ⊢
  clear u2 HU1 HB1 HCH hW1
  obtain ⟨ob, hob⟩ : ∃ b, W2.heap.size = b := ⟨_, rfl⟩
  have HLO := Lib.hid (show ob < (W2.alloc (.cells #[.int .i64 A, .int .i64 B] 46)).heap.size by rw [World.size_alloc]; omega)
  go_upto_region 2 with fail
  try rw [hob]
  obtain ⟨W3, hW3⟩ : ∃ W, W2.alloc (.cells #[.int .i64 A, .int .i64 B] 46) = W := ⟨_, rfl⟩
  rw [hW3] at HU3 HR3 u3 HLO ⊢
  rw [show W2.alloc (.cells [.int .i64 A, .int .i64 B].toArray 46) = W3 from hW3, hob] at HB3
  have HLR := Lib.hid (show rb < W3.heap.size from HR3.out.lt)
  have HWS := Lib.hid (show w.heap.size ≤ W3.heap.size from HU3.out.size)
  clear u3 hrb
  by_cases hB : B = 0
  · subst hB
    have q0 := HB3.out.cell 0 rfl
    have q1 := HB3.out.cell 1 rfl
    go_wp2_with fail
    clear q0 q1 hW3 hob
    obtain ⟨R, hRR⟩ : ∃ R, refTries 0 l = R := ⟨_, rfl⟩
    have HRL := Lib.hid (show R.length ≤ 1000000000 by have := refTries_len l 0; rw [hRR] at this; omega)
    rw [hRR] at hK
    have HRR := Lib.hid hRR
    clear hRR
    go_loopw [5, 6] (fun v5 v6 wr => ∃ (k : Nat) (E : List Try), k ≤ l.length ∧ v6 = .int .i64 k ∧ E ++ refTries k (l.drop k) = R ∧ wr.ownsRow W3.heap.size 52 7 v5 E.length (E.flatMap Try.cells) ∧ Upd [] W3 wr) (fun _ v6 _ => l.length - (intOf v6).toNat)
    case atStart => exact ⟨0, [], by omega, rfl, HRR.out, ⟨rfl, .inl ⟨rfl, rfl⟩⟩, Upd.refl _ _⟩
    case round =>
      obtain ⟨k, E, hk, rfl, hE, ho, hu⟩ := hrel
      have HE := Lib.hid hE
      have HO := Lib.hid ho
      have HU := Lib.hid (HU3.out.trans hu)
      have HUK := Lib.hid hu
      obtain ⟨p5, c5, rfl⟩ := own_form ho
      have HEL := Lib.hid (show E.length ≤ 1000000000 by have h := HRL.out; rw [← hE, List.length_append] at h; omega)
      clear ho hu hE
      by_cases hlt : k < l.length
      · have hlt' : (k : Int) < (l.length : Int) := by omega
        have hk0 : 0 ≤ (k : Int) := by omega
        obtain ⟨x, hx⟩ : ∃ x, l[k]? = some x := ⟨_, List.getElem?_eq_getElem hlt⟩
        obtain ⟨b, o, hpo, h0, h1, h2, h3, h4, h5⟩ := (HH.out.upd0 HU.out) k x hx
        have HTK := Lib.hid (show l.take (k + 1) = l.take k ++ [x] by rw [List.take_add_one, hx]; rfl)
        have HTL := Lib.hid (show 0 + (l.take k).length = k by rw [List.length_take]; omega)
        subst hpo
        have HX := Lib.hid hx
        clear hx
        have hd : l.drop k = x :: l.drop (k + 1) := by
          rw [List.drop_eq_getElem_cons hlt]
          congr 1
          have := HX.out
          rw [List.getElem?_eq_getElem hlt] at this
          exact Option.some.inj this
        have hE := HE.out
        rw [hd, refTries] at hE
        by_cases k1 : x.kd = 1
        · rw [if_pos k1] at hE
          rw [k1] at h1
          have HTY := Lib.hid (rtry_code wr (some ⟨b, o, none⟩) cap l k x HX.out (HH.out.upd0 HU.out) hl)
          generalize refFold (refStart k x) (k + 1) (l.drop (k + 1)) = z at HTY hE
          have HE2 := Lib.hid (show (E ++ [z]) ++ refTries (k + 1) (l.drop (k + 1)) = R by rw [List.append_assoc]; exact hE)
          obtain ⟨zt, zf, zl, zs, zh, zr, zw⟩ := z
          simp only [Try.val] at HTY
          clear hE hd k1
          go_wp2_with fail
          refine HTY.out.mono ?_
          rintro e W4 ⟨rfl, u4⟩
          have HO4 := Lib.hid (own_upd HO.out u4 (by simp))
          have HU4 := Lib.hid (HUK.out.trans u4)
          obtain ⟨v', W10, hrun, ho', hu'⟩ := app_tryR HO4.out ⟨zt, zf, zl, zs, zh, zr, zw⟩ HEL.out HU4.out.size
          simp only [Try.cells] at hrun hu'
          have ub : Upd [] W4 (W4.alloc (.cells #[.int .i64 zt, .int .i64 zf, .int .i64 zl, .int .u64 zs, .int .i64 zh, .int .i64 zr, .int .i64 zw] 52)) := (Upd.refl _ _).alloc _
          have HO10 := Lib.hid ho'
          have HU10 := Lib.hid (show Upd [] W3 W10 from (HU4.out.trans ub).tr (U := []) hu' (by simp) (fun g hg => .inr (own_blocks HO4.out g hg).1))
          obtain ⟨p', c', rfl⟩ := own_form ho'
          clear ho' hu' ub u4 h0 h1 h2 h3 h4 h5
          go_wp2_with (at_builtin; refine wpList_append_eq rfl _ _ _ _ rfl _ _ _ rfl rfl hrun ?_)
          go_roundw
          case rel => exact ⟨k + 1, E ++ [⟨zt, zf, zl, zs, zh, zr, zw⟩], by omega, by go_num, HE2.out, by rw [List.length_append, List.length_singleton]; exact HO10.out, HU10.out⟩
          case measure => simp [intOf]; omega
        · rw [if_neg k1] at hE
          have HE2 := Lib.hid hE
          obtain ⟨xt, xk, xa, xd, xo, xe⟩ := x
          dsimp only at h0 h1 h2 h3 h4 h5 k1
          have k11 : (xk == 1) = false := by simpa using k1
          clear hE hd k1
          go_wp2_with fail
          go_roundw
          case rel => exact ⟨k + 1, E, by omega, by go_num, HE2.out, HO.out, HUK.out⟩
          case measure => simp [intOf]; omega
      · obtain rfl : k = l.length := by omega
        have hE := HE.out
        rw [List.drop_eq_nil_of_le (Nat.le_refl _), refTries, List.append_nil] at hE
        subst hE
        have HO2 := HO
        have HBX := Lib.hid (HB3.out.upd HUK.out (by simp))
        have HRX := Lib.hid (HR3.out.upd HUK.out (by simp))
        have HUX := HU
        go_upto_region 10 with fail
        have ud : Upd [] wr wr.drew := (Upd.refl _ _).drew
        have HB8 := Lib.hid (HBX.out.upd ud (by simp))
        have HR8 := Lib.hid (HRX.out.upd ud (by simp))
        have HU8 := Lib.hid (HUX.out.trans ud)
        have HV8 := Lib.hid (fun base sz n us tt (h : wr.ownsRow base tt sz (.slice p5 E.length c5) n us) => own_upd h ud (by simp))
        obtain ⟨W8, hW8⟩ : ∃ W, wr.drew = W := ⟨_, rfl⟩
        refine wp_region_brT (fun w' => w' = wr.drew) [0, 1, 2, 3] 3 (by kernel_rfl) (by kernel_rfl) (by kernel_rfl) ?_
        rw [hW8] at HB8 HR8 HU8 HV8 ⊢
        clear hW8 ud
        have m0 := HB8.out.cell 0 rfl
        have m1 := HB8.out.cell 1 rfl
        have q0 := HR8.out.cell 0 rfl
        have q1 := HR8.out.cell 1 rfl
        have f0 := HR8.out.free 0
        have f1 := HR8.out.free 1
        repeat ((refine wpC_take (v := ?_) rfl (by decide) rfl (by kernel_rfl) (by rfl) rfl ?_ ?_); rotate_left 1; (· ((intro w hSw; (try dsimp only at hSw); go_simp); try with_reducible rfl)); try simp only [Act.put, List.setIfInBounds_toArray, List.set_cons_zero, List.set_cons_succ])
        refine wpC_eff rfl (by kernel_rfl) (by rfl) (fun K2 hK2 => ?_)
        go_simp
        refine hK2.out _ _ (.inl (by decide)) ?_
        refine wpC_end (by kernel_rfl) (NoPanic.normal ?_)
        clear hK2 K2 m0 m1 q0 q1 f0 f1
        go_wp2_with fail
        have hus : Upd [rb] W8 ((W8.setCell ⟨rb, 0, none⟩ (.int .i64 A)).setCell ⟨rb, 1, none⟩ (.int .i64 0)) := ((Upd.refl _ _).setCell (.inl (by simp)) _).setCell (.inl (by simp)) _
        have hu9 : Upd [] w ((W8.setCell ⟨rb, 0, none⟩ (.int .i64 A)).setCell ⟨rb, 1, none⟩ (.int .i64 0)) := (HU8.out.setCell (.inr HRB.out) _).setCell (.inr HRB.out) _
        exact bodyPost_ret (odd_results rfl _ _ rb (.slice p5 E.length c5) _ _ rfl rfl ((HR8.out.set 0 _).set 1 _)) rfl (hK _ _ ⟨hu9, .slice p5 E.length c5, rfl, fun _ => own_mono (own_upd (HV8.out _ _ _ _ _ HO2.out) hus (fun g hg e => by have := (own_blocks HO2.out g (by rw [e]; simp)).1; have := HLR.out; simp at hg; omega)) HWS.out, fun h => absurd rfl h⟩)
  · have hB1 : (B != 0) = true := by simpa using hB
    have HBN := Lib.hid hB
    have q0 := HB3.out.cell 0 rfl
    have q1 := HB3.out.cell 1 rfl
    clear hB
    go_upto_region 3 with fail
    clear hW3 hob q0 q1
    have HBX := HB3
    have HRX := HR3
    have HUX := HU3
    have ud : Upd [] W3 W3.drew := (Upd.refl _ _).drew
    have HB8 := Lib.hid (HBX.out.upd ud (by simp))
    have HR8 := Lib.hid (HRX.out.upd ud (by simp))
    have HU8 := Lib.hid (HUX.out.trans ud)
    have HV8 := Lib.hid (fun base sz n us tt (h : W3.ownsRow base tt sz (.slice none 0 0) n us) => own_upd h ud (by simp))
    obtain ⟨W8, hW8⟩ : ∃ W, W3.drew = W := ⟨_, rfl⟩
    refine wp_region_brT (fun w' => w' = W3.drew) [0, 1, 2] 2 (by kernel_rfl) (by kernel_rfl) (by kernel_rfl) ?_
    rw [hW8] at HB8 HR8 HU8 HV8 ⊢
    clear hW8 ud
    have m0 := HB8.out.cell 0 rfl
    have m1 := HB8.out.cell 1 rfl
    have q0 := HR8.out.cell 0 rfl
    have q1 := HR8.out.cell 1 rfl
    have f0 := HR8.out.free 0
    have f1 := HR8.out.free 1
    repeat ((refine wpC_take (v := ?_) rfl (by decide) rfl (by kernel_rfl) (by rfl) rfl ?_ ?_); rotate_left 1; (· ((intro w hSw; (try dsimp only at hSw); go_simp); try with_reducible rfl)); try simp only [Act.put, List.setIfInBounds_toArray, List.set_cons_zero, List.set_cons_succ])
    refine wpC_eff rfl (by kernel_rfl) (by rfl) (fun K2 hK2 => ?_)
    go_simp
    refine hK2.out _ _ (.inl (by decide)) ?_
    refine wpC_end (by kernel_rfl) (NoPanic.normal ?_)
    clear hK2 K2 m0 m1 q0 q1 f0 f1
    go_wp2_with fail
    have hus : Upd [rb] W8 ((W8.setCell ⟨rb, 0, none⟩ (.int .i64 A)).setCell ⟨rb, 1, none⟩ (.int .i64 B)) := ((Upd.refl _ _).setCell (.inl (by simp)) _).setCell (.inl (by simp)) _
    have hu9 : Upd [] w ((W8.setCell ⟨rb, 0, none⟩ (.int .i64 A)).setCell ⟨rb, 1, none⟩ (.int .i64 B)) := (HU8.out.setCell (.inr HRB.out) _).setCell (.inr HRB.out) _
    exact bodyPost_ret (odd_results rfl _ _ rb (.slice none 0 0) _ _ rfl rfl ((HR8.out.set 0 _).set 1 _)) rfl (hK _ _ ⟨hu9, .slice none 0 0, rfl, fun h => absurd h HBN.out, fun _ => rfl⟩)
end Go.Proofs.YtfldpejifpmapaaDoor
set_option linter.unusedSimpArgs false
set_option linter.unusedVariables false
set_option maxRecDepth 100000
namespace Go.Proofs.YtfldpejifpmapaaDoor
open Go.RowKit
open Go.Maps
/-- the attempts answered -/
def triesA (l : List Ev) : List Try := if (oddE l).2 = 0 then (runE ls0 0 l).1.tries else []
def comsA (l : List Ev) : List Int := if (oddE l).2 = 0 then comI 0 l else []
theorem odd_zero (l : List Ev) : (oddE l).2 = 0 ↔ (runE ls0 0 l).2.2 = 0 := by
  unfold oddE
  by_cases h : (runE ls0 0 l).2.2 = 0
  · rw [if_pos h]; simp [h]
  · rw [if_neg h]
def RowsA (l : List Ev) (w : World) (e : Ending) (w' : World) : Prop := Upd [] w w' ∧ ∃ v, e = .returned (.tuple #[v, .agg #[.int .i64 (oddE l).1, .int .i64 (oddE l).2]]) ∧ w'.ownsRow w.heap.size 52 7 v (triesA l).length ((triesA l).flatMap Try.cells)
def ComsA (l : List Ev) (w : World) (e : Ending) (w' : World) : Prop := Upd [] w w' ∧ ∃ v, e = .returned (.tuple #[v, .agg #[.int .i64 (oddE l).1, .int .i64 (oddE l).2]]) ∧ w'.ownsRow w.heap.size 3 1 v (comsA l).length (intsL (comsA l))
theorem etries_uni (w : World) (po : Option Addr) (cap : Nat) (l : List Ev) (hH : HistAt w po l) (hl : l.length ≤ 1000000000) (hw : wideL l) : Calls Tryd.prog 21 #[.slice po l.length cap] w (RowsA l w) := (tries_code w po cap l hH (by omega) hw).mono fun e w' ⟨hu, v, he, h0, h1⟩ => ⟨hu, v, he, by
  unfold triesA
  by_cases h : (oddE l).2 = 0
  · rw [if_pos h]; exact (h0 ((odd_zero l).1 h)).1
  · rw [if_neg h, h1 (fun q => h ((odd_zero l).2 q))]; exact ⟨rfl, .inl ⟨rfl, rfl⟩⟩⟩
theorem rtries_uni (w : World) (po : Option Addr) (cap : Nat) (l : List Ev) (hH : HistAt w po l) (hl : l.length ≤ 1000000000) (hw : wideL l) : Calls Tryd.prog 26 #[.slice po l.length cap] w (RowsA l w) := (rtries_code w po cap l hH hl hw).mono fun e w' ⟨hu, v, he, h0, h1⟩ => ⟨hu, v, he, by
  unfold triesA
  by_cases h : (oddE l).2 = 0
  · rw [if_pos h, tries_ref l ((odd_zero l).1 h)]; exact h0 h
  · rw [if_neg h, h1 h]; exact ⟨rfl, .inl ⟨rfl, rfl⟩⟩⟩
theorem com_uni {w : World} {l : List Ev} {e : Ending} {w' : World} (h : ComOk w l e w') : ComsA l w e w' := by
  obtain ⟨hu, v, he, h0, h1⟩ := h
  refine ⟨hu, v, he, ?_⟩
  unfold comsA
  by_cases h : (oddE l).2 = 0
  · rw [if_pos h]; exact h0 h
  · rw [if_neg h, h1 h]; exact ⟨rfl, .inl ⟨rfl, rfl⟩⟩
theorem triesA_len (l : List Ev) : (triesA l).length ≤ l.length := by
  unfold triesA
  split
  · rename_i h
    rw [tries_ref l ((odd_zero l).1 h)]
    exact refTries_len l 0
  · simp
theorem comsA_len (l : List Ev) : (comsA l).length ≤ l.length := by
  unfold comsA
  split
  · exact com_len l 0
  · simp
/-- an element at the end of any own row -/
theorem app_gen {W : World} {v : Value} {n : Nat} {us : List Value} (ts t : TypeId) (z : Value) (size bytes : Nat) (new : List Value) (hinfo : (Tryd.prog.info? t).map (fun i => (i.zero, i.size, i.bytes)) = some (some z, size, bytes)) (hund : Tryd.prog.underlying ts = some (.slice t)) (hzc : z.cells.size = size) (hnew : new.length = size) (hone : ∀ u ∈ new, u.oneCell' = true) (h : W.ownsRow 0 t size v n us) (hn : n ≤ 1000000000) (hby : bytes ≤ 64) (hsz : 0 < size ∧ size ≤ 8) :
    ∃ v' w', (Builtin.append_ #[ts, ts] ts #[v, .slice (some ⟨W.heap.size, 0, none⟩) 1 1]).run Tryd.prog (W.alloc (.cells new.toArray t)) = .ok v' w' ∧ w'.ownsRow 0 t size v' (n + 1) (us ++ new) ∧ Upd v.ownBlock.toList (W.alloc (.cells new.toArray t)) w' ∧ (v'.ownBlock = v.ownBlock ∨ v'.ownBlock = some (W.heap.size + 1)) := by
  obtain ⟨i0, hi, hz0, hz1, hz2⟩ := info_parts hinfo
  have hW := own_upd h ((Upd.refl [] W).alloc (.cells new.toArray t)) (by simp)
  obtain ⟨v', w', hr, ho, hg, _, hat⟩ := run_append_own_at (P := Tryd.prog) (W.alloc (.cells new.toArray t)) 0 ts ts t i0 _ size bytes hund hi hz0 hz1 hz2 hzc hsz.1 v n us hW
    ⟨W.heap.size, 0, none⟩ 1 1 new (by rw [hnew, Nat.one_mul]) (news_new _ t rfl) hone (by unfold maxLen; omega) (by
      have : (n + 1) * bytes ≤ 1000000001 * 64 := Nat.mul_le_mul (by omega) hby
      omega) (Nat.zero_le _)
  rw [World.size_alloc] at hat
  exact ⟨v', w', hr, ho, Upd.own hg, hat⟩
/-- three rows that may be written over and grown: their blocks are in S or made since -/
structure Tri (W : World) (S : List Nat) (lo : Nat) (va : Value) (na : Nat) (vc : Value) (nc : Nat) (ve : Value) (ne : Nat) : Prop where
  a : ∃ us, W.ownsRow 0 52 7 va na us
  c : ∃ us, W.ownsRow 0 3 1 vc nc us
  e : ∃ us, W.ownsRow 0 27 6 ve ne us
  sa : ∀ g, va.ownBlock = some g → g ∈ S ∨ lo ≤ g
  sc : ∀ g, vc.ownBlock = some g → g ∈ S ∨ lo ≤ g
  se : ∀ g, ve.ownBlock = some g → g ∈ S ∨ lo ≤ g
  ac : ∀ g, va.ownBlock = some g → vc.ownBlock ≠ some g
  ae : ∀ g, va.ownBlock = some g → ve.ownBlock ≠ some g
  ce : ∀ g, vc.ownBlock = some g → ve.ownBlock ≠ some g
theorem own_ltB {w : World} {base n size : Nat} {e : TypeId} {v : Value} {us : List Value} (h : w.ownsRow base e size v n us) : ∀ g, v.ownBlock = some g → g < w.heap.size := fun g e => (own_blocks h g (by rw [e]; simp)).2
variable {W : World} {S : List Nat} {lo na nc ne : Nat} {va vc ve : Value}
theorem Tri.upd0 {W' : World} (h : Tri W S lo va na vc nc ve ne) (u : Upd [] W W') : Tri W' S lo va na vc nc ve ne := by
  obtain ⟨us, h1⟩ := h.a
  obtain ⟨us2, h2⟩ := h.c
  obtain ⟨us3, h3⟩ := h.e
  exact ⟨⟨us, own_upd h1 u (by simp)⟩, ⟨us2, own_upd h2 u (by simp)⟩, ⟨us3, own_upd h3 u (by simp)⟩, h.sa, h.sc, h.se, h.ac, h.ae, h.ce⟩
theorem Tri.setA {g ca : Nat} (h : Tri W S lo (.slice (some ⟨g, 0, none⟩) na ca) na vc nc ve ne) (k : Nat) (v : Value) : Tri (W.setCell ⟨g, k, none⟩ v) S lo (.slice (some ⟨g, 0, none⟩) na ca) na vc nc ve ne := by
  obtain ⟨us, h1⟩ := h.a
  obtain ⟨us2, h2⟩ := h.c
  obtain ⟨us3, h3⟩ := h.e
  have u : Upd [g] W (W.setCell ⟨g, k, none⟩ v) := (Upd.refl _ _).setCell (.inl (by simp)) _
  refine ⟨⟨_, own_set h1 k v⟩, ⟨us2, own_upd h2 u (fun x hx e => ?_)⟩, ⟨us3, own_upd h3 u (fun x hx e => ?_)⟩, h.sa, h.sc, h.se, h.ac, h.ae, h.ce⟩
  · rw [List.mem_singleton] at hx; subst hx; exact h.ac _ (by simp [Value.ownBlock]) e
  · rw [List.mem_singleton] at hx; subst hx; exact h.ae _ (by simp [Value.ownBlock]) e
theorem Tri.setC {g ca : Nat} (h : Tri W S lo va na (.slice (some ⟨g, 0, none⟩) nc ca) nc ve ne) (k : Nat) (v : Value) : Tri (W.setCell ⟨g, k, none⟩ v) S lo va na (.slice (some ⟨g, 0, none⟩) nc ca) nc ve ne := by
  obtain ⟨us, h1⟩ := h.a
  obtain ⟨us2, h2⟩ := h.c
  obtain ⟨us3, h3⟩ := h.e
  have u : Upd [g] W (W.setCell ⟨g, k, none⟩ v) := (Upd.refl _ _).setCell (.inl (by simp)) _
  refine ⟨⟨us, own_upd h1 u (fun x hx e => ?_)⟩, ⟨_, own_set h2 k v⟩, ⟨us3, own_upd h3 u (fun x hx e => ?_)⟩, h.sa, h.sc, h.se, h.ac, h.ae, h.ce⟩
  · rw [List.mem_singleton] at hx; subst hx; exact h.ac _ e (by simp [Value.ownBlock])
  · rw [List.mem_singleton] at hx; subst hx; exact h.ce _ (by simp [Value.ownBlock]) e
theorem Tri.setE {g ca : Nat} (h : Tri W S lo va na vc nc (.slice (some ⟨g, 0, none⟩) ne ca) ne) (k : Nat) (v : Value) : Tri (W.setCell ⟨g, k, none⟩ v) S lo va na vc nc (.slice (some ⟨g, 0, none⟩) ne ca) ne := by
  obtain ⟨us, h1⟩ := h.a
  obtain ⟨us2, h2⟩ := h.c
  obtain ⟨us3, h3⟩ := h.e
  have u : Upd [g] W (W.setCell ⟨g, k, none⟩ v) := (Upd.refl _ _).setCell (.inl (by simp)) _
  refine ⟨⟨us, own_upd h1 u (fun x hx e => ?_)⟩, ⟨us2, own_upd h2 u (fun x hx e => ?_)⟩, ⟨_, own_set h3 k v⟩, h.sa, h.sc, h.se, h.ac, h.ae, h.ce⟩
  · rw [List.mem_singleton] at hx; subst hx; exact h.ae _ e (by simp [Value.ownBlock])
  · rw [List.mem_singleton] at hx; subst hx; exact h.ce _ e (by simp [Value.ownBlock])
/-- a cell of a row -/
theorem row_cell {e : TypeId} {size g c n : Nat} {us : List Value} (h : W.ownsRow 0 e size (.slice (some ⟨g, 0, none⟩) n c) n us) (i : Nat) (hi : i < n) (hs : 0 < size) : (∃ v, W.cell? ⟨g, i * size, none⟩ = some v) ∧ W.frozen? ⟨g, i * size, none⟩ = false := by
  obtain ⟨_, hl, sp, hB⟩ := own_openN h
  have hlt : i * size < (us ++ sp).length := by
    rw [List.length_append, hl]
    have := Nat.mul_lt_mul_of_pos_right hi hs
    omega
  exact ⟨⟨_, hB.cell (i * size) (List.getElem?_eq_getElem hlt)⟩, hB.free _⟩
theorem Tri.appA (h : Tri W S lo va na vc nc ve ne) (hn : na ≤ 1000000000) (hlo : lo ≤ W.heap.size) :
    ∃ v' w', (Builtin.append_ #[48, 48] 48 #[va, .slice (some ⟨W.heap.size, 0, none⟩) 1 1]).run Tryd.prog (W.alloc (.cells #[.int .i64 0, .int .i64 0, .int .i64 0, .int .u64 0, .int .i64 0, .int .i64 0, .int .i64 0] 52)) = .ok v' w' ∧ Tri w' S lo v' (na + 1) vc nc ve ne ∧ (∀ W0, lo = W0.heap.size → Upd S W0 W → Upd S W0 w') := by
  obtain ⟨us, h1⟩ := h.a
  obtain ⟨us2, h2⟩ := h.c
  obtain ⟨us3, h3⟩ := h.e
  obtain ⟨v', w', hr, ho, hu, hat⟩ := app_gen 48 52 _ 7 56 [.int .i64 0, .int .i64 0, .int .i64 0, .int .u64 0, .int .i64 0, .int .i64 0, .int .i64 0] info_tryR Tryd.underlying48 rfl rfl (by intro u hu; simp at hu; rcases hu with rfl | rfl | rfl <;> rfl) h1 hn (by decide) (by decide)
  have ua : Upd [] W (W.alloc (.cells #[.int .i64 0, .int .i64 0, .int .i64 0, .int .u64 0, .int .i64 0, .int .i64 0, .int .i64 0] 52)) := (Upd.refl _ _).alloc _
  refine ⟨v', w', hr, ⟨⟨_, ho⟩, ⟨us2, own_upd (own_upd h2 ua (by simp)) hu (fun x hx e => h.ac x (by simpa using hx) e)⟩, ⟨us3, own_upd (own_upd h3 ua (by simp)) hu (fun x hx e => h.ae x (by simpa using hx) e)⟩, fun g e => ?_, h.sc, h.se, fun g e e2 => ?_, fun g e e2 => ?_, h.ce⟩, fun W0 hW0 hu0 => (hu0.alloc _).tr (U := S) hu (fun x hx => .inl hx) (fun x hx => ?_)⟩
  · rcases hat with q | q
    · rw [q] at e; exact h.sa g e
    · rw [q] at e; have := Option.some.inj e; exact .inr (by omega)
  · rcases hat with q | q
    · rw [q] at e; exact h.ac g e e2
    · rw [q] at e; have := Option.some.inj e; have := own_ltB h2 g e2; omega
  · rcases hat with q | q
    · rw [q] at e; exact h.ae g e e2
    · rw [q] at e; have := Option.some.inj e; have := own_ltB h3 g e2; omega
  · rcases h.sa x (by simpa using hx) with q | q
    · exact .inl q
    · exact .inr (by omega)
theorem Tri.appC (h : Tri W S lo va na vc nc ve ne) (hn : nc ≤ 1000000000) (hlo : lo ≤ W.heap.size) :
    ∃ v' w', (Builtin.append_ #[56, 56] 56 #[vc, .slice (some ⟨W.heap.size, 0, none⟩) 1 1]).run Tryd.prog (W.alloc (.cells #[.int .i64 (-9)] 3)) = .ok v' w' ∧ Tri w' S lo va na v' (nc + 1) ve ne ∧ (∀ W0, lo = W0.heap.size → Upd S W0 W → Upd S W0 w') := by
  obtain ⟨us, h1⟩ := h.a
  obtain ⟨us2, h2⟩ := h.c
  obtain ⟨us3, h3⟩ := h.e
  obtain ⟨v', w', hr, ho, hu, hat⟩ := app_gen 56 3 _ 1 8 [.int .i64 (-9)] info_int Tryd.underlying56 rfl rfl (by intro u hu; simp at hu; subst hu; rfl) h2 hn (by decide) (by decide)
  have ua : Upd [] W (W.alloc (.cells #[.int .i64 (-9)] 3)) := (Upd.refl _ _).alloc _
  refine ⟨v', w', hr, ⟨⟨us, own_upd (own_upd h1 ua (by simp)) hu (fun x hx e => h.ac x e (by simpa using hx))⟩, ⟨_, ho⟩, ⟨us3, own_upd (own_upd h3 ua (by simp)) hu (fun x hx e => h.ce x (by simpa using hx) e)⟩, h.sa, fun g e => ?_, h.se, fun g e e2 => ?_, h.ae, fun g e e2 => ?_⟩, fun W0 hW0 hu0 => (hu0.alloc _).tr (U := S) hu (fun x hx => .inl hx) (fun x hx => ?_)⟩
  · rcases hat with q | q
    · rw [q] at e; exact h.sc g e
    · rw [q] at e; have := Option.some.inj e; exact .inr (by omega)
  · rcases hat with q | q
    · rw [q] at e2; exact h.ac g e e2
    · rw [q] at e2; have := Option.some.inj e2; have := own_ltB h1 g e; omega
  · rcases hat with q | q
    · rw [q] at e; exact h.ce g e e2
    · rw [q] at e; have := Option.some.inj e; have := own_ltB h3 g e2; omega
  · rcases h.sc x (by simpa using hx) with q | q
    · exact .inl q
    · exact .inr (by omega)
theorem Tri.appE (h : Tri W S lo va na vc nc ve ne) (hn : ne ≤ 1000000000) (hlo : lo ≤ W.heap.size) :
    ∃ v' w', (Builtin.append_ #[22, 22] 22 #[ve, .slice (some ⟨W.heap.size, 0, none⟩) 1 1]).run Tryd.prog (W.alloc (.cells #[.int .i64 0, .int .i64 0, .int .u64 0, .int .u64 0, .bool false, .int .i64 0] 27)) = .ok v' w' ∧ Tri w' S lo va na vc nc v' (ne + 1) ∧ (∀ W0, lo = W0.heap.size → Upd S W0 W → Upd S W0 w') := by
  obtain ⟨us, h1⟩ := h.a
  obtain ⟨us2, h2⟩ := h.c
  obtain ⟨us3, h3⟩ := h.e
  obtain ⟨v', w', hr, ho, hu, hat⟩ := app_gen 22 27 _ 6 48 [.int .i64 0, .int .i64 0, .int .u64 0, .int .u64 0, .bool false, .int .i64 0] info_ev Tryd.underlying22 rfl rfl (by intro u hu; simp at hu; rcases hu with rfl | rfl | rfl | rfl <;> rfl) h3 hn (by decide) (by decide)
  have ua : Upd [] W (W.alloc (.cells #[.int .i64 0, .int .i64 0, .int .u64 0, .int .u64 0, .bool false, .int .i64 0] 27)) := (Upd.refl _ _).alloc _
  refine ⟨v', w', hr, ⟨⟨us, own_upd (own_upd h1 ua (by simp)) hu (fun x hx e => h.ae x e (by simpa using hx))⟩, ⟨us2, own_upd (own_upd h2 ua (by simp)) hu (fun x hx e => h.ce x e (by simpa using hx))⟩, ⟨_, ho⟩, h.sa, h.sc, fun g e => ?_, h.ac, fun g e e2 => ?_, fun g e e2 => ?_⟩, fun W0 hW0 hu0 => (hu0.alloc _).tr (U := S) hu (fun x hx => .inl hx) (fun x hx => ?_)⟩
  · rcases hat with q | q
    · rw [q] at e; exact h.se g e
    · rw [q] at e; have := Option.some.inj e; exact .inr (by omega)
  · rcases hat with q | q
    · rw [q] at e2; exact h.ae g e e2
    · rw [q] at e2; have := Option.some.inj e2; have := own_ltB h1 g e; omega
  · rcases hat with q | q
    · rw [q] at e2; exact h.ce g e e2
    · rw [q] at e2; have := Option.some.inj e2; have := own_ltB h2 g e; omega
  · rcases h.se x (by simpa using hx) with q | q
    · exact .inl q
    · exact .inr (by omega)
end Go.Proofs.YtfldpejifpmapaaDoor
set_option linter.unusedSimpArgs false
set_option linter.unusedVariables false
set_option maxRecDepth 100000
namespace Go.Proofs.YtfldpejifpmapaaDoor
open Go.RowKit
open Go.Maps
-- an odd's block, stored: from $W to $V
theorem own_tryAt {w : World} {base c : Nat} {p : Option Addr} {l : List Try} (h : w.ownsRow base 52 7 (.slice p l.length c) l.length (l.flatMap Try.cells)) : TryAt w p l := by
  obtain ⟨p', c', e, hh⟩ := own_tries h
  cases e
  exact hh
theorem own_intAt {w : World} {base c : Nat} {p : Option Addr} {l : List Int} (h : w.ownsRow base 3 1 (.slice p l.length c) l.length (intsL l)) : IntsAt w p l := by
  obtain ⟨p', c', e, hh⟩ := own_intsAt h
  cases e
  exact hh
theorem own_evAt {w : World} {base c : Nat} {p : Option Addr} {l : List Ev} (h : w.ownsRow base 27 6 (.slice p l.length c) l.length (l.flatMap Ev.cells)) : HistAt w p l := by
  obtain ⟨p', c', e, hh⟩ := own_hist h
  cases e
  exact hh
set_option maxHeartbeats 8000000 in
theorem eventsCheck_walk (w : World) (po : Option Addr) (cap : Nat) (l : List Ev) (th : Int) (hH : HistAt w po l) (hl : l.length ≤ 2000000) (hw : wideL l) (hP : PreE w) : Calls Tryd.prog 9 #[.slice po l.length cap, .int .i64 th] w fun e w' => e = .returned (.bool true) ∧ Upd [] w w' := by
  have HP := Lib.hid hP
  have HH := Lib.hid hH
  have HLT := Lib.hid (lent_code w po cap l hH hl)
  have HTR := Lib.hid (fun W p c h => etries_uni W p c l h (by omega) hw)
  have HTS := Lib.hid (fun W p c h => rtries_uni W p c l h (by omega) hw)
  have HCM := Lib.hid (fun W p c h => (ecommits_code W p c l h (by omega) hw).mono fun _ _ q => com_uni q)
  have HCS := Lib.hid (fun W p c h => (rcommits_code W p c l h (by omega) hw).mono fun _ _ q => com_uni q)
  have HOE := Lib.hid (fun W p c h => eof_code W p c l th h (by omega))
  have HOR := Lib.hid (fun W p c h => rof_code W p c l th h (by omega))
  have HKE := Lib.hid (fun W p c h => check_code W p c l h (by omega) hw)
  have HKR := Lib.hid (fun W p c h => rcheck_code W p c l h (by omega) hw)
  have HTE := Lib.hid (fun W p c h => ethreads_code W p c l h (by omega))
  have HTT := Lib.hid (fun W p c h => rthreads_code W p c l h (by omega))
  have HLF := Lib.hid (fun W B p c hL h => left_code W B p po c cap l hL h hl)
  have htl := triesA_len l
  have hcl := comsA_len l
  have hol := of_len l th
  unfold RowsA at HTR HTS
  unfold ComsA at HCM HCS
  obtain ⟨A, B, hAB⟩ : ∃ A B, oddE l = (A, B) := ⟨_, _, rfl⟩
  rw [hAB] at HTR HTS HCM HCS HKE HKR
  dsimp only at HTR HTS HCM HCS HKE HKR
  generalize triesA l = TA at HTR HTS htl
  generalize comsA l = CA at HCM HCS hcl
  generalize ofL l th = OA at HOE HOR hol
  generalize thrN l = TN at HTE HTT
  have HPO := Lib.hid hH.lt
  have HLN := Lib.hid (show TA.length ≤ 2000000 ∧ CA.length ≤ 2000000 ∧ OA.length ≤ 2000000 by omega)
  clear hAB hH hP htl hcl hol hw
  refine calls_all fun K hK => ?_
  go_enter Tryd.func9, Tryd.ntmps9
  go_wp2_with fail
  refine HLT.out.mono ?_
  rintro e W1 ⟨u1, pm, cm, rfl, hLm⟩
  have HM1 := Lib.hid hLm
  have HU1 := Lib.hid u1
  have HK1 := Lib.hid hLm.hist
  have HX1 := Lib.hid (HH.out.upd0 u1)
  clear u1 hLm HLT
  go_wp2_with fail
  refine (HTR.out W1 pm cm HK1.out).mono ?_
  rintro e W2 ⟨u2, va, rfl, hoa⟩
  obtain ⟨pa, ca, rfl, _⟩ := own_tries hoa
  have HA2 := Lib.hid hoa
  have HV2 := Lib.hid u2
  clear u2 hoa
  go_wp2_with fail
  have HO7 := Lib.hid (Blk.new W2 [.int .i64 A, .int .i64 B] 46)
  have HV2a := Lib.hid ((Upd.refl [] W2).alloc (.cells #[.int .i64 A, .int .i64 B] 46))
  obtain ⟨o7, hob⟩ : ∃ b, W2.heap.size = b := ⟨_, rfl⟩
  obtain ⟨W2a, hW⟩ : ∃ W, W2.alloc (.cells #[.int .i64 A, .int .i64 B] 46) = W := ⟨_, rfl⟩
  rw [hob] at HO7
  rw [hW] at HV2a
  rw [show W2.alloc (.cells [.int .i64 A, .int .i64 B].toArray 46) = W2a from hW] at HO7
  try rw [hob]
  try rw [hW]
  clear hob hW
  refine (HTR.out W2a pm cm ((HK1.out.upd0 HV2.out).upd0 HV2a.out)).mono ?_
  rintro e W3 ⟨u3, vb, rfl, hob⟩
  obtain ⟨pb, cb, rfl, _⟩ := own_tries hob
  have HB3 := Lib.hid hob
  have HV3 := Lib.hid u3
  clear u3 hob
  go_wp2_with fail
  have HO9 := Lib.hid (Blk.new W3 [.int .i64 A, .int .i64 B] 46)
  have HV3a := Lib.hid ((Upd.refl [] W3).alloc (.cells #[.int .i64 A, .int .i64 B] 46))
  obtain ⟨o9, hob⟩ : ∃ b, W3.heap.size = b := ⟨_, rfl⟩
  obtain ⟨W3a, hW⟩ : ∃ W, W3.alloc (.cells #[.int .i64 A, .int .i64 B] 46) = W := ⟨_, rfl⟩
  rw [hob] at HO9
  rw [hW] at HV3a
  rw [show W3.alloc (.cells [.int .i64 A, .int .i64 B].toArray 46) = W3a from hW] at HO9
  try rw [hob]
  try rw [hW]
  clear hob hW
  have HK3 := Lib.hid ((((HK1.out.upd0 HV2.out).upd0 HV2a.out).upd0 HV3.out).upd0 HV3a.out)
  refine (HCM.out W3a pm cm HK3.out).mono ?_
  rintro e W4 ⟨u4, vc, rfl, hoc⟩
  obtain ⟨pc, cc, rfl, _⟩ := own_intsAt hoc
  have HC4 := Lib.hid hoc
  have HV4 := Lib.hid u4
  clear u4 hoc
  go_wp2_with fail
  have HO11 := Lib.hid (Blk.new W4 [.int .i64 A, .int .i64 B] 46)
  have HV4a := Lib.hid ((Upd.refl [] W4).alloc (.cells #[.int .i64 A, .int .i64 B] 46))
  obtain ⟨o11, hob⟩ : ∃ b, W4.heap.size = b := ⟨_, rfl⟩
  obtain ⟨W4a, hW⟩ : ∃ W, W4.alloc (.cells #[.int .i64 A, .int .i64 B] 46) = W := ⟨_, rfl⟩
  rw [hob] at HO11
  rw [hW] at HV4a
  rw [show W4.alloc (.cells [.int .i64 A, .int .i64 B].toArray 46) = W4a from hW] at HO11
  try rw [hob]
  try rw [hW]
  clear hob hW
  refine (HCM.out W4a pm cm ((HK3.out.upd0 HV4.out).upd0 HV4a.out)).mono ?_
  rintro e W5 ⟨u5, vd, rfl, hod⟩
  obtain ⟨pd, cd, rfl, _⟩ := own_intsAt hod
  have HD5 := Lib.hid hod
  have HV5 := Lib.hid u5
  clear u5 hod
  go_wp2_with fail
  have HO13 := Lib.hid (Blk.new W5 [.int .i64 A, .int .i64 B] 46)
  have HV5a := Lib.hid ((Upd.refl [] W5).alloc (.cells #[.int .i64 A, .int .i64 B] 46))
  obtain ⟨o13, hob⟩ : ∃ b, W5.heap.size = b := ⟨_, rfl⟩
  obtain ⟨W5a, hW⟩ : ∃ W, W5.alloc (.cells #[.int .i64 A, .int .i64 B] 46) = W := ⟨_, rfl⟩
  rw [hob] at HO13
  rw [hW] at HV5a
  rw [show W5.alloc (.cells [.int .i64 A, .int .i64 B].toArray 46) = W5a from hW] at HO13
  try rw [hob]
  try rw [hW]
  clear hob hW
  have HK5 := Lib.hid ((((HK3.out.upd0 HV4.out).upd0 HV4a.out).upd0 HV5.out).upd0 HV5a.out)
  refine (HOE.out W5a pm cm HK5.out).mono ?_
  rintro e W6 ⟨u6, ve, rfl, hoe⟩
  obtain ⟨pe, ce, rfl, _⟩ := own_hist hoe
  have HE6 := Lib.hid hoe
  have HV6 := Lib.hid u6
  clear u6 hoe
  go_wp2_with fail
  refine (HOE.out W6 pm cm (HK5.out.upd0 HV6.out)).mono ?_
  rintro e W7 ⟨u7, vf, rfl, hof⟩
  obtain ⟨pf, cf, rfl, _⟩ := own_hist hof
  have HF7 := Lib.hid hof
  have HV7 := Lib.hid u7
  clear u7 hof
  have HV17 := Lib.hid (((((((((HV2.out.trans HV2a.out).trans HV3.out).trans HV3a.out).trans HV4.out).trans HV4a.out).trans HV5.out).trans HV5a.out).trans HV6.out).trans HV7.out)
  have HX7 := Lib.hid (HX1.out.upd0 HV17.out)
  go_wp2_with fail
  refine (HTS.out W7 po cap HX7.out).mono ?_
  rintro e W8 ⟨u8, vt, rfl, hot⟩
  obtain ⟨pt, ct, rfl, _⟩ := own_tries hot
  have HT8 := Lib.hid hot
  have HV8 := Lib.hid u8
  clear u8 hot
  go_wp2_with fail
  have HO17 := Lib.hid (Blk.new W8 [.int .i64 A, .int .i64 B] 46)
  have HV8a := Lib.hid ((Upd.refl [] W8).alloc (.cells #[.int .i64 A, .int .i64 B] 46))
  obtain ⟨o17, hob⟩ : ∃ b, W8.heap.size = b := ⟨_, rfl⟩
  obtain ⟨W8a, hW⟩ : ∃ W, W8.alloc (.cells #[.int .i64 A, .int .i64 B] 46) = W := ⟨_, rfl⟩
  rw [hob] at HO17
  rw [hW] at HV8a
  rw [show W8.alloc (.cells [.int .i64 A, .int .i64 B].toArray 46) = W8a from hW] at HO17
  try rw [hob]
  try rw [hW]
  clear hob hW
  refine (HCS.out W8a po cap ((HX7.out.upd0 HV8.out).upd0 HV8a.out)).mono ?_
  rintro e W9 ⟨u9, vg, rfl, hog⟩
  obtain ⟨pg, cg, rfl, _⟩ := own_intsAt hog
  have HG9 := Lib.hid hog
  have HV9 := Lib.hid u9
  clear u9 hog
  go_wp2_with fail
  have HO19 := Lib.hid (Blk.new W9 [.int .i64 A, .int .i64 B] 46)
  have HV9a := Lib.hid ((Upd.refl [] W9).alloc (.cells #[.int .i64 A, .int .i64 B] 46))
  obtain ⟨o19, hob⟩ : ∃ b, W9.heap.size = b := ⟨_, rfl⟩
  obtain ⟨W9a, hW⟩ : ∃ W, W9.alloc (.cells #[.int .i64 A, .int .i64 B] 46) = W := ⟨_, rfl⟩
  rw [hob] at HO19
  rw [hW] at HV9a
  rw [show W9.alloc (.cells [.int .i64 A, .int .i64 B].toArray 46) = W9a from hW] at HO19
  try rw [hob]
  try rw [hW]
  clear hob hW
  have HX9 := Lib.hid ((((HX7.out.upd0 HV8.out).upd0 HV8a.out).upd0 HV9.out).upd0 HV9a.out)
  refine (HOR.out W9a po cap HX9.out).mono ?_
  rintro e W10 ⟨u10, vo, rfl, hoo⟩
  obtain ⟨px, cx, rfl, _⟩ := own_hist hoo
  have HO10 := Lib.hid hoo
  have HV10 := Lib.hid u10
  clear u10 hoo
  have t9 := HV9a.out.trans HV10.out
  have t8a := HV9.out.trans t9
  have t8 := HV8a.out.trans t8a
  have t7 := HV8.out.trans t8
  have t6 := HV7.out.trans t7
  have t5a := HV6.out.trans t6
  have t5 := HV5a.out.trans t5a
  have t4a := HV5.out.trans t5
  have t4 := HV4a.out.trans t4a
  have t3a := HV4.out.trans t4
  have t3 := HV3a.out.trans t3a
  have t2a := HV3.out.trans t3
  have t2 := HV2a.out.trans t2a
  have t1 := HV2.out.trans t2
  have HU10 := Lib.hid (HU1.out.trans t1)
  have HM10 := Lib.hid (HM1.out.upd0 t1)
  have HX10 := Lib.hid (HX1.out.upd0 t1)
  have HA := Lib.hid (own_upd HA2.out t2 (by simp))
  have HB := Lib.hid (own_upd HB3.out t3 (by simp))
  have HC := Lib.hid (own_upd HC4.out t4 (by simp))
  have HD := Lib.hid (own_upd HD5.out t5 (by simp))
  have HE := Lib.hid (own_upd HE6.out t6 (by simp))
  have HF := Lib.hid (own_upd HF7.out t7 (by simp))
  have HT := Lib.hid (own_upd HT8.out t8 (by simp))
  have HG := Lib.hid (own_upd HG9.out t9 (by simp))
  have HO := HO10
  have HQ7 := Lib.hid (HO7.out.upd t2a (by simp))
  have HQ11 := Lib.hid (HO11.out.upd t4a (by simp))
  have HQ17 := Lib.hid (HO17.out.upd t8a (by simp))
  -- where the rows lie
  have z2 := HV2.out.size
  have z2a := HV2a.out.size
  have z3 := HV3.out.size
  have z3a := HV3a.out.size
  have z4 := HV4.out.size
  have z4a := HV4a.out.size
  have z5 := HV5.out.size
  have z5a := HV5a.out.size
  have z6 := HV6.out.size
  have z7 := HV7.out.size
  have z8 := HV8.out.size
  have z8a := HV8a.out.size
  have z9 := HV9.out.size
  have z9a := HV9a.out.size
  have z10 := HV10.out.size
  have rm : ∀ g, (Value.slice pm (l ++ [markE]).length cm).ownBlock = some g → g < W1.heap.size := own_ltB HM1.out
  have ra : ∀ g, (Value.slice pa TA.length ca).ownBlock = some g → W1.heap.size ≤ g ∧ g < W2.heap.size := fun g e => ⟨(own_blocks HA2.out g (by rw [e]; simp)).1, own_ltB HA2.out g e⟩
  have rb : ∀ g, (Value.slice pb TA.length cb).ownBlock = some g → W2a.heap.size ≤ g ∧ g < W3.heap.size := fun g e => ⟨(own_blocks HB3.out g (by rw [e]; simp)).1, own_ltB HB3.out g e⟩
  have rc : ∀ g, (Value.slice pc CA.length cc).ownBlock = some g → W3a.heap.size ≤ g ∧ g < W4.heap.size := fun g e => ⟨(own_blocks HC4.out g (by rw [e]; simp)).1, own_ltB HC4.out g e⟩
  have rd : ∀ g, (Value.slice pd CA.length cd).ownBlock = some g → W4a.heap.size ≤ g ∧ g < W5.heap.size := fun g e => ⟨(own_blocks HD5.out g (by rw [e]; simp)).1, own_ltB HD5.out g e⟩
  have re : ∀ g, (Value.slice pe OA.length ce).ownBlock = some g → W5a.heap.size ≤ g ∧ g < W6.heap.size := fun g e => ⟨(own_blocks HE6.out g (by rw [e]; simp)).1, own_ltB HE6.out g e⟩
  have rf : ∀ g, (Value.slice pf OA.length cf).ownBlock = some g → W6.heap.size ≤ g ∧ g < W7.heap.size := fun g e => ⟨(own_blocks HF7.out g (by rw [e]; simp)).1, own_ltB HF7.out g e⟩
  have rt : ∀ g, (Value.slice pt TA.length ct).ownBlock = some g → W7.heap.size ≤ g ∧ g < W8.heap.size := fun g e => ⟨(own_blocks HT8.out g (by rw [e]; simp)).1, own_ltB HT8.out g e⟩
  have rg : ∀ g, (Value.slice pg CA.length cg).ownBlock = some g → W8a.heap.size ≤ g ∧ g < W9.heap.size := fun g e => ⟨(own_blocks HG9.out g (by rw [e]; simp)).1, own_ltB HG9.out g e⟩
  have ro : ∀ g, (Value.slice px OA.length cx).ownBlock = some g → W9a.heap.size ≤ g ∧ g < W10.heap.size := fun g e => ⟨(own_blocks HO10.out g (by rw [e]; simp)).1, own_ltB HO10.out g e⟩
  obtain ⟨S, hSd⟩ : ∃ S, (Value.slice pa TA.length ca).ownBlock.toList ++ ((Value.slice pc CA.length cc).ownBlock.toList ++ (Value.slice pe OA.length ce).ownBlock.toList) = S := ⟨_, rfl⟩
  have hS : ∀ g, g ∈ S → (W1.heap.size ≤ g ∧ g < W2.heap.size) ∨ (W3a.heap.size ≤ g ∧ g < W4.heap.size) ∨ (W5a.heap.size ≤ g ∧ g < W6.heap.size) := fun g hg => by
    rw [← hSd] at hg
    rcases List.mem_append.1 hg with h | h
    · exact .inl (ra g (by simpa using h))
    · rcases List.mem_append.1 h with h | h
      · exact .inr (.inl (rc g (by simpa using h)))
      · exact .inr (.inr (re g (by simpa using h)))
  have NM := Lib.hid (show ∀ g ∈ S, (Value.slice pm (l ++ [markE]).length cm).ownBlock ≠ some g from fun g hg e => by have := rm g e; have := hS g hg; omega)
  have NB := Lib.hid (show ∀ g ∈ S, (Value.slice pb TA.length cb).ownBlock ≠ some g from fun g hg e => by have := rb g e; have := hS g hg; omega)
  have ND := Lib.hid (show ∀ g ∈ S, (Value.slice pd CA.length cd).ownBlock ≠ some g from fun g hg e => by have := rd g e; have := hS g hg; omega)
  have NF := Lib.hid (show ∀ g ∈ S, (Value.slice pf OA.length cf).ownBlock ≠ some g from fun g hg e => by have := rf g e; have := hS g hg; omega)
  have NT := Lib.hid (show ∀ g ∈ S, (Value.slice pt TA.length ct).ownBlock ≠ some g from fun g hg e => by have := rt g e; have := hS g hg; omega)
  have NG := Lib.hid (show ∀ g ∈ S, (Value.slice pg CA.length cg).ownBlock ≠ some g from fun g hg e => by have := rg g e; have := hS g hg; omega)
  have NO := Lib.hid (show ∀ g ∈ S, (Value.slice px OA.length cx).ownBlock ≠ some g from fun g hg e => by have := ro g e; have := hS g hg; omega)
  have NW := Lib.hid (show ∀ g ∈ S, w.heap.size ≤ g from fun g hg => by have := HU1.out.size; have := hS g hg; omega)
  have HTRI := Lib.hid (show ∀ lo, Tri W10 S lo (Value.slice pa TA.length ca) TA.length (Value.slice pc CA.length cc) CA.length (Value.slice pe OA.length ce) OA.length from fun lo => ⟨⟨_, own_mono HA.out (Nat.zero_le _)⟩, ⟨_, own_mono HC.out (Nat.zero_le _)⟩, ⟨_, own_mono HE.out (Nat.zero_le _)⟩, fun g e => .inl (by rw [← hSd]; exact List.mem_append.2 (.inl (by rw [e]; simp))), fun g e => .inl (by rw [← hSd]; exact List.mem_append.2 (.inr (List.mem_append.2 (.inl (by rw [e]; simp))))), fun g e => .inl (by rw [← hSd]; exact List.mem_append.2 (.inr (List.mem_append.2 (.inr (by rw [e]; simp))))), fun g e e2 => by have := ra g e; have := rc g e2; omega, fun g e e2 => by have := ra g e; have := re g e2; omega, fun g e e2 => by have := rc g e; have := re g e2; omega⟩)
  clear t1 t2 t2a t3 t3a t4 t4a t5 t5a t6 t7 t8 t8a t9 z2 z2a z3 z3a z4 z4a z5 z5a z6 z7 z8 z8a z9 z9a z10 rm ra rb rc rd re rf rt rg ro hS hSd
  clear HA2 HB3 HC4 HD5 HE6 HF7 HT8 HG9 HO10 HV2 HV2a HV3 HV3a HV4 HV4a HV5 HV5a HV6 HV7 HV8 HV8a HV9 HV9a HV10 HK1 HX1 HM1 HK3 HK5 HX7 HX9 HV17 HO7 HO9 HO11 HO13 HO17 HO19 HU1 HTR HTS HCM HCS HOE HOR
  go_wp2_with fail
  refine (HKE.out W10 pm cm HM10.out.hist).mono ?_
  rintro e W11 ⟨rfl, u11⟩
  have HZ11 := Lib.hid u11
  clear u11
  go_wp2_with fail
  refine (HKR.out W11 po cap (HX10.out.upd0 HZ11.out)).mono ?_
  rintro e W12 ⟨rfl, u12⟩
  have HZ12 := Lib.hid (HZ11.out.trans u12)
  clear u12 HZ11 HKE HKR
  have HQ7' := Lib.hid (HQ7.out.upd HZ12.out (by simp))
  have HQ11' := Lib.hid (HQ11.out.upd HZ12.out (by simp))
  have HQ17' := Lib.hid (HQ17.out.upd HZ12.out (by simp))
  have a0 := HQ7'.out.cell 0 rfl
  have a1 := HQ7'.out.cell 1 rfl
  have b0 := HQ11'.out.cell 0 rfl
  have b1 := HQ11'.out.cell 1 rfl
  have c0 := HQ17'.out.cell 0 rfl
  have c1 := HQ17'.out.cell 1 rfl
  go_wp2_with fail
  refine (rsameTries_code W12 pa pt ca ct TA (own_tryAt (own_upd HA.out HZ12.out (by simp))) (own_tryAt (own_upd HT.out HZ12.out (by simp))) (by have := HLN.out; omega)).mono ?_
  rintro e W13 ⟨rfl, u13⟩
  have HZ13 := Lib.hid (HZ12.out.trans u13)
  clear u13 HZ12 a0 a1 b0 b1 c0 c1 HQ7' HQ11' HQ17' HQ7 HQ11 HQ17
  go_wp2_with fail
  refine (rsameInts_code W13 pc pg cc cg CA (own_intAt (own_upd HC.out HZ13.out (by simp))) (own_intAt (own_upd HG.out HZ13.out (by simp))) (by have := HLN.out; omega)).mono ?_
  rintro e W14 ⟨rfl, u14⟩
  have HZ14 := Lib.hid (HZ13.out.trans u14)
  clear u14 HZ13
  go_wp2_with fail
  refine (rsame_code W14 pe px ce cx OA (own_evAt (own_upd HE.out HZ14.out (by simp))) (own_evAt (own_upd HO.out HZ14.out (by simp))) (by have := HLN.out; omega)).mono ?_
  rintro e W15 ⟨rfl, u15⟩
  have HZ15 := Lib.hid (HZ14.out.trans u15)
  clear u15 HZ14
  go_wp2_with fail
  refine (HTE.out W15 pm cm (HM10.out.upd0 HZ15.out).hist).mono ?_
  rintro e W16 ⟨rfl, u16⟩
  have HZ16 := Lib.hid (HZ15.out.trans u16)
  clear u16 HZ15
  go_wp2_with fail
  refine (HTT.out W16 po cap (HX10.out.upd0 HZ16.out)).mono ?_
  rintro e W17 ⟨rfl, u17⟩
  have HZ17 := Lib.hid (HZ16.out.trans u17)
  clear u17 HZ16 HTE HTT
  go_wp2_with fail
  refine (HLF.out W17 w.heap.size pm cm (HM10.out.upd0 HZ17.out) (HX10.out.upd0 HZ17.out)).mono ?_
  rintro e W18 ⟨rfl, u18⟩
  have HZ18 := Lib.hid (HZ17.out.trans u18)
  clear u18 HZ17
  obtain ⟨lo, hlo⟩ : ∃ n, W18.heap.size = n := ⟨_, rfl⟩
  have HLO := Lib.hid hlo
  have HT18 := Lib.hid ((HTRI.out lo).upd0 HZ18.out)
  clear hlo HTRI
  obtain ⟨hTA, hCA, hOA⟩ := HLN.out
  go_wp2_with fail
  go_loopw [21] (fun v21 wr => ∃ i : Nat, i ≤ TA.length ∧ v21 = .int .i64 i ∧ Tri wr S lo (.slice pa TA.length ca) TA.length (.slice pc CA.length cc) CA.length (.slice pe OA.length ce) OA.length ∧ Upd S W18 wr) (fun v21 _ => TA.length - (intOf v21).toNat)
  case atStart => exact ⟨0, by omega, rfl, HT18.out, Upd.refl _ _⟩
  case round =>
    obtain ⟨i, hi, rfl, htri, hu⟩ := hrel
    by_cases hlt : i < TA.length
    · obtain ⟨us, ho⟩ := htri.a
      obtain ⟨g, c', e⟩ := own_some ho (by omega)
      cases e
      obtain ⟨⟨cv, hcell⟩, hfree⟩ := row_cell ho i hlt (by decide)
      have hlt' : (i : Int) < (TA.length : Int) := by omega
      have hi0 : 0 ≤ (i : Int) := by omega
      have HN := Lib.hid (htri.setA (i * 7) (.int .i64 (-9)))
      have HNU := Lib.hid (show Upd S W18 (wr.setCell ⟨g, i * 7, none⟩ (.int .i64 (-9))) from hu.setCell (by rcases htri.sa g (by simp [Value.ownBlock]) with h | h; exact .inl h; exact .inr (by have := HLO.out; dsimp only; omega)) _)
      clear htri hu ho
      go_wp2_with fail
      go_roundw
      case rel => exact ⟨i + 1, by omega, by go_num, HN.out, HNU.out⟩
      case measure => simp [intOf]; omega
    · obtain rfl : i = TA.length := by omega
      have HTRA := Lib.hid htri
      have HUA := Lib.hid hu
      clear htri hu
      go_wp2_with fail
      go_loopw [22] (fun v21 wr => ∃ i : Nat, i ≤ CA.length ∧ v21 = .int .i64 i ∧ Tri wr S lo (.slice pa TA.length ca) TA.length (.slice pc CA.length cc) CA.length (.slice pe OA.length ce) OA.length ∧ Upd S W18 wr) (fun v21 _ => CA.length - (intOf v21).toNat)
      case atStart => exact ⟨0, by omega, rfl, HTRA.out, HUA.out⟩
      case round =>
        obtain ⟨i, hi, rfl, htri, hu⟩ := hrel
        by_cases hlt : i < CA.length
        · obtain ⟨us, ho⟩ := htri.c
          obtain ⟨g, c', e⟩ := own_some ho (by omega)
          cases e
          obtain ⟨⟨cv, hcell⟩, hfree⟩ := row_cell ho i hlt (by decide)
          rw [Nat.mul_one] at hcell hfree
          have hlt' : (i : Int) < (CA.length : Int) := by omega
          have hi0 : 0 ≤ (i : Int) := by omega
          have HN := Lib.hid (htri.setC i (.int .i64 (-9)))
          have HNU := Lib.hid (show Upd S W18 (wr.setCell ⟨g, i, none⟩ (.int .i64 (-9))) from hu.setCell (by rcases htri.sc g (by simp [Value.ownBlock]) with h | h; exact .inl h; exact .inr (by have := HLO.out; dsimp only; omega)) _)
          clear htri hu ho
          go_wp2_with fail
          go_roundw
          case rel => exact ⟨i + 1, by omega, by go_num, HN.out, HNU.out⟩
          case measure => simp [intOf]; omega
        · obtain rfl : i = CA.length := by omega
          have HTRB := Lib.hid htri
          have HUB := Lib.hid hu
          clear htri hu
          go_wp2_with fail
          go_loopw [23] (fun v21 wr => ∃ i : Nat, i ≤ OA.length ∧ v21 = .int .i64 i ∧ Tri wr S lo (.slice pa TA.length ca) TA.length (.slice pc CA.length cc) CA.length (.slice pe OA.length ce) OA.length ∧ Upd S W18 wr) (fun v21 _ => OA.length - (intOf v21).toNat)
          case atStart => exact ⟨0, by omega, rfl, HTRB.out, HUB.out⟩
          case round =>
            obtain ⟨i, hi, rfl, htri, hu⟩ := hrel
            by_cases hlt : i < OA.length
            · obtain ⟨us, ho⟩ := htri.e
              obtain ⟨g, c', e⟩ := own_some ho (by omega)
              cases e
              obtain ⟨⟨cv, hcell⟩, hfree⟩ := row_cell ho i hlt (by decide)
              have hlt' : (i : Int) < (OA.length : Int) := by omega
              have hi0 : 0 ≤ (i : Int) := by omega
              have HN := Lib.hid (htri.setE (i * 6) (.int .i64 (-9)))
              have HNU := Lib.hid (show Upd S W18 (wr.setCell ⟨g, i * 6, none⟩ (.int .i64 (-9))) from hu.setCell (by rcases htri.se g (by simp [Value.ownBlock]) with h | h; exact .inl h; exact .inr (by have := HLO.out; dsimp only; omega)) _)
              clear htri hu ho
              go_wp2_with fail
              go_roundw
              case rel => exact ⟨i + 1, by omega, by go_num, HN.out, HNU.out⟩
              case measure => simp [intOf]; omega
            · obtain rfl : i = OA.length := by omega
              have HTRC := Lib.hid htri
              have HUC := Lib.hid hu
              clear htri hu
              go_wp2_with fail
              go_loopw [6, 10, 14, 24] (fun v6 v10 v14 v24 wr => ∃ i : Nat, i ≤ 20 ∧ v24 = .int .i64 i ∧ (∃ p c, v6 = .slice p (TA.length + i) c) ∧ (∃ p c, v10 = .slice p (CA.length + i) c) ∧ (∃ p c, v14 = .slice p (OA.length + i) c) ∧ Tri wr S lo v6 (TA.length + i) v10 (CA.length + i) v14 (OA.length + i) ∧ Upd S W18 wr) (fun _ _ _ v24 _ => 20 - (intOf v24).toNat)
              case atStart => exact ⟨0, by omega, rfl, ⟨pa, ca, rfl⟩, ⟨pc, cc, rfl⟩, ⟨pe, ce, rfl⟩, HTRC.out, HUC.out⟩
              case round =>
                obtain ⟨i, hi, rfl, ⟨p6, c6, rfl⟩, ⟨p10, c10, rfl⟩, ⟨p14, c14, rfl⟩, htri, hu⟩ := hrel
                have HTD := Lib.hid htri
                have HUD := Lib.hid hu
                clear htri hu
                obtain ⟨na, hna⟩ : ∃ n, TA.length + i = n := ⟨_, rfl⟩
                obtain ⟨nc, hnc⟩ : ∃ n, CA.length + i = n := ⟨_, rfl⟩
                obtain ⟨ne, hne⟩ : ∃ n, OA.length + i = n := ⟨_, rfl⟩
                have HNA := Lib.hid hna
                have HNC := Lib.hid hnc
                have HNE := Lib.hid hne
                rw [hna, hnc, hne] at HTD
                rw [hna, hnc, hne]
                have hba : na ≤ 2000020 ∧ i ≤ na := by omega
                have hbc : nc ≤ 2000020 ∧ i ≤ nc := by omega
                have hbe : ne ≤ 2000020 ∧ i ≤ ne := by omega
                clear hna hnc hne
                by_cases hlt : i < 20
                · have hlt' : (i : Int) < 20 := by omega
                  obtain ⟨v1, Wa, hr1, ht1, hu1⟩ := HTD.out.appA (by omega) (by have := HUD.out.size; have := HLO.out; omega)
                  have HUa := Lib.hid (hu1 W18 HLO.out.symm HUD.out)
                  obtain ⟨v2, Wb, hr2, ht2, hu2⟩ := ht1.appC (by omega) (by have := HUa.out.size; have := HLO.out; omega)
                  have HUb := Lib.hid (hu2 W18 HLO.out.symm HUa.out)
                  obtain ⟨v3, Wc, hr3, ht3, hu3⟩ := ht2.appE (by omega) (by have := HUb.out.size; have := HLO.out; omega)
                  have HUc := Lib.hid (hu3 W18 HLO.out.symm HUb.out)
                  obtain ⟨_, hx1⟩ := ht3.a
                  obtain ⟨_, hx2⟩ := ht3.c
                  obtain ⟨_, hx3⟩ := ht3.e
                  obtain ⟨q1, d1, rfl⟩ := own_form hx1
                  obtain ⟨q2, d2, rfl⟩ := own_form hx2
                  obtain ⟨q3, d3, rfl⟩ := own_form hx3
                  have HT3 := Lib.hid ht3
                  clear ht1 ht2 ht3 hu1 hu2 hu3 hx1 hx2 hx3
                  go_upto_region 28 with (at_builtin; refine wpList_append_eq rfl _ _ _ _ rfl _ _ _ rfl rfl hr1 ?_)
                  go_upto_region 29 with (at_builtin; refine wpList_append_eq rfl _ _ _ _ rfl _ _ _ rfl rfl hr2 ?_)
                  go_wp2_with (at_builtin; refine wpList_append_eq rfl _ _ _ _ rfl _ _ _ rfl rfl hr3 ?_)
                  go_roundw
                  case rel =>
                    have e1 : TA.length + (i + 1) = na + 1 := by rw [← HNA.out]; omega
                    have e2 : CA.length + (i + 1) = nc + 1 := by rw [← HNC.out]; omega
                    have e3 : OA.length + (i + 1) = ne + 1 := by rw [← HNE.out]; omega
                    exact ⟨i + 1, by omega, by go_num, ⟨q1, d1, by rw [e1]⟩, ⟨q2, d2, by rw [e2]⟩, ⟨q3, d3, by rw [e3]⟩, by rw [e1, e2, e3]; exact HT3.out, HUc.out⟩
                  case measure => simp [intOf]; omega
                · obtain rfl : i = 20 := by omega
                  have g1 : decide ((na : Int) < 20) = false := decide_eq_false (by omega)
                  have g2 : decide ((nc : Int) < 20) = false := decide_eq_false (by omega)
                  have g3 : decide ((ne : Int) < 20) = false := decide_eq_false (by omega)
                  have HUW := Lib.hid (show Upd [] w wr from (HU10.out.trans HZ18.out).tr (U := []) HUD.out (by simp) (fun g hg => .inr (NW.out g hg)))
                  have HMr := Lib.hid (show LentE wr w.heap.size pm cm l from own_upd (HM10.out.upd0 HZ18.out) HUD.out (fun g hg e => NM.out g hg e))
                  have HXr := Lib.hid (show HistAt wr po l by
                    by_cases hne : l = []
                    · intro j x hx
                      rw [hne] at hx
                      simp at hx
                    · exact HH.out.upd ((HU10.out.trans HZ18.out).tr (U := S) HUD.out (fun x hx => by simp at hx) (fun x hx => .inl hx)) (fun b o e hb => by
                        have h1 := NW.out b hb
                        have := HPO.out b o e hne
                        omega))
                  have HBr := Lib.hid (own_tryAt (own_upd (own_upd HB.out HZ18.out (by simp)) HUD.out (fun g hg e => NB.out g hg e)))
                  have HTr := Lib.hid (own_tryAt (own_upd (own_upd HT.out HZ18.out (by simp)) HUD.out (fun g hg e => NT.out g hg e)))
                  have HDr := Lib.hid (own_intAt (own_upd (own_upd HD.out HZ18.out (by simp)) HUD.out (fun g hg e => ND.out g hg e)))
                  have HGr := Lib.hid (own_intAt (own_upd (own_upd HG.out HZ18.out (by simp)) HUD.out (fun g hg e => NG.out g hg e)))
                  have HFr := Lib.hid (own_evAt (own_upd (own_upd HF.out HZ18.out (by simp)) HUD.out (fun g hg e => NF.out g hg e)))
                  have HOr := Lib.hid (own_evAt (own_upd (own_upd HO.out HZ18.out (by simp)) HUD.out (fun g hg e => NO.out g hg e)))
                  clear HTD HUD HT18 HTRA HTRB HTRC HUA HUB HUC HA HB HC HD HE HF HT HG HO NM NB ND NF NT NG NO NW HM10 HX10 HZ18 HU10
                  go_wp2_with fail
                  refine (HLF.out wr w.heap.size pm cm HMr.out HXr.out).mono ?_
                  rintro e W20 ⟨rfl, u20⟩
                  have HY20 := Lib.hid u20
                  clear u20 g1 g2 g3
                  go_wp2_with fail
                  refine (rsameTries_code W20 pb pt cb ct TA (HBr.out.upd0 HY20.out) (HTr.out.upd0 HY20.out) (by omega)).mono ?_
                  rintro e W21 ⟨rfl, u21⟩
                  have HY21 := Lib.hid (HY20.out.trans u21)
                  clear u21 HY20
                  go_wp2_with fail
                  refine (rsameInts_code W21 pd pg cd cg CA (HDr.out.upd0 HY21.out) (HGr.out.upd0 HY21.out) (by omega)).mono ?_
                  rintro e W22 ⟨rfl, u22⟩
                  have HY22 := Lib.hid (HY21.out.trans u22)
                  clear u22 HY21
                  go_wp2_with fail
                  refine (rsame_code W22 pf px cf cx OA (HFr.out.upd0 HY22.out) (HOr.out.upd0 HY22.out) (by omega)).mono ?_
                  rintro e W23 ⟨rfl, u23⟩
                  have HY23 := Lib.hid (HUW.out.trans (HY22.out.trans u23))
                  clear u23 HY22
                  go_wp2_with fail
                  refine (known_code _ (HP.out.upd HY23.out)).mono ?_
                  rintro e W24 ⟨rfl, u24⟩
                  go_wp2_with fail
                  exact ⟨rfl, HY23.out.trans u24⟩
end Go.Proofs.YtfldpejifpmapaaDoor
set_option linter.unusedSimpArgs false
set_option linter.unusedVariables false
set_option maxRecDepth 100000
namespace Go.Proofs.YtfldpejifpmapaaDoor.eventsCheck
open Go.ChangeShapes Go.WideShapes Go.ChangeAt Go.RowKit

theorem listed : Lists Rows.eventsCheckUptoRow.laid := by
  unfold Lists Rows.eventsCheckUptoRow
  exact ⟨by repeat (first | exact List.mem_cons_self | refine List.mem_cons_of_mem _ ?_), by repeat (first | exact List.mem_cons_self | refine List.mem_cons_of_mem _ ?_), by repeat (first | exact List.mem_cons_self | refine List.mem_cons_of_mem _ ?_)⟩

theorem plainH (w : World) : laidMetH Tryd.prog Rows.eventsCheckUptoRow.laid w = laidMet Tryd.prog Rows.eventsCheckUptoRow.laid w := MakeChecks.laidMetH_plain _ _ _ (by kernel_rfl)

theorem lifted (os : Os) (started : os.Started) (H : Type) (enc : TypeId × Value → H) (F : Stop.Interp) :
    ReturnsInHanded {} Tryd.checked os 9 .any ((Rows.OpenSpec.upto Rows.eventsCheckSpec).preRow enc Tryd.prog Tryd.f9 Rows.eventsCheckUptoRow.domain false Rows.eventsCheckUptoRow.laid) (((Rows.OpenSpec.upto Rows.eventsCheckSpec).at F).post enc Tryd.prog Tryd.f9 false true false false) := by
  have hx0 : (DataW.whole enc Tryd.prog ((World.laidAll Tryd.prog os Rows.eventsCheckUptoRow.laid).forCall (fun _ _ => 0) ⟨#[], #[.slice none 0 0, .int .i64 0], []⟩).memory Tryd.f9.params.toList Rows.eventsCheckSpec.vars false (#[.slice none 0 0, .int .i64 0] : Array Value).toList 8).map (fun x => (x.1, x.2.1)) = some ([.nil, .lit (.int .i64 0)], []) := by kernel_rfl
  obtain ⟨⟨x1, x2, x3⟩, hx, hx1⟩ := Option.map_eq_some_iff.1 hx0
  simp only [Prod.mk.injEq] at hx1
  obtain ⟨rfl, rfl⟩ := hx1
  refine returnsInHanded_of_row (C := Tryd.checked) (s := (Rows.OpenSpec.upto Rows.eventsCheckSpec)) law_own started (by kernel_rfl) Tryd.func9
    (witness_card (enc := enc) (s := (Rows.OpenSpec.upto Rows.eventsCheckSpec)) (conds := Rows.eventsCheckUptoRow.domain) (laid := Rows.eventsCheckUptoRow.laid) #[.slice none 0 0, .int .i64 0] (World.shaped_of_ZipB (by kernel_rfl) (by kernel_rfl)) (by kernel_rfl)
      (OpenSpec.preRow_of_cond 8 hx (by kernel_rfl) (fun k hk => by cases hk; kernel_rfl) (by kernel_rfl) (by rw [plainH]; exact laidMet_laidAll _ (by kernel_rfl) (by kernel_rfl)))) ?_
  intro W base args ds gs before hval0 hW hcnd hcond hsz0 hL hsh _
  have hL0 : laidMetH Tryd.prog Rows.eventsCheckUptoRow.laid W := hL
  rw [plainH] at hL0
  have hPre : PreE W := pre_laid listed hL0 hsh
  have hbulk : Rows.uptoSmall H (ds ++ gs) = true := hcond _ rfl
  have hsz : (DataW.weightsEach Tryd.prog (Tryd.f9.params.toList ++ Rows.eventsCheckSpec.plain.varTypes Tryd.prog) (ds ++ gs)).all (· ≤ reachBytes) = true := hsz0
  clear hcond hsz0
  have hval : ∀ (j : Nat) t v, Tryd.f9.params[j]? = some t → args[j]? = some v → Value.okWide Tryd.prog W .any base t v := hval0
  have hW' := hW
  obtain ⟨p, q, hA0, hV, rfl, hfz, hnd⟩ := hW
  have hA : DataW.TrodAll enc Tryd.prog W 0 (fun _ => true) true Tryd.f9.params.toList args.toList ds p := hA0
  rw [Tryd.params9] at hA hval
  obtain ⟨v0, vs0, d0, ds0, p0, q0, hargs, rfl, rfl, h0, r0⟩ := trodAll_cons hA
  obtain ⟨v1, vs1, d1, ds1, p1, q1, rfl, rfl, rfl, h1, r1⟩ := trodAll_cons r0
  obtain ⟨rfl, rfl, rfl⟩ := trodAll_nil r1
  obtain rfl : args = #[v0, v1] := by cases args; simp_all
  obtain ⟨pa0, n0, cap0, V0, rfl, hs0, hc0, hm0, hf0⟩ := open_sl_structs Tryd.underlying22 Tryd.underlying27 (by kernel_rfl) (by kernel_rfl) (by decide) (hval 0 22 v0 rfl rfl) h0
  obtain ⟨a1, rfl, rfl, rfl, w1⟩ := open_int Tryd.underlying3 (hval 1 3 v1 rfl rfl) h1
  have hb1 : -9223372036854775808 ≤ a1 ∧ a1 ≤ 9223372036854775807 := by simpa [Lit.wf, IntKind.min, IntKind.max, IntKind.signed, IntKind.bits] using w1
  have hr0 := slice_reach (j := 0) Tryd.underlying22 h0 hsz (by rw [Tryd.params9]; rfl) rfl 48 (by kernel_rfl)
  have k0 := bulk_slice Tryd.underlying22 h0
  have h22 := hbulk
  unfold Rows.uptoSmall at h22
  have h11 := of_decide_eq_true h22
  simp only [List.cons_append, List.nil_append, Rows.uptoBulkAll] at h11
  obtain ⟨L0, rfl, hh0, wd0⟩ := sl_events Tryd.underlying27 hs0 hf0
  refine (eventsCheck_walk W pa0 cap0 L0 a1 hh0 (by omega) wd0 hPre).mono fun e W' ⟨he, hu⟩ => ?_
  subst he
  exact ⟨_, rfl, law_post (s := Rows.eventsCheckSpec) rfl (by rw [Tryd.params9]; decide +kernel) rfl (by obtain ⟨rfl, _⟩ := trodVars_none hV; rfl) hW' (hu.below (Nat.le_refl _) (by simp))⟩

theorem said : Rows.eventsCheckUptoRow.holds Tryd.pinned (Rows.OpenSpec.upto Rows.eventsCheckSpec) :=
  OpenClaim.holds_of_cond 9 Tryd.f9 rfl rfl rfl rfl rfl rfl rfl ⟨rfl, rfl, rfl, rfl, rfl⟩ rfl rfl rfl rfl rfl (by kernel_rfl) Tryd.func9 (by kernel_rfl)
    (of_decide_eq_true (by kernel_rfl)) (by unfold Func.isWrapper; first | (rw [if_pos (by decide +kernel)]; kernel_rfl) | (rw [if_neg (by decide +kernel)]; exact ⟨rfl, rfl⟩))
    (fun os started H enc _ F => by rw [OpenClaim.pre_eq_preRow]; exact lifted os started H enc F)

theorem plain (f : FuncId) (fn : Func) (hf : Tryd.pinned.checked.prog.funcNamed "parley/parleylaw13.EventsCheck" = some f) (hfn : Tryd.pinned.checked.prog.funcs[f]? = some fn) :
    true = Tryd.pinned.checked.prog.looks [] ∧ ∀ (j : Nat) t, fn.params[j]? = some t → Tryd.pinned.checked.prog.wantsStandIn t = false := by
  obtain rfl : f = 9 := Option.some.inj ((show Tryd.prog.funcNamed "parley/parleylaw13.EventsCheck" = some 9 by kernel_rfl).symm.trans hf) |>.symm
  obtain rfl : fn = Tryd.f9 := (Option.some.inj (Tryd.func9.symm.trans hfn)).symm
  refine ⟨by kernel_rfl, fun j t ht => ?_⟩
  have hall : ((Tryd.f9).params.toList.all fun u => !Tryd.prog.wantsStandIn u) = true := by kernel_rfl
  have hm : t ∈ (Tryd.f9).params.toList := by simpa using Array.mem_of_getElem? ht
  exact (show Tryd.prog.wantsStandIn t = false by simpa using List.all_eq_true.1 hall t hm)

theorem proved : Rows.EventsCheckUptoCardSaid :=
  Claim7.holds_tied_plain_at .later [] _ _ _ _ said (fun _ h => by cases h) (by kernel_rfl) (fun _ h => by cases h) eventsCheckUpto_row_tie rfl ⟨rfl, rfl⟩ (by kernel_rfl) rfl plain (by kernel_rfl)

end Go.Proofs.YtfldpejifpmapaaDoor.eventsCheck
