/- The map of an attempt's places; made, Begin. No conditions. An attempt's calls: idle, Get, Put, End, Step, Drop, Phase, Locked. No conditions. -/
import Derived.Test.YthfeljongackcaaT1p06
set_option linter.unusedSimpArgs false
set_option linter.unusedVariables false
set_option maxRecDepth 100000
namespace Go.Proofs.Ythfeljongackcaa
open Go.RowKit
open Go.Maps

theorem wpList_mapUpdate_eq {P : Program} {ops : Array Oper} {rest : List Oper} {o : Oper} {a : Act} {w w' : World} {Q : Exit → Act → World → Prop} (hg : o.guard = none) (m x v : Operand) (t : TypeId) (hop : o.op = Op.mapUpdate t m x v)
    (mv xv vv : Value) (hm : a.eval m = mv) (hx : a.eval x = xv) (hv : a.eval v = vv) (hrun : (Instr.mapUpdate t mv xv vv).run P w = .ok () w') (h : wpList P ops Q rest (a.put o.dst undef) w') : wpList P ops Q (o :: rest) a w := by
  refine wpList_plain hg fun K hK => ?_
  unfold Oper.wp
  simp only [execOp, hop, hm, hx, hv, Sem.run_bind, hrun, Result.andThen_ok, Sem.run_pure]
  exact hK _ _ h
theorem wpList_lookup_eq {P : Program} {ops : Array Oper} {rest : List Oper} {o : Oper} {a : Act} {w : World} {Q : Exit → Act → World → Prop} (hg : o.guard = none) (m x : Operand) (t : TypeId) (c : Bool) (hop : o.op = Op.lookup t m x c)
    (mv xv v : Value) (hm : a.eval m = mv) (hx : a.eval x = xv) (hrun : (Instr.lookup t mv xv c).run P w = .ok v w) (h : wpList P ops Q rest (a.put o.dst v) w) : wpList P ops Q (o :: rest) a w := by
  refine wpList_plain hg fun K hK => ?_
  unfold Oper.wp
  simp only [execOp, hop, hm, hx, Sem.run_bind, hrun, Result.andThen_ok, Sem.run_pure]
  exact hK _ _ h

theorem law_u64 : Keyed Try.prog 31 := int_keyed Try.underlying31
theorem zero_int (w : World) : (zeroValue 3).run Try.prog w = .ok (.int .i64 0) w := by kernel_rfl
theorem wf_u64 {x : Int} (h : 0 ≤ x ∧ x < 18446744073709551616) : (Lit.int .u64 x).wf = true := WalkArith.wf_u64 (by omega)
theorem wf_len {n : Nat} (h : n < 100000) : (Lit.int .i64 (n : Int)).wf = true := WalkArith.wf_i64 (by omega)
theorem key_u64 {x : Int} (h : 0 ≤ x ∧ x < 18446744073709551616) : keyOf Try.prog 31 (.int .u64 x) = some (.int .u64 x) := keyOf_int_mk Try.underlying31 (wf_u64 h)
section
variable {w : World} {m : Nat} {l : List (Int × Int)}
theorem places_nil (W : World) : PlacesAt (W.alloc (.map #[] 0)) W.heap.size [] :=
  ⟨.map [], World.ownsMap_made _ _ _ _, fun x _ _ => ⟨rfl, fun k h => by simp [place] at h⟩⟩
def lookV (l : List (Int × Int)) (x : Int) : Int := match place l x with | some k => (k : Int) | none => 0
theorem places_look (h : PlacesAt w m l) {x : Int} (hx : 0 ≤ x ∧ x < 18446744073709551616) :
    (Instr.lookup 62 (.map (some m)) (.int .u64 x) true).run Try.prog w = .ok (.tuple #[.int .i64 (lookV l x), .bool (place l x).isSome]) w := by
  obtain ⟨D, ho, hD⟩ := h
  obtain ⟨hD1, hD2⟩ := hD x hx.1 hx.2
  obtain ⟨v, ps, hr, hv⟩ := ho.look_ok law_u64 Try.underlying62 (zero_int w) (zd := .lit (.int .i64 0)) (zp := []) (plainElem_int Try.underlying3 (by decide)) (key_u64 hx)
  obtain ⟨c, rfl, hc, hwc⟩ := plainElem_int_inv Try.underlying3 hv
  rw [hr, hD1]
  have hc' : D.atKey (.int .u64 x) (.lit (.int .i64 0)) = .lit (.int .i64 c) := congrArg Prod.fst hc
  have : c = lookV l x := by
    unfold lookV
    cases hp : place l x with
    | some k =>
      rw [hD2 k hp] at hc'
      simp at hc'
      exact hc'.symm
    | none =>
      rw [hp] at hD1
      rw [atKey_of_not_has hD1] at hc'
      simp at hc'
      exact hc'.symm
  rw [this]
theorem places_store (h : PlacesAt w m l) {x : Int} (v : Int) (hx : 0 ≤ x ∧ x < 18446744073709551616) (hn : place l x = none) (hl : l.length < 100000) :
    ∃ w', (Instr.mapUpdate 62 (.map (some m)) (.int .u64 x) (.int .i64 (l.length : Int))).run Try.prog w = .ok () w' ∧ PlacesAt w' m (l ++ [(x, v)]) ∧ Upd [m] w w' := by
  obtain ⟨D, ho, hD⟩ := h
  have hM := ho.isMap
  have hK : WideAt.IsKeyLit (.int .u64 x) := trivial
  obtain ⟨w', hr, ho', hg⟩ := ho.update law_u64 Try.underlying62 (by unfold maxLen; omega) (key_u64 hx) (val := .int .i64 (l.length : Int)) (d := .lit (.int .i64 (l.length : Int))) (ps := []) (plainElem_int Try.underlying3 (wf_len hl))
  refine ⟨w', hr, ⟨_, by simpa using ho', fun y hy0 hy1 => ?_⟩, (Upd.own hg).mono (by simp)⟩
  obtain ⟨h1, h2⟩ := hD y hy0 hy1
  rw [place_snoc]
  by_cases hxy : x = y
  · subst hxy
    rw [hn, if_pos rfl]
    refine ⟨by rw [has_put_same hM hK]; rfl, fun k hk => ?_⟩
    simp at hk
    subst hk
    rw [atKey_put_same hM hK]
  · have hne : (Lit.int .u64 y) ≠ Lit.int .u64 x := fun e => hxy (by injection e with _ e; exact e.symm)
    refine ⟨by rw [has_put_other hne, h1]; cases place l y <;> simp [hxy], fun k hk => ?_⟩
    rw [atKey_put_other hne]
    refine h2 k ?_
    cases hp : place l y with
    | some k' => rw [hp] at hk; exact hk
    | none => rw [hp] at hk; simp [hxy] at hk
end

/-- an attempt that is not yet made: no places, no phases -/
def head0 (ra ca : Nat) (s : AS) (rv wv : Value) : List Value :=
  [.pointer (some ⟨ra, 0, none⟩), .pointer (some ⟨ca, 0, none⟩), .int .u64 s.snap, rv, wv, .int .i64 s.phase, .int .i64 s.thn, .int .u64 s.addr, .int .u64 s.word, .int .u64 s.found, .int .i64 s.at_, .map none,
   .nilFunc, .nilFunc, .nilFunc, .nilFunc, .nilFunc, .nilFunc, .nilFunc, .nilFunc, .nilFunc, .nilFunc, .nilFunc]

section
variable {w : World} {a ra ca : Nat} {s : AS} {F : List Nat} {rv wv : Value}
theorem place_take {l : List (Int × Int)} (hn : (l.map (·.1)).Nodup) {k : Nat} {x v : Int} (h : l[k]? = some (x, v)) : place (l.take k) x = none := by
  unfold place
  rw [List.findIdx?_eq_none_iff]
  intro c hc
  simp only [beq_eq_false_iff_ne, ne_eq]
  intro e
  obtain ⟨j, hj, hjc⟩ := List.mem_take_iff_getElem.1 hc
  have hkl : k < l.length := by
    by_cases hk : k < l.length
    · exact hk
    · rw [List.getElem?_eq_none (by omega)] at h; cases h
  have hlk : l[k] = (x, v) := by rw [List.getElem?_eq_getElem hkl] at h; exact Option.some.inj h
  have hjk : j < k := by omega
  have h2 := (List.pairwise_iff_getElem.1 hn) j k (by simp; omega) (by simpa using hkl) hjk
  simp only [List.getElem_map, hjc, hlk] at h2
  exact h2 e

/-- the phases' eleven cells, stored -/
theorem phases_set {W : World} {b : Nat} {vs : List Value} (h : Blk W b (vs ++ [.nilFunc, .nilFunc, .nilFunc, .nilFunc, .nilFunc, .nilFunc, .nilFunc, .nilFunc, .nilFunc, .nilFunc, .nilFunc]) 66) (hv : vs.length = 12) (q : Nat) : Blk (W.setCells b 12 (phasesV q)) b (vs ++ phasesV q) 66 := by
  obtain ⟨v0, v1, v2, v3, v4, v5, v6, v7, v8, v9, v10, v11, rfl⟩ : ∃ v0 v1 v2 v3 v4 v5 v6 v7 v8 v9 v10 v11, vs = [v0, v1, v2, v3, v4, v5, v6, v7, v8, v9, v10, v11] := by
    match vs, hv with
    | [v0, v1, v2, v3, v4, v5, v6, v7, v8, v9, v10, v11], _ => exact ⟨_, _, _, _, _, _, _, _, _, _, _, _, rfl⟩
  exact ((((((((((h.set 12 _).set 13 _).set 14 _).set 15 _).set 16 _).set 17 _).set 18 _).set 19 _).set 20 _).set 21 _).set 22 _
theorem phases_upd {W : World} {b q : Nat} : Upd [b] W (W.setCells b 12 (phasesV q)) := by
  show Upd [b] W (((((((((((W.setCell _ _).setCell _ _).setCell _ _).setCell _ _).setCell _ _).setCell _ _).setCell _ _).setCell _ _).setCell _ _).setCell _ _).setCell _ _)
  (repeat (refine Upd.setCell ?_ (Or.inl (by simp)) _))
  exact Upd.refl _ _

set_option maxHeartbeats 2000000 in
theorem made_code (hb : Blk w a (head0 ra ca s rv wv) 66) (hr : OwnP w rv s.reads F) (hw : OwnP w wv s.writes F) (hap : ∀ g, rv.ownBlock = some g → wv.ownBlock ≠ some g)
    (hnd : (s.writes.map (·.1)).Nodup) (hlw : s.writes.length ≤ 1024) (hww : ∀ c ∈ s.writes, (0 ≤ c.1 ∧ c.1 < 18446744073709551616) ∧ 0 ≤ c.2 ∧ c.2 < 18446744073709551616) :
    Calls Try.prog 44 #[.pointer (some ⟨a, 0, none⟩)] w fun e w' => e = .returned (.pointer (some ⟨a, 0, none⟩)) ∧ ∃ m, w.heap.size ≤ m ∧ m < w'.heap.size ∧ AttV w' a ra ca s (m :: F) rv wv (.map (some m)) ∧ Upd [a] w w' := by
  have la := hb.lt
  have hmm := @run_makeMap Try.prog
  obtain ⟨p, cap, rfl⟩ := hw.form
  have hl0 : (0 : Int) ≤ (s.writes.length : Int) := by omega
  have hA : ∀ (W : World) (m : Nat), Upd [a] w W → Blk W a (headV a ra ca s rv (.slice p s.writes.length cap) (.map (some m))) 66 → PlacesAt W m s.writes → AttV W a ra ca s (m :: F) rv (.slice p s.writes.length cap) (.map (some m)) := fun W m u h1 h2 =>
    ⟨h1, (hr.upd u (fun g hg e => by simp at hg; subst hg; exact hr.ne_blk hb (by decide) e)).mono (fun g hg => List.mem_cons_of_mem _ hg), (hw.upd u (fun g hg e => by simp at hg; subst hg; exact hw.ne_blk hb (by decide) e)).mono (fun g hg => List.mem_cons_of_mem _ hg), hap, fun _ => ⟨_, rfl, by simp, h2⟩⟩
  have b4 := hb.cell 4 rfl
  have b11 := hb.cell 11 rfl
  have hth : w.there a 12 11 := fun j hj => ⟨by
    rw [hb.at]
    have : j = 0 ∨ j = 1 ∨ j = 2 ∨ j = 3 ∨ j = 4 ∨ j = 5 ∨ j = 6 ∨ j = 7 ∨ j = 8 ∨ j = 9 ∨ j = 10 := by omega
    rcases this with rfl | rfl | rfl | rfl | rfl | rfl | rfl | rfl | rfl | rfl | rfl <;> rfl, hb.free _⟩
  have hB1 := phases_set (vs := [.pointer (some ⟨ra, 0, none⟩), .pointer (some ⟨ca, 0, none⟩), .int .u64 s.snap, rv, .slice p s.writes.length cap, .int .i64 s.phase, .int .i64 s.thn, .int .u64 s.addr, .int .u64 s.word, .int .u64 s.found, .int .i64 s.at_, .map none]) hb rfl a
  have uB : Upd [a] w (w.setCells a 12 (phasesV a)) := phases_upd
  have f11 := hb.free 11
  clear b4 b11 f11
  have HA := Lib.hid hA
  clear hA
  refine calls_all fun K hK => ?_
  go_enter Try.func44, Try.ntmps44
  go_wp2_with ((with_reducible refine wpList_store_mid (op := ⟨none, .store 64 (.tmp 24) (.tmp 22), _, _, _, _⟩) rfl 64 _ _ rfl a 12 (phasesV a).toArray ?_ ?_ ?_ ?_ ?_ ?_); rfl; rfl; exact hth; kernel_rfl; kernel_rfl; rw [List.toList_toArray]; generalize w.setCells a 12 (phasesV a) = W1 at hB1 uB ⊢; have b4 := hB1.cell 4 rfl; have la1 := hB1.lt; have b11 := hB1.cell 11 rfl; have f11 := hB1.free 11)
  have hz1 : (W1.setCell ⟨a, 11, none⟩ (.map (some W1.heap.size))).heap.size = W1.heap.size := by simp [World.setCell]
  have hP0 := places_nil (W1.setCell ⟨a, 11, none⟩ (.map (some W1.heap.size)))
  rw [hz1] at hP0
  have hB2 := (hB1.set 11 (.map (some W1.heap.size))).alloc (.map #[] 0)
  have u2 : Upd [a] w ((W1.setCell ⟨a, 11, none⟩ (.map (some W1.heap.size))).alloc (.map #[] 0)) := (uB.setCell (.inl (by simp)) _).alloc _
  have hm1 : w.heap.size ≤ W1.heap.size := uB.size
  have hm2 : W1.heap.size < ((W1.setCell ⟨a, 11, none⟩ (.map (some W1.heap.size))).alloc (.map #[] 0)).heap.size := by rw [World.size_alloc, hz1]; omega
  clear hz1 b4 b11 f11 la1 hB1 uB
  generalize (W1.setCell ⟨a, 11, none⟩ (.map (some W1.heap.size))).alloc (.map #[] 0) = W2 at hP0 hB2 u2 hm2 ⊢
  generalize W1.heap.size = m at hP0 hB2 hm1 hm2 ⊢
  have HP0 := Lib.hid hP0
  have HB2 := Lib.hid hB2
  have HU2 := Lib.hid u2
  clear hP0 hB2 u2
  go_loopw [35] (fun v35 wr => ∃ k : Nat, k ≤ s.writes.length ∧ v35 = .int .i64 k ∧ Blk wr a (headV a ra ca s rv (.slice p s.writes.length cap) (.map (some m))) 66 ∧ PlacesAt wr m (s.writes.take k) ∧ Upd [a] w wr ∧ m < wr.heap.size) (fun v35 _ => s.writes.length - (intOf v35).toNat)
  case atStart => exact ⟨0, by omega, rfl, HB2.out, HP0.out, HU2.out, hm2⟩
  case round =>
    obtain ⟨k, hk, rfl, hB, hP, hu, hmw⟩ := hrel
    have HB := Lib.hid hB
    have HP := Lib.hid hP
    have HU := Lib.hid hu
    clear hB hP hu
    by_cases hlt : k < s.writes.length
    · obtain ⟨g, cap2, sp, hv, hle, GB, hgF⟩ := hw.open (by intro e; rw [e] at hlt; simp at hlt)
      simp only [Value.slice.injEq, true_and] at hv
      obtain ⟨rfl, rfl⟩ := hv
      obtain ⟨⟨x, v⟩, hxv⟩ : ∃ c, s.writes[k]? = some c := ⟨_, List.getElem?_eq_getElem hlt⟩
      have hwx := hww _ (List.mem_of_getElem? hxv)
      obtain ⟨hx0', hx1'⟩ := pcells_get s.writes k x v hxv
      have hga : g ≠ a := fun e => by subst e; exact absurd (GB.inj hb).2 (by decide)
      have GB1 := GB.upd HU.out (by simpa using hga)
      have e0 := GB1.cell (k * 2) (by rw [List.getElem?_append_left (by rw [pcells_len]; omega)]; exact hx0')
      have e1 := GB1.cell (k * 2 + 1) (by rw [List.getElem?_append_left (by rw [pcells_len]; omega)]; exact hx1')
      have hlt' : (k : Int) < (s.writes.length : Int) := by omega
      have HN := Lib.hid (place_take hnd hxv)
      have HTL : Hid ((s.writes.take k).length = k) := Lib.hid (by simp; omega)
      have HTS : Hid (s.writes.take k ++ [(x, v)] = s.writes.take (k + 1)) := Lib.hid (by rw [List.take_add_one, hxv]; rfl)
      clear hxv hx0' hx1' GB1
      go_wp2_with fail
      obtain ⟨W3, hW3⟩ : ∃ W3, W3 = wr.alloc (.cells #[.int .u64 x, .int .u64 v] 53) := ⟨_, rfl⟩
      have CB : Blk W3 wr.heap.size [.int .u64 x, .int .u64 v] 53 := by rw [hW3]; exact Blk.new wr _ _
      have u3 : Upd [] wr W3 := by rw [hW3]; exact (Upd.refl [] _).alloc _
      rw [← hW3]
      clear hW3
      have HB3 := HB.out.upd u3 (by simp)
      have b11 := HB3.cell 11 rfl
      have c0 := CB.cell 0 rfl
      obtain ⟨W4, hrun, hP4, u4⟩ := places_store ((HP.out.upd u3 (by simp)).upd (Upd.refl [] _).drew (by simp)) v hwx.1 HN.out (by rw [HTL.out]; omega)
      rw [HTL.out] at hrun
      rw [HTS.out] at hP4
      refine wp_region_eff (fun w' => w'.cell? ⟨a, 11, none⟩ = some (.map (some m)) ∧ w'.cell? ⟨wr.heap.size, 0, none⟩ = some (.int .u64 x)) 7 (by kernel_rfl) (by kernel_rfl) ⟨b11, c0⟩ ?_
      repeat
        refine wpE_take (v := ?_) (by decide) rfl (by rfl) ?_ ?_
        rotate_left 1
        · ((intro w hSw; (try dsimp only at hSw); go_simp); try with_reducible rfl)
        try simp only [Act.put, List.setIfInBounds_toArray, List.set_cons_zero, List.set_cons_succ]
      refine wpE_tail ?_
      refine wpList_mapUpdate_eq rfl _ _ _ _ rfl _ _ _ rfl rfl rfl hrun ?_
      refine NoPanic.normal ?_
      have hma : a ≠ m := by have := HB.out.lt; have := hm1; omega
      have HB4 := Lib.hid ((HB3.drew).upd u4 (by simpa using hma))
      have HP4 := Lib.hid hP4
      have HU4 := Lib.hid (((HU.out.trans (u3.mono (by simp))).drew).tr (U := [a]) u4 (fun _ h => .inl h) (fun x hx => by simp at hx; subst hx; exact .inr hm1))
      have hm4 : m < W4.heap.size := Nat.lt_of_lt_of_le hmw (Nat.le_trans u3.size u4.size)
      clear hP4 hrun u4 HB3 b11 c0 e0 e1 CB
      try simp only [Act.put, List.setIfInBounds_toArray, List.set_cons_zero, List.set_cons_succ]
      go_wp2_with fail
      go_roundw
      case rel => exact ⟨k + 1, by omega, by go_num, HB4.out, HP4.out, HU4.out, hm4⟩
      case measure => simp [intOf]; omega
    · obtain rfl : k = s.writes.length := by omega
      rw [List.take_length] at HP
      go_wp2_with fail
      all_goals exact ⟨rfl, m, hm1, hmw, HA.out _ m HU.out HB.out HP.out, HU.out⟩
end
end Go.Proofs.Ythfeljongackcaa
set_option linter.unusedSimpArgs false
set_option linter.unusedVariables false
set_option maxRecDepth 100000
namespace Go.Proofs.Ythfeljongackcaa
open Go.RowKit
open Go.Maps

-- behind a step that was called within: HL3 U3 hF3 ho3, its turn T
section
variable {w : World} {X : SX} {sh : Sh} {acc st : Int} {a : Nat} {s : AS} {F : List Nat} {rv wv mv : Value}
/-- a call has been answered -/
def CallOk (w : World) (X : SX) (acc st : Int) (a : Nat) (F : List Nat) (T : Trn) (r : Int) (s' : AS) (sh' : Sh) (e : Ending) (w' : World) : Prop :=
  e = .returned (.tuple #[T.val, .int .i64 r]) ∧ StepOk w X acc st a F T s' sh' (.returned T.val) w'

theorem there_code (hL : Live w X sh acc st a s F rv wv mv) : Calls Try.prog 48 #[.pointer (some ⟨a, 0, none⟩)] w fun e w' => e = .returned (.bool true) ∧ w = w' := by
  have a1 := hL.att.head.cell 1 rfl
  refine calls_all fun K hK => ?_
  go_enter Try.func48, Try.ntmps48
  go_wp2
  all_goals exact ⟨rfl, rfl⟩
theorem idle_code (hL : Live w X sh acc st a s F rv wv mv) : Calls Try.prog 45 #[.pointer (some ⟨a, 0, none⟩)] w fun e w' => e = .returned (.int .i64 (if s.phase = 1 then 0 else 2)) ∧ w = w' := by
  have a5 := hL.att.head.cell 5 rfl
  by_cases hp : s.phase = 1
  · rw [if_pos hp]
    have h1 : (s.phase != 1) = false := by simp [hp]
    clear hp
    refine calls_all fun K hK => ?_
    go_enter Try.func45, Try.ntmps45
    go_wp2_with fail
    refine (there_code hL).mono ?_
    rintro e w' ⟨rfl, rfl⟩
    go_wp2
    all_goals exact ⟨rfl, rfl⟩
  · rw [if_neg hp]
    have h1 : (s.phase != 1) = true := by simp [hp]
    clear hp
    refine calls_all fun K hK => ?_
    go_enter Try.func45, Try.ntmps45
    go_wp2_with fail
    refine (there_code hL).mono ?_
    rintro e w' ⟨rfl, rfl⟩
    go_wp2
    all_goals exact ⟨rfl, rfl⟩
theorem phase_code (hL : Live w X sh acc st a s F rv wv mv) : Calls Try.prog 17 #[.pointer (some ⟨a, 0, none⟩)] w fun e w' => e = .returned (.int .i64 s.phase) ∧ w = w' := by
  have a5 := hL.att.head.cell 5 rfl
  refine calls_all fun K hK => ?_
  go_enter Try.func17, Try.ntmps17
  go_wp2_with fail
  refine (there_code hL).mono ?_
  rintro e w' ⟨rfl, rfl⟩
  go_wp2
  all_goals exact ⟨rfl, rfl⟩
theorem locked_code (hL : Live w X sh acc st a s F rv wv mv) : Calls Try.prog 56 #[.pointer (some ⟨a, 0, none⟩)] w fun e w' => e = .returned (.bool (s.phase == 8 || s.phase == 9)) ∧ w = w' := by
  have HP := Lib.hid (phase_code hL)
  by_cases h8 : s.phase = 8
  · have h1 : (s.phase == 8) = true := by simp [h8]
    rw [h1]
    clear h8
    refine calls_all fun K hK => ?_
    go_enter Try.func56, Try.ntmps56
    go_wp2_with fail
    refine (HP.out).mono ?_
    rintro e w' ⟨rfl, rfl⟩
    go_wp2
    all_goals exact ⟨rfl, rfl⟩
  · have h1 : (s.phase == 8) = false := by simp [h8]
    rw [h1]
    clear h8
    refine calls_all fun K hK => ?_
    go_enter Try.func56, Try.ntmps56
    go_wp2_with fail
    refine (HP.out).mono ?_
    rintro e w' ⟨rfl, rfl⟩
    go_wp2_with fail
    refine (HP.out).mono ?_
    rintro e w' ⟨rfl, rfl⟩
    go_wp2
    all_goals exact ⟨rfl, rfl⟩

theorem end_code (hL : Live w X sh acc st a s F rv wv mv) (hM : May s) :
    Calls Try.prog 49 #[.pointer (some ⟨a, 0, none⟩)] w (CallOk w X acc st a F (endS s sh).1 (endS s sh).2.1 (endS s sh).2.2.1 (endS s sh).2.2.2) := by
  have la := hL.lt
  have no := hL.out
  simp only [SX.foot, List.mem_cons, List.not_mem_nil, or_false, not_or] at no
  have lx := hL.sh.lt
  have l1 := lx X.ra (by simp [SX.foot])
  have l2 := lx X.rb (by simp [SX.foot])
  have l3 := lx X.ca (by simp [SX.foot])
  have l4 := lx X.cr (by simp [SX.foot])
  have l5 := lx X.cb (by simp [SX.foot])
  by_cases hp : s.phase = 1
  · obtain ⟨p, cp, rfl⟩ := hL.att.wr.form
    by_cases hw0 : s.writes = []
    · have he : endS s sh = (⟨4, 0, ⟨6, 0, s.snap / 2, false⟩⟩, 0, overS, sh) := by unfold endS; rw [if_neg (by simp [hp]), if_pos hw0]
      rw [he]
      have hl0 : ((s.writes.length : Int) == 0) = true := by simp [hw0]
      have hid := fun W (h : Upd [] w W) => idle_code (hL.upd0 h)
      rw [if_pos hp] at hid
      have HI := Lib.hid hid
      clear he hw0 hp hid
      refine calls_all fun K hK => ?_
      go_enter Try.func49, Try.ntmps49
      go_wp2_with fail
      obtain ⟨W, hW⟩ : ∃ W, W = w.alloc (.cells turn0.toArray 36) := ⟨_, rfl⟩
      have RB : Blk W w.heap.size turn0 36 := by rw [hW]; exact Blk.new w _ _
      have HU : Upd [] w W := by rw [hW]; exact (Upd.refl _ _).alloc _
      have hWs : W.heap.size = w.heap.size + 1 := by rw [hW]; exact World.size_alloc _ _
      simp only [turn0, trnNone, evNone, Trn.cells] at hW
      rw [← hW]
      clear hW
      refine (HI.out _ HU).mono ?_
      rintro e w' ⟨rfl, rfl⟩
      have hL1 := hL.upd0 HU
      have b4 := hL1.att.head.cell 4 rfl
      have b2 := hL1.att.head.cell 2 rfl
      go_wp2_with fail
      refine (number_any s.snap W hL.wide.snap.1 hL.wide.snap.2).mono ?_
      rintro e w' ⟨rfl, rfl⟩
      go_wp2_with fail
      refine (over_code hL1 4 ⟨6, 0, s.snap / 2, false⟩).mono ?_
      rintro e w3 ⟨rfl, HL3, u3⟩
      simp only [Trn.val]
      have U3 : Upd (a :: (F ++ X.foot)) w w3 := (HU.mono (by simp)).trans (u3.mono (by simp; exact fun x h => .inl (.inr (.inl h))))
      have RB3 := RB.upd u3 (by simp; exact ⟨by omega, fun h => Nat.lt_irrefl _ (hL.sep _ h).1⟩)
      clear RB hL1 HU b4 b2
      have q0 := (RB3).cell 0 rfl
      have q1 := (RB3).cell 1 rfl
      have q2 := (RB3).cell 2 rfl
      have q3 := (RB3).cell 3 rfl
      have q4 := (RB3).cell 4 rfl
      have q5 := (RB3).cell 5 rfl
      have q6 := (RB3).cell 6 rfl
      have q7 := (RB3).cell 7 rfl
      have g0 := (RB3).free 0
      have g1 := (RB3).free 1
      have g2 := (RB3).free 2
      have g3 := (RB3).free 3
      have g4 := (RB3).free 4
      have g5 := (RB3).free 5
      have g6 := (RB3).free 6
      have g7 := (RB3).free 7
      go_wp2_with fail
      exact bodyPost_ret (turn_results2 2 3 rfl _ _ _ (⟨4, 0, ⟨6, 0, s.snap / 2, false⟩⟩ : Trn) (.int .i64 0) rfl rfl (turn_set RB3 rfl (⟨4, 0, ⟨6, 0, s.snap / 2, false⟩⟩ : Trn))) rfl (hK _ _ ⟨rfl, fin_step hL (Nat.le_refl _) HL3 U3 (fun g hg => .inl hg) (.inl ⟨rfl, rfl⟩) _ _ _ _ _ _ _ _⟩)
    · have he : endS s sh = ((lockS s sh).1, 0, (lockS s sh).2.1, (lockS s sh).2.2) := by unfold endS; rw [if_neg (by simp [hp]), if_neg hw0]
      rw [he]
      have hl0 : ((s.writes.length : Int) == 0) = false := by simpa using hw0
      have hid := fun W (h : Upd [] w W) => idle_code (hL.upd0 h)
      rw [if_pos hp] at hid
      have HI := Lib.hid hid
      have hp10 : s.phase ≠ 10 := by omega
      clear he hw0 hp hid
      refine calls_all fun K hK => ?_
      go_enter Try.func49, Try.ntmps49
      go_wp2_with fail
      obtain ⟨W, hW⟩ : ∃ W, W = w.alloc (.cells turn0.toArray 36) := ⟨_, rfl⟩
      have RB : Blk W w.heap.size turn0 36 := by rw [hW]; exact Blk.new w _ _
      have HU : Upd [] w W := by rw [hW]; exact (Upd.refl _ _).alloc _
      have hWs : W.heap.size = w.heap.size + 1 := by rw [hW]; exact World.size_alloc _ _
      simp only [turn0, trnNone, evNone, Trn.cells] at hW
      rw [← hW]
      clear hW
      refine (HI.out _ HU).mono ?_
      rintro e w' ⟨rfl, rfl⟩
      have hL1 := hL.upd0 HU
      have b4 := hL1.att.head.cell 4 rfl
      go_wp2_with fail
      refine (lock_code hL1 hp10 hM.even.1).mono ?_
      rintro e w3 ⟨rfl, F', acc', st', rv', wv', mv', HL3, U3, hF3, ho3⟩
      obtain ⟨T, hT⟩ : ∃ T, T = (lockS s sh).1 := ⟨_, rfl⟩
      rw [← hT] at hK ⊢
      clear hT b4 hL1
      have hnr : w.heap.size ∉ a :: (F ++ X.foot) := by
        simp only [List.mem_cons, List.mem_append, not_or]
        exact ⟨by omega, fun h => Nat.lt_irrefl _ (hL.sep _ h).1, fun h => Nat.lt_irrefl _ (lx _ h)⟩
      have RB3 := RB.upd U3 hnr
      have hsw : w.heap.size < W.heap.size := RB.lt
      have U4 : Upd (a :: (F ++ X.foot)) w w3 := (HU.mono (by simp)).trans U3
      clear RB U3
      obtain ⟨to, tw, ⟨tk, ta, tv, tb⟩⟩ := T
      simp only [Trn.val]
      have q0 := (RB3).cell 0 rfl
      have q1 := (RB3).cell 1 rfl
      have q2 := (RB3).cell 2 rfl
      have q3 := (RB3).cell 3 rfl
      have q4 := (RB3).cell 4 rfl
      have q5 := (RB3).cell 5 rfl
      have q6 := (RB3).cell 6 rfl
      have q7 := (RB3).cell 7 rfl
      have g0 := (RB3).free 0
      have g1 := (RB3).free 1
      have g2 := (RB3).free 2
      have g3 := (RB3).free 3
      have g4 := (RB3).free 4
      have g5 := (RB3).free 5
      have g6 := (RB3).free 6
      have g7 := (RB3).free 7
      go_wp2_with fail
      exact bodyPost_ret (turn_results2 2 3 rfl _ _ _ (⟨to, tw, ⟨tk, ta, tv, tb⟩⟩ : Trn) (.int .i64 0) rfl rfl (turn_set RB3 rfl (⟨to, tw, ⟨tk, ta, tv, tb⟩⟩ : Trn))) rfl (hK _ _ ⟨rfl, fin_step hL (Nat.le_refl _) HL3 U4 (fun g hg => (hF3 g hg).imp id (fun h => ⟨by omega, by omega⟩)) ho3 _ _ _ _ _ _ _ _⟩)
  · have he : endS s sh = (trnNone, 2, s, sh) := by unfold endS; rw [if_pos hp]
    rw [he]
    have hid := fun W (h : Upd [] w W) => idle_code (hL.upd0 h)
    rw [if_neg hp] at hid
    have HI := Lib.hid hid
    clear he hid hp
    refine calls_all fun K hK => ?_
    go_enter Try.func49, Try.ntmps49
    go_wp2_with fail
    obtain ⟨W, hW⟩ : ∃ W, W = w.alloc (.cells turn0.toArray 36) := ⟨_, rfl⟩
    have RB : Blk W w.heap.size turn0 36 := by rw [hW]; exact Blk.new w _ _
    have HU : Upd [] w W := by rw [hW]; exact (Upd.refl _ _).alloc _
    have hWs : W.heap.size = w.heap.size + 1 := by rw [hW]; exact World.size_alloc _ _
    simp only [turn0, trnNone, evNone, Trn.cells] at hW
    rw [← hW]
    clear hW
    refine (HI.out _ HU).mono ?_
    rintro e w' ⟨rfl, rfl⟩
    have hL1 := hL.upd0 HU
    have q0 := (RB).cell 0 rfl
    have q1 := (RB).cell 1 rfl
    have q2 := (RB).cell 2 rfl
    have q3 := (RB).cell 3 rfl
    have q4 := (RB).cell 4 rfl
    have q5 := (RB).cell 5 rfl
    have q6 := (RB).cell 6 rfl
    have q7 := (RB).cell 7 rfl
    have g0 := (RB).free 0
    have g1 := (RB).free 1
    have g2 := (RB).free 2
    have g3 := (RB).free 3
    have g4 := (RB).free 4
    have g5 := (RB).free 5
    have g6 := (RB).free 6
    have g7 := (RB).free 7
    go_wp2_with fail
    exact bodyPost_ret (turn_results2 2 3 rfl _ _ _ trnNone (.int .i64 2) rfl rfl (turn_set RB rfl trnNone)) rfl (hK _ _ ⟨rfl, fin_step hL (Nat.le_refl _) hL1 (HU.mono (by simp)) (fun g hg => .inl hg) (.inl ⟨rfl, rfl⟩) _ _ _ _ _ _ _ _⟩)

theorem has_live (hL : Live w X sh acc st a s F rv wv mv) (x : Int) : Calls Try.prog 46 #[.pointer (some ⟨X.ra, 0, none⟩), .int .u64 x] w fun e w' => e = .returned (.bool (decide (x < sh.row.length))) ∧ w = w' := has_row hL.sh.row x

-- the place of an address is looked up

set_option maxHeartbeats 2000000 in
theorem get_code (hL : Live w X sh acc st a s F rv wv mv) (hM : May s) (x : Int) (hx : 0 ≤ x ∧ x < 18446744073709551616) :
    Calls Try.prog 14 #[.pointer (some ⟨a, 0, none⟩), .int .u64 x] w (CallOk w X acc st a F (getS s sh x).1 (getS s sh x).2.1 (getS s sh x).2.2 sh) := by
  have la := hL.lt
  have no := hL.out
  simp only [SX.foot, List.mem_cons, List.not_mem_nil, or_false, not_or] at no
  have lx := hL.sh.lt
  have l1 := lx X.ra (by simp [SX.foot])
  have l2 := lx X.rb (by simp [SX.foot])
  have l3 := lx X.ca (by simp [SX.foot])
  have l4 := lx X.cr (by simp [SX.foot])
  have l5 := lx X.cb (by simp [SX.foot])
  by_cases hp : s.phase = 1
  · obtain ⟨m, rfl, hmF, hP⟩ := hL.att.pl (by omega)
    have hid := fun W (h : Upd [] w W) => idle_code (hL.upd0 h)
    rw [(if_pos hp)] at hid
    have HI := Lib.hid hid
    clear hid
    have hp10 : s.phase ≠ 10 := by omega
    cases hpl : place s.writes x with
    | some k =>
      have he : getS s sh x = (⟨2, (s.writes.getD k (0, 0)).2, ⟨2, x, (s.writes.getD k (0, 0)).2, true⟩⟩, 0, s) := by unfold getS; rw [if_neg (by simp [hp]), hpl]
      obtain ⟨hkl, v, hkv⟩ := place_some hpl
      have hgd : (s.writes.getD k (0, 0)).2 = v := by simp [List.getD, hkv]
      rw [he, hgd]
      obtain ⟨g, cap, sp, rfl, hcap, GB, hgF⟩ := hL.att.wr.open (by intro e; rw [e] at hkl; simp at hkl)
      obtain ⟨hx0', hx1'⟩ := pcells_get s.writes k x v hkv
      have hx1 : (pcells s.writes ++ sp)[k * 2 + 1]? = some (.int .u64 v) := by rw [List.getElem?_append_left (by rw [pcells_len]; omega)]; exact hx1'
      have hkl' : (k : Int) < (s.writes.length : Int) := by omega
      have HLK : Hid (lookV s.writes x = k ∧ (place s.writes x).isSome = true) := Lib.hid ⟨by unfold lookV; rw [hpl], by rw [hpl]; rfl⟩
      clear he hgd hx0' hx1' hkv hpl hp
      refine calls_all fun K hK => ?_
      go_enter Try.func14, Try.ntmps14
      go_wp2_with fail
      obtain ⟨W, hW⟩ : ∃ W, W = w.alloc (.cells turn0.toArray 36) := ⟨_, rfl⟩
      have RB : Blk W w.heap.size turn0 36 := by rw [hW]; exact Blk.new w _ _
      have HU : Upd [] w W := by rw [hW]; exact (Upd.refl _ _).alloc _
      have hWs : W.heap.size = w.heap.size + 1 := by rw [hW]; exact World.size_alloc _ _
      simp only [turn0, trnNone, evNone, Trn.cells] at hW
      rw [← hW]
      clear hW
      refine (HI.out _ HU).mono ?_
      rintro e w' ⟨rfl, rfl⟩
      have hL1 := hL.upd0 HU
      have a11 := hL1.att.head.cell 11 rfl
      have a4 := hL1.att.head.cell 4 rfl
      have e1 := (GB.upd HU (by simp)).cell (k * 2 + 1) hx1
      have hrun := places_look (hP.upd HU (by simp)) hx
      rw [HLK.out.1, HLK.out.2] at hrun
      have q0 := (RB).cell 0 rfl
      have q1 := (RB).cell 1 rfl
      have q2 := (RB).cell 2 rfl
      have q3 := (RB).cell 3 rfl
      have q4 := (RB).cell 4 rfl
      have q5 := (RB).cell 5 rfl
      have q6 := (RB).cell 6 rfl
      have q7 := (RB).cell 7 rfl
      have g0 := (RB).free 0
      have g1 := (RB).free 1
      have g2 := (RB).free 2
      have g3 := (RB).free 3
      have g4 := (RB).free 4
      have g5 := (RB).free 5
      have g6 := (RB).free 6
      have g7 := (RB).free 7
      go_wp2_with ((at_lookup; with_reducible refine wpList_lookup_eq rfl _ _ _ _ rfl _ _ _ rfl rfl ?_ ?_); exact hrun)
      exact bodyPost_ret (turn_results2 4 5 rfl _ _ _ (⟨2, v, ⟨2, x, v, true⟩⟩ : Trn) (.int .i64 0) rfl rfl (turn_set RB rfl (⟨2, v, ⟨2, x, v, true⟩⟩ : Trn))) rfl (hK _ _ ⟨rfl, fin_step hL (Nat.le_refl _) hL1 (HU.mono (by simp)) (fun g hg => .inl hg) (.inl ⟨rfl, rfl⟩) _ _ _ _ _ _ _ _⟩)
    | none =>
      have HLK : Hid (lookV s.writes x = 0 ∧ (place s.writes x).isSome = false) := Lib.hid ⟨by unfold lookV; rw [hpl], by rw [hpl]; rfl⟩
      have hhas := fun W (h : Upd [] w W) => has_live (hL.upd0 h) x
      by_cases hin : x < sh.row.length
      · rw [decide_eq_true hin] at hhas
        have HH := Lib.hid hhas
        obtain ⟨p, cp, rfl⟩ := hL.att.rd.form
        by_cases hfull : 1024 ≤ s.reads.length
        · have he : getS s sh x = (trnNone, 5, s) := by unfold getS; rw [if_neg (by simp [hp]), hpl]; simp only; rw [if_neg (by simpa using hin), if_pos hfull]
          have hf1 : ((s.reads.length : Int) == 1024) = true := by have := hM.lenR; simp; omega
          rw [he]
          clear he hpl hp hin hhas hfull
          refine calls_all fun K hK => ?_
          go_enter Try.func14, Try.ntmps14
          go_wp2_with fail
          obtain ⟨W, hW⟩ : ∃ W, W = w.alloc (.cells turn0.toArray 36) := ⟨_, rfl⟩
          have RB : Blk W w.heap.size turn0 36 := by rw [hW]; exact Blk.new w _ _
          have HU : Upd [] w W := by rw [hW]; exact (Upd.refl _ _).alloc _
          have hWs : W.heap.size = w.heap.size + 1 := by rw [hW]; exact World.size_alloc _ _
          simp only [turn0, trnNone, evNone, Trn.cells] at hW
          rw [← hW]
          clear hW
          refine (HI.out _ HU).mono ?_
          rintro e w' ⟨rfl, rfl⟩
          have hL1 := hL.upd0 HU
          have a11 := hL1.att.head.cell 11 rfl
          have a0 := hL1.att.head.cell 0 rfl
          have a3 := hL1.att.head.cell 3 rfl
          have hrun := places_look (hP.upd HU (by simp)) hx
          rw [HLK.out.1, HLK.out.2] at hrun
          have q0 := (RB).cell 0 rfl
          have q1 := (RB).cell 1 rfl
          have q2 := (RB).cell 2 rfl
          have q3 := (RB).cell 3 rfl
          have q4 := (RB).cell 4 rfl
          have q5 := (RB).cell 5 rfl
          have q6 := (RB).cell 6 rfl
          have q7 := (RB).cell 7 rfl
          have g0 := (RB).free 0
          have g1 := (RB).free 1
          have g2 := (RB).free 2
          have g3 := (RB).free 3
          have g4 := (RB).free 4
          have g5 := (RB).free 5
          have g6 := (RB).free 6
          have g7 := (RB).free 7
          go_wp2_with ((at_lookup; with_reducible refine wpList_lookup_eq rfl _ _ _ _ rfl _ _ _ rfl rfl ?_ ?_); exact hrun)
          refine (HH.out _ HU).mono ?_
          rintro e w' ⟨rfl, rfl⟩
          go_wp2_with fail
          exact bodyPost_ret (turn_results2 4 5 rfl _ _ _ trnNone (.int .i64 5) rfl rfl (turn_set RB rfl trnNone)) rfl (hK _ _ ⟨rfl, fin_step hL (Nat.le_refl _) hL1 (HU.mono (by simp)) (fun g hg => .inl hg) (.inl ⟨rfl, rfl⟩) _ _ _ _ _ _ _ _⟩)
        · have he : getS s sh x = ((loadS { s with addr := x } sh).1, 0, (loadS { s with addr := x } sh).2) := by unfold getS; rw [if_neg (by simp [hp]), hpl]; simp only; rw [if_neg (by simpa using hin), if_neg hfull]
          have hf1 : ((s.reads.length : Int) == 1024) = false := by simp; omega
          rw [he]
          clear he hpl hp hin hhas hfull
          refine calls_all fun K hK => ?_
          go_enter Try.func14, Try.ntmps14
          go_wp2_with fail
          obtain ⟨W, hW⟩ : ∃ W, W = w.alloc (.cells turn0.toArray 36) := ⟨_, rfl⟩
          have RB : Blk W w.heap.size turn0 36 := by rw [hW]; exact Blk.new w _ _
          have HU : Upd [] w W := by rw [hW]; exact (Upd.refl _ _).alloc _
          have hWs : W.heap.size = w.heap.size + 1 := by rw [hW]; exact World.size_alloc _ _
          simp only [turn0, trnNone, evNone, Trn.cells] at hW
          rw [← hW]
          clear hW
          refine (HI.out _ HU).mono ?_
          rintro e w' ⟨rfl, rfl⟩
          have hL1 := hL.upd0 HU
          have a11 := hL1.att.head.cell 11 rfl
          have a0 := hL1.att.head.cell 0 rfl
          have a3 := hL1.att.head.cell 3 rfl
          have a7 := hL1.att.head.cell 7 rfl
          have f7 := hL1.att.head.free 7
          have hrun := places_look (hP.upd HU (by simp)) hx
          rw [HLK.out.1, HLK.out.2] at hrun
          go_wp2_with ((at_lookup; with_reducible refine wpList_lookup_eq rfl _ _ _ _ rfl _ _ _ rfl rfl ?_ ?_); exact hrun)
          refine (HH.out _ HU).mono ?_
          rintro e w' ⟨rfl, rfl⟩
          go_wp2_with fail
          have uw : Upd [a] W (W.setCell ⟨a, 7, none⟩ (.int .u64 x)) := (Upd.refl _ _).setCell (.inl (by simp)) _
          have hL2 := hL1.phase (hL1.att.setAddr x) uw ⟨hL.wide.snap, hL.wide.reads, hL.wide.writes, hx, hL.wide.word, hL.wide.found⟩
          refine (aload_code hL2 hp10).mono ?_
          rintro e w3 ⟨rfl, F', acc', st', rv', wv', mv', HL3, U3', hF3', ho3⟩
          have U3 : Upd (a :: (F ++ X.foot)) W w3 := (uw.mono (by simp)).trans U3'
          have hF3 : ∀ g ∈ F', g ∈ F ∨ W.heap.size ≤ g := fun g hg => (hF3' g hg).imp id (fun h => Nat.le_trans uw.size h)
          have hT : (loadS { s with addr := x } sh).1 = going := rfl
          rw [hT] at hK
          generalize going = T at hK ⊢
          clear hT U3' hF3' uw hL2 hL1 a11 a0 a3 a7 f7 hrun
          have hnr : w.heap.size ∉ a :: (F ++ X.foot) := by
            simp only [List.mem_cons, List.mem_append, not_or]
            exact ⟨by omega, fun h => Nat.lt_irrefl _ (hL.sep _ h).1, fun h => Nat.lt_irrefl _ (lx _ h)⟩
          have RB3 := RB.upd U3 hnr
          have hsw : w.heap.size < W.heap.size := RB.lt
          have U4 : Upd (a :: (F ++ X.foot)) w w3 := (HU.mono (by simp)).trans U3
          clear RB U3
          obtain ⟨to, tw, ⟨tk, ta, tv, tb⟩⟩ := T
          simp only [Trn.val]
          have q0 := (RB3).cell 0 rfl
          have q1 := (RB3).cell 1 rfl
          have q2 := (RB3).cell 2 rfl
          have q3 := (RB3).cell 3 rfl
          have q4 := (RB3).cell 4 rfl
          have q5 := (RB3).cell 5 rfl
          have q6 := (RB3).cell 6 rfl
          have q7 := (RB3).cell 7 rfl
          have g0 := (RB3).free 0
          have g1 := (RB3).free 1
          have g2 := (RB3).free 2
          have g3 := (RB3).free 3
          have g4 := (RB3).free 4
          have g5 := (RB3).free 5
          have g6 := (RB3).free 6
          have g7 := (RB3).free 7
          go_wp2_with fail
          exact bodyPost_ret (turn_results2 4 5 rfl _ _ _ (⟨to, tw, ⟨tk, ta, tv, tb⟩⟩ : Trn) (.int .i64 0) rfl rfl (turn_set RB3 rfl (⟨to, tw, ⟨tk, ta, tv, tb⟩⟩ : Trn))) rfl (hK _ _ ⟨rfl, fin_step hL (Nat.le_refl _) HL3 U4 (fun g hg => (hF3 g hg).imp id (fun h => ⟨by omega, by omega⟩)) ho3 _ _ _ _ _ _ _ _⟩)
      · rw [decide_eq_false hin] at hhas
        have HH := Lib.hid hhas
        have he : getS s sh x = (trnNone, 4, s) := by unfold getS; rw [if_neg (by simp [hp]), hpl]; simp only; rw [if_pos hin]
        rw [he]
        clear he hpl hp hin hhas
        refine calls_all fun K hK => ?_
        go_enter Try.func14, Try.ntmps14
        go_wp2_with fail
        obtain ⟨W, hW⟩ : ∃ W, W = w.alloc (.cells turn0.toArray 36) := ⟨_, rfl⟩
        have RB : Blk W w.heap.size turn0 36 := by rw [hW]; exact Blk.new w _ _
        have HU : Upd [] w W := by rw [hW]; exact (Upd.refl _ _).alloc _
        have hWs : W.heap.size = w.heap.size + 1 := by rw [hW]; exact World.size_alloc _ _
        simp only [turn0, trnNone, evNone, Trn.cells] at hW
        rw [← hW]
        clear hW
        refine (HI.out _ HU).mono ?_
        rintro e w' ⟨rfl, rfl⟩
        have hL1 := hL.upd0 HU
        have a11 := hL1.att.head.cell 11 rfl
        have a0 := hL1.att.head.cell 0 rfl
        have hrun := places_look (hP.upd HU (by simp)) hx
        rw [HLK.out.1, HLK.out.2] at hrun
        have q0 := (RB).cell 0 rfl
        have q1 := (RB).cell 1 rfl
        have q2 := (RB).cell 2 rfl
        have q3 := (RB).cell 3 rfl
        have q4 := (RB).cell 4 rfl
        have q5 := (RB).cell 5 rfl
        have q6 := (RB).cell 6 rfl
        have q7 := (RB).cell 7 rfl
        have g0 := (RB).free 0
        have g1 := (RB).free 1
        have g2 := (RB).free 2
        have g3 := (RB).free 3
        have g4 := (RB).free 4
        have g5 := (RB).free 5
        have g6 := (RB).free 6
        have g7 := (RB).free 7
        go_wp2_with ((at_lookup; with_reducible refine wpList_lookup_eq rfl _ _ _ _ rfl _ _ _ rfl rfl ?_ ?_); exact hrun)
        refine (HH.out _ HU).mono ?_
        rintro e w' ⟨rfl, rfl⟩
        go_wp2_with fail
        exact bodyPost_ret (turn_results2 4 5 rfl _ _ _ trnNone (.int .i64 4) rfl rfl (turn_set RB rfl trnNone)) rfl (hK _ _ ⟨rfl, fin_step hL (Nat.le_refl _) hL1 (HU.mono (by simp)) (fun g hg => .inl hg) (.inl ⟨rfl, rfl⟩) _ _ _ _ _ _ _ _⟩)
  · have he : getS s sh x = (trnNone, 2, s) := by unfold getS; rw [if_pos hp]
    rw [he]
    have hid := fun W (h : Upd [] w W) => idle_code (hL.upd0 h)
    rw [(if_neg hp)] at hid
    have HI := Lib.hid hid
    clear hid
    clear he hp
    refine calls_all fun K hK => ?_
    go_enter Try.func14, Try.ntmps14
    go_wp2_with fail
    obtain ⟨W, hW⟩ : ∃ W, W = w.alloc (.cells turn0.toArray 36) := ⟨_, rfl⟩
    have RB : Blk W w.heap.size turn0 36 := by rw [hW]; exact Blk.new w _ _
    have HU : Upd [] w W := by rw [hW]; exact (Upd.refl _ _).alloc _
    have hWs : W.heap.size = w.heap.size + 1 := by rw [hW]; exact World.size_alloc _ _
    simp only [turn0, trnNone, evNone, Trn.cells] at hW
    rw [← hW]
    clear hW
    refine (HI.out _ HU).mono ?_
    rintro e w' ⟨rfl, rfl⟩
    have hL1 := hL.upd0 HU
    have q0 := (RB).cell 0 rfl
    have q1 := (RB).cell 1 rfl
    have q2 := (RB).cell 2 rfl
    have q3 := (RB).cell 3 rfl
    have q4 := (RB).cell 4 rfl
    have q5 := (RB).cell 5 rfl
    have q6 := (RB).cell 6 rfl
    have q7 := (RB).cell 7 rfl
    have g0 := (RB).free 0
    have g1 := (RB).free 1
    have g2 := (RB).free 2
    have g3 := (RB).free 3
    have g4 := (RB).free 4
    have g5 := (RB).free 5
    have g6 := (RB).free 6
    have g7 := (RB).free 7
    go_wp2_with fail
    exact bodyPost_ret (turn_results2 4 5 rfl _ _ _ trnNone (.int .i64 2) rfl rfl (turn_set RB rfl trnNone)) rfl (hK _ _ ⟨rfl, fin_step hL (Nat.le_refl _) hL1 (HU.mono (by simp)) (fun g hg => .inl hg) (.inl ⟨rfl, rfl⟩) _ _ _ _ _ _ _ _⟩)
end
end Go.Proofs.Ythfeljongackcaa
