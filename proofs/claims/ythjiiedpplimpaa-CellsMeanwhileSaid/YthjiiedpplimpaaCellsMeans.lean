/- CellsMeans' walk: stored with what Differ answers the one row is the other; what was stored last is loaded; a Swap that fails changes nothing; adds come to the same the other way round. The conditions are sizes. -/
import Derived.Test.YthjiiedpplimpaaLent
import Derived.Test.YthjiiedpplimpaaOpen
import Derived.Test.YthjiiedpplimpaaSum
import Derived.Deep.RegionHeld3
import Derived.Handy
import Derived.Deep.QuietTactic
import Derived.BigQuiet
set_option linter.unusedSimpArgs false
set_option linter.unusedVariables false
set_option maxRecDepth 100000
namespace Go.Proofs.Ythjiiedpplimpaa
open Go.RowKit

theorem Upd.nil {S : List Nat} {a b : World} (h : Upd S a b) : Upd S a b := h
theorem RowAt.drewN {w : World} {a b : Nat} {ws : List Int} {acc : Int} (h : RowAt w a b ws acc) (n : Nat) : RowAt (w.drewN n) a b ws acc := ⟨h.head, h.len1, h.len2, h.ne⟩
theorem Upd.drewN {S : List Nat} {a b : World} (h : Upd S a b) (n : Nat) : Upd S a (b.drewN n) := h.trans ⟨rfl, rfl, rfl, Nat.le_refl _, fun _ _ _ => rfl⟩
theorem RowAt.drew {w : World} {a b : Nat} {ws : List Int} {acc : Int} (h : RowAt w a b ws acc) : RowAt w.drew a b ws acc := ⟨h.head, h.len1, h.len2, h.ne⟩
def AllU (ws : List Int) : Prop := ∀ v ∈ ws, 0 ≤ v ∧ v < 18446744073709551616
theorem AllU.set {ws : List Int} (h : AllU ws) (i : Nat) {x : Int} (hx : 0 ≤ x ∧ x < 18446744073709551616) : AllU (ws.set i x) := fun v hv => by
  rcases List.mem_or_eq_of_mem_set hv with h1 | h1
  · exact h v h1
  · subst h1; exact hx

/-- address and word of the i-th pair -/
def pA (V : Nat → Value) (i : Nat) : Int := intOf (V (i * 2))
def pX (V : Nat → Value) (i : Nat) : Int := intOf (V (i * 2 + 1))
/-- cells hold n pairs of u64 -/
def PairsAt (n : Nat) (V : Nat → Value) : Prop := ∀ i, i < n → V (i * 2) = .int .u64 (pA V i) ∧ V (i * 2 + 1) = .int .u64 (pX V i) ∧ (0 ≤ pA V i ∧ pA V i < 18446744073709551616) ∧ (0 ≤ pX V i ∧ pX V i < 18446744073709551616)

theorem PairsAt.at {n : Nat} {V : Nat → Value} {w w' : World} {b o i : Nat} (h : PairsAt n V) (hs : SlV w (some ⟨b, o, none⟩) (n * 2) V) (hi : i < n) (hu : Below w.heap.size w w') :
    w'.cell? ⟨b, o + i * 2, none⟩ = some (.int .u64 (pA V i)) ∧ w'.cell? ⟨b, o + i * 2 + 1, none⟩ = some (.int .u64 (pX V i)) := by
  obtain ⟨e0, e1, _⟩ := h i hi
  have hb := hs.lt (by omega) rfl
  have c0 := (hu.cell (p := ⟨b, o + i * 2, none⟩) hb).trans (hs.cells b o rfl (i * 2) (by omega))
  have c1 := (hu.cell (p := ⟨b, o + (i * 2 + 1), none⟩) hb).trans (hs.cells b o rfl (i * 2 + 1) (by omega))
  rw [e0] at c0
  rw [e1, ← Nat.add_assoc] at c1
  exact ⟨c0, c1⟩

/-- an Add -/
def addAt (ws : List Int) (p : Int × Int) : List Int := ws.set p.1.toNat (addU (wd ws p.1.toNat) p.2)
theorem addAt_len (ws : List Int) (p : Int × Int) : (addAt ws p).length = ws.length := by simp [addAt]
theorem addU_in (x y : Int) : 0 ≤ addU x y ∧ addU x y < 18446744073709551616 := by unfold addU; rw [IntKind.wrap_u64]; omega
theorem addU_swap (v x y : Int) : addU (addU v x) y = addU (addU v y) x := by unfold addU; simp only [IntKind.wrap_u64]; omega
theorem addAt_swap (ws : List Int) (p q : Int × Int) : addAt (addAt ws p) q = addAt (addAt ws q) p := by
  obtain ⟨i, x⟩ := p
  obtain ⟨j, y⟩ := q
  simp only [addAt]
  generalize i.toNat = i
  generalize j.toNat = j
  by_cases hij : i = j
  · subst hij
    by_cases hi : i < ws.length
    · rw [wd_set _ _ hi, wd_set _ _ hi]
      simp only [if_true, List.set_set]
      rw [addU_swap]
    · simp only [List.set_eq_of_length_le (Nat.le_of_not_lt hi)]
  · have e1 : ∀ z, wd (ws.set i z) j = wd ws j := fun z => by
      by_cases hi : i < ws.length
      · rw [wd_set _ _ hi, if_neg hij]
      · rw [List.set_eq_of_length_le (Nat.le_of_not_lt hi)]
    have e2 : ∀ z, wd (ws.set j z) i = wd ws i := fun z => by
      by_cases hi : j < ws.length
      · rw [wd_set _ _ hi, if_neg (fun h => hij h.symm)]
      · rw [List.set_eq_of_length_le (Nat.le_of_not_lt hi)]
    rw [e1, e2, List.set_comm _ _ hij]

/-- behind the adds at these places -/
def adds (V : Nat → Value) (ws : List Int) (is : List Nat) : List Int := is.foldl (fun s i => addAt s (pA V i, pX V i)) ws
theorem adds_len (V : Nat → Value) (ws : List Int) (is : List Nat) : (adds V ws is).length = ws.length := by
  unfold adds
  induction is generalizing ws with
  | nil => rfl
  | cons a r ih => rw [List.foldl_cons, ih, addAt_len]
theorem adds_in (V : Nat → Value) {ws : List Int} (is : List Nat) (h : AllU ws) : AllU (adds V ws is) := by
  unfold adds
  induction is generalizing ws with
  | nil => exact h
  | cons a r ih => rw [List.foldl_cons]; exact ih (h.set _ (addU_in _ _))
theorem adds_snoc (V : Nat → Value) (ws : List Int) (is : List Nat) (i : Nat) : adds V ws (is ++ [i]) = addAt (adds V ws is) (pA V i, pX V i) := by
  unfold adds; rw [List.foldl_append]; rfl
theorem adds_perm (V : Nat → Value) (ws : List Int) {is js : List Nat} (h : is.Perm js) : adds V ws is = adds V ws js := by
  unfold adds
  exact h.foldl_eq' (fun x _ y _ z => addAt_swap z _ _) ws
theorem adds_back (V : Nat → Value) (ws : List Int) (n : Nat) : adds V ws (List.range n) = adds V ws ((List.range n).map fun i => n - 1 - i) := by
  refine adds_perm V ws ?_
  have : (List.range n).map (fun i => n - 1 - i) = (List.range n).reverse := by
    apply List.ext_getElem
    · simp
    · intro i h1 h2
      simp
  rw [this]
  exact (List.reverse_perm _).symm

theorem set_difs (zs us : List Int) (hl : zs.length = us.length) (n : Nat) (hn : n ≤ us.length) : (difs zs us n).foldl (fun ws x => ws.set x.1 x.2) zs = us.take n ++ zs.drop n := by
  induction n with
  | zero => simp [difs]
  | succ n ih =>
    rw [difs_succ, List.foldl_append, ih (by omega)]
    have e1 : us.take (n + 1) = us.take n ++ [us[n]] := by rw [List.take_succ_eq_append_getElem]
    have e2 : zs.drop n = zs[n] :: zs.drop (n + 1) := by rw [List.drop_eq_getElem_cons]
    have ht : (us.take n).length = n := by simp; omega
    rw [wd_get (by omega), wd_get (by omega)]
    by_cases h : us[n] = zs[n]
    · rw [if_pos (by simp [h])]
      rw [e1, e2, h]
      simp
    · rw [if_neg (by simp [h])]
      rw [e1, e2]
      simp only [List.foldl_cons, List.foldl_nil]
      rw [List.set_append_right _ _ (by omega), ht, Nat.sub_self, List.set_cons_zero, List.append_assoc]
      rfl
theorem set_difs_all (zs us : List Int) (hl : zs.length = us.length) : (difs zs us us.length).foldl (fun ws x => ws.set x.1 x.2) zs = us := by
  rw [set_difs zs us hl _ (Nat.le_refl _), List.take_length, List.drop_of_length_le (by omega), List.append_nil]
theorem cell2_at {D : List (Nat × Int)} {j : Nat} {x : Nat × Int} (h : D[j]? = some x) : (D.flatMap cell2)[j * 2]? = some (.int .u64 (x.1 : Int)) ∧ (D.flatMap cell2)[j * 2 + 1]? = some (.int .u64 x.2) := by
  induction D generalizing j with
  | nil => simp at h
  | cons a r ih =>
    cases j with
    | zero => simp at h; subst h; exact ⟨rfl, rfl⟩
    | succ j =>
      have k := ih (j := j) (by simpa using h)
      have e : (j + 1) * 2 = (cell2 a).length + j * 2 := by simp [cell2]; omega
      rw [List.flatMap_cons]
      refine ⟨?_, ?_⟩
      · rw [List.getElem?_append_right (by omega), e, Nat.add_sub_cancel_left]; exact k.1
      · rw [List.getElem?_append_right (by omega), e, Nat.add_assoc, Nat.add_sub_cancel_left]; exact k.2
theorem sets_len (D : List (Nat × Int)) (zs : List Int) : (D.foldl (fun ws x => ws.set x.1 x.2) zs).length = zs.length := by
  induction D generalizing zs with
  | nil => rfl
  | cons a r ih => rw [List.foldl_cons, ih]; simp
theorem difs_at {zs us : List Int} {n : Nat} {x : Nat × Int} (h : x ∈ difs zs us n) : x.1 < n ∧ x.2 = wd us x.1 := by
  unfold difs at h
  obtain ⟨i, hi, hx⟩ := List.mem_filterMap.1 h
  split at hx
  · cases hx
  · simp at hx; subst hx; exact ⟨List.mem_range.1 hi, rfl⟩

set_option maxHeartbeats 2000000 in
theorem means01_walk (w : World) (p0 p1 p2 : Option Addr) (zs : List Int) (c0 c1 c2 n1 n2 : Nat) (V1 V2 : Nat → Value) (h0 : SlI w .u64 p0 zs) (hz : AllU zs) (hn : zs.length * 8 ≤ 140737488351232)
    (h1 : SlV w p1 (n1 * 2) V1) (hV1 : PairsAt n1 V1) (hc1 : n1 ≤ c1) (hm1 : c1 ≤ maxLen) (h2 : SlV w p2 (n2 * 2) V2) (hV2 : PairsAt n2 V2) (hc2 : n2 ≤ c2) (hm2 : c2 ≤ maxLen)
    (hp0 : ∀ b o, p0 = some ⟨b, o, none⟩ → zs ≠ [] → b < w.heap.size) :
    Calls Try.prog 9 #[.slice p0 zs.length c0, .slice p1 n1 c1, .slice p2 n2 c2] w fun e w' => e = .returned (.bool true) ∧ Upd [] w w' := by
  have hl1 : n1 ≤ 9223372036854775807 := by unfold maxLen at hm1; omega
  have hl2 : n2 ≤ 9223372036854775807 := by unfold maxLen at hm2; omega
  clear hm1 hm2
  have sl : ∀ {w' : World}, Below w.heap.size w w' → SlI w' .u64 p0 zs := fun hB => ⟨h0.ne, fun b o e i hi => (hB.cell (p := ⟨b, o + i, none⟩) (hp0 b o e (fun h => by subst h; simp at hi))).trans (h0.cells b o e i hi)⟩
  by_cases hv : 1 ≤ zs.length ∧ zs.length ≤ 65536
  · refine calls_all fun K hK => ?_
    go_enter Try.func9, Try.ntmps9
    go_wp2_with ((go_at_call 13; refine (num_any _ _).mono ?_; rintro e w' ⟨rfl, rfl⟩))
    refine (known01 _).mono ?_
    rintro e w1 ⟨rfl, u1⟩
    have B1 : Below w.heap.size w w1 := u1.below (Nat.le_refl _) (by simp)
    go_wp2_with ((go_at_call 13; refine (num_any _ _).mono ?_; rintro e w' ⟨rfl, rfl⟩))
    refine (lent_any _ _ _ _ (sl B1) hn).mono ?_
    rintro e w2 ⟨g2, s2, rfl, hb2, hg2, u2⟩
    go_wp2_with ((go_at_call 13; refine (num_any _ _).mono ?_; rintro e w' ⟨rfl, rfl⟩))
    refine (of_ok _ _ _ _ (SlI.of_blk hb2) hv.1 hv.2).mono ?_
    rintro e w3 ⟨a, b, rfl, r3, ha, hb, u3⟩
    have B3 : Below w.heap.size w w3 := (B1.trans (u2.below B1.size (by simp))).trans (u3.below (by have := B1.size; have := u2.size; omega) (by simp))
    go_wp2_with ((go_at_call 13; refine (num_any _ _).mono ?_; rintro e w' ⟨rfl, rfl⟩))
    refine (lent_any _ _ _ _ (sl B3) hn).mono ?_
    rintro e w4 ⟨g4, s4, rfl, hb4, hg4, u4⟩
    go_wp2_with ((go_at_call 13; refine (num_any _ _).mono ?_; rintro e w' ⟨rfl, rfl⟩))
    refine (of_ok _ _ _ _ (SlI.of_blk hb4) hv.1 hv.2).mono ?_
    rintro e w5 ⟨a', b', rfl, r5, ha', hb', u5⟩
    have B5 : Below w.heap.size w w5 := (B3.trans (u4.below B3.size (by simp))).trans (u5.below (by have := B3.size; have := u4.size; omega) (by simp))
    have q5 : RowAt w5 a b zs 0 := (r3.upd u4 (by simp) (by simp)).upd u5 (by simp) (by simp)
    have N1 : a ≠ a' := by have := r3.lta; have := u4.size; omega
    have N2 : a ≠ b' := by have := r3.lta; have := u4.size; omega
    have N3 : b ≠ a' := by have := r3.ltb; have := u4.size; omega
    have N4 : b ≠ b' := by have := r3.ltb; have := u4.size; omega
    have G1 : w.heap.size ≤ a := by have := B1.size; have := u2.size; omega
    have G2 : w.heap.size ≤ b := by have := B1.size; have := u2.size; omega
    have G3 : w.heap.size ≤ a' := by have := B3.size; have := u4.size; omega
    have G4 : w.heap.size ≤ b' := by have := B3.size; have := u4.size; omega
    clear u1 B1 hb2 hg2 u2 r3 ha hb u3 B3 hb4 hg4 u4 ha' hb' u5
    go_wp2_with ((go_at_call 13; refine (num_any _ _).mono ?_; rintro e w' ⟨rfl, rfl⟩))
    go_loopw [11] (fun v11 wr => ∃ (j : Nat) (us : List Int) (acc : Int), j ≤ n1 ∧ v11 = .int .i64 j ∧ RowAt wr a' b' us acc ∧ us.length = zs.length ∧ AllU us ∧ Upd [a', b'] w5 wr) (fun v11 _ => n1 - (intOf v11).toNat)
    case atStart => exact ⟨0, zs, 0, by omega, rfl, r5, rfl, hz, Upd.refl _ _⟩
    case round =>
      obtain ⟨j, us, acc, hj, rfl, hR, hus, hU, hu⟩ := hrel
      by_cases hlt : j < n1
      · obtain ⟨b1, o1, rfl⟩ := h1.ne (by omega)
        have hat : ∀ {w' : World}, Upd [a', b'] w5 w' → _ := fun hu => hV1.at h1 hlt (B5.trans (hu.below B5.size (by simp; omega)))
        obtain ⟨_, _, ⟨hA0, hA1⟩, hX⟩ := hV1 j hlt
        generalize pA V1 j = A at *
        generalize pX V1 j = X at *
        obtain ⟨d0, d1⟩ := hat hu
        have hjl : (j : Int) < (n1 : Int) := by omega
        by_cases hA : A < us.length
        · have el : (rLoad us A).2 = 0 := by rw [rLoad, if_pos hA]
          have ew : wd (us.set A.toNat X) A.toNat = X := by rw [wd_set _ _ (by omega), if_pos rfl]
          have el2 : rLoad (us.set A.toNat X) A = (X, 0) := by rw [rLoad, if_pos (by simpa using hA), ew]
          have eh : rHit (us.set A.toNat X) A (IntKind.u64.wrap (X + 1)) = false := by
            unfold rHit; rw [ew, IntKind.wrap_u64]; simp; intro _; omega
          have hl2' : (us.set A.toNat X).length = zs.length := by simpa using hus
          have hU2 : AllU (us.set A.toNat X) := hU.set _ hX
          have hd : decide (A < IntKind.u64.wrap (zs.length : Int)) = true := by rw [IntKind.wrap_u64]; simp; omega
          have hd2 : decide (A < (zs.length : Int)) = true := by simp; omega
          have h40 : ((4 : Int) == 0) = false := rfl
          obtain ⟨us2, hset⟩ : ∃ us2, us.set A.toNat X = us2 := ⟨_, rfl⟩
          rw [hset] at el2 eh hl2' hU2
          have hd : decide (A < IntKind.u64.wrap (zs.length : Int)) = true := by rw [IntKind.wrap_u64]; simp; omega
          have hd2 : decide (A < (zs.length : Int)) = true := by simp; omega
          have h40 : ((4 : Int) == 0) = false := rfl
          clear ew hus hA hU
          have hxx : (X != X) = false := by simp
          have EL := Lib.hid el
          have EL2 := Lib.hid el2
          have EH := Lib.hid eh
          have ES := Lib.hid hset
          clear el el2 eh hset
          go_wp2_with fail
          go_region_held3 (fun w' => w'.cell? ⟨b1, o1 + j * 2, none⟩ = some (.int .u64 A) ∧ w'.cell? ⟨b1, o1 + j * 2 + 1, none⟩ = some (.int .u64 X)) (first | go_keep | exact ⟨d0', d1'⟩) (first | (go_at_call 31; refine (store_is hR.drew A X 0 _ us2 hA0 EL.out ES.out rfl).mono ?_; rintro e w6 ⟨rfl, hR6, hu6⟩; have U6 := (hu.drew).trans hu6; obtain ⟨d0', d1'⟩ := hat U6))
          go_wp2_with ((go_at_call 13; refine (num_any _ _).mono ?_; rintro e w' ⟨rfl, rfl⟩))
          refine (load_is hR6 A X 0 _ hA0 EL2.out rfl).mono ?_
          rintro e w7 ⟨rfl, hR7, hu7⟩
          have U7 := U6.tr (U := [a', b']) hu7 (by simp) (by simp)
          obtain ⟨d0', d1'⟩ := hat U7
          go_wp2_with fail
          go_quiet ((go_at_call 13; exact Calls.quiet_of_same ((num_any _ _).mono fun _ _ h => ⟨h.1, h.2.symm⟩)))
          obtain ⟨d0', d1'⟩ := hat (U7.drewN nq)
          go_wp2_with fail
          have SW := swap_any (hR7.drewN nq) A (IntKind.u64.wrap (X + 1)) 5 hA0
          rw [EH.out, if_neg (by simp), EL2.out] at SW
          go_wp2_with ((go_at_call 13; refine (num_any _ _).mono ?_; rintro e w' ⟨rfl, rfl⟩))
          refine (SW).mono ?_
          rintro e w8 ⟨rfl, hR8, hu8⟩
          have U8 := (U7.drewN nq).tr (U := [a', b']) hu8 (by simp) (by simp)
          obtain ⟨d0', d1'⟩ := hat U8
          go_wp2_with ((go_at_call 13; refine (num_any _ _).mono ?_; rintro e w' ⟨rfl, rfl⟩))
          refine (load_is hR8 A X 0 _ hA0 EL2.out rfl).mono ?_
          rintro e w9 ⟨rfl, hR9, hu9⟩
          have U9 := U8.tr (U := [a', b']) hu9 (by simp) (by simp)
          have h00 : (X != X) = false := by simp
          go_wp2_with fail
          go_roundw
          case rel => exact ⟨j + 1, us2, _, by omega, by go_num, hR9, hl2', hU2, U9⟩
          case measure => simp [intOf]; omega
        · have el : (rLoad us A).2 = 4 := by rw [rLoad, if_neg hA]
          have ew : us.set A.toNat X = us := List.set_eq_of_length_le (by omega)
          have el2 : rLoad (us.set A.toNat X) A = (0, 4) := by rw [ew, rLoad, if_neg hA]
          have eh : rHit (us.set A.toNat X) A (IntKind.u64.wrap (0 + 1)) = false := by rw [ew]; simp [rHit]; omega
          have hl2' : (us.set A.toNat X).length = zs.length := by simpa using hus
          have hU2 : AllU (us.set A.toNat X) := hU.set _ hX
          have hd : decide (A < IntKind.u64.wrap (zs.length : Int)) = false := by rw [IntKind.wrap_u64]; simp; omega
          have hd2 : decide (A < (zs.length : Int)) = false := by simp; omega
          have h40 : ((4 : Int) == 0) = false := rfl
          obtain ⟨us2, hset⟩ : ∃ us2, us.set A.toNat X = us2 := ⟨_, rfl⟩
          rw [hset] at el2 eh hl2' hU2
          have hd : decide (A < IntKind.u64.wrap (zs.length : Int)) = false := by rw [IntKind.wrap_u64]; simp; omega
          have hd2 : decide (A < (zs.length : Int)) = false := by simp; omega
          have h40 : ((4 : Int) == 0) = false := rfl
          clear ew hus hA hU
          have hxx : (X != X) = false := by simp
          have EL := Lib.hid el
          have EL2 := Lib.hid el2
          have EH := Lib.hid eh
          have ES := Lib.hid hset
          clear el el2 eh hset
          go_wp2_with fail
          go_region_held3 (fun w' => w'.cell? ⟨b1, o1 + j * 2, none⟩ = some (.int .u64 A) ∧ w'.cell? ⟨b1, o1 + j * 2 + 1, none⟩ = some (.int .u64 X)) (first | go_keep | exact ⟨d0', d1'⟩) (first | (go_at_call 31; refine (store_is hR.drew A X 4 _ us2 hA0 EL.out ES.out rfl).mono ?_; rintro e w6 ⟨rfl, hR6, hu6⟩; have U6 := (hu.drew).trans hu6; obtain ⟨d0', d1'⟩ := hat U6))
          go_wp2_with ((go_at_call 13; refine (num_any _ _).mono ?_; rintro e w' ⟨rfl, rfl⟩))
          refine (load_is hR6 A 0 4 _ hA0 EL2.out rfl).mono ?_
          rintro e w7 ⟨rfl, hR7, hu7⟩
          have U7 := U6.tr (U := [a', b']) hu7 (by simp) (by simp)
          obtain ⟨d0', d1'⟩ := hat U7
          go_wp2_with fail
          go_quiet ((go_at_call 13; exact Calls.quiet_of_same ((num_any _ _).mono fun _ _ h => ⟨h.1, h.2.symm⟩)))
          obtain ⟨d0', d1'⟩ := hat (U7.drewN nq)
          go_wp2_with fail
          have SW := swap_any (hR7.drewN nq) A (IntKind.u64.wrap (0 + 1)) 5 hA0
          rw [EH.out, if_neg (by simp), EL2.out] at SW
          go_wp2_with ((go_at_call 13; refine (num_any _ _).mono ?_; rintro e w' ⟨rfl, rfl⟩))
          refine (SW).mono ?_
          rintro e w8 ⟨rfl, hR8, hu8⟩
          have U8 := (U7.drewN nq).tr (U := [a', b']) hu8 (by simp) (by simp)
          obtain ⟨d0', d1'⟩ := hat U8
          go_wp2_with ((go_at_call 13; refine (num_any _ _).mono ?_; rintro e w' ⟨rfl, rfl⟩))
          refine (load_is hR8 A 0 4 _ hA0 EL2.out rfl).mono ?_
          rintro e w9 ⟨rfl, hR9, hu9⟩
          have U9 := U8.tr (U := [a', b']) hu9 (by simp) (by simp)
          have h00 : ((0 : Int) != 0) = false := by simp
          go_wp2_with fail
          go_roundw
          case rel => exact ⟨j + 1, us2, _, by omega, by go_num, hR9, hl2', hU2, U9⟩
          case measure => simp [intOf]; omega
      · obtain rfl : j = n1 := by omega
        have hA := (q5.upd hu (by simp; omega) (by simp; omega))
        have hl : zs.length = us.length := hus.symm
        have hD : ((difs zs us us.length).length == 0) = decide (zs = us) := eq_of_difs hl
        have hDl := difs_len zs us us.length
        have hDa : ∀ x ∈ difs zs us us.length, x.1 < us.length ∧ x.2 = wd us x.1 := fun x hx => difs_at hx
        have hDs := set_difs_all zs us hl
        have hDf := differ_row hA hR hl
        obtain ⟨D, hDe⟩ : ∃ D, difs zs us us.length = D := ⟨_, rfl⟩
        rw [hDe] at hD hDl hDa hDs hDf
        clear hDe
        have hB := B5.trans (hu.below B5.size (by simp; omega))
        have hBs := hB.size
        have hla := hA.lta
        have hlb := hA.ltb
        have hla' := hR.lta
        have hlb' := hR.ltb
        have h64 := hR.len2
        clear q5 r5 hus
        obtain ⟨q, hq⟩ : ∃ q, decide (zs = us) = q := ⟨_, rfl⟩
        have hSq := same_row hA hR
        rw [hq] at hD
        go_wp2_with ((go_at_call 13; refine (num_any _ _).mono ?_; rintro e w' ⟨rfl, rfl⟩))
        refine (hDf).mono ?_
        rintro e w6 ⟨v, rfl, ho, hu6⟩
        have hSq := same_row (hA.upd hu6 (by simp) (by simp)) (hR.upd hu6 (by simp) (by simp))
        rw [hq] at hSq
        clear hq
        obtain ⟨p, c, rfl⟩ := own_form ho
        have hm : (((D.length : Nat) : Int) == 0) = q := by rw [← hD]; cases D <;> simp; omega
        have hqq : (q == (((D.length : Nat) : Int) == 0)) = true := by rw [hm]; simp
        have HM := Lib.hid hm
        clear hm hD
        go_wp2_with (first | (go_at_call 13; refine (num_any _ _).mono ?_; rintro e w' ⟨rfl, rfl⟩) | (go_at_call 43; refine (hSq).mono ?_; rintro e w7 ⟨rfl, hu7⟩))
        have hA7 := (hA.upd hu6 (by simp) (by simp)).upd hu7 (by simp) (by simp)
        have hR7 := (hR.upd hu6 (by simp) (by simp)).upd hu7 (by simp) (by simp)
        have ho7 := own_upd ho hu7 (by simp)
        have U7 : Upd [a', b'] w5 w7 := hu.trans ((hu6.trans hu7).mono (by simp))
        have hz7 : wr.heap.size ≤ w7.heap.size := by have := hu6.size; have := hu7.size; omega
        obtain ⟨wz, hwz⟩ : ∃ wz, wr = wz := ⟨_, rfl⟩
        subst hwz
        clear hSq hqq HM hu6 hu7 ho hA hR hu hDf
        go_loopw [21] (fun v21 wr => ∃ (j : Nat) (acc1 : Int), j ≤ D.length ∧ v21 = .int .i64 j ∧ RowAt wr a b ((D.take j).foldl (fun ws x => ws.set x.1 x.2) zs) acc1 ∧ Upd [a, b] w7 wr) (fun v21 _ => D.length - (intOf v21).toNat)
        case atStart => exact ⟨0, 0, by omega, rfl, hA7, Upd.refl _ _⟩
        case round =>
          obtain ⟨j, acc1, hj, rfl, hAj, huj⟩ := hrel
          by_cases hlt : j < D.length
          · obtain ⟨x, hx⟩ : ∃ x, D[j]? = some x := ⟨D[j], List.getElem?_eq_getElem hlt⟩
            obtain ⟨g, c', e⟩ := own_some ho7 (by omega)
            cases e
            have hgb := (own_blocks ho7 g (by simp [Value.ownBlock])).1
            have hoj := own_upd ho7 huj (fun k hk e => by have h3 := (own_blocks ho7 k (by simp [e])).1; simp at hk; omega)
            obtain ⟨k0, k1⟩ := cell2_at hx
            obtain ⟨hx1, hx2⟩ := hDa x (List.mem_of_getElem? hx)
            have d0 : wr.cell? ⟨g, j * 2, none⟩ = some (.int .u64 (x.1 : Int)) := by rw [hoj.cellAt (j * 2) (by omega)]; exact k0
            have d1 : wr.cell? ⟨g, j * 2 + 1, none⟩ = some (.int .u64 x.2) := by rw [hoj.cellAt (j * 2 + 1) (by omega)]; exact k1
            have hls := sets_len (D.take j) zs
            have et : (D.take (j + 1)).foldl (fun ws x => ws.set x.1 x.2) zs = ((D.take j).foldl (fun ws x => ws.set x.1 x.2) zs).set x.1 x.2 := by
              rw [List.take_add_one, hx, List.foldl_append]; rfl
            generalize (D.take j).foldl (fun ws x => ws.set x.1 x.2) zs = ts at *
            have el : (rLoad ts (x.1 : Int)).2 = 0 := by rw [rLoad, if_pos (by omega)]
            obtain ⟨ts2, hts⟩ : ∃ ts2, (D.take (j + 1)).foldl (fun ws x => ws.set x.1 x.2) zs = ts2 := ⟨_, rfl⟩
            rw [hts] at et
            have es : ts.set ((x.1 : Nat) : Int).toNat x.2 = ts2 := by rw [et]; rfl
            have hx10 : (0 : Int) ≤ (x.1 : Int) := by omega
            have hjl : (j : Int) < (D.length : Int) := by omega
            have EL := Lib.hid el
            have ES := Lib.hid es
            have HT := Lib.hid hts
            have e0' : Upd [a, b] w7 wr.drew := huj.drew
            have hga : g ∉ [a, b] := by simp; omega
            clear k0 k1 hx1 hx2 hls et el es hts hx
            generalize (x.1 : Int) = A at *
            generalize x.2 = X at *
            have hown : ∀ w8, Upd [a, b] wr.drew w8 → w8.cell? ⟨g, j * 2, none⟩ = some (.int .u64 A) ∧ w8.cell? ⟨g, j * 2 + 1, none⟩ = some (.int .u64 X) := by
              intro w8 hu8
              have e8 := own_upd hoj ((Upd.refl _ wr).drew.trans hu8) (fun k hk e => by have h3 := (own_blocks ho7 k (by simp [e])).1; simp at hk; omega)
              exact ⟨by rw [e8.cellAt (j * 2) (by omega), ← hoj.cellAt (j * 2) (by omega)]; exact d0, by rw [e8.cellAt (j * 2 + 1) (by omega), ← hoj.cellAt (j * 2 + 1) (by omega)]; exact d1⟩
            have hst := store_is hAj.drew A X 0 _ ts2 hx10 EL.out ES.out rfl
            go_wp2_with fail
            go_region_held3 (fun w' => w'.cell? ⟨g, j * 2, none⟩ = some (.int .u64 A) ∧ w'.cell? ⟨g, j * 2 + 1, none⟩ = some (.int .u64 X)) (first | go_keep | exact ⟨d0', d1'⟩) (first | (go_at_call 31; refine (hst).mono ?_; rintro e w8 ⟨rfl, hA8, hu8⟩; obtain ⟨d0', d1'⟩ := hown w8 hu8) | (go_at_call 13; refine (num_any _ _).mono ?_; rintro e w' ⟨rfl, rfl⟩))
            go_wp2_with fail
            go_show
            go_roundw
            case rel => exact ⟨j + 1, _, by omega, by go_num, by rw [HT.out]; exact hA8, (huj.drew).trans hu8⟩
            case measure => simp [intOf]; omega
          · obtain rfl : j = D.length := by omega
            rw [List.take_length, hDs] at hAj
            clear hA7
            have hR8 := hR7.upd huj (by simp; omega) (by simp; omega)
            obtain ⟨fs, hfs⟩ : ∃ fs, fsum us (List.range us.length) = fs := ⟨_, rfl⟩
            have hff : (fs != fs) = false := by simp
            have hSm := same_row hAj hR8
            rw [show decide (us = us) = true by simp] at hSm
            have HF := Lib.hid hfs
            clear hfs hDs
            go_wp2_with ((go_at_call 13; refine (num_any _ _).mono ?_; rintro e w' ⟨rfl, rfl⟩))
            refine (hSm).mono ?_
            rintro e w9 ⟨rfl, u9⟩
            have A9 := hAj.upd u9 (by simp) (by simp)
            have R9 := hR8.upd u9 (by simp) (by simp)
            have k9 := sum_row A9 hU
            rw [HF.out] at k9
            go_wp2_with ((go_at_call 13; refine (num_any _ _).mono ?_; rintro e w' ⟨rfl, rfl⟩))
            refine (k9).mono ?_
            rintro e w10 ⟨rfl, b10⟩
            have A10 := A9.below b10 A9.lta A9.ltb
            have R10 := R9.below b10 R9.lta R9.ltb
            have k10 := sum_row R10 hU
            rw [HF.out] at k10
            go_wp2_with ((go_at_call 13; refine (num_any _ _).mono ?_; rintro e w' ⟨rfl, rfl⟩))
            refine (k10).mono ?_
            rintro e w11 ⟨rfl, b11⟩
            have A11 := A10.below b11 A10.lta A10.ltb
            have R11 := R10.below b11 R10.lta R10.ltb
            have U11 : Upd [a, b, a', b'] w5 w11 := (((U7.mono (T := [a, b, a', b']) (by simp)).trans (huj.mono (by simp))).trans (u9.mono (by simp))).trans (((Upd.of_below b10).trans (Upd.of_below b11)).mono (by simp))
            clear hSm k9 k10 hAj hR8 hR7 huj U7 ho7 A9 R9 A10 R10
            go_wp2_with fail
            have Ha : w5.heap.size ≤ w11.heap.size := U11.size
            have HL := Lib.hid (fun is => adds_len V2 us is)
            go_loopw [22] (fun v22 wr => ∃ (j : Nat) (accA accB : Int), j ≤ n2 ∧ v22 = .int .i64 j ∧ RowAt wr a b (adds V2 us (List.range j)) accA ∧ RowAt wr a' b' (adds V2 us ((List.range j).map fun i => n2 - 1 - i)) accB ∧ Upd [a, b, a', b'] w5 wr) (fun v22 _ => n2 - (intOf v22).toNat)
            case atStart => exact ⟨0, _, _, by omega, rfl, A11, R11, U11⟩
            case round =>
              obtain ⟨j, accA, accB, hj, rfl, hA, hB, hu⟩ := hrel
              clear A11 R11 U11
              by_cases hlt : j < n2
              · obtain ⟨b2, o2, rfl⟩ := h2.ne (by omega)
                have hlt' : n2 - 1 - j < n2 := by omega
                have hat : ∀ {w' : World}, Upd [a, b, a', b'] w5 w' → _ := fun hu => hV2.at h2 hlt (B5.trans (hu.below B5.size (by simp; omega)))
                have hat' : ∀ {w' : World}, Upd [a, b, a', b'] w5 w' → _ := fun hu => hV2.at h2 hlt' (B5.trans (hu.below B5.size (by simp; omega)))
                obtain ⟨_, _, ⟨hA0, hA1⟩, hX⟩ := hV2 j hlt
                obtain ⟨_, _, ⟨hA0', hA1'⟩, hX'⟩ := hV2 (n2 - 1 - j) hlt'
                have e1 : adds V2 us (List.range (j + 1)) = addAt (adds V2 us (List.range j)) (pA V2 j, pX V2 j) := by rw [List.range_succ, adds_snoc]
                have e2 : adds V2 us ((List.range (j + 1)).map fun i => n2 - 1 - i) = addAt (adds V2 us ((List.range j).map fun i => n2 - 1 - i)) (pA V2 (n2 - 1 - j), pX V2 (n2 - 1 - j)) := by rw [List.range_succ, List.map_append, List.map_singleton, adds_snoc]
                have i1 := adds_in V2 (List.range j) hU
                have i2 := adds_in V2 ((List.range j).map fun i => n2 - 1 - i) hU
                have E1 := Lib.hid e1
                have E2 := Lib.hid e2
                clear e1 e2
                generalize adds V2 us (List.range j) = ta at *
                generalize adds V2 us ((List.range j).map fun i => n2 - 1 - i) = tb at *
                generalize pA V2 j = A at *
                generalize pX V2 j = X at *
                generalize pA V2 (n2 - 1 - j) = A' at *
                generalize pX V2 (n2 - 1 - j) = X' at *
                obtain ⟨d0, d1⟩ := hat hu
                have hjl : (j : Int) < (n2 : Int) := by omega
                have hadd := add_any hA.drew A X hA0 i1 hX
                go_wp2_with fail
                go_region_held3 (fun w' => w'.cell? ⟨b2, o2 + j * 2, none⟩ = some (.int .u64 A) ∧ w'.cell? ⟨b2, o2 + j * 2 + 1, none⟩ = some (.int .u64 X)) (first | go_keep | exact ⟨d0', d1'⟩) (first | (go_at_call 45; refine (hadd).mono ?_; rintro e w12 ⟨rfl, hA12, hu12⟩; have U12 := (hu.drew).trans (hu12.mono (T := [a, b, a', b']) (by simp)); obtain ⟨d0', d1'⟩ := hat U12))
                obtain ⟨k0, k1⟩ := hat' U12
                have hB12 := hB.upd ((Upd.refl [a, b] wr).drew.trans hu12) (by simp; omega) (by simp; omega)
                have ua : Upd [a', b'] w12 (w12.alloc (.cells #[.int .u64 A', .int .u64 X'] 57)) := (Upd.refl _ _).alloc _
                go_wp2_with ((go_at_call 13; refine (num_any _ _).mono ?_; rintro e w' ⟨rfl, rfl⟩))
                refine (add_any (hB12.upd ((Upd.refl [] w12).alloc _) (by simp) (by simp)) A' X' hA0' i2 hX').mono ?_
                rintro e w13 ⟨rfl, hB13, hu13⟩
                have hA13 := hA12.upd (ua.trans hu13) (by simp; omega) (by simp; omega)
                have U13 := U12.trans ((ua.trans hu13).mono (T := [a, b, a', b']) (by simp))
                go_wp2_with fail
                go_roundw
                case rel => exact ⟨j + 1, _, _, by omega, by go_num, by rw [E1.out]; exact hA13, by rw [E2.out]; exact hB13, U13⟩
                case measure => simp [intOf]; omega
              · obtain rfl : j = n2 := by omega
                rw [← adds_back] at hB
                have hSm := same_row hA hB
                rw [decide_eq_true rfl] at hSm
                have hln := HL.out (List.range j)
                generalize adds V2 us (List.range j) = ta at *
                go_wp2_with ((go_at_call 13; refine (num_any _ _).mono ?_; rintro e w' ⟨rfl, rfl⟩))
                refine (hSm).mono ?_
                rintro e w12 ⟨rfl, u12⟩
                have A12 := hA.upd u12 (by simp) (by simp)
                have k12 := len_row A12
                rw [hln] at k12
                go_wp2_with ((go_at_call 13; refine (num_any _ _).mono ?_; rintro e w' ⟨rfl, rfl⟩))
                refine (k12).mono ?_
                rintro e w13 ⟨rfl, rfl⟩
                go_wp2
                all_goals first | exact ⟨by simp, Upd.of_below (B5.trans ((hu.trans (u12.mono (by simp))).below B5.size (by simp; omega)))⟩ | exact Upd.of_below (B5.trans ((hu.trans (u12.mono (by simp))).below B5.size (by simp; omega)))
  · have hb : (zs.length : Int) < 1 ∨ 65536 < (zs.length : Int) := by omega
    have hm0 : zs.length ≤ maxLen := by unfold maxLen; omega
    refine calls_all fun K hK => ?_
    go_enter Try.func9, Try.ntmps9
    go_wp2_with ((go_at_call 13; refine (num_any _ _).mono ?_; rintro e w' ⟨rfl, rfl⟩))
    refine (known01 _).mono ?_
    rintro e w1 ⟨rfl, u1⟩
    have B1 : Below w.heap.size w w1 := u1.below (Nat.le_refl _) (by simp)
    go_wp2_with ((go_at_call 13; refine (num_any _ _).mono ?_; rintro e w' ⟨rfl, rfl⟩))
    refine (lent_any _ _ _ _ (sl B1) hn).mono ?_
    rintro e w2 ⟨g2, s2, rfl, hb2, hg2, u2⟩
    go_wp2_with ((go_at_call 13; refine (num_any _ _).mono ?_; rintro e w' ⟨rfl, rfl⟩))
    refine (of_bad _ _ _ _ (by omega) hm0).mono ?_
    rintro e w3 ⟨rfl, rfl⟩
    have B2 : Below w.heap.size w w2 := (B1.trans (u2.below B1.size (by simp)))
    go_wp2_with ((go_at_call 13; refine (num_any _ _).mono ?_; rintro e w' ⟨rfl, rfl⟩))
    refine (lent_any _ _ _ _ (sl B2) hn).mono ?_
    rintro e w4 ⟨g4, s4, rfl, hb4, hg4, u4⟩
    go_wp2_with ((go_at_call 13; refine (num_any _ _).mono ?_; rintro e w' ⟨rfl, rfl⟩))
    refine (of_bad _ _ _ _ (by omega) hm0).mono ?_
    rintro e w5 ⟨rfl, rfl⟩
    have B4 := Upd.of_below (B2.trans (u4.below B2.size (by simp)))
    by_cases h0 : zs.length = 0
    · have h00 : ((zs.length : Int) == 0) = true := by rw [beq_iff_eq]; omega
      go_wp2_with ((go_at_call 13; refine (num_any _ _).mono ?_; rintro e w' ⟨rfl, rfl⟩))
      all_goals first | exact ⟨rfl, B4⟩ | exact B4
    · have h00 : ((zs.length : Int) == 0) = false := by rw [beq_eq_false_iff_ne]; omega
      have h65 : decide (65536 < (zs.length : Int)) = true := by simp; omega
      go_wp2_with ((go_at_call 13; refine (num_any _ _).mono ?_; rintro e w' ⟨rfl, rfl⟩))
      all_goals first | exact ⟨rfl, B4⟩ | exact B4


end Go.Proofs.Ythjiiedpplimpaa
