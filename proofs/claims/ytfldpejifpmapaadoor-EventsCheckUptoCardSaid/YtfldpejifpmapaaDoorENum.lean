/- number: the number at a text's beginning. The conditions: the library's errors are laid; sizes. -/
import Derived.Test.YtfldpejifpmapaaDoorEText
import Derived.Lib.OthersKept
import Derived.Lib.Strings
import Derived.ScopeJumps
import Derived.WalkMore
set_option linter.unusedSimpArgs false
set_option linter.unusedVariables false
set_option maxRecDepth 100000
namespace Go.Proofs.YtfldpejifpmapaaDoor
open Go.RowKit
open Go.Maps
/-- the library's errors are laid -/
def Errs (w : World) : Prop := (∃ tp p, w.var? Tryd.prog "strconv.ErrSyntax" = some #[.iface tp p]) ∧ (∃ tp p, w.var? Tryd.prog "strconv.ErrRange" = some #[.iface tp p])

theorem var_upd {w w' : World} {n : String} {v : Array Value} (h : w.var? Tryd.prog n = some v) (u : Upd [] w w') : w'.var? Tryd.prog n = some v := by
  unfold World.var? at *
  cases hg : (Tryd.prog).globalNamed n with
  | none => simp [hg] at h
  | some g =>
    simp only [hg, Option.bind_some] at h ⊢
    have hlt : g < w.heap.size := by
      rcases Nat.lt_or_ge g w.heap.size with h' | h'
      · exact h'
      · rw [Array.getElem?_eq_none h'] at h; simp at h
    rw [u.block g hlt (by simp)]
    exact h

theorem Errs.upd {w w' : World} (h : Errs w) (u : Upd [] w w') : Errs w' := by
  obtain ⟨⟨a, b, h1⟩, c, d, h2⟩ := h
  exact ⟨⟨a, b, var_upd h1 u⟩, c, d, var_upd h2 u⟩

def isDig (c : UInt8) : Bool := decide (48 ≤ c.toNat ∧ c.toNat ≤ 57)
def numEnd : Lib.NumEnd Nat → Nat × Bool
  | .ok u => (u, true)
  | .range => (18446744073709551615, false)
  | _ => (0, false)
theorem getb (s : ByteArray) (j : Nat) (h : j < s.size) : s.data.toList[j]? = some (s.get! j) := by
  have h1 := Lib.getD_at s j h
  have h2 : j < s.data.toList.length := by simpa using h
  rw [List.getElem?_eq_getElem h2]
  congr 1
  cases s with
  | mk d =>
    have h3 : j < d.size := h
    simp [ByteArray.get!, h3]

/-- ParseUint as the code asks it -/
theorem parse_uint (s : ByteArray) (hs : s.size ≤ 281474976710656) (w : World) (he : Errs w) :
    Calls Tryd.prog 80 #[.string s, .int .i64 10, .int .i64 64] w fun e w' => ∃ er, e = .returned (.tuple #[.int .u64 ((numEnd (Lib.parseUintB 64 s.data.toList)).1 : Nat), er]) ∧ ((er = .nilIface ∧ (numEnd (Lib.parseUintB 64 s.data.toList)).2 = true) ∨ ((∃ N, er = .iface 158 (.pointer (some ⟨N, 0, none⟩))) ∧ (numEnd (Lib.parseUintB 64 s.data.toList)).2 = false)) ∧ Upd [] w w' := by
  rcases h : Lib.parseUintB 64 s.data.toList with u | _ | _
  · refine (Tryd.strconv_ParseUint_10_at64_ok s (by omega) u h w).mono ?_
    rintro e w' ⟨rfl, hw⟩
    refine ⟨_, rfl, .inl ⟨rfl, rfl⟩, ?_⟩
    rcases hw with rfl | rfl
    · exact Upd.refl _ _
    · exact Upd.of_below (Lib.bytesWorld_below _ _ _)
  · obtain ⟨⟨tp, p, hv⟩, _⟩ := he
    refine (Tryd.strconv_ParseUint_10_at64_syntax_var s hs h tp p w hv).mono ?_
    rintro e w' ⟨N, rfl, _, _, hb⟩
    exact ⟨_, rfl, .inr ⟨⟨N, rfl⟩, rfl⟩, Upd.of_below hb⟩
  · obtain ⟨_, tp, p, hv⟩ := he
    refine (Tryd.strconv_ParseUint_10_at64_range_var s hs h tp p w hv).mono ?_
    rintro e w' ⟨N, rfl, _, _, hb⟩
    exact ⟨_, rfl, .inr ⟨⟨N, rfl⟩, rfl⟩, Upd.of_below hb⟩

/-- the number at a list's beginning, what stands behind it, is it one? -/
def numberL (l : List UInt8) : Nat × List UInt8 × Bool := ((numEnd (Lib.parseUintB 64 (l.takeWhile isDig))).1, l.dropWhile isDig, (numEnd (Lib.parseUintB 64 (l.takeWhile isDig))).2)
theorem while_at {l : List UInt8} {m : Nat} (hm : m ≤ l.length) (h : ∀ j c, j < m → l[j]? = some c → isDig c = true) (he : ∀ c, l[m]? = some c → isDig c = false) : l.takeWhile isDig = l.take m ∧ l.dropWhile isDig = l.drop m := by
  induction l generalizing m with
  | nil => simp
  | cons a l ih =>
    cases m with
    | zero =>
      have := he a (by simp)
      simp [List.takeWhile_cons, List.dropWhile_cons, this]
    | succ m =>
      have h0 := h 0 a (by omega) (by simp)
      obtain ⟨h1, h2⟩ := ih (m := m) (by simpa using hm) (fun j c hj hc => h (j + 1) c (by omega) (by simpa using hc)) (fun c hc => he c (by simpa using hc))
      simp [List.takeWhile_cons, List.dropWhile_cons, h0, h1, h2]
-- a look at the next byte: m the place
-- the end: the digits are read
set_option maxHeartbeats 4000000 in
theorem number_code (s : ByteArray) (hs : s.size ≤ 140737488355328) (w : World) (he : Errs w) : Calls Tryd.prog 60 #[.string s] w fun e w' => e = .returned (.tuple #[.int .u64 ((numberL s.data.toList).1 : Nat), .string ⟨(numberL s.data.toList).2.1.toArray⟩, .bool (numberL s.data.toList).2.2]) ∧ Upd [] w w' := by
  have HE := Lib.hid he
  clear he
  refine calls_all fun K hK => ?_
  go_enter Tryd.func60, Tryd.ntmps60
  go_wp2
  refine wp_scope_jumps 0 (fun a' w' => w' = w ∧ ∃ (m : Nat) (u8 u9 u10 u11 u12 u13 u14 u15 u16 u17 u18 u19 u20 u21 u22 u23 u24 u25 : Value), a' = { tmps := #[.string s, undef, .int .u64 0, .string ⟨#[]⟩, .bool false, .int .i64 (m : Int), undef, undef, u8, u9, u10, u11, u12, u13, u14, u15, u16, u17, u18, u19, u20, u21, u22, u23, u24, u25, undef, undef, undef, undef, undef, undef, undef, undef, undef, undef, undef, undef, undef], defers := [] } ∧ m ≤ s.size ∧ ∀ j c, j < m → s.data.toList[j]? = some c → isDig c = true) (fun a' _ => s.size - (intOf (a'.tmps.getD 5 undef)).toNat) rfl ?_ ?_
  · go_wp2
    go_step3
    obtain ⟨m, hm0⟩ : ∃ m : Nat, m = 0 := ⟨0, rfl⟩
    have hz : (Value.int .i64 0) = .int .i64 ((m : Nat) : Int) := by rw [hm0]; rfl
    rw [hz]
    have hm : m ≤ s.size := by omega
    have hd : ∀ j c, j < m → s.data.toList[j]? = some c → isDig c = true := fun j c hj => by omega
    clear hz hm0
    have HD := Lib.hid hd
    have HM := Lib.hid hm
    clear hd
    by_cases hlt : m < s.size
    · have hlt' : (m : Int) < (s.size : Int) := by omega
      have hm0 : 0 ≤ (m : Int) := by omega
      obtain ⟨c, hc⟩ : ∃ c, s.get! m = c := ⟨_, rfl⟩
      have hg := getb s m hlt
      rw [hc] at hg
      have HG := Lib.hid hg
      obtain ⟨r, hr⟩ : ∃ r : Nat, c.toNat = r := ⟨_, rfl⟩
      have hrr : (s[m]'hlt).toNat = r := by
        have h1 : s.data.toList[m]? = some (s[m]'hlt) := by rw [List.getElem?_eq_getElem (by simpa using hlt)]; rfl
        rw [hg] at h1
        rw [← Option.some.inj h1, hr]
      have HRC := Lib.hid hr
      clear hg hc hr
      by_cases g1 : 48 ≤ r
      · have d1 : decide (48 ≤ (r : Int)) = true := decide_eq_true (by omega)
        have d1' : decide (48 ≤ r) = true := decide_eq_true g1
        by_cases g2 : r ≤ 57
        · have d2 : decide ((r : Int) ≤ 57) = true := decide_eq_true (by omega)
          have d2' : decide (r ≤ 57) = true := decide_eq_true g2
          have hd2 : ∀ j c, j < m + 1 → s.data.toList[j]? = some c → isDig c = true := fun j c2 hj hc2 => by
            rcases Nat.lt_succ_iff_lt_or_eq.1 hj with h | h
            · exact HD.out j c2 h hc2
            · subst h
              rw [HG.out] at hc2
              cases hc2
              unfold isDig
              rw [HRC.out]
              exact decide_eq_true ⟨g1, g2⟩
          have HD2 := Lib.hid hd2
          clear hd2
          go_wp2
          go_step3
          have hd2 := HD2.out
          exact ⟨rfl, rfl, m + 1, _, _, _, _, _, _, _, _, _, _, _, _, _, _, _, _, _, _, rfl, by omega, hd2⟩
        · have d2 : decide ((r : Int) ≤ 57) = false := decide_eq_false (by omega)
          have d2' : decide (r ≤ 57) = false := decide_eq_false g2
          have HW := Lib.hid (while_at (l := s.data.toList) (m := m) (by rw [← Lib.size_eq]; exact hm) HD.out (fun c2 hc2 => by rw [HG.out] at hc2; cases hc2; unfold isDig; rw [HRC.out]; exact decide_eq_false (by omega)))
          go_wp2_with fail
          refine (parse_uint (s.extract 0 m) (by rw [Lib.size_eq, Lib.extract_data, List.length_take, List.length_drop, ← Lib.size_eq]; omega) _ (HE.out)).mono ?_
          rintro e W2 ⟨er, rfl, her, u2⟩
          have hx : (s.extract 0 m).data.toList = s.data.toList.takeWhile isDig := by rw [Lib.extract_data, List.drop_zero, Nat.sub_zero, HW.out.1]
          rw [hx] at her ⊢
          obtain ⟨nx, hnx⟩ : ∃ n, numberL s.data.toList = n := ⟨_, rfl⟩
          obtain ⟨x, hxx⟩ : ∃ x, numEnd (Lib.parseUintB 64 (s.data.toList.takeWhile isDig)) = x := ⟨_, rfl⟩
          have HN := Lib.hid (show numberL s.data.toList = (x.1, s.data.toList.drop m, x.2) by unfold numberL; rw [hxx, HW.out.2])
          have HX := Lib.hid (Lib.extract_to_end s m)
          rw [hxx] at her ⊢
          have HU := Lib.hid u2
          clear u2 hx hnx hxx nx
          have hms : (m : Int) ≤ (s.size : Int) := by have := HM.out; omega
          obtain ⟨x1, x2⟩ := x
          rcases her with ⟨rfl, hx2⟩ | ⟨⟨N, rfl⟩, hx2⟩
          · dsimp only at hx2
            subst hx2
            go_wp2_with fail
            have ud : Upd [] W2 W2.drew := (Upd.refl [] _).drew
            have HU2 := Lib.hid (HU.out.trans ud)
            obtain ⟨W3, hW3⟩ : ∃ W, W2.drew = W := ⟨_, rfl⟩
            refine wp_region_br (fun w' => w' = W2.drew) [0, 1, 2, 3, 4, 5, 6, 7, 8] (by kernel_rfl) (by kernel_rfl) rfl ?_
            rw [hW3] at HU2 ⊢
            clear ud hW3
            repeat
              first
                | (refine wpB_skip rfl (by kernel_rfl) (by rfl) ?_)
                | ((refine wpB_take (v := ?_) rfl rfl (by kernel_rfl) (by rfl) ?_ ?_); rotate_left 1; (· ((intro w hSw; (try dsimp only at hSw); go_simp); try with_reducible rfl)))
              try simp only [Act.put, List.setIfInBounds_toArray, List.set_cons_zero, List.set_cons_succ]
            refine wpB_end (by kernel_rfl) (NoPanic.normal ?_)
            go_wp2_with fail
            have hstr : (⟨(s.data.toList.drop m).toArray⟩ : ByteArray) = s.extract m s.size := by
              rw [← HX.out]
            exact ⟨by rw [HN.out]; dsimp only; rw [hstr]; rfl, HU2.out⟩
          · dsimp only at hx2
            subst hx2
            go_wp2_with fail
            have ud : Upd [] W2 W2.drew := (Upd.refl [] _).drew
            have HU2 := Lib.hid (HU.out.trans ud)
            obtain ⟨W3, hW3⟩ : ∃ W, W2.drew = W := ⟨_, rfl⟩
            refine wp_region_br (fun w' => w' = W2.drew) [0, 1, 2, 3, 4, 5, 6, 7, 8] (by kernel_rfl) (by kernel_rfl) rfl ?_
            rw [hW3] at HU2 ⊢
            clear ud hW3
            repeat
              first
                | (refine wpB_skip rfl (by kernel_rfl) (by rfl) ?_)
                | ((refine wpB_take (v := ?_) rfl rfl (by kernel_rfl) (by rfl) ?_ ?_); rotate_left 1; (· ((intro w hSw; (try dsimp only at hSw); go_simp); try with_reducible rfl)))
              try simp only [Act.put, List.setIfInBounds_toArray, List.set_cons_zero, List.set_cons_succ]
            refine wpB_end (by kernel_rfl) (NoPanic.normal ?_)
            go_wp2_with fail
            have hstr : (⟨(s.data.toList.drop m).toArray⟩ : ByteArray) = s.extract m s.size := by
              rw [← HX.out]
            exact ⟨by rw [HN.out]; dsimp only; rw [hstr]; rfl, HU2.out⟩
      · have d1 : decide (48 ≤ (r : Int)) = false := decide_eq_false (by omega)
        have d1' : decide (48 ≤ r) = false := decide_eq_false g1
        have HW := Lib.hid (while_at (l := s.data.toList) (m := m) (by rw [← Lib.size_eq]; exact hm) HD.out (fun c2 hc2 => by rw [HG.out] at hc2; cases hc2; unfold isDig; rw [HRC.out]; exact decide_eq_false (by omega)))
        go_wp2_with fail
        refine (parse_uint (s.extract 0 m) (by rw [Lib.size_eq, Lib.extract_data, List.length_take, List.length_drop, ← Lib.size_eq]; omega) _ (HE.out)).mono ?_
        rintro e W2 ⟨er, rfl, her, u2⟩
        have hx : (s.extract 0 m).data.toList = s.data.toList.takeWhile isDig := by rw [Lib.extract_data, List.drop_zero, Nat.sub_zero, HW.out.1]
        rw [hx] at her ⊢
        obtain ⟨nx, hnx⟩ : ∃ n, numberL s.data.toList = n := ⟨_, rfl⟩
        obtain ⟨x, hxx⟩ : ∃ x, numEnd (Lib.parseUintB 64 (s.data.toList.takeWhile isDig)) = x := ⟨_, rfl⟩
        have HN := Lib.hid (show numberL s.data.toList = (x.1, s.data.toList.drop m, x.2) by unfold numberL; rw [hxx, HW.out.2])
        have HX := Lib.hid (Lib.extract_to_end s m)
        rw [hxx] at her ⊢
        have HU := Lib.hid u2
        clear u2 hx hnx hxx nx
        have hms : (m : Int) ≤ (s.size : Int) := by have := HM.out; omega
        obtain ⟨x1, x2⟩ := x
        rcases her with ⟨rfl, hx2⟩ | ⟨⟨N, rfl⟩, hx2⟩
        · dsimp only at hx2
          subst hx2
          go_wp2_with fail
          have ud : Upd [] W2 W2.drew := (Upd.refl [] _).drew
          have HU2 := Lib.hid (HU.out.trans ud)
          obtain ⟨W3, hW3⟩ : ∃ W, W2.drew = W := ⟨_, rfl⟩
          refine wp_region_br (fun w' => w' = W2.drew) [0, 1, 2, 3, 4, 5, 6, 7, 8] (by kernel_rfl) (by kernel_rfl) rfl ?_
          rw [hW3] at HU2 ⊢
          clear ud hW3
          repeat
            first
              | (refine wpB_skip rfl (by kernel_rfl) (by rfl) ?_)
              | ((refine wpB_take (v := ?_) rfl rfl (by kernel_rfl) (by rfl) ?_ ?_); rotate_left 1; (· ((intro w hSw; (try dsimp only at hSw); go_simp); try with_reducible rfl)))
            try simp only [Act.put, List.setIfInBounds_toArray, List.set_cons_zero, List.set_cons_succ]
          refine wpB_end (by kernel_rfl) (NoPanic.normal ?_)
          go_wp2_with fail
          have hstr : (⟨(s.data.toList.drop m).toArray⟩ : ByteArray) = s.extract m s.size := by
            rw [← HX.out]
          exact ⟨by rw [HN.out]; dsimp only; rw [hstr]; rfl, HU2.out⟩
        · dsimp only at hx2
          subst hx2
          go_wp2_with fail
          have ud : Upd [] W2 W2.drew := (Upd.refl [] _).drew
          have HU2 := Lib.hid (HU.out.trans ud)
          obtain ⟨W3, hW3⟩ : ∃ W, W2.drew = W := ⟨_, rfl⟩
          refine wp_region_br (fun w' => w' = W2.drew) [0, 1, 2, 3, 4, 5, 6, 7, 8] (by kernel_rfl) (by kernel_rfl) rfl ?_
          rw [hW3] at HU2 ⊢
          clear ud hW3
          repeat
            first
              | (refine wpB_skip rfl (by kernel_rfl) (by rfl) ?_)
              | ((refine wpB_take (v := ?_) rfl rfl (by kernel_rfl) (by rfl) ?_ ?_); rotate_left 1; (· ((intro w hSw; (try dsimp only at hSw); go_simp); try with_reducible rfl)))
            try simp only [Act.put, List.setIfInBounds_toArray, List.set_cons_zero, List.set_cons_succ]
          refine wpB_end (by kernel_rfl) (NoPanic.normal ?_)
          go_wp2_with fail
          have hstr : (⟨(s.data.toList.drop m).toArray⟩ : ByteArray) = s.extract m s.size := by
            rw [← HX.out]
          exact ⟨by rw [HN.out]; dsimp only; rw [hstr]; rfl, HU2.out⟩
    · have hge : ¬ (m : Int) < (s.size : Int) := by omega
      have HW := Lib.hid (while_at (l := s.data.toList) (m := m) (by rw [← Lib.size_eq]; exact hm) HD.out (fun c2 hc2 => by rw [List.getElem?_eq_none (by rw [← Lib.size_eq]; omega)] at hc2; cases hc2))
      go_wp2_with fail
      refine (parse_uint (s.extract 0 m) (by rw [Lib.size_eq, Lib.extract_data, List.length_take, List.length_drop, ← Lib.size_eq]; omega) _ (HE.out)).mono ?_
      rintro e W2 ⟨er, rfl, her, u2⟩
      have hx : (s.extract 0 m).data.toList = s.data.toList.takeWhile isDig := by rw [Lib.extract_data, List.drop_zero, Nat.sub_zero, HW.out.1]
      rw [hx] at her ⊢
      obtain ⟨nx, hnx⟩ : ∃ n, numberL s.data.toList = n := ⟨_, rfl⟩
      obtain ⟨x, hxx⟩ : ∃ x, numEnd (Lib.parseUintB 64 (s.data.toList.takeWhile isDig)) = x := ⟨_, rfl⟩
      have HN := Lib.hid (show numberL s.data.toList = (x.1, s.data.toList.drop m, x.2) by unfold numberL; rw [hxx, HW.out.2])
      have HX := Lib.hid (Lib.extract_to_end s m)
      rw [hxx] at her ⊢
      have HU := Lib.hid u2
      clear u2 hx hnx hxx nx
      have hms : (m : Int) ≤ (s.size : Int) := by have := HM.out; omega
      obtain ⟨x1, x2⟩ := x
      rcases her with ⟨rfl, hx2⟩ | ⟨⟨N, rfl⟩, hx2⟩
      · dsimp only at hx2
        subst hx2
        go_wp2_with fail
        have ud : Upd [] W2 W2.drew := (Upd.refl [] _).drew
        have HU2 := Lib.hid (HU.out.trans ud)
        obtain ⟨W3, hW3⟩ : ∃ W, W2.drew = W := ⟨_, rfl⟩
        refine wp_region_br (fun w' => w' = W2.drew) [0, 1, 2, 3, 4, 5, 6, 7, 8] (by kernel_rfl) (by kernel_rfl) rfl ?_
        rw [hW3] at HU2 ⊢
        clear ud hW3
        repeat
          first
            | (refine wpB_skip rfl (by kernel_rfl) (by rfl) ?_)
            | ((refine wpB_take (v := ?_) rfl rfl (by kernel_rfl) (by rfl) ?_ ?_); rotate_left 1; (· ((intro w hSw; (try dsimp only at hSw); go_simp); try with_reducible rfl)))
          try simp only [Act.put, List.setIfInBounds_toArray, List.set_cons_zero, List.set_cons_succ]
        refine wpB_end (by kernel_rfl) (NoPanic.normal ?_)
        go_wp2_with fail
        have hstr : (⟨(s.data.toList.drop m).toArray⟩ : ByteArray) = s.extract m s.size := by
          rw [← HX.out]
        exact ⟨by rw [HN.out]; dsimp only; rw [hstr]; rfl, HU2.out⟩
      · dsimp only at hx2
        subst hx2
        go_wp2_with fail
        have ud : Upd [] W2 W2.drew := (Upd.refl [] _).drew
        have HU2 := Lib.hid (HU.out.trans ud)
        obtain ⟨W3, hW3⟩ : ∃ W, W2.drew = W := ⟨_, rfl⟩
        refine wp_region_br (fun w' => w' = W2.drew) [0, 1, 2, 3, 4, 5, 6, 7, 8] (by kernel_rfl) (by kernel_rfl) rfl ?_
        rw [hW3] at HU2 ⊢
        clear ud hW3
        repeat
          first
            | (refine wpB_skip rfl (by kernel_rfl) (by rfl) ?_)
            | ((refine wpB_take (v := ?_) rfl rfl (by kernel_rfl) (by rfl) ?_ ?_); rotate_left 1; (· ((intro w hSw; (try dsimp only at hSw); go_simp); try with_reducible rfl)))
          try simp only [Act.put, List.setIfInBounds_toArray, List.set_cons_zero, List.set_cons_succ]
        refine wpB_end (by kernel_rfl) (NoPanic.normal ?_)
        go_wp2_with fail
        have hstr : (⟨(s.data.toList.drop m).toArray⟩ : ByteArray) = s.extract m s.size := by
          rw [← HX.out]
        exact ⟨by rw [HN.out]; dsimp only; rw [hstr]; rfl, HU2.out⟩
  · rintro a' w' ⟨rfl, m, u8, u9, u10, u11, u12, u13, u14, u15, u16, u17, u18, u19, u20, u21, u22, u23, u24, u25, rfl, hm, hd⟩
    have HD := Lib.hid hd
    have HM := Lib.hid hm
    clear hd
    by_cases hlt : m < s.size
    · have hlt' : (m : Int) < (s.size : Int) := by omega
      have hm0 : 0 ≤ (m : Int) := by omega
      obtain ⟨c, hc⟩ : ∃ c, s.get! m = c := ⟨_, rfl⟩
      have hg := getb s m hlt
      rw [hc] at hg
      have HG := Lib.hid hg
      obtain ⟨r, hr⟩ : ∃ r : Nat, c.toNat = r := ⟨_, rfl⟩
      have hrr : (s[m]'hlt).toNat = r := by
        have h1 : s.data.toList[m]? = some (s[m]'hlt) := by rw [List.getElem?_eq_getElem (by simpa using hlt)]; rfl
        rw [hg] at h1
        rw [← Option.some.inj h1, hr]
      have HRC := Lib.hid hr
      clear hg hc hr
      by_cases g1 : 48 ≤ r
      · have d1 : decide (48 ≤ (r : Int)) = true := decide_eq_true (by omega)
        have d1' : decide (48 ≤ r) = true := decide_eq_true g1
        by_cases g2 : r ≤ 57
        · have d2 : decide ((r : Int) ≤ 57) = true := decide_eq_true (by omega)
          have d2' : decide (r ≤ 57) = true := decide_eq_true g2
          have hd2 : ∀ j c, j < m + 1 → s.data.toList[j]? = some c → isDig c = true := fun j c2 hj hc2 => by
            rcases Nat.lt_succ_iff_lt_or_eq.1 hj with h | h
            · exact HD.out j c2 h hc2
            · subst h
              rw [HG.out] at hc2
              cases hc2
              unfold isDig
              rw [HRC.out]
              exact decide_eq_true ⟨g1, g2⟩
          have HD2 := Lib.hid hd2
          clear hd2
          go_wp2
          go_step3
          have hd2 := HD2.out
          refine ⟨rfl, ⟨rfl, m + 1, _, _, _, _, _, _, _, _, _, _, _, _, _, _, _, _, _, _, rfl, by omega, hd2⟩, ?_⟩
          simp [intOf]
          omega
        · have d2 : decide ((r : Int) ≤ 57) = false := decide_eq_false (by omega)
          have d2' : decide (r ≤ 57) = false := decide_eq_false g2
          have HW := Lib.hid (while_at (l := s.data.toList) (m := m) (by rw [← Lib.size_eq]; exact hm) HD.out (fun c2 hc2 => by rw [HG.out] at hc2; cases hc2; unfold isDig; rw [HRC.out]; exact decide_eq_false (by omega)))
          go_wp2_with fail
          refine (parse_uint (s.extract 0 m) (by rw [Lib.size_eq, Lib.extract_data, List.length_take, List.length_drop, ← Lib.size_eq]; omega) _ (HE.out)).mono ?_
          rintro e W2 ⟨er, rfl, her, u2⟩
          have hx : (s.extract 0 m).data.toList = s.data.toList.takeWhile isDig := by rw [Lib.extract_data, List.drop_zero, Nat.sub_zero, HW.out.1]
          rw [hx] at her ⊢
          obtain ⟨nx, hnx⟩ : ∃ n, numberL s.data.toList = n := ⟨_, rfl⟩
          obtain ⟨x, hxx⟩ : ∃ x, numEnd (Lib.parseUintB 64 (s.data.toList.takeWhile isDig)) = x := ⟨_, rfl⟩
          have HN := Lib.hid (show numberL s.data.toList = (x.1, s.data.toList.drop m, x.2) by unfold numberL; rw [hxx, HW.out.2])
          have HX := Lib.hid (Lib.extract_to_end s m)
          rw [hxx] at her ⊢
          have HU := Lib.hid u2
          clear u2 hx hnx hxx nx
          have hms : (m : Int) ≤ (s.size : Int) := by have := HM.out; omega
          obtain ⟨x1, x2⟩ := x
          rcases her with ⟨rfl, hx2⟩ | ⟨⟨N, rfl⟩, hx2⟩
          · dsimp only at hx2
            subst hx2
            go_wp2_with fail
            have ud : Upd [] W2 W2.drew := (Upd.refl [] _).drew
            have HU2 := Lib.hid (HU.out.trans ud)
            obtain ⟨W3, hW3⟩ : ∃ W, W2.drew = W := ⟨_, rfl⟩
            refine wp_region_br (fun w' => w' = W2.drew) [0, 1, 2, 3, 4, 5, 6, 7, 8] (by kernel_rfl) (by kernel_rfl) rfl ?_
            rw [hW3] at HU2 ⊢
            clear ud hW3
            repeat
              first
                | (refine wpB_skip rfl (by kernel_rfl) (by rfl) ?_)
                | ((refine wpB_take (v := ?_) rfl rfl (by kernel_rfl) (by rfl) ?_ ?_); rotate_left 1; (· ((intro w hSw; (try dsimp only at hSw); go_simp); try with_reducible rfl)))
              try simp only [Act.put, List.setIfInBounds_toArray, List.set_cons_zero, List.set_cons_succ]
            refine wpB_end (by kernel_rfl) (NoPanic.normal ?_)
            go_wp2_with fail
            have hstr : (⟨(s.data.toList.drop m).toArray⟩ : ByteArray) = s.extract m s.size := by
              rw [← HX.out]
            exact ⟨by rw [HN.out]; dsimp only; rw [hstr]; rfl, HU2.out⟩
          · dsimp only at hx2
            subst hx2
            go_wp2_with fail
            have ud : Upd [] W2 W2.drew := (Upd.refl [] _).drew
            have HU2 := Lib.hid (HU.out.trans ud)
            obtain ⟨W3, hW3⟩ : ∃ W, W2.drew = W := ⟨_, rfl⟩
            refine wp_region_br (fun w' => w' = W2.drew) [0, 1, 2, 3, 4, 5, 6, 7, 8] (by kernel_rfl) (by kernel_rfl) rfl ?_
            rw [hW3] at HU2 ⊢
            clear ud hW3
            repeat
              first
                | (refine wpB_skip rfl (by kernel_rfl) (by rfl) ?_)
                | ((refine wpB_take (v := ?_) rfl rfl (by kernel_rfl) (by rfl) ?_ ?_); rotate_left 1; (· ((intro w hSw; (try dsimp only at hSw); go_simp); try with_reducible rfl)))
              try simp only [Act.put, List.setIfInBounds_toArray, List.set_cons_zero, List.set_cons_succ]
            refine wpB_end (by kernel_rfl) (NoPanic.normal ?_)
            go_wp2_with fail
            have hstr : (⟨(s.data.toList.drop m).toArray⟩ : ByteArray) = s.extract m s.size := by
              rw [← HX.out]
            exact ⟨by rw [HN.out]; dsimp only; rw [hstr]; rfl, HU2.out⟩
      · have d1 : decide (48 ≤ (r : Int)) = false := decide_eq_false (by omega)
        have d1' : decide (48 ≤ r) = false := decide_eq_false g1
        have HW := Lib.hid (while_at (l := s.data.toList) (m := m) (by rw [← Lib.size_eq]; exact hm) HD.out (fun c2 hc2 => by rw [HG.out] at hc2; cases hc2; unfold isDig; rw [HRC.out]; exact decide_eq_false (by omega)))
        go_wp2_with fail
        refine (parse_uint (s.extract 0 m) (by rw [Lib.size_eq, Lib.extract_data, List.length_take, List.length_drop, ← Lib.size_eq]; omega) _ (HE.out)).mono ?_
        rintro e W2 ⟨er, rfl, her, u2⟩
        have hx : (s.extract 0 m).data.toList = s.data.toList.takeWhile isDig := by rw [Lib.extract_data, List.drop_zero, Nat.sub_zero, HW.out.1]
        rw [hx] at her ⊢
        obtain ⟨nx, hnx⟩ : ∃ n, numberL s.data.toList = n := ⟨_, rfl⟩
        obtain ⟨x, hxx⟩ : ∃ x, numEnd (Lib.parseUintB 64 (s.data.toList.takeWhile isDig)) = x := ⟨_, rfl⟩
        have HN := Lib.hid (show numberL s.data.toList = (x.1, s.data.toList.drop m, x.2) by unfold numberL; rw [hxx, HW.out.2])
        have HX := Lib.hid (Lib.extract_to_end s m)
        rw [hxx] at her ⊢
        have HU := Lib.hid u2
        clear u2 hx hnx hxx nx
        have hms : (m : Int) ≤ (s.size : Int) := by have := HM.out; omega
        obtain ⟨x1, x2⟩ := x
        rcases her with ⟨rfl, hx2⟩ | ⟨⟨N, rfl⟩, hx2⟩
        · dsimp only at hx2
          subst hx2
          go_wp2_with fail
          have ud : Upd [] W2 W2.drew := (Upd.refl [] _).drew
          have HU2 := Lib.hid (HU.out.trans ud)
          obtain ⟨W3, hW3⟩ : ∃ W, W2.drew = W := ⟨_, rfl⟩
          refine wp_region_br (fun w' => w' = W2.drew) [0, 1, 2, 3, 4, 5, 6, 7, 8] (by kernel_rfl) (by kernel_rfl) rfl ?_
          rw [hW3] at HU2 ⊢
          clear ud hW3
          repeat
            first
              | (refine wpB_skip rfl (by kernel_rfl) (by rfl) ?_)
              | ((refine wpB_take (v := ?_) rfl rfl (by kernel_rfl) (by rfl) ?_ ?_); rotate_left 1; (· ((intro w hSw; (try dsimp only at hSw); go_simp); try with_reducible rfl)))
            try simp only [Act.put, List.setIfInBounds_toArray, List.set_cons_zero, List.set_cons_succ]
          refine wpB_end (by kernel_rfl) (NoPanic.normal ?_)
          go_wp2_with fail
          have hstr : (⟨(s.data.toList.drop m).toArray⟩ : ByteArray) = s.extract m s.size := by
            rw [← HX.out]
          exact ⟨by rw [HN.out]; dsimp only; rw [hstr]; rfl, HU2.out⟩
        · dsimp only at hx2
          subst hx2
          go_wp2_with fail
          have ud : Upd [] W2 W2.drew := (Upd.refl [] _).drew
          have HU2 := Lib.hid (HU.out.trans ud)
          obtain ⟨W3, hW3⟩ : ∃ W, W2.drew = W := ⟨_, rfl⟩
          refine wp_region_br (fun w' => w' = W2.drew) [0, 1, 2, 3, 4, 5, 6, 7, 8] (by kernel_rfl) (by kernel_rfl) rfl ?_
          rw [hW3] at HU2 ⊢
          clear ud hW3
          repeat
            first
              | (refine wpB_skip rfl (by kernel_rfl) (by rfl) ?_)
              | ((refine wpB_take (v := ?_) rfl rfl (by kernel_rfl) (by rfl) ?_ ?_); rotate_left 1; (· ((intro w hSw; (try dsimp only at hSw); go_simp); try with_reducible rfl)))
            try simp only [Act.put, List.setIfInBounds_toArray, List.set_cons_zero, List.set_cons_succ]
          refine wpB_end (by kernel_rfl) (NoPanic.normal ?_)
          go_wp2_with fail
          have hstr : (⟨(s.data.toList.drop m).toArray⟩ : ByteArray) = s.extract m s.size := by
            rw [← HX.out]
          exact ⟨by rw [HN.out]; dsimp only; rw [hstr]; rfl, HU2.out⟩
    · have hge : ¬ (m : Int) < (s.size : Int) := by omega
      have HW := Lib.hid (while_at (l := s.data.toList) (m := m) (by rw [← Lib.size_eq]; exact hm) HD.out (fun c2 hc2 => by rw [List.getElem?_eq_none (by rw [← Lib.size_eq]; omega)] at hc2; cases hc2))
      go_wp2_with fail
      refine (parse_uint (s.extract 0 m) (by rw [Lib.size_eq, Lib.extract_data, List.length_take, List.length_drop, ← Lib.size_eq]; omega) _ (HE.out)).mono ?_
      rintro e W2 ⟨er, rfl, her, u2⟩
      have hx : (s.extract 0 m).data.toList = s.data.toList.takeWhile isDig := by rw [Lib.extract_data, List.drop_zero, Nat.sub_zero, HW.out.1]
      rw [hx] at her ⊢
      obtain ⟨nx, hnx⟩ : ∃ n, numberL s.data.toList = n := ⟨_, rfl⟩
      obtain ⟨x, hxx⟩ : ∃ x, numEnd (Lib.parseUintB 64 (s.data.toList.takeWhile isDig)) = x := ⟨_, rfl⟩
      have HN := Lib.hid (show numberL s.data.toList = (x.1, s.data.toList.drop m, x.2) by unfold numberL; rw [hxx, HW.out.2])
      have HX := Lib.hid (Lib.extract_to_end s m)
      rw [hxx] at her ⊢
      have HU := Lib.hid u2
      clear u2 hx hnx hxx nx
      have hms : (m : Int) ≤ (s.size : Int) := by have := HM.out; omega
      obtain ⟨x1, x2⟩ := x
      rcases her with ⟨rfl, hx2⟩ | ⟨⟨N, rfl⟩, hx2⟩
      · dsimp only at hx2
        subst hx2
        go_wp2_with fail
        have ud : Upd [] W2 W2.drew := (Upd.refl [] _).drew
        have HU2 := Lib.hid (HU.out.trans ud)
        obtain ⟨W3, hW3⟩ : ∃ W, W2.drew = W := ⟨_, rfl⟩
        refine wp_region_br (fun w' => w' = W2.drew) [0, 1, 2, 3, 4, 5, 6, 7, 8] (by kernel_rfl) (by kernel_rfl) rfl ?_
        rw [hW3] at HU2 ⊢
        clear ud hW3
        repeat
          first
            | (refine wpB_skip rfl (by kernel_rfl) (by rfl) ?_)
            | ((refine wpB_take (v := ?_) rfl rfl (by kernel_rfl) (by rfl) ?_ ?_); rotate_left 1; (· ((intro w hSw; (try dsimp only at hSw); go_simp); try with_reducible rfl)))
          try simp only [Act.put, List.setIfInBounds_toArray, List.set_cons_zero, List.set_cons_succ]
        refine wpB_end (by kernel_rfl) (NoPanic.normal ?_)
        go_wp2_with fail
        have hstr : (⟨(s.data.toList.drop m).toArray⟩ : ByteArray) = s.extract m s.size := by
          rw [← HX.out]
        exact ⟨by rw [HN.out]; dsimp only; rw [hstr]; rfl, HU2.out⟩
      · dsimp only at hx2
        subst hx2
        go_wp2_with fail
        have ud : Upd [] W2 W2.drew := (Upd.refl [] _).drew
        have HU2 := Lib.hid (HU.out.trans ud)
        obtain ⟨W3, hW3⟩ : ∃ W, W2.drew = W := ⟨_, rfl⟩
        refine wp_region_br (fun w' => w' = W2.drew) [0, 1, 2, 3, 4, 5, 6, 7, 8] (by kernel_rfl) (by kernel_rfl) rfl ?_
        rw [hW3] at HU2 ⊢
        clear ud hW3
        repeat
          first
            | (refine wpB_skip rfl (by kernel_rfl) (by rfl) ?_)
            | ((refine wpB_take (v := ?_) rfl rfl (by kernel_rfl) (by rfl) ?_ ?_); rotate_left 1; (· ((intro w hSw; (try dsimp only at hSw); go_simp); try with_reducible rfl)))
          try simp only [Act.put, List.setIfInBounds_toArray, List.set_cons_zero, List.set_cons_succ]
        refine wpB_end (by kernel_rfl) (NoPanic.normal ?_)
        go_wp2_with fail
        have hstr : (⟨(s.data.toList.drop m).toArray⟩ : ByteArray) = s.extract m s.size := by
          rw [← HX.out]
        exact ⟨by rw [HN.out]; dsimp only; rw [hstr]; rfl, HU2.out⟩
end Go.Proofs.YtfldpejifpmapaaDoor
