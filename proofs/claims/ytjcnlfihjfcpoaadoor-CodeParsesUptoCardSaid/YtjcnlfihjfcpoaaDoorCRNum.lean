/- The reference's number and parts. The conditions are sizes. -/
import Derived.Test.YtjcnlfihjfcpoaaDoorCPre
import Derived.Test.YtjcnlfihjfcpoaaDoorOwn
import Derived.Maps.AppendAt
set_option linter.unusedSimpArgs false
set_option linter.unusedVariables false
set_option maxRecDepth 100000
namespace Go.Proofs.YtjcnlfihjfcpoaaDoor
open Go.RowKit

def refN (acc : Nat) : List UInt8 → Nat × Bool
  | [] => (acc, true)
  | c :: r => if isDig c then (if 18446744073709551615 < acc * 10 + (c.toNat - 48) then (0, false) else refN (acc * 10 + (c.toNat - 48)) r) else (0, false)
def endN : Lib.NumEnd Nat → Nat × Bool
  | .ok u => (u, true)
  | _ => (0, false)
theorem refN_parse : ∀ (l : List UInt8) (acc : Nat), refN acc l = endN (Lib.parseUintM 18446744073709551615 acc l)
  | [], acc => rfl
  | c :: r, acc => by
    rw [refN, Lib.parseUintM]
    unfold isDig
    by_cases hd : 48 ≤ c.toNat ∧ c.toNat ≤ 57
    · rw [if_pos hd, decide_eq_true hd]
      simp only [if_true]
      by_cases h1 : 1844674407370955162 ≤ acc
      · rw [if_pos h1, if_pos (by omega)]; rfl
      · rw [if_neg h1]
        by_cases h2 : 18446744073709551615 < acc * 10 + (c.toNat - 48)
        · rw [if_pos h2, if_pos h2]; rfl
        · rw [if_neg h2, if_neg h2]; exact refN_parse r _
    · rw [if_neg hd, decide_eq_false hd]; rfl
theorem refN_all : ∀ (l : List UInt8) (acc : Nat), (refN acc l).2 = true → l.all isDig = true
  | [], _, _ => rfl
  | c :: r, acc, h => by
    rw [refN] at h
    split at h
    · rename_i hd
      split at h
      · cases h
      · rw [List.all_cons, hd, refN_all r _ h]; rfl
    · cases h
theorem refN_no : ∀ (l : List UInt8) (acc : Nat), (refN acc l).2 = false → refN acc l = (0, false)
  | [], _, h => by cases h
  | c :: r, acc, h => by
    rw [refN] at h ⊢
    split
    · rename_i hd
      rw [if_pos hd] at h
      split
      · rfl
      · rename_i h2
        rw [if_neg h2] at h
        exact refN_no r _ h
    · rfl

def rnumL (l : List UInt8) : Nat × Bool := if (numL l).2 = true then ((numL l).1, true) else (0, false)
def badNum (l : List UInt8) : Bool := decide (l.length = 0) || (decide (1 < l.length) && decide (l.head? = some 48))
theorem rnum_bad {l : List UInt8} (h : badNum l = true) : rnumL l = (0, false) := by
  unfold rnumL
  rw [if_neg]
  intro hn
  unfold badNum at h
  rw [Bool.or_eq_true] at h
  rcases h with h | h
  · have : l = [] := List.length_eq_zero_iff.1 (of_decide_eq_true h)
    subst this
    revert hn
    decide
  · have : plainNum l = false := by
      unfold plainNum
      simp only [Bool.and_eq_true, decide_eq_true_eq] at h
      rw [Bool.and_eq_false_iff]
      right
      simp [h.1, h.2]
    unfold numL at hn
    rw [this] at hn
    cases hn
theorem rnum_ref {l : List UInt8} (h : badNum l = false) : rnumL l = refN 0 l := by
  unfold badNum at h
  rw [Bool.or_eq_false_iff] at h
  have hne : l ≠ [] := by rintro rfl; simp at h
  have h2 := h.2
  cases ha : l.all isDig with
  | true =>
    have hp : plainNum l = true := by
      unfold plainNum
      rw [ha, Bool.true_and, Bool.not_eq_true']
      simpa using h2
    unfold rnumL numL
    rw [hp]
    simp only [if_true]
    unfold Lib.parseUintB
    rw [if_neg hne, show 2 ^ 64 - 1 = 18446744073709551615 from rfl, refN_parse]
    rcases Lib.parseUintM 18446744073709551615 0 l with u | _ | _ <;> rfl
  | false =>
    have hp : plainNum l = false := by unfold plainNum; rw [ha]; rfl
    have hr : (refN 0 l).2 = false := by
      cases hb : (refN 0 l).2 with
      | false => rfl
      | true => rw [refN_all l 0 hb] at ha; cases ha
    rw [refN_no l 0 hr]
    unfold rnumL numL
    rw [hp]
    rfl

theorem byte_at (s : ByteArray) (k : Nat) (h : k < s.size) : s[k]'h = s.get! k := by
  cases s with
  | mk d =>
    have h3 : k < d.size := h
    show d[k]'h3 = _
    simp [ByteArray.get!, h3]

theorem drop_get (s : ByteArray) (k : Nat) (h : k < s.size) : s.data.toList.drop k = s.get! k :: s.data.toList.drop (k + 1) := by
  have h2 : k < s.data.toList.length := by rw [← Lib.size_eq]; exact h
  rw [List.drop_eq_getElem_cons h2]
  congr 1
  have := getb s k h
  rw [List.getElem?_eq_getElem h2, Option.some.injEq] at this
  exact this

set_option maxHeartbeats 4000000 in
theorem rnumber (s : ByteArray) (hs : s.size ≤ 140737488355328) (w : World) : Calls Tryd.prog 40 #[.string s] w fun e w' => e = .returned (.tuple #[.int .u64 ((rnumL s.data.toList).1 : Nat), .bool (rnumL s.data.toList).2]) ∧ w' = w := by
  have hLn : s.data.toList.length = s.size := (Lib.size_eq s).symm
  have hhead : 0 < s.size → s.data.toList.head? = some (s.get! 0) := fun h => by
    rw [List.head?_eq_getElem?]; exact getb s 0 h
  obtain ⟨T, hT⟩ : ∃ T, rnumL s.data.toList = T := ⟨_, rfl⟩
  rw [hT]
  cases hb : badNum s.data.toList with
  | true =>
    have HE := Lib.hid (hT.symm.trans (rnum_bad hb))
    have hb' : s.size = 0 ∨ (1 < s.size ∧ (s.get! 0).toNat = 48) := by
      unfold badNum at hb
      simp only [Bool.or_eq_true, Bool.and_eq_true, decide_eq_true_eq] at hb
      rw [hLn] at hb
      rcases hb with h | ⟨h1, h2⟩
      · exact .inl h
      · refine .inr ⟨h1, ?_⟩
        rw [hhead (by omega), Option.some.injEq] at h2
        rw [h2]; rfl
    clear hb hT hhead
    rcases hb' with h0 | ⟨h1, h2⟩
    · have g0 : ((s.size : Int) == 0) = true := by simp [h0]
      clear h0
      refine calls_all fun K hK => ?_
      go_enter Tryd.func40, Tryd.ntmps40
      go_wp2
      all_goals simp [HE.out]
    · have h0 : 0 < s.size := by omega
      have g0 : ((s.size : Int) == 0) = false := by rw [beq_eq_false_iff_ne]; omega
      have g1 : 1 < (s.size : Int) := by omega
      have g3 : (((s[0]'h0).toNat : Int) == 48) = true := by rw [byte_at s 0 h0, h2]; rfl
      clear h2
      refine calls_all fun K hK => ?_
      go_enter Tryd.func40, Tryd.ntmps40
      go_wp2
      all_goals simp [HE.out]
  | false =>
    have HT := Lib.hid (hT.symm.trans (rnum_ref hb))
    have hb0 : 0 < s.size ∧ ¬ (1 < s.size ∧ (s.get! 0).toNat = 48) := by
      unfold badNum at hb
      simp only [Bool.or_eq_false_iff, Bool.and_eq_false_iff, decide_eq_false_iff_not] at hb
      rw [hLn] at hb
      refine ⟨by omega, fun h => ?_⟩
      rcases hb.2 with h2 | h2
      · exact h2 h.1
      · exact h2 (by rw [hhead (by omega)]; congr 1; exact UInt8.toNat_inj.1 h.2)
    obtain ⟨h0, hbb⟩ := hb0
    have g0 : ((s.size : Int) == 0) = false := by rw [beq_eq_false_iff_ne]; omega
    clear hb hT hhead
    have main : ∀ K : Ending → World → Prop, (∀ e w', e = .returned (.tuple #[.int .u64 (T.1 : Nat), .bool T.2]) ∧ w' = w → K e w') → (1 < (s.size : Int) ∧ (((s[0]'h0).toNat : Int) == 48) = false) ∨ ¬ 1 < (s.size : Int) → Calls Tryd.prog 40 #[.string s] w K := by
      intro K hK hcase
      go_enter Tryd.func40, Tryd.ntmps40
      rcases hcase with ⟨g1, g2⟩ | g1
      all_goals
        go_wp2_with fail
        go_loop [4, 5, 6] (fun v4 v5 v6 => ∃ (k acc : Nat), k ≤ s.size ∧ v5 = .int .i64 k ∧ v4 = .int .u64 acc ∧ acc ≤ 18446744073709551615 ∧ refN acc (s.data.toList.drop k) = T) (fun v4 v5 v6 => s.size - (intOf v5).toNat)
        case atStart => exact ⟨0, 0, by omega, rfl, rfl, by omega, by rw [List.drop_zero]; exact HT.out.symm⟩
        case round =>
          obtain ⟨k, acc, hk, rfl, rfl, hacc, href⟩ := hrel
          by_cases hlt : k < s.size
          · have hkl : (k : Int) < (s.size : Int) := by omega
            rw [drop_get s k hlt, refN] at href
            obtain ⟨x, hx⟩ : ∃ x : Nat, (s[k]'hlt).toNat = x := ⟨_, rfl⟩
            have hx' : (s.get! k).toNat = x := by rw [← byte_at s k hlt]; exact hx
            by_cases hd : 48 ≤ x ∧ x ≤ 57
            · have hdg : isDig (s.get! k) = true := by unfold isDig; rw [hx']; exact decide_eq_true hd
              rw [hdg, hx'] at href
              simp only [if_true] at href
              have n1 : ¬ (x : Int) < 48 := by omega
              have n2 : ¬ 57 < (x : Int) := by omega
              obtain ⟨d, rfl⟩ : ∃ d, x = 48 + d := ⟨x - 48, by omega⟩
              rw [Nat.add_sub_cancel_left] at href
              by_cases hov : 18446744073709551615 < acc * 10 + d
              · rw [if_pos hov] at href
                have HE := Lib.hid href.symm
                clear href hx' hdg
                go_wp2
                all_goals simp [HE.out]
              · rw [if_neg hov] at href
                have HR := Lib.hid href
                have n3 : ¬ (18446744073709551615 - (48 + (d : Int) - 48)) / 10 < (acc : Int) := by omega
                clear href hx' hdg
                go_wp2_with fail
                go_round
                case rel => exact ⟨k + 1, acc * 10 + d, by omega, by go_num, by first | go_num | (simp; omega), by omega, HR.out⟩
                case measure => simp [intOf]; omega
            · have hdg : isDig (s.get! k) = false := by unfold isDig; rw [hx']; exact decide_eq_false hd
              rw [hdg] at href
              have HE := Lib.hid href.symm
              clear href hx' hdg
              rcases Nat.lt_or_ge x 48 with hl | hl
              · have n1 : (x : Int) < 48 := by omega
                go_wp2
                all_goals simp [HE.out]
              · have n1 : ¬ (x : Int) < 48 := by omega
                have n2 : 57 < (x : Int) := by omega
                go_wp2
                all_goals simp [HE.out]
          · obtain rfl : k = s.size := by omega
            rw [List.drop_eq_nil_of_le (by rw [← Lib.size_eq]; omega), refN] at href
            have HE := Lib.hid href.symm
            clear href
            go_wp2
            all_goals simp [HE.out]
    refine calls_all fun K hK => main K hK ?_
    by_cases h1 : 1 < s.size
    · refine .inl ⟨by omega, ?_⟩
      rw [byte_at s 0 h0, beq_eq_false_iff_ne]
      intro e
      exact hbb ⟨h1, by omega⟩
    · exact .inr (by omega)
end Go.Proofs.YtjcnlfihjfcpoaaDoor
