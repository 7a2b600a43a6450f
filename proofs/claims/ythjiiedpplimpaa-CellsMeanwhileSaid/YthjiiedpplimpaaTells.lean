/- What a row tells of itself is told alike by the document's (tells), a row that is there and one that is not. The condition: the words are words. -/
import Derived.Test.YthjiiedpplimpaaSpoil
import Derived.Test.YthjiiedpplimpaaCellsK
set_option linter.unusedSimpArgs false
set_option linter.unusedVariables false
set_option maxRecDepth 100000
namespace Go.Proofs.Ythjiiedpplimpaa
open Go.RowKit

theorem sw_true {w : World} {p q : Option Addr} {xs : List Int} (c d : Nat) (hx : SlI w .u64 p xs) (hy : SlI w .u64 q xs) (hn : xs.length ≤ 9223372036854775807) :
    Calls Try.prog 70 #[.slice p xs.length c, .slice q xs.length d] w fun e w' => e = .returned (.bool true) ∧ Qt w w' := by
  have := same_words c d hx hy hn hn
  rwa [decide_eq_true rfl] at this

theorem sw_nil (w : World) : Calls Try.prog 70 #[.slice none 0 0, .slice none 0 0] w fun e w' => e = .returned (.bool true) ∧ Qt w w' :=
  sw_true (xs := []) 0 0 (SlI.nil _ _ _) (SlI.nil _ _ _) (by simp)

def AllW (ws : List Int) : Prop := ∀ v ∈ ws, 0 ≤ v ∧ v < 18446744073709551616

theorem tells_row {w : World} {a b ra rb : Nat} {ws : List Int} {acc : Int} (h : RowAt w a b ws acc) (k : RRow w ra rb ws acc) (hw : AllW ws) (addr : Int) :
    Calls Try.prog 54 #[.pointer (some ⟨a, 0, none⟩), .pointer (some ⟨ra, 0, none⟩), .int .u64 addr] w fun e w' => e = .returned (.bool true) ∧ Upd [] w w' := by
  have hn := h.len2
  have hlen : ws.length ≤ 9223372036854775807 := by omega
  have h65 : (ws.length + 40) * 8 ≤ 140737488355328 := by omega
  refine calls_all fun K hK => ?_
  go_enter Try.func54, Try.ntmps54
  go_wp2_with fail
  refine (words_row h).mono ?_
  rintro e w1 ⟨g1, s1, rfl, hg1, B1, u1⟩
  have h1 := h.upd u1 (by simp) (by simp)
  go_wp2_with fail
  refine (words_row h1).mono ?_
  rintro e w2 ⟨g2, s2, rfl, hg2, B2, u2⟩
  have h2 := h1.upd u2 (by simp) (by simp)
  have k2 := (k.upd u1 (by simp) (by simp)).upd u2 (by simp) (by simp)
  have B1' := B1.upd u2 (by simp)
  have l1 := B1.lt
  have HN1 : b ≠ g1 ∧ ra ≠ g1 ∧ rb ≠ g1 ∧ g2 ≠ g1 := by have := h.ltb; have := k.lta; have := k.ltb; omega
  have U2 := u1.trans u2
  clear h h1 k u1 u2 B1 hg2
  go_wp2_with fail
  refine (rwords_any k2).mono ?_
  rintro e w3 ⟨⟨rc, rfl⟩, rfl⟩
  go_wp2_with fail
  refine (sw_true _ _ (SlI.of_blk B1') k2.sli hlen).mono ?_
  rintro e w3 ⟨rfl, q3⟩
  have k3 := k2.upd q3.upd (by simp) (by simp)
  have B3 := B2.upd q3.upd (by simp)
  go_wp2_with fail
  refine (rwords_any k3).mono ?_
  rintro e w4 ⟨⟨rc4, rfl⟩, rfl⟩
  go_wp2_with fail
  refine (sw_true _ _ (SlI.of_blk B3) k3.sli hlen).mono ?_
  rintro e w4 ⟨rfl, q4⟩
  have k4 := k3.upd q4.upd (by simp) (by simp)
  have h4 := (h2.upd q3.upd (by simp) (by simp)).upd q4.upd (by simp) (by simp)
  have B4 := B3.upd q4.upd (by simp)
  have A4 := (B1'.upd q3.upd (by simp)).upd q4.upd (by simp)
  have U4 := (U2.trans q3.upd).trans q4.upd
  have la := h4.lta
  clear k2 h2 B2 B1' U2 q3 q4 k3 B3
  go_wp2_with fail
  refine (spoil_own A4 (by simp) (.inl rfl) hg1.2 h65).mono ?_
  rintro e w5 ⟨rfl, u5⟩
  have hg14 : g1 ∉ ([] : List Nat) := by simp
  have n1 : a ≠ g1 := fun e => by subst e; have := h4.head; obtain ⟨_, hb, _⟩ := this; exact absurd (hb.inj A4).2 (by decide)
  have lb := h4.ltb
  have n2 : b ≠ g1 ∧ ra ≠ g1 ∧ rb ≠ g1 ∧ g2 ≠ g1 := HN1
  have h5 := h4.upd u5 (by simp; exact n1) (by simp; exact n2.1)
  have k5 := k4.upd u5 (by simp; exact n2.2.1) (by simp; exact n2.2.2.1)
  have B5 := B4.upd u5 (by simp; exact n2.2.2.2)
  have U5 : Upd [] w w5 := U4.tr u5 (by simp) (by simp; omega)
  clear h4 k4 B4 A4 U4 u5 n1 n2 hg1 hg14 la lb
  go_wp2_with fail
  refine (rwords_any k5).mono ?_
  rintro e w6 ⟨⟨rc6, rfl⟩, rfl⟩
  go_wp2_with fail
  refine (sw_true _ _ (SlI.of_blk B5) k5.sli hlen).mono ?_
  rintro e w6 ⟨rfl, q6⟩
  have h6 := h5.upd q6.upd (by simp) (by simp)
  have k6 := k5.upd q6.upd (by simp) (by simp)
  have U6 := U5.trans q6.upd
  have e1 : ((ws.length : Int) == (ws.length : Int)) = true := by simp
  have e2 : (decide (addr < (ws.length : Int)) == decide (addr < (ws.length : Int))) = true := by simp
  have e3 : (acc == acc) = true := by simp
  obtain ⟨fs, hfs⟩ : ∃ fs, fsum ws (List.range ws.length) = fs := ⟨_, rfl⟩
  have e4 : (fs == fs) = true := by simp
  have s6 := sum_row h6 hw
  rw [hfs] at s6
  have HFS := Lib.hid hfs
  clear hfs h5 k5 B5 U5 q6
  go_wp2_with fail
  refine (len_row h6).mono ?_
  rintro e w7 ⟨rfl, rfl⟩
  go_wp2_with fail
  refine (rlen_any k6).mono ?_
  rintro e w7 ⟨rfl, rfl⟩
  go_wp2_with fail
  refine (has_row h6 addr).mono ?_
  rintro e w7 ⟨rfl, rfl⟩
  go_wp2_with fail
  refine (rhas_any k6 addr).mono ?_
  rintro e w7 ⟨rfl, rfl⟩
  go_wp2_with fail
  refine (s6).mono ?_
  rintro e w7 ⟨rfl, b7⟩
  have h7 := h6.below b7 h6.lta h6.ltb
  have k7 := k6.below b7 k6.lta k6.ltb
  have s7 := rsum_any k7 hw
  rw [HFS.out] at s7
  have U7 := U6.trans (Upd.of_below b7)
  clear s6 h6 k6 U6 b7
  go_wp2_with fail
  refine (s7).mono ?_
  rintro e w8 ⟨rfl, rfl⟩
  go_wp2_with fail
  refine (accesses_any h7).mono ?_
  rintro e w8 ⟨rfl, rfl⟩
  go_wp2_with fail
  refine (raccesses_any k7).mono ?_
  rintro e w8 ⟨rfl, rfl⟩
  go_wp2
  all_goals first | exact ⟨rfl, U7⟩ | exact U7

theorem tells_no (w : World) (addr : Int) (ha : 0 ≤ addr) : Calls Try.prog 54 #[.pointer none, .pointer none, .int .u64 addr] w fun e w' => e = .returned (.bool true) ∧ Upd [] w w' := by
  have hN : ∀ w : World, NoRow w none := fun _ => .inl rfl
  refine calls_all fun K hK => ?_
  go_enter Try.func54, Try.ntmps54
  go_wp2_with fail
  refine (words_no (hN _)).mono ?_
  rintro e w1 ⟨rfl, rfl⟩
  go_wp2_with fail
  refine (words_no (hN _)).mono ?_
  rintro e w1 ⟨rfl, rfl⟩
  go_wp2_with fail
  refine (rwords_no _).mono ?_
  rintro e w1 ⟨rfl, rfl⟩
  go_wp2_with fail
  refine (sw_nil _).mono ?_
  rintro e w1 ⟨rfl, q1⟩
  go_wp2_with fail
  refine (rwords_no _).mono ?_
  rintro e w2 ⟨rfl, rfl⟩
  go_wp2_with fail
  refine (sw_nil _).mono ?_
  rintro e w2 ⟨rfl, q2⟩
  go_wp2_with fail
  refine (spoil_nil _).mono ?_
  rintro e w3 ⟨rfl, u3⟩
  go_wp2_with fail
  refine (rwords_no _).mono ?_
  rintro e w4 ⟨rfl, rfl⟩
  go_wp2_with fail
  refine (sw_nil _).mono ?_
  rintro e w4 ⟨rfl, q4⟩
  have U4 := ((q1.upd.trans q2.upd).trans u3).trans q4.upd
  clear q1 q2 u3 q4
  go_wp2_with fail
  refine (len_no (hN _)).mono ?_
  rintro e w5 ⟨rfl, rfl⟩
  go_wp2_with fail
  refine (rlen_no _).mono ?_
  rintro e w5 ⟨rfl, rfl⟩
  go_wp2_with fail
  refine (has_no (hN _) addr ha).mono ?_
  rintro e w5 ⟨rfl, rfl⟩
  go_wp2_with fail
  refine (rhas_no _ addr ha).mono ?_
  rintro e w5 ⟨rfl, rfl⟩
  go_wp2_with fail
  refine (sum_no (hN _)).mono ?_
  rintro e w5 ⟨rfl, rfl⟩
  go_wp2_with fail
  refine (rsum_no _).mono ?_
  rintro e w5 ⟨rfl, rfl⟩
  go_wp2_with fail
  refine (accesses_no (hN _)).mono ?_
  rintro e w5 ⟨rfl, rfl⟩
  go_wp2_with fail
  refine (raccesses_no _).mono ?_
  rintro e w5 ⟨rfl, rfl⟩
  go_wp2
  all_goals first | exact ⟨rfl, U4⟩ | exact U4

end Go.Proofs.Ythjiiedpplimpaa
