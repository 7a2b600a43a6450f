/- The contracts of the document's row (parleyref01): what makes new memory, and what goes over words. The conditions are sizes. -/
import Derived.Test.YthjiiedpplimpaaRefRow
import Derived.Test.YthjiiedpplimpaaLent
import Derived.Handy
import Derived.Maps.AppendAt
set_option linter.unusedSimpArgs false
set_option linter.unusedVariables false
set_option maxRecDepth 100000
namespace Go.Proofs.Ythjiiedpplimpaa
open Go.RowKit

/-- w' is w behind some draws -/
def Qt (w w' : World) : Prop := ∃ n, w' = w.drewN n
theorem Qt.refl (w : World) : Qt w w := ⟨0, rfl⟩
theorem Qt.drew (w : World) : Qt w w.drew := ⟨1, rfl⟩
theorem Qt.upd {w w' : World} (h : Qt w w') : Upd [] w w' := by obtain ⟨n, rfl⟩ := h; exact ⟨rfl, rfl, rfl, Nat.le_refl _, fun _ _ _ => rfl⟩
theorem Upd.drewN {S : List Nat} {a b : World} (h : Upd S a b) (n : Nat) : Upd S a (b.drewN n) := h.trans ⟨rfl, rfl, rfl, Nat.le_refl _, fun _ _ _ => rfl⟩
theorem Blk.drewN {w : World} {b : Nat} {vs : List Value} {t : TypeId} (h : Blk w b vs t) (n : Nat) : Blk (w.drewN n) b vs t := h
theorem SlI.drewN {w : World} {k : IntKind} {p : Option Addr} {zs : List Int} (h : SlI w k p zs) (n : Nat) : SlI (w.drewN n) k p zs := ⟨h.ne, h.cells⟩
theorem SlI.drew {w : World} {k : IntKind} {p : Option Addr} {zs : List Int} (h : SlI w k p zs) : SlI w.drew k p zs := ⟨h.ne, h.cells⟩
theorem RowAt.drewN {w : World} {a b : Nat} {ws : List Int} {acc : Int} (h : RowAt w a b ws acc) (n : Nat) : RowAt (w.drewN n) a b ws acc := ⟨h.head, h.len1, h.len2, h.ne⟩
theorem RowAt.drew {w : World} {a b : Nat} {ws : List Int} {acc : Int} (h : RowAt w a b ws acc) : RowAt w.drew a b ws acc := ⟨h.head, h.len1, h.len2, h.ne⟩

/-- alike up to place i -/
theorem eq_upto {xs ys : List Int} (hl : xs.length = ys.length) (h : ∀ j, j < xs.length → wd xs j = wd ys j) : xs = ys := by
  apply List.ext_getElem hl
  intro i h1 h2
  have := h i h1
  rwa [wd_get h1, wd_get h2] at this

theorem same_words {w : World} {p q : Option Addr} {xs ys : List Int} (c d : Nat) (hx : SlI w .u64 p xs) (hy : SlI w .u64 q ys) (hn : xs.length ≤ 9223372036854775807) (hm : ys.length ≤ 9223372036854775807) :
    Calls Try.prog 70 #[.slice p xs.length c, .slice q ys.length d] w fun e w' => e = .returned (.bool (decide (xs = ys))) ∧ Qt w w' := by
  by_cases hl : xs.length = ys.length
  · have hne : ((ys.length : Int) != (ys.length : Int)) = false := by simp
    have HL := Lib.hid hl
    rw [hl] at hn ⊢
    clear hl
    refine calls_all fun K hK => ?_
    go_enter Try.func70, Try.ntmps70
    go_wp2
    go_loopw [5] (fun v5 wr => ∃ j : Nat, j ≤ ys.length ∧ v5 = .int .i64 j ∧ (∀ i, i < j → wd xs i = wd ys i) ∧ Qt w wr) (fun v5 _ => ys.length - (intOf v5).toNat)
    case atStart => exact ⟨0, by omega, rfl, fun i hi => absurd hi (by omega), Qt.refl _⟩
    case round =>
      obtain ⟨j, hj, rfl, heq, hq⟩ := hrel
      have HE := Lib.hid heq
      clear heq
      obtain ⟨m, rfl⟩ := hq
      by_cases hlt : j < ys.length
      · obtain ⟨b1, o1, rfl⟩ := hx.ne (by intro e; have := HL.out; rw [e] at this; simp at this; omega)
        obtain ⟨b2, o2, rfl⟩ := hy.ne (by intro e; rw [e] at hlt; simp at hlt)
        have k1 := hx.cells b1 o1 rfl j (by rw [HL.out]; exact hlt)
        have k2 := hy.cells b2 o2 rfl j hlt
        have hjl : (j : Int) < (ys.length : Int) := by omega
        obtain ⟨x, hxe⟩ : ∃ x, wd xs j = x := ⟨_, rfl⟩
        obtain ⟨y, hye⟩ : ∃ y, wd ys j = y := ⟨_, rfl⟩
        rw [hxe] at k1
        rw [hye] at k2
        have HX := Lib.hid hxe
        have HY := Lib.hid hye
        clear hxe hye
        by_cases hxy : x = y
        · subst hxy
          have hb : (x != x) = false := by simp
          go_wp2_with fail
          go_quiet (fail)
          go_wp2_with fail
          go_roundw
          case rel => exact ⟨j + 1, by omega, by go_num, fun i hi => by rcases Nat.lt_succ_iff_lt_or_eq.1 hi with h | rfl; exact HE.out i h; rw [HX.out, HY.out], ⟨m + nq, by first | rfl | rw [World.drewN_drewN]⟩⟩
          case measure => simp [intOf]; omega
        · have hb : (x != y) = true := by simp [hxy]
          have hf : decide (xs = ys) = false := by simp only [decide_eq_false_iff_not]; intro e; apply hxy; rw [← HX.out, ← HY.out, e]
          rw [hf] at hK
          clear hf hxy
          go_wp2_with fail
          go_quiet (fail)
          go_wp2
          all_goals exact ⟨rfl, ⟨m + nq, by first | rfl | rw [World.drewN_drewN]⟩⟩
      · obtain rfl : j = ys.length := by omega
        have hf : decide (xs = ys) = true := by simp only [decide_eq_true_eq]; exact eq_upto HL.out (fun i hi => HE.out i (by rw [HL.out] at hi; exact hi))
        rw [hf] at hK
        clear hf
        go_wp2
        all_goals exact ⟨rfl, ⟨m, rfl⟩⟩
  · have hne : ((xs.length : Int) != (ys.length : Int)) = true := by simp; omega
    have hf : decide (xs = ys) = false := by simp only [decide_eq_false_iff_not]; intro e; exact hl (by rw [e])
    rw [hf]
    clear hf
    refine calls_all fun K hK => ?_
    go_enter Try.func70, Try.ntmps70
    go_wp2
    all_goals first | exact ⟨rfl, Qt.refl _⟩ | exact Qt.refl _

end Go.Proofs.Ythjiiedpplimpaa
