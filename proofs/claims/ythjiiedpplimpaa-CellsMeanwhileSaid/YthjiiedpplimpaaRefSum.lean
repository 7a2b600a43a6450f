/- The document's Sum comes to the program's. The condition: the words are words. -/
import Derived.Test.YthjiiedpplimpaaRefRow3
set_option linter.unusedSimpArgs false
set_option linter.unusedVariables false
set_option maxRecDepth 100000
namespace Go.Proofs.Ythjiiedpplimpaa
open Go.RowKit

theorem fsum_snoc (ws : List Int) (i : Nat) : fsum ws (List.range (i + 1)) = fword 8 (fsum ws (List.range i)) (wd ws i) := by
  unfold fsum
  rw [List.range_succ, List.foldl_append]
  rfl

theorem rsum_any {w : World} {a b : Nat} {ws : List Int} {acc : Int} (h : RRow w a b ws acc) (hw : ∀ v ∈ ws, 0 ≤ v ∧ v < 18446744073709551616) :
    Calls Try.prog 81 #[.pointer (some ⟨a, 0, none⟩)] w fun e w' => e = .returned (.int .u64 (fsum ws (List.range ws.length))) ∧ w = w' := by
  obtain ⟨cap, h0⟩ := h.c0
  have hn := h.len2
  refine calls_all fun K hK => ?_
  go_enter Try.func81, Try.ntmps81
  go_wp2
  go_loop [3, 4] (fun v3 v4 => ∃ i : Nat, i ≤ ws.length ∧ v4 = .int .i64 i ∧ v3 = .int .u64 (fsum ws (List.range i))) (fun _ v4 => ws.length - (intOf v4).toNat)
  case atStart => exact ⟨0, by omega, rfl, rfl⟩
  case round =>
    obtain ⟨i, hi, rfl, rfl⟩ := hrel
    by_cases hlt : i < ws.length
    · have hc := h.cw i hlt
      have hx := wd_range hw i
      have hil : (i : Int) < (ws.length : Int) := by omega
      have HS := Lib.hid (fsum_snoc ws i)
      obtain ⟨x, hxe⟩ : ∃ x, wd ws i = x := ⟨_, rfl⟩
      rw [hxe] at hc hx HS
      clear hxe
      obtain ⟨s, hse⟩ : ∃ s, fsum ws (List.range i) = s := ⟨_, rfl⟩
      rw [hse] at HS ⊢
      clear hse
      have hx0 := hx.1
      have hx1 := hx.2
      go_wp2
      go_loop [3, 5] (fun v3 v5 => ∃ k : Nat, k ≤ 8 ∧ v5 = .int .i64 k ∧ v3 = .int .u64 (fword k s x)) (fun _ v5 => 8 - (intOf v5).toNat)
      case atStart => exact ⟨0, by omega, rfl, rfl⟩
      case round =>
        obtain ⟨k, hk, rfl, rfl⟩ := hrel
        by_cases hk8 : k < 8
        · have hkl : (k : Int) < 8 := by omega
          have H1 := Lib.hid (show fword (k + 1) s x = fstep (fword k s x) (x / 256 ^ k) from rfl)
          generalize fword k s x = t at *
          go_wp2
          go_round
          case rel => exact ⟨k + 1, by omega, by go_num, by rw [H1.out, fstep, show (256 : Int) ^ k = 2 ^ (8 * k) by rw [Int.pow_mul]; rfl]⟩
          case measure => simp [intOf]; omega
        · obtain rfl : k = 8 := by omega
          go_wp2
          go_round
          case rel => exact ⟨i + 1, by omega, by go_num, by rw [HS.out]⟩
          case measure => simp [intOf]; omega
    · obtain rfl : i = ws.length := by omega
      go_wp2
      all_goals first | exact ⟨rfl, rfl⟩ | rfl

end Go.Proofs.Ythjiiedpplimpaa
