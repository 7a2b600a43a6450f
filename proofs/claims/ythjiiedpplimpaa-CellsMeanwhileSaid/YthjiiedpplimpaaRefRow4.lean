/- Fill of the program's row and of the document's; the document's Sum. The conditions are sizes. -/
import Derived.Test.YthjiiedpplimpaaRefRow3
set_option linter.unusedSimpArgs false
set_option linter.unusedVariables false
set_option maxRecDepth 100000
namespace Go.Proofs.Ythjiiedpplimpaa
open Go.RowKit

def fillAt (ws : List Int) (i : Nat) (zs : List Int) : List Int := ws.take i ++ (zs ++ ws.drop (i + zs.length))
theorem fillAt_len {ws : List Int} {i : Nat} {zs : List Int} (h : i + zs.length ≤ ws.length) : (fillAt ws i zs).length = ws.length := by simp [fillAt]; omega
theorem fillAt_nil (ws : List Int) (i : Nat) : fillAt ws i [] = ws := by simp [fillAt]
theorem fillAt_snoc {ws zs : List Int} {i j : Nat} (hj : j < zs.length) (h : i + zs.length ≤ ws.length) : (fillAt ws i (zs.take j)).set (i + j) (wd zs j) = fillAt ws i (zs.take (j + 1)) := by
  have hl : (zs.take j).length = j := by simp; omega
  have hl2 : (zs.take (j + 1)).length = j + 1 := by simp; omega
  unfold fillAt
  rw [hl, hl2, List.take_succ_eq_append_getElem hj, ← wd_get hj, List.set_append_right _ _ (by simp; omega), List.set_append_right _ _ (by simp; omega), List.drop_eq_getElem_cons (show i + j < ws.length by omega)]
  simp only [List.length_take, List.append_assoc]
  rw [show i + j - min i ws.length - min j zs.length = 0 by omega]
  simp [Nat.add_assoc]

section
variable {w w' : World} {a b : Nat} {ws : List Int} {acc : Int}

theorem fill_cells (ws zs : List Int) (spare : List Value) (i : Nat) (h : i + zs.length ≤ ws.length) :
    (ws.map (Value.int .u64) ++ spare).take i ++ zs.map (Value.int .u64) ++ (ws.map (Value.int .u64) ++ spare).drop (i + zs.length) = (fillAt ws i zs).map (Value.int .u64) ++ spare := by
  rw [List.take_append_of_le_length (by simp; omega), List.drop_append_of_le_length (by simp; omega)]
  simp [fillAt, List.map_take, List.map_drop]

theorem RowAt.fill (h : RowAt w a b ws acc) (i : Nat) (zs : List Int) (hi : i + zs.length ≤ ws.length) {cs : Array Value} {cap : Nat} {spare : List Value} (hh : Blk w a [.slice (some ⟨b, 0, none⟩) ws.length cap, .int .u64 acc] 88) (hb : Blk w b (ws.map (Value.int .u64) ++ spare) 27) (hl : ws.length + spare.length = cap)
    (hc : cs = ((ws.map (Value.int .u64) ++ spare).take i ++ zs.map (Value.int .u64) ++ (ws.map (Value.int .u64) ++ spare).drop (i + zs.length)).toArray) : RowAt (w.setRow b cs) a b (fillAt ws i zs) acc := by
  subst hc
  rw [fill_cells ws zs spare i hi]
  refine ⟨⟨cap, ?_, spare, hb.setRow _, by rw [fillAt_len hi]; exact hl⟩, by rw [fillAt_len hi]; exact h.len1, by rw [fillAt_len hi]; exact h.len2, h.ne⟩
  rw [fillAt_len hi]
  exact hh.same (setRow_other _ _ _ _ (fun e => h.ne e))

theorem fill_zero (h : RowAt w a b ws acc) (i : Int) (p : Option Addr) (c : Nat) : Calls Try.prog 68 #[.pointer (some ⟨a, 0, none⟩), .int .u64 i, .slice p 0 c] w fun e w' => e = .returned (.int .i64 0) ∧ w = w' := by
  refine calls_all fun K hK => ?_
  go_enter Try.func68, Try.ntmps68
  go_wp2_with fail
  refine (made_true h).mono ?_
  rintro e w' ⟨rfl, rfl⟩
  go_wp2
  all_goals first | exact ⟨rfl, rfl⟩ | rfl

theorem fill_bad (h : RowAt w a b ws acc) (i : Int) (p : Option Addr) (n c : Nat) (hn : 1 ≤ n) (hm : n ≤ maxLen) (hi : 0 ≤ i) (hb : ws.length < i + n) : Calls Try.prog 68 #[.pointer (some ⟨a, 0, none⟩), .int .u64 i, .slice p n c] w fun e w' => e = .returned (.int .i64 4) ∧ w = w' := by
  unfold maxLen at hm
  obtain ⟨cap, h0⟩ := h.c0
  have h2 := h.len2
  have hd : decide (0 < (n : Int)) = true := by simp; omega
  by_cases hx : i < ws.length
  · have hd2 : decide (i < (ws.length : Int)) = true := by simpa using hx
    have hd3 : decide ((ws.length : Int) - i < (n : Int)) = true := by simp; omega
    refine calls_all fun K hK => ?_
    go_enter Try.func68, Try.ntmps68
    go_wp2_with fail
    refine (made_true h).mono ?_
    rintro e w' ⟨rfl, rfl⟩
    go_wp2_with fail
    refine (has_row h i).mono ?_
    rintro e w' ⟨rfl, rfl⟩
    go_wp2
    all_goals first | exact ⟨rfl, rfl⟩ | rfl
  · have hd2 : decide (i < (ws.length : Int)) = false := by simpa using hx
    refine calls_all fun K hK => ?_
    go_enter Try.func68, Try.ntmps68
    go_wp2_with fail
    refine (made_true h).mono ?_
    rintro e w' ⟨rfl, rfl⟩
    go_wp2_with fail
    refine (has_row h i).mono ?_
    rintro e w' ⟨rfl, rfl⟩
    go_wp2
    all_goals first | exact ⟨rfl, rfl⟩ | rfl

theorem fill_ok (h : RowAt w a b ws acc) (i : Nat) (p : Option Addr) (c : Nat) (zs : List Int) (hs : SlI w .u64 p zs) (hn : 1 ≤ zs.length) (hi : i + zs.length ≤ ws.length) :
    Calls Try.prog 68 #[.pointer (some ⟨a, 0, none⟩), .int .u64 i, .slice p zs.length c] w fun e w' => e = .returned (.int .i64 0) ∧ RowAt w' a b (fillAt ws i zs) acc ∧ Upd [b] w w' := by
  have hz : zs ≠ [] := fun e => by subst e; simp at hn
  obtain ⟨ad, hp, hsrc⟩ := hs.src hz
  subst hp
  obtain ⟨cap, hA, spare, hB, hcap⟩ := h.head
  have h0 := hA.cell 0 rfl
  have h2 := h.len2
  obtain ⟨i0, hi0, hz0, hz1, hz2⟩ := info_parts info_u64
  have hcp := run_copy_row (P := Try.prog) w 31 31 3 27 b i (ws.length - i) (cap - i) ad zs.length c (ws.map (Value.int .u64) ++ spare).toArray 27 (zs.map (Value.int .u64)) Try.underlying31 (by rw [hi0]; simp [hz1]) hB
    (by rw [List.length_map]; exact (Nat.min_eq_left (by omega)).symm) hsrc (by simp; omega) (fun v hv => by simp at hv; obtain ⟨x, _, rfl⟩ := hv; rfl)
  simp only [List.length_map] at hcp
  have hF := h.fill i zs hi hA hB hcap rfl
  obtain ⟨CS, hCS⟩ : ∃ CS, ((ws.map (Value.int .u64) ++ spare).take i ++ zs.map (Value.int .u64) ++ (ws.map (Value.int .u64) ++ spare).drop (i + zs.length)).toArray = CS := ⟨_, rfl⟩
  rw [hCS] at hcp
  rw [hCS] at hF
  clear hCS hsrc hA hB hi0 hz0 hz1 hz2
  have hd : decide (0 < (zs.length : Int)) = true := by simp; omega
  have hd0 : decide (0 < zs.length) = true := by simp; omega
  have hd2 : decide ((i : Int) < (ws.length : Int)) = true := by simp; omega
  have hd3 : decide ((ws.length : Int) - (i : Int) < (zs.length : Int)) = false := by simp; omega
  have hil : (i : Int) < (ws.length : Int) := by omega
  have hic : (i : Int) < (cap : Int) := by omega
  have hlc : (ws.length : Int) ≤ (cap : Int) := by omega
  have hhas := has_row h (i : Int)
  rw [hd2] at hhas
  refine calls_all fun K hK => ?_
  go_enter Try.func68, Try.ntmps68
  go_wp2_with fail
  refine (made_true h).mono ?_
  rintro e w' ⟨rfl, rfl⟩
  go_wp2_with fail
  refine (hhas).mono ?_
  rintro e w' ⟨rfl, rfl⟩
  go_wp2
  all_goals first | exact ⟨rfl, hF, (Upd.refl _ _).setRow (.inl (by simp)) _⟩ | exact ⟨hF, (Upd.refl _ _).setRow (.inl (by simp)) _⟩

theorem rfill_zero (h : RRow w a b ws acc) (i : Int) (p : Option Addr) (c : Nat) : Calls Try.prog 84 #[.pointer (some ⟨a, 0, none⟩), .int .u64 i, .slice p 0 c] w fun e w' => e = .returned (.int .i64 0) ∧ w = w' := by
  refine calls_all fun K hK => ?_
  go_enter Try.func84, Try.ntmps84
  go_wp2
  all_goals first | exact ⟨rfl, rfl⟩ | rfl

theorem rfill_bad (h : RRow w a b ws acc) (i : Int) (p : Option Addr) (n c : Nat) (hn : 1 ≤ n) (hm : n ≤ maxLen) (hi : 0 ≤ i) (hb : ws.length < i + n) : Calls Try.prog 84 #[.pointer (some ⟨a, 0, none⟩), .int .u64 i, .slice p n c] w fun e w' => e = .returned (.int .i64 4) ∧ w = w' := by
  unfold maxLen at hm
  obtain ⟨cap, h0⟩ := h.c0
  have h2 := h.len2
  have hn0 : ((n : Int) == 0) = false := by rw [beq_eq_false_iff_ne]; omega
  by_cases hx : i < ws.length
  · have hd2 : decide (i < (ws.length : Int)) = true := by simpa using hx
    have hd3 : decide ((ws.length : Int) - i < (n : Int)) = true := by simp; omega
    refine calls_all fun K hK => ?_
    go_enter Try.func84, Try.ntmps84
    go_wp2_with fail
    refine (rhas_any h i).mono ?_
    rintro e w' ⟨rfl, rfl⟩
    go_wp2
    all_goals first | exact ⟨rfl, rfl⟩ | rfl
  · have hd2 : decide (i < (ws.length : Int)) = false := by simpa using hx
    refine calls_all fun K hK => ?_
    go_enter Try.func84, Try.ntmps84
    go_wp2_with fail
    refine (rhas_any h i).mono ?_
    rintro e w' ⟨rfl, rfl⟩
    go_wp2
    all_goals first | exact ⟨rfl, rfl⟩ | rfl

theorem rfill_ok (h : RRow w a b ws acc) (i : Nat) (p : Option Addr) (c : Nat) (zs : List Int) (hs : SlI w .u64 p zs) (hp : ∀ b' o, p = some ⟨b', o, none⟩ → b' ≠ b) (hn : 1 ≤ zs.length) (hi : i + zs.length ≤ ws.length) :
    Calls Try.prog 84 #[.pointer (some ⟨a, 0, none⟩), .int .u64 i, .slice p zs.length c] w fun e w' => e = .returned (.int .i64 0) ∧ RRow w' a b (fillAt ws i zs) acc ∧ Upd [b] w w' := by
  have hz : zs ≠ [] := fun e => by subst e; simp at hn
  obtain ⟨b1, o1, rfl⟩ := hs.ne hz
  have hne := hp b1 o1 rfl
  obtain ⟨cap, h0⟩ := h.c0
  have h2 := h.len2
  have hn0 : ((zs.length : Int) == 0) = false := by rw [beq_eq_false_iff_ne]; omega
  have hd2 : decide ((i : Int) < (ws.length : Int)) = true := by simp; omega
  have hd3 : decide ((ws.length : Int) - (i : Int) < (zs.length : Int)) = false := by simp; omega
  have hhas := rhas_any h (i : Int)
  rw [hd2] at hhas
  refine calls_all fun K hK => ?_
  go_enter Try.func84, Try.ntmps84
  go_wp2_with fail
  refine (hhas).mono ?_
  rintro e w' ⟨rfl, rfl⟩
  go_wp2_with fail
  clear hd2 hd3 hn0 hhas
  go_loopw [8] (fun v8 wr => ∃ j : Nat, j ≤ zs.length ∧ v8 = .int .i64 j ∧ RRow wr a b (fillAt ws i (zs.take j)) acc ∧ Upd [b] w wr) (fun v8 _ => zs.length - (intOf v8).toNat)
  case atStart => exact ⟨0, by omega, rfl, by rw [List.take_zero, fillAt_nil]; exact h, Upd.refl _ _⟩
  case round =>
    obtain ⟨j, hj, rfl, hr, hu⟩ := hrel
    have hfl : (fillAt ws i (zs.take j)).length = ws.length := fillAt_len (by simp; omega)
    obtain ⟨cap2, k0⟩ := hr.c0
    rw [hfl] at k0
    by_cases hlt : j < zs.length
    · have hjl : (j : Int) < (zs.length : Int) := by omega
      have hs2 := (hs.upd hu (fun b' o e => by cases e; simp; omega)).cells b1 o1 rfl j hlt
      have hf := hr.fb (i + j)
      have hc := hr.cw (i + j) (by omega)
      have hput := hr.put (i + j) (by omega) (wd zs j)
      rw [fillAt_snoc hlt hi] at hput
      generalize wd zs j = x at *
      obtain ⟨y, hy⟩ : ∃ y, wd (fillAt ws i (zs.take j)) (i + j) = y := ⟨_, rfl⟩
      rw [hy] at hc
      clear hy
      have HF := Lib.hid hfl
      clear hfl
      have hw1 : IntKind.u64.wrap (j : Int) = (j : Int) := by rw [IntKind.wrap_u64]; omega
      have hw2 : IntKind.u64.wrap ((i : Int) + (j : Int)) = (i : Int) + (j : Int) := by rw [IntKind.wrap_u64]; omega
      have hw3 : ((i : Int) + (j : Int)).toNat = i + j := by omega
      have hw4 : (0 : Int) ≤ (i : Int) + (j : Int) := by omega
      have hw5 : (i : Int) + (j : Int) < (ws.length : Int) := by omega
      go_wp2_with fail
      go_region
      all_goals
        go_wp2_with fail
        go_roundw
        case rel => exact ⟨j + 1, by omega, by go_num, hput.drew, (hu.drew).setCell (.inl (by simp)) _⟩
        case measure => simp [intOf]; omega
    · obtain rfl : j = zs.length := by omega
      rw [List.take_length] at hr
      go_wp2
      all_goals first | exact ⟨rfl, hr, hu⟩ | exact ⟨hr, hu⟩

end

end Go.Proofs.Ythjiiedpplimpaa
