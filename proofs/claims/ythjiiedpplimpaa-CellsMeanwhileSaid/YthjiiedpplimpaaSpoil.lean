/- An answer written over and grown (spoil): a slice of the call's own, one that was cut, or none. The conditions are sizes. -/
import Derived.Test.YthjiiedpplimpaaRefRow4
import Derived.Test.YthjiiedpplimpaaRefSum
import Derived.Test.YthjiiedpplimpaaLent
set_option linter.unusedSimpArgs false
set_option linter.unusedVariables false
set_option maxRecDepth 100000
namespace Go.Proofs.Ythjiiedpplimpaa
open Go.RowKit

/-- n cells of 99 (a name of its own) -/
def n99 (n : Nat) : List Value := List.replicate n (.int .u64 99)
theorem n99_len (n : Nat) : (n99 n).length = n := by simp [n99]
theorem n99_succ (n : Nat) : n99 n ++ [.int .u64 99] = n99 (n + 1) := by simp [n99, List.replicate_succ']
theorem n99_get {n i : Nat} (h : i < n) : (n99 n)[i]? = some (.int .u64 99) := by simp [n99, h]
/-- the cells behind i writes -/
def part99 (us : List Value) (i : Nat) : List Value := n99 i ++ us.drop i
theorem part99_zero (us : List Value) : part99 us 0 = us := by simp [part99, n99]
theorem part99_all (us : List Value) : part99 us us.length = n99 us.length := by simp [part99]
theorem part99_len {us : List Value} {i : Nat} (h : i ≤ us.length) : (part99 us i).length = us.length := by simp [part99, n99]; omega
theorem part99_set {us : List Value} {i : Nat} (h : i < us.length) : (part99 us i).set i (.int .u64 99) = part99 us (i + 1) := by
  unfold part99
  rw [List.set_append_right _ _ (by rw [n99_len]; omega), n99_len, Nat.sub_self, List.drop_eq_getElem_cons h, List.set_cons_zero, ← n99_succ]
  simp

theorem own_shut {w : World} {base g n c : Nat} {e : TypeId} {us spare : List Value} (h : Blk w g (us ++ spare) e) (hn : us.length = n) (hc : n + spare.length = c) (hm : c ≤ maxLen) (hb : base ≤ g) : w.ownsRow base e 1 (.slice (some ⟨g, 0, none⟩) n c) n us := by
  refine ⟨by simpa using hn, .inr ⟨g, c, (us ++ spare).toArray, rfl, hb, h, by omega, hm, by simp; omega, ?_⟩⟩
  simp [← hn]

/-- the slice while it grows -/
def Grow (w : World) (g n c : Nat) (rest : List Value) (cut : Bool) (v : Value) (j : Nat) (wr : World) : Prop :=
  Upd [g] w wr ∧ ((wr.ownsRow 0 27 1 v (n + j) (n99 (n + j)) ∧ ∀ k, v.ownBlock = some k → k = g ∨ w.heap.size ≤ k) ∨ (j = 0 ∧ v = .slice (some ⟨g, 0, none⟩) n c ∧ c = n ∧ Blk wr g (n99 n ++ rest) 27 ∧ cut = true))


theorem spoil_own {w : World} {g n c : Nat} {us rest : List Value} (hB : Blk w g (us ++ rest) 27) (hn : us.length = n) (hc : n + rest.length = c ∨ c = n) (hm : c ≤ maxLen) (hs : (n + 40) * 8 ≤ 140737488355328) :
    Calls Try.prog 79 #[.slice (some ⟨g, 0, none⟩) n c] w fun e w' => e = .returned (.bool true) ∧ Upd [g] w w' := by
  obtain ⟨i0, hi, hz0, hz1, hz2⟩ := info_parts info_u64
  refine calls_all fun K hK => ?_
  go_enter Try.func79, Try.ntmps79
  go_wp2
  go_loopw [3] (fun v3 wr => ∃ i : Nat, i ≤ n ∧ v3 = .int .i64 i ∧ Blk wr g (part99 us i ++ rest) 27 ∧ Upd [g] w wr) (fun v3 _ => n - (intOf v3).toNat)
  case atStart => exact ⟨0, by omega, rfl, by rw [part99_zero]; exact hB, Upd.refl _ _⟩
  case round =>
    obtain ⟨i, hi3, rfl, hb, hu⟩ := hrel
    by_cases hlt : i < n
    · have hl := part99_len (us := us) (i := i) (by omega)
      have hc3 := hb.cell i (v := (part99 us i)[i]'(by omega)) (by rw [List.getElem?_append_left (by omega)]; exact List.getElem?_eq_getElem _)
      have hf := hb.free i
      have hset := hb.set i (.int .u64 99)
      rw [List.set_append_left _ _ (by omega), part99_set (by omega)] at hset
      have hil : (i : Int) < (n : Int) := by omega
      have HN := Lib.hid hn
      generalize (part99 us i)[i] = z at hc3
      clear hl hn
      go_wp2
      go_roundw
      case rel => exact ⟨i + 1, by omega, by go_num, hset, hu.setCell (.inl (by simp)) _⟩
      case measure => simp [intOf]; omega
    · obtain rfl : i = n := by omega
      have hG : Grow w g i c rest true (.slice (some ⟨g, 0, none⟩) i c) 0 wr := by
        refine ⟨hu, ?_⟩
        rw [← hn, part99_all, hn] at hb
        rcases hc with hc | hc
        · exact .inl ⟨own_shut hb (n99_len _) hc hm (Nat.zero_le _), fun k hk => by simp [Value.ownBlock] at hk; exact .inl hk.symm⟩
        · exact .inr ⟨rfl, rfl, hc, hb, rfl⟩
      go_wp2
      clear hb hn hc
      obtain ⟨n, hin⟩ : ∃ n, n = i := ⟨_, rfl⟩
      subst hin
      go_loopw [4, 5] (fun v4 v5 wr => ∃ j : Nat, j ≤ 40 ∧ v5 = .int .i64 j ∧ Grow w g n c rest true v4 j wr) (fun _ v5 _ => 40 - (intOf v5).toNat)
      case atStart => exact ⟨0, by omega, rfl, hG⟩
      case round =>
        obtain ⟨j, hj, rfl, hu, hG⟩ := hrel
        have hs := hu.size
        by_cases hlt : j < 40
        · have hjl : (j : Int) < 40 := by omega
          rcases hG with ⟨ho, hk⟩ | ⟨rfl, rfl, hcn, hb, hct⟩
          · go_wp2_with (at_builtin; refine wpList_append_own_at _ rfl (.tmp 21) (.tmp 22) 31 rfl 0 27 i0 (.int .u64 0) 1 8 Try.underlying31 hi hz0 hz1 hz2 rfl (by decide) u4 (n + j) (n99 (n + j)) rfl (ho.alloc _) ⟨_, 0, none⟩ 1 1 [.int .u64 99] rfl rfl (news_new [.int .u64 99] 27 (by simp)) (by simp [Value.oneCell']) (by unfold maxLen; omega) (by omega) (by omega) ?_; intro v' w3 ho3 hg3 h5 h6; have HAT := Lib.hid h6; clear h5 h6)
            have hu3 : Upd [g] w w3 := (hu.alloc _).tr (Upd.own hg3) (fun _ h => .inl h) (fun k hm => by rcases hk k (by simpa using hm) with h | h; exact .inl (by simp [h]); exact .inr h)
            go_roundw
            case rel =>
              refine ⟨j + 1, by omega, by go_num, hu3, .inl ⟨by rw [n99_succ] at ho3; exact ho3, fun k hm => ?_⟩⟩
              rcases HAT.out with h | h
              · rw [hm] at h; exact hk k h.symm
              · rw [hm] at h; right; simp at h; omega
            case measure => simp [intOf]; omega
          · have HCN := Lib.hid hcn
            have hcl : c < n + 1 := by omega
            clear hcn
            go_wp2_with (at_builtin; refine wpList_append_grows _ rfl (.tmp 21) (.tmp 22) 31 rfl 27 i0 (.int .u64 0) 1 8 Try.underlying31 hi hz0 hz1 hz2 rfl (by decide) (some ⟨g, 0, none⟩) n c (n99 n) rfl (by simp) (by rw [n99_len]; omega) (fun b e j u hj => by cases e; exact news_blk (hb.alloc _) j u (by rw [List.getElem?_append_left (List.getElem?_eq_some_iff.1 hj).1]; exact hj)) ⟨_, 0, none⟩ 1 1 [.int .u64 99] rfl rfl (news_new [.int .u64 99] 27 (by simp)) (by simp [Value.oneCell']) hcl (by unfold maxLen; omega) (by omega) ?_; intro v' w3 ho3 hg3)
            have hu3 : Upd [g] w w3 := (hu.alloc _).trans (Upd.of_grown hg3 (fun k e => by cases e))
            go_roundw
            case rel =>
              rw [n99_succ] at ho3
              refine ⟨1, by omega, rfl, hu3, .inl ⟨⟨ho3.1, ?_⟩, fun k hm => ?_⟩⟩
              · rcases ho3.2 with h | ⟨g', cap, cur, h1, h2, h3⟩
                · exact .inl h
                · exact .inr ⟨g', cap, cur, h1, Nat.zero_le _, h3⟩
              · have := (ho3.lt k hm).1; simp at this; right; omega
            case measure => simp [intOf]
        · obtain rfl : j = 40 := by omega
          rcases hG with ⟨ho, hk⟩ | ⟨h, _⟩
          rotate_left
          · omega
          obtain ⟨g2, c2, rfl⟩ := own_some ho (by omega)
          go_wp2
          go_loop [6] (fun v6 => ∃ i : Nat, i ≤ n + 40 ∧ v6 = .int .i64 i) (fun v6 => n + 40 - (intOf v6).toNat)
          case atStart => exact ⟨0, by omega, rfl⟩
          case round =>
            obtain ⟨i, hi6, rfl⟩ := hrel
            by_cases hlt6 : i < n + 40
            · have hc6 := ho.cellAt i (by omega)
              rw [n99_get hlt6] at hc6
              have hil : (i : Int) < (n : Int) + 40 := by omega
              go_wp2
              go_round
              case rel => exact ⟨i + 1, by omega, by go_num⟩
              case measure => simp [intOf]; omega
            · obtain rfl : i = n + 40 := by omega
              go_wp2
              all_goals first | exact ⟨rfl, hu⟩ | exact hu

theorem spoil_nil (w : World) : Calls Try.prog 79 #[.slice none 0 0] w fun e w' => e = .returned (.bool true) ∧ Upd [] w w' := by
  obtain ⟨i0, hi, hz0, hz1, hz2⟩ := info_parts info_u64
  refine calls_to (R := fun e w' => e = .returned (.bool true) ∧ Upd [w.heap.size] w w') ?_ (fun e w' ⟨he, hu⟩ => ⟨he, hu.mono (by simp)⟩)
  refine calls_all fun K hK => ?_
  go_enter Try.func79, Try.ntmps79
  go_wp2
  go_loopw [3] (fun v3 wr => v3 = .int .i64 0 ∧ wr = w) (fun v3 _ => 0)
  case atStart => exact ⟨rfl, rfl⟩
  case round =>
    obtain ⟨rfl, hwr⟩ := hrel
    have hwr2 : w = wr := hwr.symm
    subst hwr2
    have hG : Grow w w.heap.size 0 0 [] false (.slice none 0 0) 0 w := ⟨Upd.refl _ _, .inl ⟨World.ownsRow_nil _ _ _ _, fun k hk => by simp [Value.ownBlock] at hk⟩⟩
    have hs : (0 + 40) * 8 ≤ 140737488355328 := by omega
    obtain ⟨g, hg⟩ : ∃ g, w.heap.size = g := ⟨_, rfl⟩
    have HG := Lib.hid hg
    rw [hg] at hG hK
    clear hg
    go_wp2
    go_loopw [4, 5] (fun v4 v5 wr => ∃ j : Nat, j ≤ 40 ∧ v5 = .int .i64 j ∧ Grow w g 0 0 [] false v4 j wr) (fun _ v5 _ => 40 - (intOf v5).toNat)
    case atStart => exact ⟨0, by omega, rfl, hG⟩
    case round =>
      obtain ⟨j, hj, rfl, hu, hG⟩ := hrel
      have hs := hu.size
      by_cases hlt : j < 40
      · have hjl : (j : Int) < 40 := by omega
        rcases hG with ⟨ho, hk⟩ | ⟨rfl, rfl, hcn, hb, hct⟩
        · go_wp2_with (at_builtin; refine wpList_append_own_at _ rfl (.tmp 21) (.tmp 22) 31 rfl 0 27 i0 (.int .u64 0) 1 8 Try.underlying31 hi hz0 hz1 hz2 rfl (by decide) u4 (0 + j) (n99 (0 + j)) rfl (ho.alloc _) ⟨_, 0, none⟩ 1 1 [.int .u64 99] rfl rfl (news_new [.int .u64 99] 27 (by simp)) (by simp [Value.oneCell']) (by unfold maxLen; omega) (by omega) (by omega) ?_; intro v' w3 ho3 hg3 h5 h6; have HAT := Lib.hid h6; clear h5 h6)
          have hu3 : Upd [g] w w3 := (hu.alloc _).tr (Upd.own hg3) (fun _ h => .inl h) (fun k hm => by rcases hk k (by simpa using hm) with h | h; exact .inl (by simp [h]); exact .inr h)
          go_roundw
          case rel =>
            refine ⟨j + 1, by omega, by go_num, hu3, .inl ⟨by rw [n99_succ] at ho3; exact ho3, fun k hm => ?_⟩⟩
            rcases HAT.out with h | h
            · rw [hm] at h; exact hk k h.symm
            · rw [hm] at h; right; simp at h; omega
          case measure => simp [intOf]; omega
        · cases hct
      · obtain rfl : j = 40 := by omega
        rcases hG with ⟨ho, hk⟩ | ⟨h, _⟩
        rotate_left
        · omega
        obtain ⟨g2, c2, rfl⟩ := own_some ho (by omega)
        go_wp2
        go_loop [6] (fun v6 => ∃ i : Nat, i ≤ 0 + 40 ∧ v6 = .int .i64 i) (fun v6 => 0 + 40 - (intOf v6).toNat)
        case atStart => exact ⟨0, by omega, rfl⟩
        case round =>
          obtain ⟨i, hi6, rfl⟩ := hrel
          by_cases hlt6 : i < 0 + 40
          · have hc6 := ho.cellAt i (by omega)
            rw [n99_get hlt6] at hc6
            have hil : (i : Int) < (0 : Int) + 40 := by omega
            go_wp2
            go_round
            case rel => exact ⟨i + 1, by omega, by go_num⟩
            case measure => simp [intOf]; omega
          · obtain rfl : i = 0 + 40 := by omega
            go_wp2
            all_goals first | exact ⟨rfl, hu⟩ | exact hu

/-- the lent words are as they were -/
theorem left_any {w : World} {g c c' : Nat} {p : Option Addr} {zs : List Int} {spare : List Value} (hB : Blk w g (zs.map (Value.int .u64) ++ ([.int .u64 77, .int .u64 78] ++ spare)) 27) (hc : zs.length + 2 ≤ c) (hm : zs.length * 8 ≤ 140737488351232) (hs : SlI w .u64 p zs) :
    Calls Try.prog 49 #[.slice (some ⟨g, 0, none⟩) zs.length c, .slice p zs.length c'] w fun e w' => e = .returned (.bool true) ∧ Qt w w' := by
  have h1 := SlI.of_blk hB
  have c1 := hB.cell zs.length (v := .int .u64 77) (by rw [List.getElem?_append_right (by simp)]; simp)
  have c2 := hB.cell (zs.length + 1) (v := .int .u64 78) (by rw [List.getElem?_append_right (by simp)]; simp)
  have hsw := same_words c c' h1 hs (by omega) (by omega)
  rw [decide_eq_true rfl] at hsw
  have hcc : (zs.length : Int) + 2 ≤ (c : Int) := by omega
  clear h1 hs hB
  refine calls_all fun K hK => ?_
  go_enter Try.func49, Try.ntmps49
  go_wp2_with fail
  refine (hsw).mono ?_
  rintro e w1 ⟨rfl, n, rfl⟩
  go_wp2
  all_goals first | exact ⟨rfl, n, rfl⟩ | exact ⟨n, rfl⟩

end Go.Proofs.Ythjiiedpplimpaa
