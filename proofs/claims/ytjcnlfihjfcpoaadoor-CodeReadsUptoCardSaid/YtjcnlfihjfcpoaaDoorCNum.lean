/- number: decimal digits without a 0 ahead of others, as a word. The conditions: the library's two errors are laid; the string is of a size that Go allows. -/
import Derived.Test.YtjcnlfihjfcpoaaDoorBase
import Derived.Test.YtjcnlfihjfcpoaaDoorShelf
import Derived.Lib.OthersKept
import Derived.Lib.Strings
import Derived.Lib.RuneCount
import Derived.BigQuiet
set_option linter.unusedSimpArgs false
set_option linter.unusedVariables false
set_option maxRecDepth 100000
namespace Go.Proofs.YtjcnlfihjfcpoaaDoor
open Go.RowKit

theorem Upd.drewN {S : List Nat} {a b : World} (h : Upd S a b) (n : Nat) : Upd S a (b.drewN n) := h.trans ⟨rfl, rfl, rfl, Nat.le_refl _, fun _ _ _ => rfl⟩

theorem decode_big (s : ByteArray) (pos : Nat) (h : ¬ (s.get! pos).toNat < 128) : 128 ≤ (Utf8.decode s pos).1 := by
  unfold Utf8.decode
  simp only [Nat.add_zero]
  rw [if_neg h]
  repeat' split
  all_goals first | omega | (simp only [Utf8.runeError]; omega) | skip
  all_goals simp_all
  all_goals omega

/-- the library's errors are laid -/
def Errs (w : World) : Prop := (∃ tp p, w.var? Tryd.prog "strconv.ErrSyntax" = some #[.iface tp p]) ∧ (∃ tp p, w.var? Tryd.prog "strconv.ErrRange" = some #[.iface tp p])

theorem var_upd {w w' : World} {n : String} {v : Array Value} (h : w.var? Tryd.prog n = some v) (u : Upd [] w w') : w'.var? Tryd.prog n = some v := by
  unfold World.var? at *
  cases hg : (Tryd.prog).globalNamed n with
  | none => simp [hg] at h
  | some g =>
    simp only [hg, Option.bind_some] at h ⊢
    have hlt : g < w.heap.size := by
      rcases Nat.lt_or_ge g w.heap.size with h' | h'
      · exact h'
      · rw [Array.getElem?_eq_none h'] at h; simp at h
    rw [u.block g hlt (by simp)]
    exact h

theorem Errs.upd {w w' : World} (h : Errs w) (u : Upd [] w w') : Errs w' := by
  obtain ⟨⟨a, b, h1⟩, c, d, h2⟩ := h
  exact ⟨⟨a, b, var_upd h1 u⟩, c, d, var_upd h2 u⟩

def isDig (c : UInt8) : Bool := decide (48 ≤ c.toNat ∧ c.toNat ≤ 57)
def plainNum (l : List UInt8) : Bool := l.all isDig && !(decide (l.length > 1) && decide (l.head? = some 48))
def numEnd : Lib.NumEnd Nat → Nat × Bool
  | .ok u => (u, true)
  | .range => (18446744073709551615, false)
  | _ => (0, false)
def numL (l : List UInt8) : Nat × Bool := if plainNum l then numEnd (Lib.parseUintB 64 l) else (0, false)

theorem getb (s : ByteArray) (j : Nat) (h : j < s.size) : s.data.toList[j]? = some (s.get! j) := by
  have h1 := Lib.getD_at s j h
  have h2 : j < s.data.toList.length := by simpa using h
  rw [List.getElem?_eq_getElem h2]
  congr 1
  cases s with
  | mk d =>
    have h3 : j < d.size := h
    simp [ByteArray.get!, h3]

theorem plain_yes (s : ByteArray) (hd : ∀ j, j < s.size → isDig (s.get! j) = true) (hz : 0 < s.size → ¬ (1 < s.size ∧ s.get! 0 = 48)) : plainNum s.data.toList = true := by
  have hl : s.data.toList.length = s.size := (Lib.size_eq s).symm
  unfold plainNum
  rw [Bool.and_eq_true]
  constructor
  · rw [List.all_eq_true]
    intro c hc
    obtain ⟨j, hj, rfl⟩ := List.getElem_of_mem hc
    have := getb s j (by omega)
    rw [List.getElem?_eq_getElem hj, Option.some.injEq] at this
    rw [this]
    exact hd j (by omega)
  · by_cases h1 : 1 < s.size
    · have h0 := hz (by omega)
      have hne : s.get! 0 ≠ 48 := fun e => h0 ⟨h1, e⟩
      have := getb s 0 (by omega)
      rw [List.head?_eq_getElem?, this]
      simp [hne]
    · have hle : ¬ s.data.toList.length > 1 := by omega
      rw [decide_eq_false hle]
      rfl

theorem plain_no1 (s : ByteArray) (j : Nat) (hj : j < s.size) (h : isDig (s.get! j) = false) : plainNum s.data.toList = false := by
  have hm : s.get! j ∈ s.data.toList := List.mem_of_getElem? (getb s j hj)
  unfold plainNum
  rw [Bool.and_eq_false_iff]
  left
  rw [List.all_eq_false]
  exact ⟨_, hm, by simp [h]⟩

theorem plain_no2 (s : ByteArray) (h1 : 1 < s.size) (h : s.get! 0 = 48) : plainNum s.data.toList = false := by
  have hl : s.data.toList.length = s.size := (Lib.size_eq s).symm
  have := getb s 0 (by omega)
  unfold plainNum
  rw [List.head?_eq_getElem?, this, h]
  have : decide (s.data.toList.length > 1) = true := decide_eq_true (by omega)
  rw [this]
  simp

/-- ParseUint as the code asks it -/
theorem parse_uint (s : ByteArray) (hs : s.size ≤ 281474976710656) (w : World) (he : Errs w) :
    Calls Tryd.prog 46 #[.string s, .int .i64 10, .int .i64 64] w fun e w' => ∃ er, e = .returned (.tuple #[.int .u64 ((numEnd (Lib.parseUintB 64 s.data.toList)).1 : Nat), er]) ∧ ((er = .nilIface ∧ (numEnd (Lib.parseUintB 64 s.data.toList)).2 = true) ∨ ((∃ N, er = .iface 112 (.pointer (some ⟨N, 0, none⟩))) ∧ (numEnd (Lib.parseUintB 64 s.data.toList)).2 = false)) ∧ Upd [] w w' := by
  rcases h : Lib.parseUintB 64 s.data.toList with u | _ | _
  · refine (Tryd.strconv_ParseUint_10_at64_ok s (by omega) u h w).mono ?_
    rintro e w' ⟨rfl, hw⟩
    refine ⟨_, rfl, .inl ⟨rfl, rfl⟩, ?_⟩
    rcases hw with rfl | rfl
    · exact Upd.refl _ _
    · exact Upd.of_below (Lib.bytesWorld_below _ _ _)
  · obtain ⟨⟨tp, p, hv⟩, _⟩ := he
    refine (Tryd.strconv_ParseUint_10_at64_syntax_var s hs h tp p w hv).mono ?_
    rintro e w' ⟨N, rfl, _, _, hb⟩
    exact ⟨_, rfl, .inr ⟨⟨N, rfl⟩, rfl⟩, Upd.of_below hb⟩
  · obtain ⟨_, tp, p, hv⟩ := he
    refine (Tryd.strconv_ParseUint_10_at64_range_var s hs h tp p w hv).mono ?_
    rintro e w' ⟨N, rfl, _, _, hb⟩
    exact ⟨_, rfl, .inr ⟨⟨N, rfl⟩, rfl⟩, Upd.of_below hb⟩

set_option maxHeartbeats 6400000 in
theorem number_any (s : ByteArray) (hs : s.size ≤ 140737488355328) (w : World) (he : Errs w) :
    Calls Tryd.prog 38 #[.string s] w fun e w' => e = .returned (.tuple #[.int .u64 ((numL s.data.toList).1 : Nat), .bool (numL s.data.toList).2]) ∧ Upd [] w w' := by
  have hk0 : (w.iter s 0).heap[w.heap.size]? = some (.stringIter s 0) := World.iter_heap w s 0
  have hb0 : Upd [] w (w.iter s 0) := (Upd.refl _ w).alloc _
  have hLn : s.data.toList.length = s.size := (Lib.size_eq s).symm
  refine calls_all fun K hK => ?_
  go_enter Tryd.func38, Tryd.ntmps38
  go_wp2
  go_loopw [4] (fun _ wr => ∃ pos : Nat, pos ≤ s.size ∧ wr.heap[w.heap.size]? = some (.stringIter s pos) ∧ (∀ j, j < pos → isDig (s.get! j) = true) ∧ (0 < pos → ¬ (1 < s.size ∧ s.get! 0 = 48)) ∧ Upd [] w wr) (fun _ wr => s.size - wr.iterPos w.heap.size)
  case atStart => exact ⟨0, by omega, hk0, by omega, by omega, hb0⟩
  case round =>
    obtain ⟨pos, hps, hk, hdig, hz, hu⟩ := hrel
    by_cases hp : pos < s.size
    · have hnext : ∀ ty, (Instr.next (.pointer (some ⟨w.heap.size, 0, none⟩)) true ty).run Tryd.prog wr = _ := fun ty => Lib.run_next_any_at wr w.heap.size s pos ty hk hp
      have hk1 := Lib.iterAt_heap wr w.heap.size s pos (pos + (Utf8.decode s pos).2) hk
      have hw1 := Lib.decode_width_pos s pos hp
      have hu1 : Upd [] w (wr.iterAt w.heap.size s (pos + (Utf8.decode s pos).2)) := Upd.of_below (Lib.below_iterAt (hu.below (Nat.le_refl _) (by simp)) (Nat.le_refl _) s _)
      have hmu : wr.iterPos w.heap.size = pos := by simp [World.iterPos, hk]
      have HU1 := Lib.hid hu1
      have HP := Lib.hid hps
      clear hk0 hb0 hu1 hu hps
      by_cases hd : isDig (s.get! pos) = true
      · have hd' := of_decide_eq_true hd
        have hb128 : (s.get! pos).toNat < 128 := by omega
        have hdec : Utf8.decode s pos = ((s.get! pos).toNat, 1) := by
          unfold Utf8.decode
          simp only [Nat.add_zero]
          rw [if_pos hb128]
        rw [hdec] at hnext hk1 HU1
        simp only at hnext hk1 HU1
        generalize wr.iterAt w.heap.size s (pos + 1) = W1 at hnext hk1 HU1
        obtain ⟨r, hr⟩ : ∃ r : Nat, (s.get! pos).toNat = r := ⟨_, rfl⟩
        rw [hr] at hnext hd'
        obtain ⟨r1, r2⟩ := hd'
        have hr1 : ¬ (r : Int) < 48 := by omega
        have hr2 : ¬ 57 < (r : Int) := by omega
        have HD := Lib.hid hd
        have HDg := Lib.hid hdig
        have HZ := Lib.hid hz
        have HRr := Lib.hid hr
        clear hd hdig hz hr hb128 hdec hk hw1
        by_cases hp0 : pos = 0
        · have e0 : ((pos : Int) == 0) = true := by subst hp0; rfl
          by_cases h48 : r = 48
          · have e1 : ((r : Int) == 48) = true := by subst h48; rfl
            have hg : s.get! 0 = 48 := by have := HRr.out; rw [hp0, h48] at this; exact UInt8.toNat_inj.1 this
            by_cases h1 : 1 < s.size
            · have e2 : 1 < (s.size : Int) := by omega
              have hno : plainNum s.data.toList = false := plain_no2 s h1 hg
              have HN : Hid (numL s.data.toList = (0, false)) := Lib.hid (by unfold numL; rw [hno]; rfl)
              clear hno hp0 h48 h1 HRr hg
              go_wp2
              all_goals first | exact ⟨by rw [HN.out]; rfl, HU1.out⟩ | (rw [HN.out]; exact ⟨rfl, HU1.out⟩) | (rw [HN.out]; exact ⟨⟨rfl, rfl⟩, HU1.out⟩)
            · have e2 : ¬ 1 < (s.size : Int) := by omega
              have HQ : Hid (¬ (1 < s.size ∧ s.get! 0 = 48)) := Lib.hid (fun h => h1 h.1)
              clear hp0 h48 HRr hg
              go_wp2
              go_roundw
              case rel =>
                refine ⟨pos + 1, by omega, hk1, fun j hj => ?_, fun _ => ?_, HU1.out⟩
                · rcases Nat.lt_succ_iff_lt_or_eq.1 hj with h | rfl
                  · exact HDg.out j h
                  · exact HD.out
                · exact HQ.out
              case measure =>
                have hmu2 : W1.iterPos w.heap.size = pos + 1 := by simp [World.iterPos, hk1]
                rw [hmu, hmu2]
                omega
          · have e1 : ((r : Int) == 48) = false := beq_eq_false_iff_ne.2 (by omega)
            have HQ : Hid (¬ (1 < s.size ∧ s.get! 0 = 48)) := Lib.hid (fun h => h48 (by have := HRr.out; rw [hp0, h.2] at this; exact this.symm))
            clear hp0 h48 HRr
            go_wp2
            go_roundw
            case rel =>
              refine ⟨pos + 1, by omega, hk1, fun j hj => ?_, fun _ => ?_, HU1.out⟩
              · rcases Nat.lt_succ_iff_lt_or_eq.1 hj with h | rfl
                · exact HDg.out j h
                · exact HD.out
              · exact HQ.out
            case measure =>
              have hmu2 : W1.iterPos w.heap.size = pos + 1 := by simp [World.iterPos, hk1]
              rw [hmu, hmu2]
              omega
        · have e0 : ((pos : Int) == 0) = false := beq_eq_false_iff_ne.2 (by omega)
          have HQ : Hid (¬ (1 < s.size ∧ s.get! 0 = 48)) := Lib.hid (HZ.out (by omega))
          clear hp0 HRr
          go_wp2
          go_roundw
          case rel =>
            refine ⟨pos + 1, by omega, hk1, fun j hj => ?_, fun _ => ?_, HU1.out⟩
            · rcases Nat.lt_succ_iff_lt_or_eq.1 hj with h | rfl
              · exact HDg.out j h
              · exact HD.out
            · exact HQ.out
          case measure =>
            have hmu2 : W1.iterPos w.heap.size = pos + 1 := by simp [World.iterPos, hk1]
            rw [hmu, hmu2]
            omega
      · have hd0 : isDig (s.get! pos) = false := by simpa using hd
        have hno := plain_no1 s pos hp hd0
        have HN : Hid (numL s.data.toList = (0, false)) := Lib.hid (by unfold numL; rw [hno]; rfl)
        have hr : (Utf8.decode s pos).1 < 48 ∨ 57 < (Utf8.decode s pos).1 := by
          by_cases hb : (s.get! pos).toNat < 128
          · have hdec : Utf8.decode s pos = ((s.get! pos).toNat, 1) := by
              unfold Utf8.decode
              simp only [Nat.add_zero]
              rw [if_pos hb]
            rw [hdec]
            unfold isDig at hd0
            have := of_decide_eq_false hd0
            simp only
            omega
          · have := decode_big s pos hb
            omega
        clear hno hd0 hd hdig hz
        generalize wr.iterAt w.heap.size s (pos + (Utf8.decode s pos).2) = W1 at hnext hk1 HU1
        generalize (Utf8.decode s pos).1 = r at hnext hr
        generalize (Utf8.decode s pos).2 = wd at *
        by_cases hr1 : (r : Int) < 48
        · go_wp2
          all_goals first | exact ⟨by rw [HN.out]; rfl, HU1.out⟩ | (rw [HN.out]; exact ⟨rfl, HU1.out⟩) | (rw [HN.out]; exact ⟨⟨rfl, rfl⟩, HU1.out⟩)
        · have hr2 : 57 < (r : Int) := by omega
          clear hr
          go_wp2
          all_goals first | exact ⟨by rw [HN.out]; rfl, HU1.out⟩ | (rw [HN.out]; exact ⟨rfl, HU1.out⟩) | (rw [HN.out]; exact ⟨⟨rfl, rfl⟩, HU1.out⟩)
    · have hpe : pos = s.size := by omega
      have hnext : ∀ ty, (Instr.next (.pointer (some ⟨w.heap.size, 0, none⟩)) true ty).run Tryd.prog wr = _ := fun ty => Lib.run_next_end_at wr w.heap.size s pos ty hk hp
      have hyes := plain_yes s (fun j hj => hdig j (by omega)) (fun h => hz (by omega))
      have HN : Hid (numL s.data.toList = numEnd (Lib.parseUintB 64 s.data.toList)) := Lib.hid (by unfold numL; rw [hyes]; rfl)
      have HU := Lib.hid hu
      have he1 := he.upd hu
      clear hyes hdig hz hu hpe hps hk0 hb0
      go_wp2_with fail
      refine (parse_uint s (by omega) _ he1).mono ?_
      rintro e w2 ⟨er, rfl, her, u2⟩
      have HU2 := Lib.hid (HU.out.trans u2)
      clear u2
      generalize numEnd (Lib.parseUintB 64 s.data.toList) = X at *
      rcases her with ⟨rfl, hx⟩ | ⟨⟨N, rfl⟩, hx⟩
      · have HX := Lib.hid hx
        clear hx
        go_wp2_with fail
        go_quiet (fail)
        go_wp2
        all_goals first | exact ⟨by rw [HN.out, HX.out]; rfl, (HU2.out).drewN _⟩ | (rw [HN.out, HX.out]; exact ⟨rfl, (HU2.out).drewN _⟩) | exact ⟨by rw [HN.out, ← HX.out]; rfl, (HU2.out).drewN _⟩
      · have HX := Lib.hid hx
        clear hx
        go_wp2_with fail
        go_quiet (fail)
        go_wp2
        all_goals first | exact ⟨by rw [HN.out, HX.out]; rfl, (HU2.out).drewN _⟩ | (rw [HN.out, HX.out]; exact ⟨rfl, (HU2.out).drewN _⟩) | exact ⟨by rw [HN.out, ← HX.out]; rfl, (HU2.out).drewN _⟩
end Go.Proofs.YtjcnlfihjfcpoaaDoor
