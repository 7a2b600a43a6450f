/- event: a line that begins as one. The conditions: the library's errors are laid; sizes. -/
import Derived.Test.YtfldpejifpmapaaDoorEEv
import Derived.Test.YtfldpejifpmapaaDoorEffC
import Derived.Deep.Cut
import Derived.Deep.CutRange
import Derived.Deep.CutBlock
set_option linter.unusedSimpArgs false
set_option linter.unusedVariables false
set_option maxRecDepth 100000
namespace Go.Proofs.YtfldpejifpmapaaDoor
open Go.RowKit
open Go.Maps
-- up to region 4: W5 the world, rb the result's block; N1 N2 N3: what number tells; B2 S2: the blank; NM RS FD: the cut
theorem names_code2 (w : World) : Calls Tryd.prog 39 #[] w fun e w' => e = .returned (.agg #[.string ⟨#[]⟩, .string ⟨#[98, 101, 103, 105, 110]⟩, .string ⟨#[114, 101, 97, 100]⟩, .string ⟨#[119, 114, 105, 116, 101]⟩, .string ⟨#[109, 111, 118, 101, 100]⟩, .string ⟨#[108, 111, 99, 107, 101, 100]⟩, .string ⟨#[99, 111, 109, 109, 105, 116, 116, 101, 100]⟩, .string ⟨#[115, 116, 97, 108, 101]⟩, .string ⟨#[97, 98, 111, 114, 116, 101, 100]⟩, .string ⟨#[102, 97, 105, 108, 101, 100]⟩, .string ⟨#[108, 111, 97, 100, 101, 100]⟩, .string ⟨#[115, 116, 111, 114, 101, 100]⟩, .string ⟨#[104, 97, 108, 116, 101, 100]⟩]) ∧ Upd [] w w' := names_code w
theorem names_cells {w : World} {nb : Nat} (h : Blk w nb (namesB.map Value.string) 74) : ∀ j, j < namesB.length → w.cell? ⟨nb, 0 + j, none⟩ = some (.string (namesB.getD j ByteArray.empty)) := by
  intro j hj
  rw [Nat.zero_add]
  refine h.cell j ?_
  rw [List.getElem?_map, List.getElem?_eq_getElem hj, List.getD_eq_getElem?_getD, List.getElem?_eq_getElem hj]
  rfl
theorem slices_ix {w : World} {nb : Nat} (x : ByteArray) (h : Blk w nb (namesB.map Value.string) 74) : Calls Tryd.prog 62 #[.slice (some ⟨nb, 0, none⟩) 13 13, .string x] w fun e w' => e = .returned (.int .i64 (Lib.idxOfS namesB x)) ∧ w' = w :=
  Tryd.slices_Index_string nb 0 13 13 namesB x w (by decide) (by decide) (names_cells h)
def u64C (x : Nat) : Value := .int .u64 (x : Int)
def strLen : Value → Nat
  | .string b => b.size
  | _ => 0
theorem wordsF_nil (n : Nat) : wordsF n [] = some [] := by cases n <;> rfl
theorem info_w : (Tryd.prog.info? 24).map (fun i => (i.zero, i.size, i.bytes)) = some (some (.int .u64 0), 1, 8) := by kernel_rfl
/-- words are appended -/
theorem app_w {W : World} {base : Nat} {v : Value} {ws : List Nat} (h : W.ownsRow base 24 1 v ws.length (ws.map u64C)) (xs : List Nat) (hn : ws.length + xs.length ≤ 1000000000000) (hb : base ≤ W.heap.size) :
    ∃ v' w', (Builtin.append_ #[114, 114] 114 #[v, .slice (some ⟨W.heap.size, 0, none⟩) xs.length xs.length]).run Tryd.prog (W.alloc (.cells (xs.map u64C).toArray 24)) = .ok v' w' ∧ w'.ownsRow base 24 1 v' (ws ++ xs).length ((ws ++ xs).map u64C) ∧ Upd v.ownBlock.toList (W.alloc (.cells (xs.map u64C).toArray 24)) w' := by
  obtain ⟨i0, hi, hz0, hz1, hz2⟩ := info_parts info_w
  have hW := own_upd h ((Upd.refl [] W).alloc (.cells (xs.map u64C).toArray 24)) (by simp)
  obtain ⟨v', w', hr, ho, hg, _, _⟩ := run_append_own_at (P := Tryd.prog) (W.alloc (.cells (xs.map u64C).toArray 24)) base 114 114 24 i0 (.int .u64 0) 1 8 Tryd.underlying114 hi hz0 hz1 hz2 rfl (by decide) v ws.length (ws.map u64C) hW
    ⟨W.heap.size, 0, none⟩ xs.length xs.length (xs.map u64C) (by simp) (news_new _ 24 rfl) (fun u hu => by obtain ⟨x, _, rfl⟩ := List.mem_map.1 hu; rfl) (by unfold maxLen; omega) (by omega) (by rw [World.size_alloc]; omega)
  rw [← List.map_append, ← List.length_append] at ho
  exact ⟨v', w', hr, ho, Upd.own hg⟩
theorem app_w1 {W : World} {base : Nat} {v : Value} {ws : List Nat} (h : W.ownsRow base 24 1 v ws.length (ws.map u64C)) (x : Nat) (hn : ws.length + 1 ≤ 1000000000000) (hb : base ≤ W.heap.size) :
    ∃ v' w', (Builtin.append_ #[114, 114] 114 #[v, .slice (some ⟨W.heap.size, 0, none⟩) 1 1]).run Tryd.prog (W.alloc (.cells #[.int .u64 (x : Int)] 24)) = .ok v' w' ∧ w'.ownsRow base 24 1 v' (ws ++ [x]).length ((ws ++ [x]).map u64C) ∧ Upd v.ownBlock.toList (W.alloc (.cells #[.int .u64 (x : Int)] 24)) w' := app_w h [x] hn hb
theorem app_w2 {W : World} {base : Nat} {v : Value} {ws : List Nat} (h : W.ownsRow base 24 1 v ws.length (ws.map u64C)) (hn : ws.length + 2 ≤ 1000000000000) (hb : base ≤ W.heap.size) :
    ∃ v' w', (Builtin.append_ #[114, 114] 114 #[v, .slice (some ⟨W.heap.size, 0, none⟩) 2 2]).run Tryd.prog (W.alloc (.cells #[.int .u64 0, .int .u64 0] 24)) = .ok v' w' ∧ w'.ownsRow base 24 1 v' (ws ++ [0, 0]).length ((ws ++ [0, 0]).map u64C) ∧ Upd v.ownBlock.toList (W.alloc (.cells #[.int .u64 0, .int .u64 0] 24)) w' := app_w h [0, 0] hn hb
theorem wrap_w (z : Int) : wrap64 z = IntKind.i64.wrap z := by
  first | (rw [IntKind.wrap_i64]; unfold wrap64; rfl) | (rw [IntKind.wrap_i64]; simp only [wrap64])
set_option maxHeartbeats 8000000 in
theorem event_good (s : ByteArray) (hs : s.size < 4294967281) (w : World) (hP : PreE w) (hg : (numberL s.data.toList).2.2 = true ∧ Lib.hasPrefix (numberL s.data.toList).2.1 [32] = true ∧ (numberL s.data.toList).1 < 8) : Calls Tryd.prog 50 #[.string s] w fun r w' => r = .returned (.tuple #[(evO (eventL s.data.toList)).val, .bool (eventL s.data.toList).isSome]) ∧ Upd [] w w' := by
  obtain ⟨W1, hW1⟩ : ∃ W, w.alloc (.cells #[.int .i64 0, .int .i64 0, .int .u64 0, .int .u64 0, .bool false, .int .i64 0] 27) = W := ⟨_, rfl⟩
  have u1 : Upd [] w W1 := by rw [← hW1]; exact (Upd.refl [] _).alloc _
  have B1 : Blk W1 w.heap.size zeroCells 27 := by rw [← hW1]; exact Blk.new w zeroCells _
  have HNUM := Lib.hid (fun (W : World) (u : Upd [] w W) => number_code s (by omega) W (hP.upd u).errs)
  have hn1 := number_lt s.data.toList
  have hn2 := number_le s.data.toList
  have HCP := Lib.hid (fun (W : World) => Tryd.strings_CutPrefix ⟨(numberL s.data.toList).2.1.toArray⟩ ⟨#[32]⟩ W)
  have HCUT := Lib.hid (fun (W : World) (u : Upd [] w W) => by obtain ⟨m, hm⟩ := (hP.upd u).max; exact Tryd.strings_Cut ⟨(Lib.trimPrefix (numberL s.data.toList).2.1 [32]).toArray⟩ ⟨#[32]⟩ m W (by have := trim_len (numberL s.data.toList).2.1 [32]; rw [Lib.size_eq] at hs ⊢; simp only [List.toList_toArray]; omega) hm)
  have HO := Lib.hid (show eventL s.data.toList = _ from by unfold eventL; exact rfl)
  have HSZ := Lib.hid hs
  have HP := Lib.hid hP
  simp only [List.toList_toArray] at HCP HCUT
  obtain ⟨o, ho⟩ : ∃ o, eventL s.data.toList = o := ⟨_, rfl⟩
  rw [ho] at HO ⊢
  generalize numberL s.data.toList = n at *
  obtain ⟨n1, n2, n3⟩ := n
  dsimp only at HNUM HCP HCUT HO hn1 hn2
  generalize hsb : Lib.hasPrefix n2 [32] = b2 at *
  have ht := trim_len n2 [32]
  generalize Lib.trimPrefix n2 [32] = s2 at *
  have hc := cut_len s2 [32]
  generalize Lib.cut s2 [32] = c at *
  obtain ⟨nm, rs, fd⟩ := c
  dsimp only at HCUT HO hc
  have HRB := Lib.hid B1
  have HU1 := Lib.hid u1
  clear ho hsb B1 u1 hP hs
  refine calls_all fun K hK => ?_
  go_enter Tryd.func50, Tryd.ntmps50
  go_wp2_with fail
  refine (HNUM.out W1 HU1.out).mono ?_
  rintro e W2 ⟨rfl, u2⟩
  have HU2 := Lib.hid (HU1.out.trans u2)
  have HR2 := Lib.hid (HRB.out.upd u2 (by simp))
  clear u2 HU1 HRB hW1 HNUM
  go_wp2_with fail
  refine (HCP.out _).mono ?_
  rintro e W3 ⟨rfl, rfl⟩
  go_wp2_with fail
  refine (HCUT.out _ HU2.out).mono ?_
  rintro e W4 ⟨rfl, nq, rfl⟩
  have ud : Upd [] W3 (W3.drewN nq) := (Upd.refl _ _).drewN _
  have HU4 := Lib.hid (HU2.out.trans ud)
  have HR4 := Lib.hid (HR2.out.upd ud (by simp))
  generalize W3.drewN nq = W4 at HU4 HR4 ⊢
  clear ud HU2 HR2 HCP HCUT
  obtain ⟨rb, hrb⟩ : ∃ b, w.heap.size = b := ⟨_, rfl⟩
  have HWR := Lib.hid (Nat.le_of_eq hrb)
  rw [hrb] at HR4 ⊢
  clear hrb
  try dsimp only at hg
  have HOG := Lib.hid (HO.out.trans (if_pos hg))
  obtain ⟨h1, h2, h8⟩ := hg
  subst h1
  subst h2
  clear HO
  have d8 : decide (8 ≤ (n1 : Int)) = false := decide_eq_false (by omega)
  have d8' : decide (8 ≤ n1) = false := decide_eq_false (by omega)
  have hn8 : (n1 : Int) < 8 := by omega
  have hn0 : 0 ≤ (n1 : Int) := by omega
  obtain ⟨own, hown⟩ : ∃ b, (nm == [111, 119, 110]) = b := ⟨_, rfl⟩
  obtain ⟨nm2, hnm2⟩ : ∃ l, (if own = true then [114, 101, 97, 100] else nm) = l := ⟨_, rfl⟩
  have HOG2 := Lib.hid (show o = (wordsF rs.length rs).map (evOf n1 own (kindL nm2)) by
    rw [HOG.out, ← hnm2, ← hown]
    by_cases q : nm = [111, 119, 110]
    · rw [if_pos q, decide_eq_true q, if_pos (by simpa using q), show (nm == [111, 119, 110]) = true by simpa using q]
    · rw [if_neg q, decide_eq_false q, if_neg (by simpa using q), show (nm == [111, 119, 110]) = false by simpa using q])
  clear HOG
  have HNM := Lib.hid hnm2
  clear hnm2
  go_upto_region 7 with fail
  obtain ⟨W5, hW5⟩ : ∃ W, W4.alloc (.cells #[.int .i64 (n1 : Int), .int .i64 0, .int .u64 0, .int .u64 0, .bool own, .int .i64 0] 27) = W := ⟨_, rfl⟩
  obtain ⟨xb, hxb⟩ : ∃ b, W4.heap.size = b := ⟨_, rfl⟩
  have HX5 := Lib.hid (show Blk W5 xb [.int .i64 (n1 : Int), .int .i64 0, .int .u64 0, .int .u64 0, .bool own, .int .i64 0] 27 by rw [← hW5, ← hxb]; exact Blk.new W4 [.int .i64 (n1 : Int), .int .i64 0, .int .u64 0, .int .u64 0, .bool own, .int .i64 0] 27)
  have HR5 := Lib.hid (show Blk W5 rb zeroCells 27 by rw [← hW5]; exact HR4.out.alloc _)
  have HU5 := Lib.hid (show Upd [] w W5 by rw [← hW5]; exact HU4.out.alloc _)
  have HXR := Lib.hid (show rb < xb by have := HR4.out.lt; omega)
  rw [hW5, hxb]
  have x4 := HX5.out.cell 4 rfl
  clear HR4 HU4 hW5 hxb hown d8 d8'
  go_upto_if 50 with fail
  go_cut [7] from 50 to 50 (fun v7 wx => v7 = .string ⟨nm2.toArray⟩ ∧ wx = W5)
  case first =>
    cases own with
    | false =>
      obtain rfl : nm = nm2 := by have := HNM.out; rw [if_neg (by decide)] at this; exact this
      go_wp2_with fail
      go_meet
      exact ⟨rfl, rfl⟩
    | true =>
      obtain rfl : [114, 101, 97, 100] = nm2 := by have := HNM.out; rw [if_pos rfl] at this; exact this
      go_wp2_with fail
      go_meet
      exact ⟨rfl, rfl⟩
  case rest =>
    obtain ⟨rfl, rfl⟩ := hcut
    obtain ⟨W5, rfl⟩ : ∃ W, W = wc := ⟨wc, rfl⟩
    clear x4 HNM
    go_wp2_with fail
    refine (names_code2 _).mono ?_
    rintro e W6 ⟨rfl, u6⟩
    have HX6 := Lib.hid (HX5.out.upd u6 (by simp))
    have HR6 := Lib.hid (HR5.out.upd u6 (by simp))
    have HU6 := Lib.hid (HU5.out.trans u6)
    clear u6 HX5 HR5 HU5
    go_wp2_with fail
    have HN7 := Lib.hid (Blk.new W6 (namesB.map Value.string) 74)
    have ua : Upd [] W6 (W6.alloc (.cells (namesB.map Value.string).toArray 74)) := (Upd.refl _ _).alloc _
    have HX7 := Lib.hid (HX6.out.upd ua (by simp))
    have HR7 := Lib.hid (HR6.out.upd ua (by simp))
    have HU7 := Lib.hid (HU6.out.trans ua)
    have hsx := slices_ix ⟨nm2.toArray⟩ HN7.out
    obtain ⟨ix, hix⟩ : ∃ i, Lib.idxOfS namesB ⟨nm2.toArray⟩ = i := ⟨_, rfl⟩
    have HKL := Lib.hid (show kindL nm2 = max 0 ix by unfold kindL; rw [hix])
    have HKB := Lib.hid (kind_bd nm2)
    rw [hix] at hsx
    clear hix
    refine (hsx).mono ?_
    rintro e W7 ⟨rfl, hw7⟩
    rw [← hw7] at HN7 HX7 HR7 HU7
    clear hw7 ua hsx HX6 HR6 HU6 HN7
    have x0 := HX7.out.cell 0 rfl
    have x1 := HX7.out.cell 1 rfl
    have g1 := HX7.out.free 1
    go_upto_block 0 with fail
    obtain ⟨kd, hkd⟩ : ∃ k, max 0 ix = k := ⟨_, rfl⟩
    rw [hkd] at HKL ⊢
    clear hkd x0 x1 g1
    have hz : (W7.setCell ⟨xb, 1, none⟩ (.int .i64 kd)).heap.size = W7.heap.size := World.size_setCell _ _ _
    have uS : Upd [xb] W7 (W7.setCell ⟨xb, 1, none⟩ (.int .i64 kd)) := (Upd.refl _ _).setCell (.inl (by simp)) _
    have HX8 := Lib.hid (show Blk ((W7.setCell ⟨xb, 1, none⟩ (.int .i64 kd)).alloc (.cells #[] 24)) xb [.int .i64 (n1 : Int), .int .i64 kd, .int .u64 0, .int .u64 0, .bool own, .int .i64 0] 27 from (HX7.out.set 1 (.int .i64 kd)).alloc _)
    have HR8 := Lib.hid ((HR7.out.upd uS (by simp; have := HXR.out; omega)).alloc (.cells #[] 24))
    have HU8 := Lib.hid ((HU7.out.setCell (p := ⟨xb, 1, none⟩) (.inr (by have := HXR.out; have := HWR.out; dsimp only; omega)) (.int .i64 kd)).alloc (.cells #[] 24))
    have HO8 := Lib.hid (show World.ownsRow ((W7.setCell ⟨xb, 1, none⟩ (.int .i64 kd)).alloc (.cells #[] 24)) w.heap.size 24 1 (.slice (some ⟨W7.heap.size, 0, none⟩) 0 0) ([] : List Nat).length (([] : List Nat).map u64C) from
      ⟨rfl, .inr ⟨W7.heap.size, 0, #[], rfl, HU7.out.size, by have h := heap_alloc_new (W7.setCell ⟨xb, 1, none⟩ (.int .i64 kd)) (.cells #[] 24); rw [hz] at h; exact h, Nat.le_refl _, by unfold maxLen; omega, rfl, rfl⟩⟩)
    obtain ⟨v8, hv8⟩ : ∃ v, Value.slice (some ⟨W7.heap.size, 0, none⟩) 0 0 = v := ⟨_, rfl⟩
    rw [hv8] at HO8 ⊢
    generalize ((W7.setCell ⟨xb, 1, none⟩ (.int .i64 kd)).alloc (.cells #[] 24)) = W8 at HX8 HR8 HU8 HO8 ⊢
    clear hv8 uS hz HX7 HR7 HU7
    go_cut [12] from 58 to 74 (fun v12 wx => ∃ ws : List Nat, wordsF rs.length rs = some ws ∧ ws.length ≤ rs.length ∧ wx.ownsRow w.heap.size 24 1 v12 ws.length (ws.map u64C) ∧ Blk wx xb [.int .i64 (n1 : Int), .int .i64 kd, .int .u64 0, .int .u64 0, .bool own, .int .i64 0] 27 ∧ Blk wx rb zeroCells 27 ∧ Upd [] w wx)
    case first =>
      have HLR := Lib.hid (show rs.length < 4294967281 by have := HSZ.out; rw [Lib.size_eq] at this; omega)
      go_wp2_with fail
      go_loopw [8, 12] (fun q8 q12 wr => ∃ (ρ : List UInt8) (ws : List Nat) (fu : Nat), q8 = .string ⟨ρ.toArray⟩ ∧ ρ.length ≤ fu ∧ ρ.length + ws.length ≤ rs.length ∧ wordsF rs.length rs = (wordsF fu ρ).map (ws ++ ·) ∧ wr.ownsRow w.heap.size 24 1 q12 ws.length (ws.map u64C) ∧ Blk wr xb [.int .i64 (n1 : Int), .int .i64 kd, .int .u64 0, .int .u64 0, .bool own, .int .i64 0] 27 ∧ Blk wr rb zeroCells 27 ∧ Upd [] w wr) (fun q8 _ _ => strLen q8)
      case atStart => exact ⟨rs, [], rs.length, rfl, Nat.le_refl _, by simp, by simp, HO8.out, HX8.out, HR8.out, HU8.out⟩
      case round =>
        obtain ⟨ρ, ws, fu, rfl, h1, h2, h3, ho, hx, hr, hu⟩ := hrel
        obtain ⟨p, c, rfl⟩ := own_form ho
        have H1 := Lib.hid h1
        have H2 := Lib.hid h2
        have H3 := Lib.hid h3
        have HO := Lib.hid ho
        have HX := Lib.hid hx
        have HR := Lib.hid hr
        have HU := Lib.hid hu
        clear h1 h2 h3 ho hx hr hu HO8 HX8 HR8 HU8
        by_cases hρ : ρ = []
        · subst hρ
          go_wp2_with fail
          go_meet
          exact ⟨ws, by rw [H3.out, wordsF_nil]; simp, by have := H2.out; omega, HO.out, HX.out, HR.out, HU.out⟩
        · have hne : (ρ == []) = false := by simpa using hρ
          have HN := Lib.hid (number_code ⟨ρ.toArray⟩ (by have := H2.out; have := HLR.out; rw [Lib.size_eq]; simp only [List.toList_toArray]; omega) wr ((HP.out.upd HU.out).errs))
          have HW := Lib.hid (show wordsF fu ρ = if (numberL ρ).2.2 = true then (wordsF (fu - 1) (Lib.trimPrefix (numberL ρ).2.1 [32])).map ((numberL ρ).1 :: ·) else none by
            cases fu with
            | zero => exact absurd (List.length_eq_zero_iff.1 (Nat.le_zero.1 H1.out)) hρ
            | succ f => rw [wordsF, if_neg hρ]; rfl)
          have hnl := number_len (l := ρ)
          have htl := trim_len (numberL ρ).2.1 [32]
          have hxl := number_lt ρ
          have HTP := Lib.hid (fun W : World => Tryd.strings_TrimPrefix ⟨(numberL ρ).2.1.toArray⟩ ⟨#[32]⟩ W)
          simp only [List.toList_toArray] at HN HTP
          generalize numberL ρ = m at *
          obtain ⟨m1, m2, m3⟩ := m
          dsimp only at HN HW hnl htl HTP hxl
          generalize Lib.trimPrefix m2 [32] = tr at *
          have HNL := Lib.hid hnl
          have HTL := Lib.hid htl
          have HPL := Lib.hid (show 0 < ρ.length from List.length_pos_iff.2 hρ)
          clear hnl htl
          go_wp2_with fail
          refine (HN.out).mono ?_
          rintro e W9 ⟨rfl, u9⟩
          have HO9 := Lib.hid (own_upd HO.out u9 (by simp))
          have HX9 := Lib.hid (HX.out.upd u9 (by simp))
          have HR9 := Lib.hid (HR.out.upd u9 (by simp))
          have HU9 := Lib.hid (HU.out.trans u9)
          clear u9 HO HX HR HU HN hne hρ
          cases m3 with
          | false =>
            have hoN : o = none := by rw [HOG2.out, H3.out, HW.out, if_neg (by decide)]; rfl
            subst hoN
            clear HOG2 H3 HW
            have q0 := HR9.out.cell 0 rfl
            have q1 := HR9.out.cell 1 rfl
            have q2 := HR9.out.cell 2 rfl
            have q3 := HR9.out.cell 3 rfl
            have q4 := HR9.out.cell 4 rfl
            have q5 := HR9.out.cell 5 rfl
            have f0 := HR9.out.free 0
            have f1 := HR9.out.free 1
            have f2 := HR9.out.free 2
            have f3 := HR9.out.free 3
            have f4 := HR9.out.free 4
            have f5 := HR9.out.free 5
            go_wp2_with fail
            exact bodyPost_ret (ev_results rfl _ _ rb zeroE (.bool false) rfl rfl ((((((HR9.out.set 0 _).set 1 _).set 2 _).set 3 _).set 4 _).set 5 _)) rfl (hK _ _ ⟨rfl, by repeat (first | exact HU9.out | refine Upd.setCell ?_ (.inr HWR.out) _)⟩)
          | true =>
            obtain ⟨v', W10, hrun, ho', hu'⟩ := app_w1 HO9.out m1 (by have := H2.out; have := HLR.out; omega) HU9.out.size
            have ua : Upd [] W9 (W9.alloc (.cells #[.int .u64 (m1 : Int)] 24)) := (Upd.refl _ _).alloc _
            rw [List.length_append, List.length_singleton] at ho'
            have HO10 := Lib.hid ho'
            have HX10 := Lib.hid ((HX9.out.upd ua (by simp)).upd hu' (own_ne_blk HO9.out HX9.out (by decide)))
            have HR10 := Lib.hid ((HR9.out.upd ua (by simp)).upd hu' (own_ne_blk HO9.out HR9.out (by decide)))
            have HU10 := Lib.hid (show Upd [] w W10 from (HU9.out.trans ua).tr (U := []) hu' (by simp) (fun g hg => .inr (own_blocks HO9.out g hg).1))
            have H3' := Lib.hid (show wordsF rs.length rs = (wordsF (fu - 1) tr).map ((ws ++ [m1]) ++ ·) by
              rw [H3.out, HW.out, if_pos rfl, Option.map_map]
              congr 1
              funext x
              simp)
            have H1' := Lib.hid (show tr.length ≤ fu - 1 ∧ tr.length < ρ.length by have := HNL.out rfl; have := HTL.out; have := H1.out; omega)
            obtain ⟨p', c', rfl⟩ := own_form ho'
            clear ho' hu' ua HO9 HX9 HR9 HU9 H3 HW
            go_wp2_with (at_builtin; refine wpList_append_eq rfl _ _ _ _ rfl _ _ _ rfl rfl hrun ?_)
            refine (HTP.out _).mono ?_
            rintro e W11 ⟨rfl, rfl⟩
            go_wp2_with fail
            go_roundw
            case rel => exact ⟨tr, ws ++ [m1], fu - 1, rfl, H1'.out.1, by have := H1'.out; have := H2.out; rw [List.length_append, List.length_singleton]; omega, H3'.out, by rw [List.length_append, List.length_singleton]; exact HO10.out, HX10.out, HR10.out, HU10.out⟩
            case measure => have h := H1'.out.2; simpa [strLen, Lib.size_eq] using h
    case rest =>
      obtain ⟨ws, hws, hwl, ho, hx, hr, hu⟩ := hcut
      obtain ⟨W9, rfl⟩ : ∃ W, W = wc := ⟨wc, rfl⟩
      obtain ⟨p, c, rfl⟩ := own_form ho
      have HOS := Lib.hid (show o = some (evOf n1 own kd ws) by rw [HOG2.out, hws, HKL.out]; rfl)
      have HKD := Lib.hid (show 0 ≤ kd ∧ kd ≤ 12 by have := HKB.out; rw [HKL.out] at this; exact this)
      have HLR := Lib.hid (show rs.length < 4294967281 by have := HSZ.out; rw [Lib.size_eq] at this; omega)
      obtain ⟨v', W10, hrun, ho', hu'⟩ := app_w2 ho (by have := HLR.out; omega) hu.size
      have ua : Upd [] W9 (W9.alloc (.cells #[.int .u64 0, .int .u64 0] 24)) := (Upd.refl _ _).alloc _
      have HX10 := Lib.hid ((hx.upd ua (by simp)).upd hu' (own_ne_blk ho hx (by decide)))
      have HR10 := Lib.hid ((hr.upd ua (by simp)).upd hu' (own_ne_blk ho hr (by decide)))
      have HU10 := Lib.hid (show Upd [] w W10 from (hu.trans ua).tr (U := []) hu' (by simp) (fun g hg => .inr (own_blocks ho g hg).1))
      obtain ⟨g, c', rfl⟩ := own_some ho' (by simp)
      have HGX := Lib.hid (show g ≠ xb from fun e => own_ne_blk ho' HX10.out (by decide) (by rw [e]; simp [Value.ownBlock]))
      obtain ⟨_, _, sp, hB, _, _⟩ := own_open ho'
      obtain ⟨N, hN⟩ : ∃ N, (ws ++ [0, 0]).length = N := ⟨_, rfl⟩
      have hN2 : 2 ≤ N := by rw [← hN, List.length_append]; simp
      rw [hN] at hrun
      have hc0 : ((ws ++ [0, 0]).map u64C ++ sp)[0]? = some (.int .u64 (wordAt ws 0)) := by
        rw [List.getElem?_append_left (by rw [List.length_map, hN]; omega), List.getElem?_map, List.getElem?_eq_getElem (by rw [hN]; omega)]
        unfold wordAt u64C
        rw [List.getD_eq_getElem?_getD, List.getElem?_eq_getElem (by rw [hN]; omega)]
        rfl
      have hc1 : ((ws ++ [0, 0]).map u64C ++ sp)[1]? = some (.int .u64 (wordAt ws 1)) := by
        rw [List.getElem?_append_left (by rw [List.length_map, hN]; omega), List.getElem?_map, List.getElem?_eq_getElem (by rw [hN]; omega)]
        unfold wordAt u64C
        rw [List.getD_eq_getElem?_getD, List.getElem?_eq_getElem (by rw [hN]; omega)]
        rfl
      have k0 := hB.cell 0 hc0
      have k1 := hB.cell 1 hc1
      obtain ⟨a0, ha0⟩ : ∃ a, wordAt ws 0 = a := ⟨_, rfl⟩
      obtain ⟨a1, ha1⟩ : ∃ a, wordAt ws 1 = a := ⟨_, rfl⟩
      rw [ha0] at k0
      rw [ha1] at k1
      have HA := Lib.hid (And.intro ha0 ha1)
      have hN0 : (0 : Int) < (N : Int) := by omega
      have hN1 : (1 : Int) < (N : Int) := by omega
      have HK0 := Lib.hid k0
      have HK1 := Lib.hid k1
      clear hN hc0 hc1 hB ho ho' hx hr hu hu' ua hws hwl ha0 ha1 HOG2 HKL HKB HO8 HX8 HR8 HU8 k0 k1 hN2
      have y1 := HX10.out.cell 1 rfl
      go_upto_block 2 with (at_builtin; refine wpList_append_eq rfl _ _ _ _ rfl _ _ _ rfl rfl hrun ?_)
      go_cut [12] from 80 to 107 (fun _ wx => Blk wx xb (evOf n1 own kd ws).cells 27 ∧ Blk wx rb zeroCells 27 ∧ Upd [] w wx)
      case first =>
        have hkd := HKD.out
        have hkd : kd = 0 ∨ kd = 5 ∨ kd = 7 ∨ kd = 8 ∨ kd = 12 ∨ kd = 1 ∨ kd = 4 ∨ kd = 6 ∨ kd = 9 ∨ kd = 2 ∨ kd = 3 ∨ kd = 10 ∨ kd = 11 := by omega
        have x3 := HX10.out.cell 3 rfl
        have x5 := HX10.out.cell 5 rfl
        have g3 := HX10.out.free 3
        have g5 := HX10.out.free 5
        have k0 := HK0.out
        have HXW := Lib.hid (show w.heap.size ≤ xb by have := HXR.out; have := HWR.out; omega)
        rcases hkd with rfl | rfl | rfl | rfl | rfl | rfl | rfl | rfl | rfl | rfl | rfl | rfl | rfl
        iterate 5
          · go_wp2_with fail
            go_meet
            exact ⟨HX10.out, HR10.out, HU10.out⟩
        iterate 3
          · go_wp2_with fail
            go_meet
            obtain ⟨rfl, rfl⟩ := HA.out
            exact ⟨HX10.out.set 3 _, HR10.out.upd ((Upd.refl _ _).setCell (.inl (by simp)) _ : Upd [xb] _ _) (by simp; have := HXR.out; omega), HU10.out.setCell (.inr HXW.out) _⟩
        · go_wp2_with fail
          go_meet
          obtain ⟨rfl, rfl⟩ := HA.out
          exact ⟨by rw [wrap_w]; exact HX10.out.set 5 _, HR10.out.upd ((Upd.refl _ _).setCell (.inl (by simp)) _ : Upd [xb] _ _) (by simp; have := HXR.out; omega), HU10.out.setCell (.inr HXW.out) _⟩
        iterate 4
          · go_upto_region 24 with fail
            have SS : (fun w' : World => w'.cell? ⟨g, 0, none⟩ = some (.int .u64 a0) ∧ w'.cell? ⟨g, 1, none⟩ = some (.int .u64 a1)) W10.drew := ⟨HK0.out, HK1.out⟩
            have ud : Upd [] W10 W10.drew := (Upd.refl _ _).drew
            have HXd := Lib.hid (HX10.out.upd ud (by simp))
            have HRd := Lib.hid (HR10.out.upd ud (by simp))
            have HUd := Lib.hid (HU10.out.trans ud)
            refine wp_region_br (fun w' => w'.cell? ⟨g, 0, none⟩ = some (.int .u64 a0) ∧ w'.cell? ⟨g, 1, none⟩ = some (.int .u64 a1)) [0, 1, 2, 3, 4, 5, 6, 7, 8, 9] (by kernel_rfl) (by kernel_rfl) SS ?_
            generalize W10.drew = W11 at SS ud HXd HRd HUd ⊢
            clear ud x3 x5 g3 g5 k0
            have hM0 : 0 < N := by omega
            have hM1 : 1 < N := by omega
            repeat
              first
                | (refine wpB_skip rfl (by kernel_rfl) (by rfl) ?_)
                | ((refine wpB_take (v := ?_) rfl rfl (by kernel_rfl) (by rfl) ?_ ?_); rotate_left 1; (· ((intro w hSw; (try dsimp only at hSw); go_simp); try with_reducible rfl)))
              try simp only [Act.put, List.setIfInBounds_toArray, List.set_cons_zero, List.set_cons_succ]
            have x2 := HXd.out.cell 2 rfl
            have g2 := HXd.out.free 2
            refine wpB_eff rfl (by kernel_rfl) (by rfl) (fun K2 hK2 => ?_)
            go_simp
            have uA : Upd [xb] W11 (W11.setCell ⟨xb, 2, none⟩ (.int .u64 a0)) := (Upd.refl _ _).setCell (.inl (by simp)) _
            have SA : (fun w' : World => w'.cell? ⟨g, 0, none⟩ = some (.int .u64 a0) ∧ w'.cell? ⟨g, 1, none⟩ = some (.int .u64 a1)) (W11.setCell ⟨xb, 2, none⟩ (.int .u64 a0)) := ⟨uA.cell (by simp; exact HGX.out) SS.1, uA.cell (by simp; exact HGX.out) SS.2⟩
            refine hK2.out _ _ SA ?_
            clear hK2 K2 x2 g2
            have HXe := Lib.hid (HXd.out.set 2 (.int .u64 a0))
            have HRe := Lib.hid (HRd.out.upd uA (by simp; have := HXR.out; omega))
            have HUe := Lib.hid (HUd.out.setCell (p := ⟨xb, 2, none⟩) (.inr HXW.out) (.int .u64 a0))
            generalize W11.setCell ⟨xb, 2, none⟩ (.int .u64 a0) = W12 at SA HXe HRe HUe ⊢
            clear SS uA HXd HRd HUd
            repeat
              first
                | (refine wpB_skip rfl (by kernel_rfl) (by rfl) ?_)
                | ((refine wpB_take (v := ?_) rfl rfl (by kernel_rfl) (by rfl) ?_ ?_); rotate_left 1; (· ((intro w hSw; (try dsimp only at hSw); go_simp); try with_reducible rfl)))
              try simp only [Act.put, List.setIfInBounds_toArray, List.set_cons_zero, List.set_cons_succ]
            have x3 := HXe.out.cell 3 rfl
            have g3 := HXe.out.free 3
            refine wpB_eff rfl (by kernel_rfl) (by rfl) (fun K2 hK2 => ?_)
            go_simp
            have uA : Upd [xb] W12 (W12.setCell ⟨xb, 3, none⟩ (.int .u64 a1)) := (Upd.refl _ _).setCell (.inl (by simp)) _
            refine hK2.out _ _ ⟨uA.cell (by simp; exact HGX.out) SA.1, uA.cell (by simp; exact HGX.out) SA.2⟩ ?_
            refine wpB_end (by kernel_rfl) (NoPanic.normal ?_)
            clear hK2 K2 x3 g3
            have HXf := Lib.hid (HXe.out.set 3 (.int .u64 a1))
            have HRf := Lib.hid (HRe.out.upd uA (by simp; have := HXR.out; omega))
            have HUf := Lib.hid (HUe.out.setCell (p := ⟨xb, 3, none⟩) (.inr HXW.out) (.int .u64 a1))
            generalize W12.setCell ⟨xb, 3, none⟩ (.int .u64 a1) = W13 at HXf HRf HUf ⊢
            clear SA uA HXe HRe HUe
            go_wp2_with fail
            go_meet
            obtain ⟨rfl, rfl⟩ := HA.out
            exact ⟨HXf.out, HRf.out, HUf.out⟩
      case rest =>
        obtain ⟨hx, hr, hu⟩ := hcut
        obtain ⟨W14, rfl⟩ : ∃ W, W = wc := ⟨wc, rfl⟩
        have HX14 := Lib.hid hx
        have HR14 := Lib.hid hr
        have HU14 := Lib.hid hu
        clear hx hr hu HX10 HR10 HU10 y1 hN0 hN1 HK0 HK1 HA hrun
        obtain rfl := HOS.out
        obtain ⟨E, hE⟩ : ∃ e, evOf n1 own kd ws = e := ⟨_, rfl⟩
        rw [hE] at HX14 hK
        clear hE HOS
        obtain ⟨eth, ekd, ead, ewd, eown, eer⟩ := E
        have x0 := HX14.out.cell 0 rfl
        have x1 := HX14.out.cell 1 rfl
        have x2 := HX14.out.cell 2 rfl
        have x3 := HX14.out.cell 3 rfl
        have x4 := HX14.out.cell 4 rfl
        have x5 := HX14.out.cell 5 rfl
        have q0 := HR14.out.cell 0 rfl
        have q1 := HR14.out.cell 1 rfl
        have q2 := HR14.out.cell 2 rfl
        have q3 := HR14.out.cell 3 rfl
        have q4 := HR14.out.cell 4 rfl
        have q5 := HR14.out.cell 5 rfl
        have f0 := HR14.out.free 0
        have f1 := HR14.out.free 1
        have f2 := HR14.out.free 2
        have f3 := HR14.out.free 3
        have f4 := HR14.out.free 4
        have f5 := HR14.out.free 5
        go_wp2_with fail
        exact bodyPost_ret (ev_results rfl _ _ rb ⟨eth, ekd, ead, ewd, eown, eer⟩ (.bool true) rfl rfl ((((((HR14.out.set 0 _).set 1 _).set 2 _).set 3 _).set 4 _).set 5 _)) rfl (hK _ _ ⟨rfl, by repeat (first | exact HU14.out | refine Upd.setCell ?_ (.inr HWR.out) _)⟩)
/-- a line is read as eventL says -/
theorem event_code (s : ByteArray) (hs : s.size < 4294967281) (w : World) (hP : PreE w) : Calls Tryd.prog 50 #[.string s] w fun r w' => r = .returned (.tuple #[(evO (eventL s.data.toList)).val, .bool (eventL s.data.toList).isSome]) ∧ Upd [] w w' := by
  cases h1 : (numberL s.data.toList).2.2 with
  | false => exact event_bad1 s hs w hP h1
  | true =>
    cases h2 : Lib.hasPrefix (numberL s.data.toList).2.1 [32] with
    | false => exact event_bad2 s hs w hP ⟨h1, h2⟩
    | true =>
      rcases Nat.lt_or_ge (numberL s.data.toList).1 8 with h3 | h3
      · exact event_good s hs w hP ⟨h1, h2, h3⟩
      · exact event_bad3 s hs w hP ⟨h1, h2, h3⟩
end Go.Proofs.YtfldpejifpmapaaDoor
