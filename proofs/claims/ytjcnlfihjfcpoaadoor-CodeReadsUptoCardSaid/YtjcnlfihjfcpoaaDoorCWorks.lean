/- works: the chapter's examples answer true. The condition: the tables are laid. -/
import Derived.Test.YtjcnlfihjfcpoaaDoorCParse
import Derived.Test.YtjcnlfihjfcpoaaDoorCBytes
import Derived.Lib.Strings
set_option linter.unusedSimpArgs false
set_option linter.unusedVariables false
set_option maxRecDepth 100000
namespace Go.Proofs.YtjcnlfihjfcpoaaDoor
open Go.RowKit

theorem num_any (e : Int) (w : World) : Calls Tryd.prog 20 #[.int .i64 e] w fun r w' => r = .returned (.int .i64 e) ∧ w' = w := by
  refine calls_all fun K hK => ?_
  go_enter Tryd.func20, Tryd.ntmps20
  go_wp2
  all_goals first | rfl | exact ⟨rfl, rfl⟩

/-- string(b) of a byte slice of the call's own -/
theorem conv_own {w : World} {base : Nat} {v : Value} {l : List UInt8} (h : OwnB w base v l) : (convert 59 9 v).run Tryd.prog w = .ok (.string ⟨l.toArray⟩) w := by
  have h0 := h
  obtain ⟨h1, h2⟩ := h
  rcases h2 with ⟨rfl, h2⟩ | ⟨g, cap, cur, rfl, _⟩
  · obtain rfl : l = [] := by cases l with | nil => rfl | cons a b => simp at h2
    rw [run_convert_bytes_string w 59 9 5 none 0 0 Tryd.underlying59 Tryd.underlying5 Tryd.underlying9]
    simp [Conv.bytesToString]
    rfl
  · obtain ⟨_, _, spare, hB, _⟩ := own_open h0
    refine run_convert_bytes_back (P := Tryd.prog) w 59 9 5 ⟨g, 0, none⟩ cap l Tryd.underlying59 Tryd.underlying5 Tryd.underlying9 (fun j hj => ?_)
    rw [addr_add, Nat.zero_add]
    refine hB.cell j ?_
    rw [List.getElem?_append_left (by simpa [bcells] using hj)]
    simp [bcells, hj]

theorem conv_blk {w : World} {b : Nat} {l : List UInt8} (h : Blk w b (bcells l) 5) : (convert 59 9 (.slice (some ⟨b, 0, none⟩) l.length l.length)).run Tryd.prog w = .ok (.string ⟨l.toArray⟩) w := by
  refine run_convert_bytes_back (P := Tryd.prog) w 59 9 5 ⟨b, 0, none⟩ l.length l Tryd.underlying59 Tryd.underlying5 Tryd.underlying9 (fun j hj => ?_)
  rw [addr_add, Nat.zero_add]
  refine h.cell j ?_
  simp [bcells, hj]

theorem SlN.of_blk {w : World} {b : Nat} {L : List Ins} {t : TypeId} (h : Blk w b (L.flatMap Ins.cells) t) : SlN w (some ⟨b, 0, none⟩) L := by
  refine ⟨fun _ => ⟨_, _, rfl⟩, fun b' o e i x hi j v hj => ?_⟩
  simp only [Option.some.injEq, Addr.mk.injEq, and_true] at e
  obtain ⟨rfl, rfl⟩ := e
  have hj5 : j < 5 := by have := (List.getElem?_eq_some_iff.1 hj).1; simpa [Ins.cells] using this
  rw [Nat.zero_add, h.at]
  clear h
  induction L generalizing i with
  | nil => simp at hi
  | cons y L ih =>
    rw [List.flatMap_cons]
    cases i with
    | zero =>
      simp at hi
      subst hi
      rw [List.getElem?_append_left (by simp [Ins.cells]; omega), Nat.zero_mul, Nat.zero_add]
      exact hj
    | succ i =>
      rw [List.getElem?_append_right (by simp [Ins.cells]; omega)]
      have e5 : y.cells.length = 5 := rfl
      rw [e5, show (i + 1) * 5 + j - 5 = i * 5 + j by omega]
      exact ih i (by simpa using hi)

theorem ex_text : textOf ⟨1, 2, 0, 0, 300⟩ = [99, 111, 110, 115, 116, 32, 50, 32, 51, 48, 48] := by
  have h2 : Lib.decDigits 2 = [50] := by rw [Lib.decDigits_one (by omega)]; rfl
  have h300 : Lib.decDigits 300 = [51, 48, 48] := by
    rw [Lib.decDigits, dif_neg (by omega), Lib.decDigits_two (by omega) (by omega)]; rfl
  show nameI 1 ++ regsText ⟨1, 2, 0, 0, 300⟩ 1 ++ (32 :: Lib.decDigits 300) = _
  rw [h300]
  show nameI 1 ++ ((32 :: Lib.decDigits 2) ++ []) ++ _ = _
  rw [h2]
  rfl
theorem ex_parse : parseL [122, 101, 114, 111, 32, 55, 32, 48] = some ⟨9, 7, 0, 0, 0⟩ := by kernel_rfl
theorem ex_bytes : bytesAll [⟨1, 2, 0, 0, 300⟩, ⟨15, 0, 0, 0, 0⟩] = [1, 2, 172, 2, 15] := by
  have hv : vint 300 = [172, 2] := by rw [vint_ge (by omega), vint_lt (by omega)]; rfl
  show (1 : UInt8) :: (regBytes ⟨1, 2, 0, 0, 300⟩ 1 ++ vint 300) ++ ((15 : UInt8) :: ([] ++ []) ++ []) = _
  rw [hv]
  rfl
theorem ex_formed : allFormed [⟨1, 2, 0, 0, 300⟩, ⟨15, 0, 0, 0, 0⟩] = true := by kernel_rfl
theorem ex_formed1 : formed ⟨1, 2, 0, 0, 300⟩ = true := by kernel_rfl

def exL : List Ins := [⟨1, 2, 0, 0, 300⟩, ⟨15, 0, 0, 0, 0⟩]
theorem exL_words : words exL := by
  intro i hi
  have : i = ⟨1, 2, 0, 0, 300⟩ ∨ i = ⟨15, 0, 0, 0, 0⟩ := by simpa [exL] using hi
  rcases this with rfl | rfl
  · exact ⟨by decide, by decide⟩
  · exact ⟨by decide, by decide⟩
theorem ex_call (W : World) (b : Nat) (h : Blk W b [.int .i64 1, .int .i64 2, .int .i64 0, .int .i64 0, .int .u64 300, .int .i64 15, .int .i64 0, .int .i64 0, .int .i64 0, .int .u64 0] 38) : Calls Tryd.prog 29 #[.slice (some ⟨b, 0, none⟩) 2 2] W fun e w' => ∃ g c, e = .returned (.tuple #[.slice (some ⟨g, 0, none⟩) 5 c, .int .i64 0]) ∧ OwnB w' W.heap.size (.slice (some ⟨g, 0, none⟩) 5 c) [1, 2, 172, 2, 15] ∧ Upd [] W w' := by
  have hs : SlN W (some ⟨b, 0, none⟩) exL := SlN.of_blk (t := 38) h
  have hl : exL.length = 2 := rfl
  have hc := bytes_code exL (some ⟨b, 0, none⟩) 2 W hs exL_words (by decide) (by decide)
  rw [hl] at hc
  refine hc.mono ?_
  rintro e w' (⟨_, v, rfl, ho, hu⟩ | ⟨hf, _⟩)
  · rw [show bytesAll exL = [1, 2, 172, 2, 15] from ex_bytes] at ho
    obtain ⟨g, c, rfl⟩ := own_some ho (by decide)
    exact ⟨g, c, rfl, ho, hu⟩
  · rw [show allFormed exL = true from ex_formed] at hf; cases hf

set_option maxHeartbeats 500000 in
theorem works (w : World) (hP : Pre w) : Calls Tryd.prog 16 #[] w fun e w' => e = .returned (.bool true) ∧ Upd [] w w' := by
  have HT := fun w h1 h2 => text_formed ⟨1, 2, 0, 0, 300⟩ w ex_formed1 (by decide) h1 h2
  rw [ex_text] at HT
  have HQ := fun w h => parse_any ⟨#[122, 101, 114, 111, 32, 55, 32, 48]⟩ w (by decide) h
  have e0 : parseL (⟨#[122, 101, 114, 111, 32, 55, 32, 48]⟩ : ByteArray).data.toList = some ⟨9, 7, 0, 0, 0⟩ := ex_parse
  rw [e0] at HQ
  simp only [Ins.val, insO, errO] at HT HQ
  have HM := fun w h => name_at 17 w h
  have e17 : nameI 17 = [104, 97, 108, 116] := rfl
  rw [e17] at HM
  simp only [strV] at HM
  have HI := fun w => info 3 w
  have ef : formI 3 = ⟨3, false, false, true, true⟩ := rfl
  have ei : isOp 3 = true := rfl
  rw [ef, ei] at HI
  simp only [Form.val] at HI
  clear e0 e17 ef ei
  refine calls_all fun K hK => ?_
  go_enter Tryd.func16, Tryd.ntmps16
  go_wp2_with fail
  refine (HT _ (hP.names.upd ((Upd.refl [] w).alloc _) (by simp)) (hP.tab.upd ((Upd.refl [] w).alloc _))).mono ?_
  rintro e w1 ⟨rfl, u1⟩
  have b1 := (Blk.new w [.int .i64 1, .int .i64 2, .int .i64 0, .int .i64 0, .int .u64 300] 38).upd u1 (by simp)
  have HU1 := Lib.hid (((Upd.refl [] w).alloc _).trans u1)
  have HB1 := Lib.hid b1
  clear u1 b1
  go_wp2_with fail
  refine (HQ _ (hP.upd HU1.out)).mono ?_
  rintro e w2 ⟨rfl, u2⟩
  have HU2 := Lib.hid ((HU1.out.trans u2).alloc (.cells #[.int .i64 9, .int .i64 7, .int .i64 0, .int .i64 0, .int .u64 0] 38))
  have hb1 := (HB1.out.upd u2 (by simp)).alloc (.cells #[.int .i64 9, .int .i64 7, .int .i64 0, .int .i64 0, .int .u64 0] 38)
  have hb2 := Blk.new w2 [.int .i64 9, .int .i64 7, .int .i64 0, .int .i64 0, .int .u64 0] 38
  have d0 := hb1.cell 0 rfl
  have d1 := hb1.cell 1 rfl
  have d2 := hb1.cell 2 rfl
  have d3 := hb1.cell 3 rfl
  have d4 := hb1.cell 4 rfl
  have HB2 := Lib.hid hb2
  clear hb1 hb2 u2 HU1 HB1
  have hbX := Blk.new (w2.alloc (.cells #[.int .i64 9, .int .i64 7, .int .i64 0, .int .i64 0, .int .u64 0] 38)) [.int .i64 1, .int .i64 2, .int .i64 0, .int .i64 0, .int .u64 300, .int .i64 15, .int .i64 0, .int .i64 0, .int .i64 0, .int .u64 0] 38
  simp only [World.size_alloc] at hbX
  go_wp2_with fail
  refine (ex_call _ _ hbX).mono ?_
  rintro e w3 ⟨g, c, rfl, ho, u3⟩
  have HU3 := Lib.hid ((HU2.out.alloc _).trans u3)
  have HB3 := Lib.hid ((HB2.out.alloc _).upd u3 (by simp))
  have HO3 := Lib.hid ho
  clear ho u3 d0 d1 d2 d3 d4 HB2 HU2
  go_wp2_with fail
  refine (HI _).mono ?_
  rintro e w4 ⟨rfl, u4⟩
  have HU4 := Lib.hid ((HU3.out.trans u4).alloc (.cells #[.int .i64 3, .bool false, .bool false, .bool true, .bool true] 24))
  have hb4 := (HB3.out.upd u4 (by simp)).alloc (.cells #[.int .i64 3, .bool false, .bool false, .bool true, .bool true] 24)
  have d0 := hb4.cell 0 rfl
  have d1 := hb4.cell 1 rfl
  have d2 := hb4.cell 2 rfl
  have d3 := hb4.cell 3 rfl
  have d4 := hb4.cell 4 rfl
  have hcv := conv_own (show OwnB (w4.alloc (.cells #[.int .i64 3, .bool false, .bool false, .bool true, .bool true] 24)) _ _ _ from World.ownsRow.alloc (own_upd HO3.out u4 (by simp)) _)
  have hN4 := hP.names.upd HU4.out (by simp)
  have hbl := Blk.new (w4.alloc (.cells #[.int .i64 3, .bool false, .bool false, .bool true, .bool true] 24)) (bcells [1, 2, 172, 2, 15]) 5
  simp only [World.size_alloc] at hbl
  have hcv2 : (convert 59 9 (.slice (some ⟨w4.heap.size + 1, 0, none⟩) 5 5)).run Tryd.prog ((w4.alloc (.cells #[.int .i64 3, .bool false, .bool false, .bool true, .bool true] 24)).alloc (.cells #[.int .u8 1, .int .u8 2, .int .u8 172, .int .u8 2, .int .u8 15] 5)) = .ok (.string ⟨#[1, 2, 172, 2, 15]⟩) ((w4.alloc (.cells #[.int .i64 3, .bool false, .bool false, .bool true, .bool true] 24)).alloc (.cells #[.int .u8 1, .int .u8 2, .int .u8 172, .int .u8 2, .int .u8 15] 5)) := conv_blk hbl
  clear hbl
  clear hb4 u4 HU3 HB3 HO3
  go_wp2_with (first | (go_at_call 20; refine (num_any _ _).mono ?_; rintro e w' ⟨rfl, rfl⟩) | (go_at_call 14; refine (HM _ (by first | exact hN4 | exact hN4.upd ((Upd.refl [] _).alloc _) (by simp))).mono ?_; rintro e w' ⟨rfl, rfl⟩))
  all_goals first | exact ⟨rfl, by first | exact HU4.out | exact HU4.out.alloc _⟩ | (rename_i h; exact absurd h (by simp))
end Go.Proofs.YtjcnlfihjfcpoaaDoor
