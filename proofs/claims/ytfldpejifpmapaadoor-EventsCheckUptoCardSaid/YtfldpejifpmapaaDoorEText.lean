/- Text: a history's text, or the refusal. The conditions: the library's table is laid; the events' words are words; sizes. -/
import Derived.Test.YtfldpejifpmapaaDoorELine7
set_option linter.unusedSimpArgs false
set_option linter.unusedVariables false
set_option maxRecDepth 100000
namespace Go.Proofs.YtfldpejifpmapaaDoor
open Go.RowKit
open Go.Maps
def textL (l : List Ev) : List UInt8 := l.flatMap fun e => lineE e ++ [10]
def textO (l : List Ev) : List UInt8 × Int := if l.all formE = true then (textL l, 0) else ([], 201)
theorem textL_snoc (l : List Ev) (e : Ev) : textL (l ++ [e]) = textL l ++ (lineE e ++ [10]) := by unfold textL; rw [List.flatMap_append]; simp
theorem textL_len (l : List Ev) (hw : wideL l) (hf : l.all formE = true) : (textL l).length ≤ l.length * 61 := by
  induction l with
  | nil => simp [textL]
  | cons a l ih =>
    simp only [List.all_cons, Bool.and_eq_true] at hf
    have h1 := (lineE_len a (hw a (by simp)) hf.1).2
    have h2 := ih (fun x hx => hw x (by simp [hx])) hf.2
    unfold textL at h2 ⊢
    rw [List.flatMap_cons, List.length_append, List.length_append, List.length_cons]
    simp only [List.length_cons, List.length_nil] at h2 ⊢
    omega
theorem cells_app (a b : List UInt8) : Lib.byteCells a ++ Lib.byteCells b = Lib.byteCells (a ++ b) := by unfold Lib.byteCells; rw [List.map_append]
theorem str_cells (a : List UInt8) : Lib.strCells ⟨a.toArray⟩ = Lib.byteCells a := by simp [Lib.strCells, Lib.byteCells]
theorem cells_len (a : List UInt8) : (Lib.byteCells a).length = a.length := by simp [Lib.byteCells]
theorem builder_upd {w w' : World} {B b : Nat} {bs : List Value} (h : Lib.IsBuilder 66 5 B b bs w) (u : Upd [] w w') : Lib.IsBuilder 66 5 B b bs w' := by
  have h1 : ∀ p, Lib.BuilderAt 66 5 B b p bs w → Lib.BuilderAt 66 5 B b p bs w' := fun p ⟨hB, v, hb, ho, hn⟩ =>
    ⟨hB, v, (show Blk w' b [p, v] 66 from Blk.upd (show Blk w b [p, v] 66 from hb) u (by simp)), own_upd ho u (by simp), hn⟩
  exact h.imp (h1 _) (h1 _)
set_option maxHeartbeats 4000000 in
theorem text_code (w : World) (po : Option Addr) (cap : Nat) (l : List Ev) (hH : HistAt w po l) (hl : l.length ≤ 1000000000) (hw : wideL l) (hT : Tab w) :
    Calls Tryd.prog 10 #[.slice po l.length cap] w fun e w' => e = .returned (.tuple #[.string ⟨(textO l).1.toArray⟩, .int .i64 (textO l).2]) ∧ Upd [] w w' := by
  obtain ⟨W1, hW1⟩ : ∃ W, w.alloc (.cells #[.pointer none, .slice none 0 0] 66) = W := ⟨_, rfl⟩
  have u1 : Upd [] w W1 := by rw [← hW1]; exact (Upd.refl [] _).alloc _
  have hbd : Lib.IsBuilder 66 5 w.heap.size w.heap.size (Lib.byteCells []) W1 := .inl ⟨Nat.le_refl _, .slice none 0 0, by rw [← hW1]; exact heap_alloc_new w _, ⟨rfl, .inl ⟨rfl, rfl⟩⟩, by simp [Value.ownBlock]⟩
  have hb1 : w.heap.size < W1.heap.size := by rw [← hW1]; simp
  have HBD := Lib.hid hbd
  have HU1 := Lib.hid u1
  have HPO := Lib.hid hH.lt
  have HH1 := Lib.hid (hH.upd0 u1)
  have HTT := Lib.hid hT
  have HW := Lib.hid hw
  have HB1 := Lib.hid hb1
  clear hbd u1 hH hw hT
  refine calls_all fun K hK => ?_
  go_enter Tryd.func10, Tryd.ntmps10
  go_wp2_with fail
  obtain ⟨B, hB⟩ : ∃ b, w.heap.size = b := ⟨_, rfl⟩
  have HBS := Lib.hid hB
  rw [hB] at HBD HB1 HPO ⊢
  clear hW1 hB hb1
  have hl9 : (l.length : Int) ≤ 1000000000 := by omega
  go_loopw [11] (fun v11 wr => ∃ k : Nat, k ≤ l.length ∧ v11 = .int .i64 k ∧ (l.take k).all formE = true ∧ Lib.IsBuilder 66 5 B B (Lib.byteCells (textL (l.take k))) wr ∧ Below B W1 wr) (fun v11 _ => l.length - (intOf v11).toNat)
  case atStart => exact ⟨0, by omega, rfl, rfl, HBD.out, Below.refl _ _⟩
  case round =>
    obtain ⟨k, hk, rfl, hall, hbd, hbl⟩ := hrel
    have HALL := Lib.hid hall
    have HBK := Lib.hid hbd
    have HBL := Lib.hid hbl
    clear hall hbd hbl
    have HUR := Lib.hid (show Upd [] w wr from Upd.of_below ((HU1.out.below (Nat.le_refl _) (by simp)).trans (by rw [HBS.out]; exact HBL.out)))
    have HBS2 := Lib.hid (show B ≤ wr.heap.size by have := HUR.out.size; have := HBS.out; omega)
    by_cases hlt : k < l.length
    · have hlt' : (k : Int) < (l.length : Int) := by omega
      have hk0 : 0 ≤ (k : Int) := by omega
      obtain ⟨x, hx⟩ : ∃ x, l[k]? = some x := ⟨_, List.getElem?_eq_getElem hlt⟩
      obtain ⟨b, o, hpo, h0, h1, h2, h3, h4, h5⟩ := (HH1.out.below HBL.out (fun b o e hne => HPO.out b o e hne)) k x hx
      have hxw := HW.out x (List.mem_of_getElem? hx)
      have HTK := Lib.hid (show l.take (k + 1) = l.take k ++ [x] by rw [List.take_add_one, hx]; rfl)
      subst hpo
      have HLN := Lib.hid (fun (W : World) (u : Upd [] wr W) => line_code W x hxw ((HTT.out.upd HUR.out).upd u))
      have HXW := Lib.hid hxw
      have HXM := Lib.hid (List.mem_of_getElem? hx)
      obtain ⟨fx, hfx⟩ : ∃ f, formE x = f := ⟨_, rfl⟩
      have HFX := Lib.hid hfx
      have hO : lineO x = if fx = true then (lineE x, 0) else ([], 201) := by unfold lineO; rw [hfx]
      have HO := Lib.hid hO
      have HLE := Lib.hid (fun h : fx = true => lineE_len x hxw (hfx.trans h))
      have HTL := Lib.hid (textL_len (l.take k) (fun y hy => HW.out y (List.mem_of_mem_take hy)) HALL.out)
      have HTN := Lib.hid (show (l.take k).length ≤ l.length by rw [List.length_take]; omega)
      clear hx hxw hfx hO
      obtain ⟨lx, hlx⟩ : ∃ s, lineE x = s := ⟨_, rfl⟩
      obtain ⟨ox, hox⟩ : ∃ s, lineO x = s := ⟨_, rfl⟩
      rw [hox] at HLN HO
      rw [hlx] at HO HLE
      have HLX := Lib.hid hlx
      obtain ⟨th, kd, ad, wd, own, er⟩ := x
      simp only [Ev.val] at HLN
      dsimp only at h0 h1 h2 h3 h4 h5
      have HUA := Lib.hid (show Upd [] wr (wr.alloc (.cells #[.int .i64 th, .int .i64 kd, .int .u64 ad, .int .u64 wd, .bool own, .int .i64 er] 27)) from (Upd.refl _ _).alloc _)
      clear hlx hox
      cases fx with
      | false =>
        obtain rfl : ox = ([], 201) := by rw [HO.out]; rfl
        have HX := Lib.hid (show textO l = ([], 201) by
          unfold textO
          rw [if_neg (fun q => by have := List.all_eq_true.1 q _ HXM.out; rw [HFX.out] at this; cases this)])
        go_wp2_with fail
        refine (HLN.out _ HUA.out).mono ?_
        rintro e W5 ⟨rfl, u5⟩
        have HU5 := Lib.hid ((HUR.out.trans HUA.out).trans u5)
        clear u5
        dsimp only
        go_wp2_with fail
        exact ⟨by rw [HX.out]; rfl, HU5.out⟩
      | true =>
        obtain rfl : ox = (lx, 0) := by rw [HO.out]; rfl
        go_wp2_with fail
        refine (HLN.out _ HUA.out).mono ?_
        rintro e W5 ⟨rfl, u5⟩
        have HU5 := Lib.hid (HUA.out.trans u5)
        have HB5 := Lib.hid (builder_upd HBK.out HU5.out)
        clear u5 h0 h1 h2 h3 h4 h5
        dsimp only
        go_wp2_with fail
        refine (wstr_code ⟨lx.toArray⟩ HB5.out (by have h1 := (HLE.out (by trivial)).2; have h2 := HTL.out; have h3 := HTN.out; rw [cells_len, Lib.size_eq]; simp only [List.toList_toArray]; omega) (Nat.le_trans HBS2.out HU5.out.size)).mono ?_
        rintro e W6 ⟨rfl, hb6, hl6⟩
        rw [str_cells, cells_app] at hb6
        have HB6 := Lib.hid hb6
        have HL6 := Lib.hid hl6
        clear hb6 hl6
        go_wp2_with fail
        refine (wbyte_code 10 HB6.out (by have h1 := (HLE.out (by trivial)).2; have h2 := HTL.out; have h3 := HTN.out; rw [cells_len, List.length_append]; omega) (by have := HBS2.out; have := HU5.out.size; have := HL6.out.size; omega)).mono ?_
        rintro e W7 ⟨rfl, hb7, hl7⟩
        have HB7 := Lib.hid (show Lib.IsBuilder 66 5 B B (Lib.byteCells (textL (l.take (k + 1)))) W7 by
          rw [HTK.out, textL_snoc, HLX.out, ← List.append_assoc, ← cells_app]
          exact hb7)
        have HL7 := Lib.hid (HBL.out.trans (((HU5.out.below HBS2.out (by simp)).trans HL6.out).trans hl7))
        clear hb7 hl7
        go_wp2_with fail
        go_roundw
        case rel => exact ⟨k + 1, by omega, by go_num, by rw [HTK.out, List.all_append, HALL.out, List.all_cons, HFX.out]; rfl, HB7.out, HL7.out⟩
        case measure => simp [intOf]; omega
    · obtain rfl : k = l.length := by omega
      have hA := HALL.out
      have hBK := HBK.out
      rw [List.take_length] at hA hBK
      have HX := Lib.hid (show textO l = (textL l, 0) by unfold textO; rw [if_pos hA])
      have HBK2 := Lib.hid hBK
      clear hA hBK
      go_wp2_with fail
      refine (Tryd.Builder_String_any B B (textL l) _ HBK2.out HBS2.out).mono ?_
      rintro e W5 ⟨rfl, hl5⟩
      have HU5 := Lib.hid (show Upd [] w W5 from Upd.of_below ((HUR.out.below (Nat.le_refl _) (by simp)).trans (by rw [HBS.out]; exact hl5)))
      clear hl5
      go_wp2_with fail
      exact ⟨by rw [HX.out]; rfl, HU5.out⟩
end Go.Proofs.YtfldpejifpmapaaDoor
