/- CodeBytes' walk: the bytes of any instructions, and these read again; they stay. The conditions are sizes; the tables are laid. -/
import Derived.Test.YtjcnlfihjfcpoaaDoorCRead
import Derived.Test.YtjcnlfihjfcpoaaDoorCRBytes
import Derived.Test.YtjcnlfihjfcpoaaDoorCWorks
import Derived.Test.YtjcnlfihjfcpoaaDoorLJoins
set_option linter.unusedSimpArgs false
set_option linter.unusedVariables false
set_option maxRecDepth 100000
namespace Go.Proofs.YtjcnlfihjfcpoaaDoor
open Go.RowKit

theorem bytesAll_snoc (L : List Ins) (j : Nat) (x : Ins) (h : L[j]? = some x) : bytesAll (L.take (j + 1)) = bytesAll (L.take j) ++ bytesOf x := by
  rw [List.take_add_one, h]
  simp [bytesAll]
theorem bcells_append (a b : List UInt8) : bcells a ++ bcells b = bcells (a ++ b) := by simp [bcells]
theorem bcells_len (a : List UInt8) : (bcells a).length = a.length := by simp [bcells]
theorem bcells_one (l : List UInt8) : ∀ u ∈ bcells l, u.oneCell' = true := by
  intro u hu
  obtain ⟨b, _, rfl⟩ := List.mem_map.1 hu
  rfl
theorem SlB.of_own {w : World} {base : Nat} {p : Option Addr} {c : Nat} {l : List UInt8} (h : OwnB w base (.slice p l.length c) l) : SlB w p l := by
  have h0 := h
  obtain ⟨h1, h2⟩ := h
  rcases h2 with ⟨e, hn⟩ | ⟨g, cap, cur, e, _⟩
  · cases l with
    | nil => exact ⟨fun h => absurd rfl h, fun _ _ _ i hi => by simp at hi⟩
    | cons a b => simp at hn
  · simp only [Value.slice.injEq] at e
    obtain ⟨rfl, _, rfl⟩ := e
    obtain ⟨_, _, spare, hB, _⟩ := own_open h0
    refine ⟨fun _ => ⟨_, _, rfl⟩, fun b' o e j hj => ?_⟩
    simp only [Option.some.injEq, Addr.mk.injEq, and_true] at e
    obtain ⟨rfl, rfl⟩ := e
    rw [Nat.zero_add]
    refine hB.cell j ?_
    rw [List.getElem?_append_left (by simpa [bcells] using hj)]
    simp [bcells, hj, List.getD]
theorem own_src {w : World} {base : Nat} {v : Value} {l : List UInt8} (h : OwnB w base v l) : ∃ p c, v = .slice p l.length c ∧ ∀ ad, p = some ad → ∀ j u, (bcells l)[j]? = some u → w.cell? (ad.add j) = some u := by
  have h0 := h
  obtain ⟨p, c, rfl⟩ := own_form h0
  refine ⟨p, c, rfl, fun ad e j u hu => ?_⟩
  subst e
  obtain ⟨h1, h2⟩ := h
  rcases h2 with ⟨e, _⟩ | ⟨g, cap, cur, e, _⟩
  · cases e
  · simp only [Value.slice.injEq, Option.some.injEq] at e
    obtain ⟨rfl, _, rfl⟩ := e
    obtain ⟨_, _, spare, hB, _⟩ := own_open h0
    rw [addr_add, Nat.zero_add]
    refine hB.cell j ?_
    have hj : j < (bcells l).length := by
      rcases Nat.lt_or_ge j (bcells l).length with h | h
      · exact h
      · rw [List.getElem?_eq_none h] at hu; cases hu
    rw [List.getElem?_append_left hj]
    exact hu
theorem own_src1 {w : World} {base : Nat} {v : Value} {l : List UInt8} (h : OwnB w base v l) (hl : 0 < l.length) : ∃ (ad : Addr) (c : Nat), v = .slice (some ad) l.length c ∧ ∀ j u, (bcells l)[j]? = some u → w.cell? (ad.add j) = some u := by
  obtain ⟨g, c, rfl⟩ := own_some h hl
  obtain ⟨p, c', e, hs⟩ := own_src h
  simp only [Value.slice.injEq] at e
  exact ⟨_, _, rfl, hs _ e.1.symm⟩


set_option maxHeartbeats 4000000 in
theorem codeBytes_bad (L : List Ins) (p : Option Addr) (cap : Nat) (w : World) (h : SlN w p L) (hw : words L) (hn : L.length * 40 ≤ 140737488351232) (hP : Pre w) (hF : allFormed L = false) :
    Calls Tryd.prog 8 #[.slice p L.length cap] w fun e w' => e = .returned (.bool true) ∧ Upd [] w w' := by
  obtain ⟨i5, hi5, hz5, hs5, hy5⟩ := info_parts info_u8
  have hlb : L.length < 4611686018427387904 := by omega
  refine calls_all fun K hK => ?_
  go_enter Tryd.func8, Tryd.ntmps8
  go_wp2_with fail
  refine (lend_any L p cap _ h hn).mono ?_
  rintro e w1 ⟨g1, cg, rfl, l1, hg1, u1⟩
  have hcg := l1.1
  go_wp2_with fail
  refine (bytes_code L (some ⟨g1, 0, none⟩) cg _ l1.sl hw (by omega) hn).mono ?_
  rintro e w2 (⟨hbad, _⟩ | ⟨_, rfl, u2⟩)
  · rw [hF] at hbad; cases hbad
  have l2 := l1.upd u2 (by simp)
  go_wp2_with fail
  refine (bytes_code L (some ⟨g1, 0, none⟩) cg _ l2.sl hw (by omega) hn).mono ?_
  rintro e W3 (⟨hbad, _⟩ | ⟨_, rfl, u3⟩)
  · rw [hF] at hbad; cases hbad
  have L3 := Lib.hid (l2.upd u3 (by simp))
  have U3 := Lib.hid ((u1.trans u2).trans u3)
  clear l1 l2 u1 u2 u3
  go_wp2_with fail
  go_loopw [8, 9] (fun v8 v9 wr => ∃ j : Nat, j ≤ L.length ∧ v9 = .int .i64 j ∧ OwnB wr W3.heap.size v8 (bytesAll (L.take j)) ∧ Upd [] W3 wr ∧ allFormed (L.take j) = true) (fun _ v9 _ => L.length - (intOf v9).toNat)
  case atStart => exact ⟨0, by omega, rfl, World.ownsRow_nil _ _ _ _, Upd.refl _ _, rfl⟩
  case round =>
    obtain ⟨j, hj, rfl, ho, hu, hf⟩ := hrel
    have HO := Lib.hid ho
    have HUj := Lib.hid hu
    have HFj := Lib.hid hf
    clear ho hu hf
    by_cases hlt : j < L.length
    · have hjl : (j : Int) < (L.length : Int) := by omega
      obtain ⟨x, hx⟩ : ∃ x, L[j]? = some x := ⟨_, List.getElem?_eq_getElem hlt⟩
      obtain ⟨b, o, rfl⟩ := h.ne (by rintro rfl; simp at hlt)
      have hS := h.upd (U3.out.trans HUj.out) (by simp)
      have c0 := hS.cells b o rfl j x hx 0 _ rfl
      have c1 := hS.cells b o rfl j x hx 1 _ rfl
      have c2 := hS.cells b o rfl j x hx 2 _ rfl
      have c3 := hS.cells b o rfl j x hx 3 _ rfl
      have c4 := hS.cells b o rfl j x hx 4 _ rfl
      simp only [Nat.add_zero] at c0
      simp only [← Nat.add_assoc] at c0 c1 c2 c3 c4
      have hxw := hw x (List.mem_of_getElem? hx)
      have HXJ := Lib.hid hx
      have hRF := fun w => rformed x w
      clear hx hS
      cases hxf : formed x with
      | true =>
        have HXF := Lib.hid hxf
        have hRB := fun w => rbytes x w hxf hxw
        have HSN := Lib.hid (bytesAll_snoc L j x HXJ.out)
        have hbl := bytesOf_len x hxw
        have hpos := bytesOf_pos x
        have hal := bytesAll_len (L.take j) (fun y hy => hw y (List.mem_of_mem_take hy))
        rw [List.length_take] at hal
        have HLN : Hid ((bytesAll (L.take j)).length + (bytesOf x).length ≤ 140737488351232) := Lib.hid (by have := Nat.min_le_left j L.length; omega)
        rw [hxf] at hRF
        clear hxf hbl hal
        obtain ⟨op, xa, xb, xc, xn⟩ := x
        simp only [Ins.val] at hRF hRB
        simp only [Ins.cells] at c0 c1 c2 c3 c4
        obtain ⟨BX, hBX⟩ : ∃ BX, bytesOf ⟨op, xa, xb, xc, xn⟩ = BX := ⟨_, rfl⟩
        rw [hBX] at hRB HLN HSN hpos
        clear hBX
        obtain ⟨BJ, hBJ⟩ : ∃ BJ, bytesAll (L.take j) = BJ := ⟨_, rfl⟩
        rw [hBJ] at HO HLN HSN
        clear hBJ
        go_wp2_with fail
        refine (hRF _).mono ?_
        rintro e w5 ⟨rfl, u5⟩
        have HU5 := Lib.hid (HUj.out.trans u5)
        have HO5 := Lib.hid (own_upd HO.out u5 (by simp))
        have d0 := cell_upd c0 u5 (by simp)
        have d1 := cell_upd c1 u5 (by simp)
        have d2 := cell_upd c2 u5 (by simp)
        have d3 := cell_upd c3 u5 (by simp)
        have d4 := cell_upd c4 u5 (by simp)
        clear u5 c0 c1 c2 c3 c4
        go_wp2_with fail
        refine (hRB _).mono ?_
        rintro e w6 ⟨v6, rfl, o6, u6⟩
        have HU6 := Lib.hid (HU5.out.trans u6)
        have HO6 := Lib.hid (own_upd HO5.out u6 (by simp))
        obtain ⟨ad, c6, rfl, hsr⟩ := own_src1 o6 hpos
        have hs6 := HU6.out.size
        clear u6 d0 d1 d2 d3 d4 o6
        go_wp2_with (at_builtin; (refine wpList_append_own _ rfl (.tmp 58) (.tmp 63) 59 rfl W3.heap.size 5 i5 (.int .u8 0) 1 1 Tryd.underlying59 hi5 hz5 hs5 hy5 rfl (by decide) _ _ _ rfl HO6.out ad BX.length c6 (bcells BX) rfl (by rw [bcells_len, Nat.mul_one]) hsr (bcells_one BX) (by unfold maxLen; have := HLN.out; omega) (by have := HLN.out; omega) (by omega) ?_); intro v7 w7 ho7 hg7 _)
        have HU7 := Lib.hid (HU6.out.tr (U := []) (Upd.own hg7) (by simp) (fun g hg => .inr (own_blocks HO6.out g hg).1))
        rw [bcells_append] at ho7
        have HO7 : Hid (OwnB w7 W3.heap.size v7 (BJ ++ BX)) := Lib.hid (by unfold OwnB; rw [List.length_append]; exact ho7)
        clear ho7 hg7
        go_wp2_with fail
        go_roundw
        case rel => exact ⟨j + 1, by omega, by go_num, by rw [HSN.out]; exact HO7.out, HU7.out, take_formed HXJ.out HXF.out HFj.out⟩
        case measure => simp [intOf]; omega
      | false =>
        rw [hxf] at hRF
        clear hxf
        obtain ⟨op, xa, xb, xc, xn⟩ := x
        simp only [Ins.val] at hRF
        simp only [Ins.cells] at c0 c1 c2 c3 c4
        have L4 := Lib.hid (L3.out.upd HUj.out (by simp))
        go_wp2_with (first | (go_at_call 18; refine (hRF _).mono ?_; rintro e w5 ⟨rfl, u5⟩; have HU5 := Lib.hid (U3.out.trans (HUj.out.trans u5))) | (go_at_call 20; refine (num_any _ _).mono ?_; rintro e w' ⟨rfl, hw⟩; have hw2 := hw.symm; clear hw; subst hw2) | (go_at_call 28; refine (kept_any L g1 cg (some ⟨b, o, none⟩) cap _ hlb (L4.out.upd u5 (by simp)) (h.upd HU5.out (by simp))).mono ?_; rintro e w6 ⟨rfl, u6⟩) | (go_at_call 16; refine (works _ (hP.upd (HU5.out.trans u6))).mono ?_; rintro e w7 ⟨rfl, u7⟩))
        all_goals exact ⟨rfl, HU5.out.trans (u6.trans u7)⟩
    · obtain rfl : j = L.length := by omega
      exfalso
      have h9 := HFj.out
      rw [List.take_length, hF] at h9
      cases h9

theorem own_cap {w : World} {base : Nat} {e : TypeId} {size n c : Nat} {p : Option Addr} {us : List Value} (h : w.ownsRow base e size (.slice p n c) n us) : n ≤ c := by
  rcases h.2 with ⟨h1, h2⟩ | ⟨g, cap, cur, h1, _, _, h4, _⟩
  · omega
  · simp only [Value.slice.injEq] at h1
    omega
theorem own_blk_eq {w : World} {base : Nat} {e : TypeId} {size n c : Nat} {p : Option Addr} {us : List Value} (h : w.ownsRow base e size (.slice p n c) n us) : (Value.slice p n c).ownBlock.toList = p.toList.map (·.block) := by
  rcases h.2 with ⟨h1, _⟩ | ⟨g, cap, cur, h1, _⟩
  · simp only [Value.slice.injEq] at h1
    obtain ⟨rfl, _⟩ := h1
    rfl
  · simp only [Value.slice.injEq] at h1
    obtain ⟨rfl, _⟩ := h1
    rfl

set_option maxHeartbeats 4000000 in
theorem codeBytes_good (L : List Ins) (p : Option Addr) (cap : Nat) (w : World) (h : SlN w p L) (hw : words L) (hn : L.length * 40 ≤ 140737488351232) (hP : Pre w) (hF : allFormed L = true) :
    Calls Tryd.prog 8 #[.slice p L.length cap] w fun e w' => e = .returned (.bool true) ∧ Upd [] w w' := by
  obtain ⟨i5, hi5, hz5, hs5, hy5⟩ := info_parts info_u8
  have hlb : L.length < 4611686018427387904 := by omega
  have HRD := Lib.hid (read_bytes L hF hw)
  have hbl := bytesAll_len L hw
  have HBA := Lib.hid (show bytesAll (L.take L.length) = bytesAll L by rw [List.take_length])
  refine calls_all fun K hK => ?_
  go_enter Tryd.func8, Tryd.ntmps8
  go_wp2_with fail
  refine (lend_any L p cap _ h hn).mono ?_
  rintro e w1 ⟨g1, cg, rfl, l1, hg1, u1⟩
  have hcg := l1.1
  go_wp2_with fail
  refine (bytes_code L (some ⟨g1, 0, none⟩) cg _ l1.sl hw (by omega) hn).mono ?_
  rintro e w2 (⟨_, v4, rfl, o4, u2⟩ | ⟨hbad, _⟩)
  rotate_left
  · rw [hF] at hbad; cases hbad
  have l2 := l1.upd u2 (by simp)
  go_wp2_with fail
  refine (bytes_code L (some ⟨g1, 0, none⟩) cg _ l2.sl hw (by omega) hn).mono ?_
  rintro e W3 (⟨_, v6, rfl, o6, u3⟩ | ⟨hbad, _⟩)
  rotate_left
  · rw [hF] at hbad; cases hbad
  have L3 := Lib.hid (l2.upd u3 (by simp))
  have U3 := Lib.hid ((u1.trans u2).trans u3)
  have hs1 := u1.size
  have hs2 := u2.size
  have hs3 := u3.size
  have O4 := Lib.hid (show OwnB W3 w1.heap.size v4 (bytesAll L) from own_upd o4 u3 (by simp))
  have O6 := Lib.hid (show OwnB W3 w2.heap.size v6 (bytesAll L) from o6)
  have hb4 : ∀ k ∈ v4.ownBlock.toList, w1.heap.size ≤ k ∧ k < w2.heap.size := own_blocks o4
  clear l1 l2 u1 u2 u3 o4 o6
  obtain ⟨p4, c4, rfl⟩ := own_form O4.out
  obtain ⟨p6, c6, rfl⟩ := own_form O6.out
  have HB4 : Hid (∀ k ∈ p4.toList.map (·.block), w1.heap.size ≤ k ∧ k < w2.heap.size) := Lib.hid (by rw [← own_blk_eq O4.out]; exact hb4)
  have HB6 : Hid (∀ k ∈ p6.toList.map (·.block), w2.heap.size ≤ k ∧ k < W3.heap.size) := Lib.hid (by rw [← own_blk_eq O6.out]; exact own_blocks O6.out)
  clear hb4
  go_wp2_with fail
  go_loopw [8, 9] (fun v8 v9 wr => ∃ j : Nat, j ≤ L.length ∧ v9 = .int .i64 j ∧ OwnB wr W3.heap.size v8 (bytesAll (L.take j)) ∧ Upd [] W3 wr ∧ allFormed (L.take j) = true) (fun _ v9 _ => L.length - (intOf v9).toNat)
  case atStart => exact ⟨0, by omega, rfl, World.ownsRow_nil _ _ _ _, Upd.refl _ _, rfl⟩
  case round =>
    obtain ⟨j, hj, rfl, ho, hu, hf⟩ := hrel
    have HO := Lib.hid ho
    have HUj := Lib.hid hu
    have HFj := Lib.hid hf
    clear ho hu hf
    by_cases hlt : j < L.length
    · have hjl : (j : Int) < (L.length : Int) := by omega
      obtain ⟨x, hx⟩ : ∃ x, L[j]? = some x := ⟨_, List.getElem?_eq_getElem hlt⟩
      obtain ⟨b, o, rfl⟩ := h.ne (by rintro rfl; simp at hlt)
      have hS := h.upd (U3.out.trans HUj.out) (by simp)
      have c0 := hS.cells b o rfl j x hx 0 _ rfl
      have c1 := hS.cells b o rfl j x hx 1 _ rfl
      have c2 := hS.cells b o rfl j x hx 2 _ rfl
      have c3 := hS.cells b o rfl j x hx 3 _ rfl
      have c4 := hS.cells b o rfl j x hx 4 _ rfl
      simp only [Nat.add_zero] at c0
      simp only [← Nat.add_assoc] at c0 c1 c2 c3 c4
      have hxw := hw x (List.mem_of_getElem? hx)
      have HXJ := Lib.hid hx
      have hRF := fun w => rformed x w
      clear hx hS
      cases hxf : formed x with
      | true =>
        have HXF := Lib.hid hxf
        have hRB := fun w => rbytes x w hxf hxw
        have HSN := Lib.hid (bytesAll_snoc L j x HXJ.out)
        have hbl := bytesOf_len x hxw
        have hpos := bytesOf_pos x
        have hal := bytesAll_len (L.take j) (fun y hy => hw y (List.mem_of_mem_take hy))
        rw [List.length_take] at hal
        have HLN : Hid ((bytesAll (L.take j)).length + (bytesOf x).length ≤ 140737488351232) := Lib.hid (by have := Nat.min_le_left j L.length; omega)
        rw [hxf] at hRF
        clear hxf hbl hal
        obtain ⟨op, xa, xb, xc, xn⟩ := x
        simp only [Ins.val] at hRF hRB
        simp only [Ins.cells] at c0 c1 c2 c3 c4
        obtain ⟨BX, hBX⟩ : ∃ BX, bytesOf ⟨op, xa, xb, xc, xn⟩ = BX := ⟨_, rfl⟩
        rw [hBX] at hRB HLN HSN hpos
        clear hBX
        obtain ⟨BJ, hBJ⟩ : ∃ BJ, bytesAll (L.take j) = BJ := ⟨_, rfl⟩
        rw [hBJ] at HO HLN HSN
        clear hBJ
        go_wp2_with fail
        refine (hRF _).mono ?_
        rintro e w5 ⟨rfl, u5⟩
        have HU5 := Lib.hid (HUj.out.trans u5)
        have HO5 := Lib.hid (own_upd HO.out u5 (by simp))
        have d0 := cell_upd c0 u5 (by simp)
        have d1 := cell_upd c1 u5 (by simp)
        have d2 := cell_upd c2 u5 (by simp)
        have d3 := cell_upd c3 u5 (by simp)
        have d4 := cell_upd c4 u5 (by simp)
        clear u5 c0 c1 c2 c3 c4
        go_wp2_with fail
        refine (hRB _).mono ?_
        rintro e w6 ⟨v6, rfl, o6, u6⟩
        have HU6 := Lib.hid (HU5.out.trans u6)
        have HO6 := Lib.hid (own_upd HO5.out u6 (by simp))
        obtain ⟨ad, c6, rfl, hsr⟩ := own_src1 o6 hpos
        have hs6 := HU6.out.size
        clear u6 d0 d1 d2 d3 d4 o6
        go_wp2_with (at_builtin; (refine wpList_append_own _ rfl (.tmp 58) (.tmp 63) 59 rfl W3.heap.size 5 i5 (.int .u8 0) 1 1 Tryd.underlying59 hi5 hz5 hs5 hy5 rfl (by decide) _ _ _ rfl HO6.out ad BX.length c6 (bcells BX) rfl (by rw [bcells_len, Nat.mul_one]) hsr (bcells_one BX) (by unfold maxLen; have := HLN.out; omega) (by have := HLN.out; omega) (by omega) ?_); intro v7 w7 ho7 hg7 _)
        have HU7 := Lib.hid (HU6.out.tr (U := []) (Upd.own hg7) (by simp) (fun g hg => .inr (own_blocks HO6.out g hg).1))
        rw [bcells_append] at ho7
        have HO7 : Hid (OwnB w7 W3.heap.size v7 (BJ ++ BX)) := Lib.hid (by unfold OwnB; rw [List.length_append]; exact ho7)
        clear ho7 hg7
        go_wp2_with fail
        go_roundw
        case rel => exact ⟨j + 1, by omega, by go_num, by rw [HSN.out]; exact HO7.out, HU7.out, take_formed HXJ.out HXF.out HFj.out⟩
        case measure => simp [intOf]; omega
      | false =>
        exfalso
        have h9 := formed_not HXJ.out hxf
        rw [hF] at h9
        cases h9
    · obtain rfl : j = L.length := by omega
      have hLL : ¬ ((L.length : Int) < (L.length : Int)) := by omega
      rw [HBA.out] at HO
      obtain ⟨p8, c8, rfl⟩ := own_form HO.out
      have O4j := Lib.hid (show OwnB wr _ _ _ from own_upd O4.out HUj.out (by simp))
      have O6j := Lib.hid (show OwnB wr _ _ _ from own_upd O6.out HUj.out (by simp))
      have L4 := Lib.hid (L3.out.upd HUj.out (by simp))
      have U4 := Lib.hid (U3.out.trans HUj.out)
      have hs4 := HUj.out.size
      have HB8 : Hid (∀ k ∈ p8.toList.map (·.block), W3.heap.size ≤ k ∧ k < wr.heap.size) := Lib.hid (by rw [← own_blk_eq HO.out]; exact own_blocks HO.out)
      have cv4 := conv_own O4j.out
      have cv6 := conv_own O6j.out
      have cv8 := conv_own HO.out
      clear O4 O6 L3 U3 HUj HFj
      generalize bytesAll L = BL at *
      go_wp2_with (first | (go_at_call 20; refine (num_any _ _).mono ?_; rintro e w' ⟨rfl, hw⟩; have hw2 := hw.symm; clear hw; subst hw2) | (go_at_call 28; refine (kept_any L g1 cg p cap _ hlb L4.out (h.upd U4.out (by simp))).mono ?_; rintro e w5 ⟨rfl, u5⟩; clear cv4 cv6 cv8))
      have O4k := Lib.hid (show OwnB w5 _ _ _ from own_upd O4j.out u5 (by simp))
      have O6k := Lib.hid (show OwnB w5 _ _ _ from own_upd O6j.out u5 (by simp))
      have O8k := Lib.hid (show OwnB w5 _ _ _ from own_upd HO.out u5 (by simp))
      have U5 := Lib.hid (U4.out.trans u5)
      have hs5' := u5.size
      clear O4j O6j HO L4 U4 u5
      go_loopw [10] (fun v10 wr => ∃ i : Nat, i ≤ BL.length ∧ v10 = .int .i64 i ∧ (∃ us, wr.ownsRow w1.heap.size 5 1 (.slice p4 BL.length c4) BL.length us) ∧ Upd (p4.toList.map (·.block)) w5 wr) (fun v10 _ => BL.length - (intOf v10).toNat)
      case atStart => exact ⟨0, by omega, rfl, ⟨_, O4k.out⟩, Upd.refl _ _⟩
      case round =>
        obtain ⟨i, hi, rfl, ⟨us, ho⟩, hu⟩ := hrel
        have HOi := Lib.hid ho
        have HUi := Lib.hid hu
        clear ho hu
        by_cases hib : i < BL.length
        · obtain ⟨g4, c4', e4⟩ := own_some HOi.out (by omega)
          simp only [Value.slice.injEq] at e4
          obtain ⟨rfl, _, _⟩ := e4
          have hul : us.length = BL.length * 1 := HOi.out.1
          have hil : (i : Int) < (BL.length : Int) := by omega
          have ci := HOi.out.cellAt i (by omega)
          rw [List.getElem?_eq_getElem (by omega)] at ci
          have cf := HOi.out.frozenAt i
          generalize us[i] = z at ci
          have HST := Lib.hid (HOi.out.stored i (.int .u8 238)).1
          clear hul
          go_wp2_with fail
          go_roundw
          case rel => exact ⟨i + 1, by omega, by go_num, ⟨_, HST.out⟩, HUi.out.setCell (.inl (by simp)) _⟩
          case measure => simp [intOf]; omega
        · have hil : ¬ (i : Int) < (BL.length : Int) := by omega
          have O6l := Lib.hid (show OwnB wr _ _ _ from own_upd O6k.out HUi.out (fun k hk e => by
            have h4 := HB4.out k hk
            have h6 := HB6.out k (by rw [← own_blk_eq O6k.out, e]; simp)
            omega))
          have O8l := Lib.hid (show OwnB wr _ _ _ from own_upd O8k.out HUi.out (fun k hk e => by
            have h4 := HB4.out k hk
            have h8 := HB8.out k (by rw [← own_blk_eq O8k.out, e]; simp)
            omega))
          have U6 := Lib.hid (U5.out.tr HUi.out (U := []) (by simp) (fun k hk => .inr (by have := HB4.out k hk; omega)))
          have hs6' := HUi.out.size
          clear O6k O8k O4k U5 HUi
          go_wp2_with (at_builtin; (refine wpList_append_own _ rfl (.tmp 97) (.tmp 98) 59 rfl w1.heap.size 5 i5 (.int .u8 0) 1 1 Tryd.underlying59 hi5 hz5 hs5 hy5 rfl (by decide) _ _ _ rfl (World.ownsRow.alloc HOi.out _) ⟨_, 0, none⟩ 3 3 [.int .u8 1, .int .u8 2, .int .u8 3] rfl rfl (news_new _ 5 (by simp)) (by simp [Value.oneCell']) (by unfold maxLen; omega) (by omega) (by simp; omega) ?_); intro v9 w9 ho9 hg9 _)
          have hbk := own_blocks (World.ownsRow.alloc HOi.out (.cells #[.int .u8 1, .int .u8 2, .int .u8 3] 5))
          rw [own_blk_eq HOi.out] at hbk
          have HU9 : Hid (Upd (p4.toList.map (·.block)) wr w9) := Lib.hid (((Upd.refl (p4.toList.map (·.block)) wr).alloc (.cells #[.int .u8 1, .int .u8 2, .int .u8 3] 5)).trans (by have h9 : Upd (Value.slice p4 BL.length c4).ownBlock.toList _ w9 := Upd.own hg9; rw [own_blk_eq HOi.out] at h9; exact h9))
          obtain ⟨p9, c9, rfl⟩ := own_form ho9
          have O6m := Lib.hid (show OwnB w9 _ _ _ from own_upd O6l.out HU9.out (fun k hk e => by
            have h4 := HB4.out k hk
            have h6 := HB6.out k (by rw [← own_blk_eq O6l.out, e]; simp)
            omega))
          have O8m := Lib.hid (show OwnB w9 _ _ _ from own_upd O8l.out HU9.out (fun k hk e => by
            have h4 := HB4.out k hk
            have h8 := HB8.out k (by rw [← own_blk_eq O8l.out, e]; simp)
            omega))
          have U9 := Lib.hid (U6.out.tr HU9.out (U := []) (by simp) (fun k hk => .inr (by have := HB4.out k hk; omega)))
          have U9s := Lib.hid U9.out.size
          clear hbk ho9 hg9 HU9 O6l O8l U6 HOi
          have hrd := fun w' h' => read_code BL p6 c6 w' h' (own_cap O6m.out) (by omega) (by rw [HRD.out]; exact hn)
          rw [HRD.out] at hrd
          unfold readOk at hrd
          simp only at hrd
          go_wp2_with fail
          refine (hrd _ (SlB.of_own O6m.out)).mono ?_
          rintro e wa (⟨_, v11, rfl, oa, ua⟩ | ⟨hbad, _⟩)
          · have O6a := Lib.hid (show OwnB wa _ _ _ from own_upd O6m.out ua (by simp))
            have O8a := Lib.hid (show OwnB wa _ _ _ from own_upd O8m.out ua (by simp))
            have Ua := Lib.hid (U9.out.trans ua)
            obtain ⟨p11, c11, rfl⟩ := own_form oa
            have OA := Lib.hid oa
            have hsa := ua.size
            clear ua oa O6m O8m U9
            go_wp2_with fail
            refine (hrd _ (SlB.of_own O6a.out)).mono ?_
            rintro e wb (⟨_, v14, rfl, ob, ub⟩ | ⟨hbad, _⟩)
            · have O6b := Lib.hid (show OwnB wb _ _ _ from own_upd O6a.out ub (by simp))
              have O8b := Lib.hid (show OwnB wb _ _ _ from own_upd O8a.out ub (by simp))
              have Ub := Lib.hid (Ua.out.trans ub)
              obtain ⟨p14, c14, rfl⟩ := own_form ob
              have OB := Lib.hid ob
              have OAb := Lib.hid (show OwnI wb _ _ _ from own_upd OA.out ub (by simp))
              have HBA2 : Hid (∀ k ∈ p11.toList.map (·.block), w9.heap.size ≤ k ∧ k < wa.heap.size) := Lib.hid (by rw [← own_blk_eq OA.out]; exact own_blocks OA.out)
              have HBB : Hid (∀ k ∈ p14.toList.map (·.block), wa.heap.size ≤ k ∧ k < wb.heap.size) := Lib.hid (by rw [← own_blk_eq OB.out]; exact own_blocks OB.out)
              have cv6 := conv_own O6b.out
              have cv8 := conv_own O8b.out
              have hsb := ub.size
              clear ub ob O6a O8a Ua OA hrd
              have hn3 : (((BL.length + 3 : Nat) : Int) != (BL.length : Int) + 3) = false := by simp
              go_wp2_with ((go_at_call 20; refine (num_any _ _).mono ?_; rintro e w' ⟨rfl, hw⟩; have hw2 := hw.symm; clear hw; subst hw2))
              refine (same_any L p11 p c11 cap _ hlb OAb.out.sl (h.upd Ub.out (by simp))).mono ?_
              rintro e wc ⟨rfl, uc⟩
              have cvc6 := conv_own (show OwnB wc _ _ _ from own_upd O6b.out uc (by simp))
              have cvc8 := conv_own (show OwnB wc _ _ _ from own_upd O8b.out uc (by simp))
              go_wp2_with ((go_at_call 20; refine (num_any _ _).mono ?_; rintro e w' ⟨rfl, hw⟩; have hw2 := hw.symm; clear hw; subst hw2))
              refine (same_any L p14 p c14 cap _ hlb (OB.out.sl.upd uc (by simp)) (h.upd (Ub.out.trans uc) (by simp))).mono ?_
              rintro e wd ⟨rfl, ud⟩
              have Ud := Lib.hid ((Ub.out.trans uc).trans ud)
              have OAd := Lib.hid (show OwnI wd _ _ _ from own_upd OAb.out (uc.trans ud) (by simp))
              have OBd := Lib.hid (show OwnI wd _ _ _ from own_upd OB.out (uc.trans ud) (by simp))
              have hsd := (uc.trans ud).size
              clear cv6 cv8 cvc6 cvc8 uc ud OAb OB Ub O6b O8b
              go_wp2_with ((go_at_call 20; refine (num_any _ _).mono ?_; rintro e w' ⟨rfl, hw⟩; have hw2 := hw.symm; clear hw; subst hw2))
              obtain ⟨hne, hwr⟩ := own_writable OAd.out
              have HNE := Lib.hid hne
              have HWR := Lib.hid hwr
              clear hne hwr
              go_loopw [17] (fun v17 wr => ∃ i : Nat, i ≤ L.length ∧ v17 = .int .i64 i ∧ Upd (p11.toList.map (·.block)) wd wr ∧ ∀ g, p11 = some ⟨g, 0, none⟩ → ∃ cs, Blk wr g cs 38 ∧ L.length * 5 ≤ cs.length) (fun v17 _ => L.length - (intOf v17).toNat)
              case atStart => exact ⟨0, by omega, rfl, Upd.refl _ _, fun g e => (HWR.out g e).2⟩
              case round =>
                obtain ⟨i, hi, rfl, hu, hb⟩ := hrel
                have HUi := Lib.hid hu
                have HBi := Lib.hid hb
                clear hu hb
                by_cases hlt : i < L.length
                · obtain ⟨gl, hgle⟩ := HNE.out (by omega)
                  obtain ⟨cs, hB, hcs⟩ := HBi.out gl hgle
                  subst hgle
                  obtain ⟨z0, hz0⟩ : ∃ z, cs[i * 5]? = some z := ⟨_, List.getElem?_eq_getElem (by omega)⟩
                  obtain ⟨z1, hz1⟩ : ∃ z, cs[i * 5 + 1]? = some z := ⟨_, List.getElem?_eq_getElem (by omega)⟩
                  obtain ⟨z2, hz2⟩ : ∃ z, cs[i * 5 + 2]? = some z := ⟨_, List.getElem?_eq_getElem (by omega)⟩
                  obtain ⟨z3, hz3⟩ : ∃ z, cs[i * 5 + 3]? = some z := ⟨_, List.getElem?_eq_getElem (by omega)⟩
                  obtain ⟨z4, hz4⟩ : ∃ z, cs[i * 5 + 4]? = some z := ⟨_, List.getElem?_eq_getElem (by omega)⟩
                  have d0 := hB.cell (i * 5) hz0
                  have d1 := hB.cell (i * 5 + 1) hz1
                  have d2 := hB.cell (i * 5 + 2) hz2
                  have d3 := hB.cell (i * 5 + 3) hz3
                  have d4 := hB.cell (i * 5 + 4) hz4
                  have f0 := hB.free (i * 5)
                  have f1 := hB.free (i * 5 + 1)
                  have f2 := hB.free (i * 5 + 2)
                  have f3 := hB.free (i * 5 + 3)
                  have f4 := hB.free (i * 5 + 4)
                  have hil : (i : Int) < (L.length : Int) := by omega
                  have HBS := Lib.hid (((((hB.set (i * 5) (.int .i64 0)).set (i * 5 + 1) (.int .i64 0)).set (i * 5 + 2) (.int .i64 0)).set (i * 5 + 3) (.int .i64 0)).set (i * 5 + 4) (.int .u64 0))
                  have HCS := Lib.hid hcs
                  clear hB hz0 hz1 hz2 hz3 hz4 hcs
                  go_wp2_with fail
                  go_roundw
                  case rel => exact ⟨i + 1, by omega, by go_num, ((((HUi.out.setCell (.inl (by simp)) _).setCell (.inl (by simp)) _).setCell (.inl (by simp)) _).setCell (.inl (by simp)) _).setCell (.inl (by simp)) _, fun g e => by
                    simp only [Option.some.injEq, Addr.mk.injEq, and_true] at e
                    subst e
                    exact ⟨_, HBS.out, by simp only [List.length_set]; exact HCS.out⟩⟩
                  case measure => simp [intOf]; omega
                · obtain rfl : i = L.length := by omega
                  have OBe := Lib.hid (show OwnI wr _ _ _ from own_upd OBd.out HUi.out (fun k hk e => by
                    have h4 := HBA2.out k hk
                    have h8 := HBB.out k (by rw [← own_blk_eq OBd.out, e]; simp)
                    omega))
                  have Ue := Lib.hid (Ud.out.tr HUi.out (U := []) (by simp) (fun k hk => .inr (by have := HBA2.out k hk; have := U9s.out; omega)))
                  have hLL2 : ¬ ((L.length : Int) < (L.length : Int)) := by omega
                  go_wp2_with ((go_at_call 20; refine (num_any _ _).mono ?_; rintro e w' ⟨rfl, hw⟩; have hw2 := hw.symm; clear hw; subst hw2))
                  refine (same_any L p14 p c14 cap _ hlb OBe.out.sl (h.upd Ue.out (by simp))).mono ?_
                  rintro e wf ⟨rfl, uf⟩
                  go_wp2_with ((go_at_call 20; refine (num_any _ _).mono ?_; rintro e w' ⟨rfl, hw⟩; have hw2 := hw.symm; clear hw; subst hw2))
                  refine (works _ (hP.upd (Ue.out.trans uf))).mono ?_
                  rintro e wg ⟨rfl, ug⟩
                  go_wp2_with fail
                  all_goals exact ⟨rfl, Ue.out.trans (uf.trans ug)⟩
            · cases hbad
          · cases hbad

theorem codeBytes_walk (L : List Ins) (p : Option Addr) (cap : Nat) (w : World) (h : SlN w p L) (hw : words L) (hn : L.length * 40 ≤ 140737488351232) (hP : Pre w) :
    Calls Tryd.prog 8 #[.slice p L.length cap] w fun e w' => e = .returned (.bool true) ∧ Upd [] w w' := by
  cases hF : allFormed L with
  | true => exact codeBytes_good L p cap w h hw hn hP hF
  | false => exact codeBytes_bad L p cap w h hw hn hP hF
end Go.Proofs.YtjcnlfihjfcpoaaDoor
