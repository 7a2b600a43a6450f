/- Join: programs put behind one another: the code and the reference. The conditions are sizes. -/
import Derived.Test.YtjcnlfihjfcpoaaDoorCLend
import Derived.Test.YtjcnlfihjfcpoaaDoorCRText
set_option linter.unusedSimpArgs false
set_option linter.unusedVariables false
set_option maxRecDepth 100000
namespace Go.Proofs.YtjcnlfihjfcpoaaDoor
open Go.RowKit

def shift (a : Nat) (i : Ins) : Ins := if (formI i.op).target = true then ⟨i.op, i.a, i.b, i.c, (i.n + a) % 18446744073709551616⟩ else i
def joinL : List (List Ins) → List Ins → Option (List Ins)
  | [], out => some out
  | P :: r, out => if allFormed P = true then joinL r (out ++ P.map (shift out.length)) else none
def total (Ls : List (List Ins)) : Nat := (Ls.map List.length).sum

/-- a slice of slices that read as these programs -/
structure SlL (w : World) (p : Option Addr) (Ls : List (List Ins)) : Prop where
  ne : Ls ≠ [] → ∃ b o, p = some ⟨b, o, none⟩
  cells : ∀ b o, p = some ⟨b, o, none⟩ → ∀ k P, Ls[k]? = some P → ∃ q c, w.cell? ⟨b, o + k, none⟩ = some (.slice q P.length c) ∧ SlN w q P
theorem SlL.upd {w w' : World} {p : Option Addr} {Ls : List (List Ins)} (h : SlL w p Ls) (u : Upd [] w w') : SlL w' p Ls :=
  ⟨h.ne, fun b o e k P hP => by
    obtain ⟨q, c, h1, h2⟩ := h.cells b o e k P hP
    exact ⟨q, c, cell_upd h1 u (by simp), h2.upd u (by simp)⟩⟩

def OwnI (w : World) (base : Nat) (v : Value) (l : List Ins) : Prop := w.ownsRow base 38 5 v l.length (icells l)
theorem own_pushI {w : World} {base : Nat} {v : Value} {l : List Ins} (y : Ins) (h : w.ownsRow base 38 5 v (l.length + 1) (icells l ++ y.cells)) : OwnI w base v (l ++ [y]) := by
  have e : icells (l ++ [y]) = icells l ++ y.cells := by simp [icells]
  unfold OwnI
  rw [List.length_append, e]
  exact h

def joinOk (base : World) (okv badv : Value) (X : Option (List Ins)) (e : Ending) (w' : World) : Prop :=
  (∃ out v, X = some out ∧ e = .returned (.tuple #[v, okv]) ∧ OwnI w' base.heap.size v out ∧ Upd [] base w') ∨ (X = none ∧ e = .returned (.tuple #[.slice none 0 0, badv]) ∧ Upd [] base w')

theorem formed_not {P : List Ins} {j : Nat} {x : Ins} (hx : P[j]? = some x) (h : formed x = false) : allFormed P = false := by
  unfold allFormed; rw [List.all_eq_false]; exact ⟨x, List.mem_of_getElem? hx, by rw [h]; decide⟩
theorem take_formed {P : List Ins} {j : Nat} {x : Ins} (hx : P[j]? = some x) (h : formed x = true) (ht : allFormed (P.take j) = true) : allFormed (P.take (j + 1)) = true := by
  rw [List.take_add_one, hx]
  unfold allFormed at *
  simp only [Option.toList_some, List.all_append, ht, List.all_cons, h, List.all_nil, Bool.and_self]
theorem take_map {P : List Ins} {j : Nat} {x : Ins} (hx : P[j]? = some x) (f : Ins → Ins) : (P.take (j + 1)).map f = (P.take j).map f ++ [f x] := by
  rw [List.take_add_one, hx]; simp

theorem total_drop {Ls : List (List Ins)} {k : Nat} {P : List Ins} (h : Ls[k]? = some P) : Ls.drop k = P :: Ls.drop (k + 1) ∧ total (Ls.drop k) = P.length + total (Ls.drop (k + 1)) := by
  have hk := (List.getElem?_eq_some_iff.1 h).1
  have e : Ls.drop k = P :: Ls.drop (k + 1) := by
    rw [List.drop_eq_getElem_cons hk]
    congr 1
    exact (List.getElem?_eq_some_iff.1 h).2
  exact ⟨e, by rw [e]; simp [total]⟩

set_option maxHeartbeats 4000000 in
theorem join_code (Ls : List (List Ins)) (p : Option Addr) (cp : Nat) (w : World) (h : SlL w p Ls) (hw : ∀ P ∈ Ls, words P) (hT : total Ls * 40 ≤ 140737488351232) (hLs : Ls.length < 4611686018427387904) :
    Calls Tryd.prog 25 #[.slice p Ls.length cp] w (joinOk w (.int .i64 0) (.int .i64 180) (joinL Ls [])) := by
  obtain ⟨i0, hi, hz0, hz1, hz2⟩ := info_parts info_instr
  obtain ⟨X, hX⟩ : ∃ X, joinL Ls [] = X := ⟨_, rfl⟩
  rw [hX]
  have HX := Lib.hid hX
  clear hX
  refine calls_all fun K hK => ?_
  go_enter Tryd.func25, Tryd.ntmps25
  go_wp2_with fail
  go_loopw [4, 14] (fun v4 v14 wr => ∃ (k : Nat) (out : List Ins), k ≤ Ls.length ∧ v14 = .int .i64 k ∧ OwnI wr w.heap.size v4 out ∧ Upd [] w wr ∧ joinL (Ls.drop k) out = X ∧ out.length + total (Ls.drop k) = total Ls) (fun _ v14 _ => Ls.length - (intOf v14).toNat)
  case atStart => exact ⟨0, [], by omega, rfl, World.ownsRow_nil _ _ _ _, Upd.refl _ _, HX.out, by simp⟩
  case round =>
    obtain ⟨k, out, hk, rfl, ho, hu, hj, ht⟩ := hrel
    have HO := Lib.hid ho
    have HU := Lib.hid hu
    by_cases hlt : k < Ls.length
    · obtain ⟨P, hP⟩ : ∃ P, Ls[k]? = some P := ⟨_, List.getElem?_eq_getElem hlt⟩
      obtain ⟨b, o, rfl⟩ := h.ne (by rintro rfl; simp at hlt)
      obtain ⟨q, c, hcell, hsP⟩ := h.cells b o rfl k P hP
      have hcw := cell_upd hcell hu (by simp)
      obtain ⟨hd1, hd2⟩ := total_drop hP
      rw [hd1, joinL] at hj
      rw [hd2] at ht
      have hwP := hw P (List.mem_of_getElem? hP)
      have HJ := Lib.hid hj
      have HT := Lib.hid ht
      have hlen : out.length + P.length ≤ total Ls := by omega
      have hkl : (k : Int) < (Ls.length : Int) := by omega
      have hwA : IntKind.u64.wrap (out.length : Int) = out.length := by rw [IntKind.wrap_u64]; omega
      have HCELL := Lib.hid hcell
      clear hcell ho hu hj ht hd1 hd2
      obtain ⟨fm, hlm⟩ := own_form HO.out
      obtain ⟨cm, rfl⟩ := hlm
      go_wp2_with fail
      go_loopw [4, 23] (fun v4 v23 wr2 => ∃ j : Nat, j ≤ P.length ∧ v23 = .int .i64 j ∧ OwnI wr2 w.heap.size v4 (out ++ (P.take j).map (shift out.length)) ∧ Upd [] w wr2 ∧ allFormed (P.take j) = true) (fun _ v23 _ => P.length - (intOf v23).toNat)
      case atStart => exact ⟨0, by omega, rfl, by simpa using HO.out, HU.out, rfl⟩
      case round =>
        obtain ⟨j, hj, rfl, hoj, huj, hfj⟩ := hrel
        have HOj := Lib.hid hoj
        have HUj := Lib.hid huj
        have HFj := Lib.hid hfj
        have hwsj := huj.size
        have hcj := cell_upd HCELL.out huj (by simp)
        clear hoj huj hfj hcw
        by_cases hlt2 : j < P.length
        · obtain ⟨x, hx⟩ : ∃ x, P[j]? = some x := ⟨_, List.getElem?_eq_getElem hlt2⟩
          obtain ⟨bq, oq, rfl⟩ := hsP.ne (by rintro rfl; simp at hlt2)
          have c0 := (hsP.upd HUj.out (by simp)).cells bq oq rfl j x hx 0 _ rfl
          have c1 := (hsP.upd HUj.out (by simp)).cells bq oq rfl j x hx 1 _ rfl
          have c2 := (hsP.upd HUj.out (by simp)).cells bq oq rfl j x hx 2 _ rfl
          have c3 := (hsP.upd HUj.out (by simp)).cells bq oq rfl j x hx 3 _ rfl
          have c4 := (hsP.upd HUj.out (by simp)).cells bq oq rfl j x hx 4 _ rfl
          have hjl : (j : Int) < (P.length : Int) := by omega
          simp only [Nat.add_zero] at c0
          simp only [← Nat.add_assoc] at c0 c1 c2 c3 c4
          have hxw := hwP x (List.mem_of_getElem? hx)
          have HFo := fun w => formed_code x w
          have HIn := fun w => info x.op w
          have hsh : shift out.length x = if (formI x.op).target = true then ⟨x.op, x.a, x.b, x.c, (x.n + out.length) % 18446744073709551616⟩ else x := rfl
          have htm := take_map hx (shift out.length)
          obtain ⟨l, hl⟩ : ∃ l, out ++ (P.take j).map (shift out.length) = l := ⟨_, rfl⟩
          have hll : Hid (l.length = out.length + j) := Lib.hid (by rw [← hl, List.length_append, List.length_map, List.length_take]; omega)
          rw [hl] at HOj
          have HNX : Hid (∀ y, shift out.length x = y → out ++ (P.take (j + 1)).map (shift out.length) = l ++ [y]) := Lib.hid (fun y hy => by rw [htm, hy, ← List.append_assoc, hl])
          have HXX := Lib.hid hx
          clear hl htm
          simp only [Ins.val] at HFo
          cases hfo : formed x with
          | false =>
            rw [hfo] at HFo
            have HE : Hid (X = none) := Lib.hid (by rw [← HJ.out, if_neg (by rw [formed_not hx hfo]; simp)])
            clear hfo hx hsh
            go_wp2_with fail
            refine (HFo _).mono ?_
            rintro e w1 ⟨rfl, u1⟩
            have HU1 := Lib.hid ((HUj.out.alloc _).trans u1)
            clear u1
            go_wp2
            all_goals exact .inr ⟨HE.out, rfl, HU1.out⟩
          | true =>
            rw [hfo] at HFo
            have HTF := Lib.hid (take_formed hx hfo HFj.out)
            clear hfo hx
            generalize formI x.op = f at *
            generalize isOp x.op = iso at *
            obtain ⟨R, num, tg, ou, ins⟩ := f
            simp only [Form.val] at HIn
            simp only at hsh
            go_wp2_with fail
            refine (HFo _).mono ?_
            rintro e w1 ⟨rfl, u1⟩
            have bb := (Blk.new wr [.int .i64 x.op, .int .i64 x.a, .int .i64 x.b, .int .i64 x.c, .int .u64 x.n] 38).upd u1 (by simp)
            have HU1 := Lib.hid ((HUj.out.alloc (.cells #[.int .i64 x.op, .int .i64 x.a, .int .i64 x.b, .int .i64 x.c, .int .u64 x.n] 38)).trans u1)
            have HO1 := Lib.hid (own_upd (HOj.out.alloc (.cells #[.int .i64 x.op, .int .i64 x.a, .int .i64 x.b, .int .i64 x.c, .int .u64 x.n] 38)) u1 (by simp))
            have hown := own_blocks HOj.out
            have k0 := bb.cell 0 rfl
            have BB := Lib.hid bb
            clear u1 bb c0 c1 c2 c3 c4 hcj
            obtain ⟨xb, hxb⟩ : ∃ xb, wr.heap.size = xb := ⟨_, rfl⟩
            rw [hxb] at k0 BB hown hwsj ⊢
            have HNO : Hid (∀ g ∈ [xb], u4.ownBlock ≠ some g) := Lib.hid (fun g hg e => by
              simp only [List.mem_singleton] at hg
              have := (hown g (by rw [e]; simp)).2
              omega)
            clear hxb hown
            go_wp2_with fail
            refine (HIn _).mono ?_
            rintro e w2 ⟨rfl, u2⟩
            have HU2 := Lib.hid ((HU1.out.trans u2).alloc (.cells #[.int .i64 (R : Int), .bool num, .bool tg, .bool ou, .bool ins] 24))
            have HO2 := Lib.hid (World.ownsRow.alloc (own_upd HO1.out u2 (by simp)) (.cells #[.int .i64 (R : Int), .bool num, .bool tg, .bool ou, .bool ins] 24))
            have bb2 := (BB.out.upd u2 (by simp)).alloc (.cells #[.int .i64 (R : Int), .bool num, .bool tg, .bool ou, .bool ins] 24)
            have d0 := bb2.cell 0 rfl
            have d1 := bb2.cell 1 rfl
            have d2 := bb2.cell 2 rfl
            have d3 := bb2.cell 3 rfl
            have d4 := bb2.cell 4 rfl
            have z4 := bb2.free 4
            have hws2 := HU2.out.size
            clear u2 k0 HU1 HO1 BB bb2
            simp only [World.size_alloc] at hws2
            cases tg with
            | false =>
              simp only [Bool.false_eq_true, if_false] at hsh
              have HNY := Lib.hid (HNX.out x hsh)
              clear hsh HNX
              go_wp2_with (at_builtin; refine wpList_append_own _ rfl (.tmp 43) (.tmp 45) 50 rfl w.heap.size 38 i0 (.agg #[.int .i64 0, .int .i64 0, .int .i64 0, .int .i64 0, .int .u64 0]) 5 40 Tryd.underlying50 hi hz0 hz1 hz2 rfl (by decide) _ _ _ rfl (World.ownsRow.alloc HO2.out _) ⟨_, 0, none⟩ 1 1 x.cells rfl rfl (news_new x.cells 38 (by simp)) (by simp [Ins.cells, Value.oneCell']) (by unfold maxLen; have := hll.out; omega) (by have := hll.out; omega) (by simp only [World.size_alloc]; omega) ?_; intro v6 w6 ho6 hg6 _)
              have HU6 := Lib.hid ((HU2.out.alloc _).tr (U := []) (Upd.own hg6) (by simp) (fun g hg => .inr (own_blocks HO2.out g hg).1))
              have HO6 := Lib.hid (own_pushI x ho6)
              clear ho6 hg6
              go_roundw
              case rel => exact ⟨j + 1, by omega, by go_num, by rw [HNY.out]; exact HO6.out, HU6.out, HTF.out⟩
              case measure => simp [intOf]; omega
            | true =>
              simp only [if_true] at hsh
              have HNY := Lib.hid (HNX.out _ hsh)
              clear hsh HNX
              have HOS := Lib.hid (own_upd HO2.out ((Upd.refl [xb] _).setCell (p := ⟨xb, 4, none⟩) (.inl (by simp)) (.int .u64 ((x.n + out.length) % 18446744073709551616))) HNO.out)
              have HUS := Lib.hid (HU2.out.setCell (p := ⟨xb, 4, none⟩) (.inr (by dsimp only; omega)) (.int .u64 ((x.n + out.length) % 18446744073709551616)))
              go_wp2_with (at_builtin; refine wpList_append_own _ rfl (.tmp 43) (.tmp 45) 50 rfl w.heap.size 38 i0 (.agg #[.int .i64 0, .int .i64 0, .int .i64 0, .int .i64 0, .int .u64 0]) 5 40 Tryd.underlying50 hi hz0 hz1 hz2 rfl (by decide) _ _ _ rfl (World.ownsRow.alloc HOS.out _) ⟨_, 0, none⟩ 1 1 (Ins.cells ⟨x.op, x.a, x.b, x.c, (x.n + out.length) % 18446744073709551616⟩) rfl rfl (news_new (Ins.cells ⟨x.op, x.a, x.b, x.c, (x.n + out.length) % 18446744073709551616⟩) 38 (by simp)) (by simp [Ins.cells, Value.oneCell']) (by unfold maxLen; have := hll.out; omega) (by have := hll.out; omega) (by simp only [World.size_alloc, World.size_setCell]; omega) ?_; intro v6 w6 ho6 hg6 _)
              have HU6 := Lib.hid ((HUS.out.alloc _).tr (U := []) (Upd.own hg6) (by simp) (fun g hg => .inr (own_blocks HOS.out g hg).1))
              have HO6 := Lib.hid (own_pushI ⟨x.op, x.a, x.b, x.c, (x.n + out.length) % 18446744073709551616⟩ ho6)
              clear ho6 hg6
              go_roundw
              case rel => exact ⟨j + 1, by omega, by go_num, by rw [HNY.out]; exact HO6.out, HU6.out, HTF.out⟩
              case measure => simp [intOf]; omega
        · obtain rfl : j = P.length := by omega
          have hfp := HFj.out
          rw [List.take_length] at hfp HOj
          have HJ2 := Lib.hid (show joinL (Ls.drop (k + 1)) (out ++ P.map (shift out.length)) = X by rw [← HJ.out, if_pos hfp])
          clear hfp hcj
          go_wp2_with fail
          go_roundw
          case rel => exact ⟨k + 1, _, by omega, by go_num, HOj.out, HUj.out, HJ2.out, by have := HT.out; rw [List.length_append, List.length_map]; omega⟩
          case measure => simp [intOf]; omega
    · obtain rfl : k = Ls.length := by omega
      rw [List.drop_length, joinL] at hj
      have HE := Lib.hid hj.symm
      clear hj
      go_wp2
      all_goals exact .inl ⟨out, _, HE.out, rfl, HO.out, HU.out⟩
set_option maxHeartbeats 4000000 in
theorem rjoin_ref (Ls : List (List Ins)) (p : Option Addr) (cp : Nat) (w : World) (h : SlL w p Ls) (hw : ∀ P ∈ Ls, words P) (hT : total Ls * 40 ≤ 140737488351232) (hLs : Ls.length < 4611686018427387904) :
    Calls Tryd.prog 26 #[.slice p Ls.length cp] w (joinOk w (.bool true) (.bool false) (joinL Ls [])) := by
  obtain ⟨i0, hi, hz0, hz1, hz2⟩ := info_parts info_instr
  obtain ⟨X, hX⟩ : ∃ X, joinL Ls [] = X := ⟨_, rfl⟩
  rw [hX]
  have HX := Lib.hid hX
  clear hX
  refine calls_all fun K hK => ?_
  go_enter Tryd.func26, Tryd.ntmps26
  go_wp2_with fail
  go_loopw [4, 5] (fun v4 v5 wr => ∃ (k : Nat) (out : List Ins), k ≤ Ls.length ∧ v5 = .int .i64 k ∧ OwnI wr w.heap.size v4 out ∧ Upd [] w wr ∧ joinL (Ls.drop k) out = X ∧ out.length + total (Ls.drop k) = total Ls) (fun _ v5 _ => Ls.length - (intOf v5).toNat)
  case atStart => exact ⟨0, [], by omega, rfl, World.ownsRow_nil _ _ _ _, Upd.refl _ _, HX.out, by simp⟩
  case round =>
    obtain ⟨k, out, hk, rfl, ho, hu, hj, ht⟩ := hrel
    have HO := Lib.hid ho
    have HU := Lib.hid hu
    by_cases hlt : k < Ls.length
    · obtain ⟨P, hP⟩ : ∃ P, Ls[k]? = some P := ⟨_, List.getElem?_eq_getElem hlt⟩
      obtain ⟨b, o, rfl⟩ := h.ne (by rintro rfl; simp at hlt)
      obtain ⟨q, c, hcell, hsP⟩ := h.cells b o rfl k P hP
      have hcw := cell_upd hcell hu (by simp)
      obtain ⟨hd1, hd2⟩ := total_drop hP
      rw [hd1, joinL] at hj
      rw [hd2] at ht
      have hwP := hw P (List.mem_of_getElem? hP)
      have HJ := Lib.hid hj
      have HT := Lib.hid ht
      have hlen : out.length + P.length ≤ total Ls := by omega
      have hkl : (k : Int) < (Ls.length : Int) := by omega
      have hwA : IntKind.u64.wrap (out.length : Int) = out.length := by rw [IntKind.wrap_u64]; omega
      have HCELL := Lib.hid hcell
      clear hcell ho hu hj ht hd1 hd2
      obtain ⟨fm, hlm⟩ := own_form HO.out
      obtain ⟨cm, rfl⟩ := hlm
      go_wp2_with fail
      go_loopw [4, 7] (fun v4 v7 wr2 => ∃ j : Nat, j ≤ P.length ∧ v7 = .int .i64 j ∧ OwnI wr2 w.heap.size v4 (out ++ (P.take j).map (shift out.length)) ∧ Upd [] w wr2 ∧ allFormed (P.take j) = true) (fun _ v7 _ => P.length - (intOf v7).toNat)
      case atStart => exact ⟨0, by omega, rfl, by simpa using HO.out, HU.out, rfl⟩
      case round =>
        obtain ⟨j, hj, rfl, hoj, huj, hfj⟩ := hrel
        have HOj := Lib.hid hoj
        have HUj := Lib.hid huj
        have HFj := Lib.hid hfj
        have hwsj := huj.size
        have hcj := cell_upd HCELL.out huj (by simp)
        clear hoj huj hfj hcw
        by_cases hlt2 : j < P.length
        · obtain ⟨x, hx⟩ : ∃ x, P[j]? = some x := ⟨_, List.getElem?_eq_getElem hlt2⟩
          obtain ⟨bq, oq, rfl⟩ := hsP.ne (by rintro rfl; simp at hlt2)
          have c0 := (hsP.upd HUj.out (by simp)).cells bq oq rfl j x hx 0 _ rfl
          have c1 := (hsP.upd HUj.out (by simp)).cells bq oq rfl j x hx 1 _ rfl
          have c2 := (hsP.upd HUj.out (by simp)).cells bq oq rfl j x hx 2 _ rfl
          have c3 := (hsP.upd HUj.out (by simp)).cells bq oq rfl j x hx 3 _ rfl
          have c4 := (hsP.upd HUj.out (by simp)).cells bq oq rfl j x hx 4 _ rfl
          have hjl : (j : Int) < (P.length : Int) := by omega
          simp only [Nat.add_zero] at c0
          simp only [← Nat.add_assoc] at c0 c1 c2 c3 c4
          have hxw := hwP x (List.mem_of_getElem? hx)
          have HFo := fun w => rformed x w
          have HIn := fun w => rinfo x.op w
          have hsh : shift out.length x = if (formI x.op).target = true then ⟨x.op, x.a, x.b, x.c, (x.n + out.length) % 18446744073709551616⟩ else x := rfl
          have htm := take_map hx (shift out.length)
          obtain ⟨l, hl⟩ : ∃ l, out ++ (P.take j).map (shift out.length) = l := ⟨_, rfl⟩
          have hll : Hid (l.length = out.length + j) := Lib.hid (by rw [← hl, List.length_append, List.length_map, List.length_take]; omega)
          rw [hl] at HOj
          have HNX : Hid (∀ y, shift out.length x = y → out ++ (P.take (j + 1)).map (shift out.length) = l ++ [y]) := Lib.hid (fun y hy => by rw [htm, hy, ← List.append_assoc, hl])
          have HXX := Lib.hid hx
          clear hl htm
          simp only [Ins.val] at HFo
          cases hfo : formed x with
          | false =>
            rw [hfo] at HFo
            have HE : Hid (X = none) := Lib.hid (by rw [← HJ.out, if_neg (by rw [formed_not hx hfo]; simp)])
            clear hfo hx hsh
            go_wp2_with fail
            refine (HFo _).mono ?_
            rintro e w1 ⟨rfl, u1⟩
            have HU1 := Lib.hid ((HUj.out.alloc _).trans u1)
            clear u1
            go_wp2
            all_goals exact .inr ⟨HE.out, rfl, HU1.out⟩
          | true =>
            rw [hfo] at HFo
            have HTF := Lib.hid (take_formed hx hfo HFj.out)
            clear hfo hx
            generalize formI x.op = f at *
            generalize isOp x.op = iso at *
            obtain ⟨R, num, tg, ou, ins⟩ := f
            simp only [Form.val] at HIn
            simp only at hsh
            go_wp2_with fail
            refine (HFo _).mono ?_
            rintro e w1 ⟨rfl, u1⟩
            have bb := (Blk.new wr [.int .i64 x.op, .int .i64 x.a, .int .i64 x.b, .int .i64 x.c, .int .u64 x.n] 38).upd u1 (by simp)
            have HU1 := Lib.hid ((HUj.out.alloc (.cells #[.int .i64 x.op, .int .i64 x.a, .int .i64 x.b, .int .i64 x.c, .int .u64 x.n] 38)).trans u1)
            have HO1 := Lib.hid (own_upd (HOj.out.alloc (.cells #[.int .i64 x.op, .int .i64 x.a, .int .i64 x.b, .int .i64 x.c, .int .u64 x.n] 38)) u1 (by simp))
            have hown := own_blocks HOj.out
            have k0 := bb.cell 0 rfl
            have BB := Lib.hid bb
            clear u1 bb c0 c1 c2 c3 c4 hcj
            obtain ⟨xb, hxb⟩ : ∃ xb, wr.heap.size = xb := ⟨_, rfl⟩
            rw [hxb] at k0 BB hown hwsj ⊢
            have HNO : Hid (∀ g ∈ [xb], u4.ownBlock ≠ some g) := Lib.hid (fun g hg e => by
              simp only [List.mem_singleton] at hg
              have := (hown g (by rw [e]; simp)).2
              omega)
            clear hxb hown
            go_wp2_with fail
            refine (HIn _).mono ?_
            rintro e w2 ⟨rfl, u2⟩
            have HU2 := Lib.hid ((HU1.out.trans u2).alloc (.cells #[.int .i64 (R : Int), .bool num, .bool tg, .bool ou, .bool ins] 24))
            have HO2 := Lib.hid (World.ownsRow.alloc (own_upd HO1.out u2 (by simp)) (.cells #[.int .i64 (R : Int), .bool num, .bool tg, .bool ou, .bool ins] 24))
            have bb2 := (BB.out.upd u2 (by simp)).alloc (.cells #[.int .i64 (R : Int), .bool num, .bool tg, .bool ou, .bool ins] 24)
            have d0 := bb2.cell 0 rfl
            have d1 := bb2.cell 1 rfl
            have d2 := bb2.cell 2 rfl
            have d3 := bb2.cell 3 rfl
            have d4 := bb2.cell 4 rfl
            have z4 := bb2.free 4
            have hws2 := HU2.out.size
            clear u2 k0 HU1 HO1 BB bb2
            simp only [World.size_alloc] at hws2
            cases tg with
            | false =>
              simp only [Bool.false_eq_true, if_false] at hsh
              have HNY := Lib.hid (HNX.out x hsh)
              clear hsh HNX
              go_wp2_with (at_builtin; refine wpList_append_own _ rfl (.tmp 52) (.tmp 54) 50 rfl w.heap.size 38 i0 (.agg #[.int .i64 0, .int .i64 0, .int .i64 0, .int .i64 0, .int .u64 0]) 5 40 Tryd.underlying50 hi hz0 hz1 hz2 rfl (by decide) _ _ _ rfl (World.ownsRow.alloc HO2.out _) ⟨_, 0, none⟩ 1 1 x.cells rfl rfl (news_new x.cells 38 (by simp)) (by simp [Ins.cells, Value.oneCell']) (by unfold maxLen; have := hll.out; omega) (by have := hll.out; omega) (by simp only [World.size_alloc]; omega) ?_; intro v6 w6 ho6 hg6 _)
              have HU6 := Lib.hid ((HU2.out.alloc _).tr (U := []) (Upd.own hg6) (by simp) (fun g hg => .inr (own_blocks HO2.out g hg).1))
              have HO6 := Lib.hid (own_pushI x ho6)
              clear ho6 hg6
              go_roundw
              case rel => exact ⟨j + 1, by omega, by go_num, by rw [HNY.out]; exact HO6.out, HU6.out, HTF.out⟩
              case measure => simp [intOf]; omega
            | true =>
              simp only [if_true] at hsh
              have HNY := Lib.hid (HNX.out _ hsh)
              clear hsh HNX
              have HOS := Lib.hid (own_upd HO2.out ((Upd.refl [xb] _).setCell (p := ⟨xb, 4, none⟩) (.inl (by simp)) (.int .u64 ((x.n + out.length) % 18446744073709551616))) HNO.out)
              have HUS := Lib.hid (HU2.out.setCell (p := ⟨xb, 4, none⟩) (.inr (by dsimp only; omega)) (.int .u64 ((x.n + out.length) % 18446744073709551616)))
              go_wp2_with (at_builtin; refine wpList_append_own _ rfl (.tmp 52) (.tmp 54) 50 rfl w.heap.size 38 i0 (.agg #[.int .i64 0, .int .i64 0, .int .i64 0, .int .i64 0, .int .u64 0]) 5 40 Tryd.underlying50 hi hz0 hz1 hz2 rfl (by decide) _ _ _ rfl (World.ownsRow.alloc HOS.out _) ⟨_, 0, none⟩ 1 1 (Ins.cells ⟨x.op, x.a, x.b, x.c, (x.n + out.length) % 18446744073709551616⟩) rfl rfl (news_new (Ins.cells ⟨x.op, x.a, x.b, x.c, (x.n + out.length) % 18446744073709551616⟩) 38 (by simp)) (by simp [Ins.cells, Value.oneCell']) (by unfold maxLen; have := hll.out; omega) (by have := hll.out; omega) (by simp only [World.size_alloc, World.size_setCell]; omega) ?_; intro v6 w6 ho6 hg6 _)
              have HU6 := Lib.hid ((HUS.out.alloc _).tr (U := []) (Upd.own hg6) (by simp) (fun g hg => .inr (own_blocks HOS.out g hg).1))
              have HO6 := Lib.hid (own_pushI ⟨x.op, x.a, x.b, x.c, (x.n + out.length) % 18446744073709551616⟩ ho6)
              clear ho6 hg6
              go_roundw
              case rel => exact ⟨j + 1, by omega, by go_num, by rw [HNY.out]; exact HO6.out, HU6.out, HTF.out⟩
              case measure => simp [intOf]; omega
        · obtain rfl : j = P.length := by omega
          have hfp := HFj.out
          rw [List.take_length] at hfp HOj
          have HJ2 := Lib.hid (show joinL (Ls.drop (k + 1)) (out ++ P.map (shift out.length)) = X by rw [← HJ.out, if_pos hfp])
          clear hfp
          go_wp2_with fail
          go_roundw
          case rel => exact ⟨k + 1, _, by omega, by go_num, HOj.out, HUj.out, HJ2.out, by have := HT.out; rw [List.length_append, List.length_map]; omega⟩
          case measure => simp [intOf]; omega
    · obtain rfl : k = Ls.length := by omega
      rw [List.drop_length, joinL] at hj
      have HE := Lib.hid hj.symm
      clear hj
      go_wp2
      all_goals exact .inl ⟨out, _, HE.out, rfl, HO.out, HU.out⟩
end Go.Proofs.YtjcnlfihjfcpoaaDoor
