/- Bytes: the bytes of any instructions. The conditions: each number is a word; sizes. -/
import Derived.Test.YtjcnlfihjfcpoaaDoorCPre
import Derived.Test.YtjcnlfihjfcpoaaDoorOwn
import Derived.Maps.AppendAt
import Derived.Deep.RegionHeld3
set_option linter.unusedSimpArgs false
set_option linter.unusedVariables false
set_option maxRecDepth 100000
namespace Go.Proofs.YtjcnlfihjfcpoaaDoor
open Go.RowKit

/-- seven bits a byte, the lowest first -/
def vint (n : Nat) : List UInt8 := if h : n < 128 then [UInt8.ofNat n] else UInt8.ofNat (n % 128 + 128) :: vint (n / 128)
theorem vint_lt {n : Nat} (h : n < 128) : vint n = [UInt8.ofNat n] := by rw [vint, dif_pos h]
theorem vint_ge {n : Nat} (h : ¬ n < 128) : vint n = UInt8.ofNat (n % 128 + 128) :: vint (n / 128) := by rw [vint, dif_neg h]
theorem vint_len : ∀ (k n : Nat), n < 128 ^ (k + 1) → (vint n).length ≤ k + 1
  | 0, n, h => by rw [vint_lt (by omega)]; simp
  | k + 1, n, h => by
    by_cases h1 : n < 128
    · rw [vint_lt h1]; simp
    · rw [vint_ge h1, List.length_cons]
      have : n / 128 < 128 ^ (k + 1) := Nat.div_lt_of_lt_mul (by rw [Nat.pow_succ] at h; omega)
      have := vint_len k (n / 128) this
      omega

def regBytes (i : Ins) (k : Nat) : List UInt8 := (List.range k).map fun j => UInt8.ofNat (i.reg j).toNat
theorem regBytes_succ (i : Ins) (k : Nat) : regBytes i (k + 1) = regBytes i k ++ [UInt8.ofNat (i.reg k).toNat] := by
  unfold regBytes
  rw [List.range_succ, List.map_append]
  rfl
def bytesOf (i : Ins) : List UInt8 := UInt8.ofNat i.op.toNat :: (regBytes i (formI i.op).regs ++ if (formI i.op).num then vint i.n.toNat else [])
def bcells (l : List UInt8) : List Value := l.map fun b => .int .u8 (b.toNat : Int)

theorem formed_isOp {i : Ins} (h : formed i = true) : 1 ≤ i.op ∧ i.op ≤ 17 := by
  unfold formed formedF at h
  simp only [Bool.and_eq_true] at h
  have := h.2.1
  unfold isOp at this
  exact of_decide_eq_true this

/-- a slice that reads as these instructions -/
structure SlN (w : World) (p : Option Addr) (L : List Ins) : Prop where
  ne : L ≠ [] → ∃ b o, p = some ⟨b, o, none⟩
  cells : ∀ b o, p = some ⟨b, o, none⟩ → ∀ i x, L[i]? = some x → ∀ j v, x.cells[j]? = some v → w.cell? ⟨b, o + (i * 5 + j), none⟩ = some v
theorem SlN.lt {w : World} {p : Option Addr} {L : List Ins} (h : SlN w p L) (hn : L ≠ []) {b o : Nat} (e : p = some ⟨b, o, none⟩) : b < w.heap.size := by
  cases L with
  | nil => exact absurd rfl hn
  | cons x l => exact World.block_lt_of_cell? w _ (h.cells b o e 0 x rfl 0 _ rfl)
theorem SlN.upd {w w' : World} {p : Option Addr} {L : List Ins} {S : List Nat} (h : SlN w p L) (hu : Upd S w w') (hn : ∀ b o, p = some ⟨b, o, none⟩ → L ≠ [] → b ∉ S) : SlN w' p L :=
  ⟨h.ne, fun b o e i x hi j v hj => by
    have hL : L ≠ [] := by rintro rfl; simp at hi
    have hb := h.lt hL e
    rw [← h.cells b o e i x hi j v hj]
    exact World.cell?_of_block (hu.block b hb (hn b o e hL))⟩

def words (L : List Ins) : Prop := ∀ i ∈ L, 0 ≤ i.n ∧ i.n < 18446744073709551616
def bytesAll (L : List Ins) : List UInt8 := L.flatMap bytesOf
theorem bytesOf_len (i : Ins) (h : 0 ≤ i.n ∧ i.n < 18446744073709551616) : (bytesOf i).length ≤ 14 := by
  unfold bytesOf
  have h1 := regs_le i.op
  have h2 := vint_len 9 i.n.toNat (by omega)
  simp only [List.length_cons, List.length_append, regBytes, List.length_map, List.length_range]
  split
  · omega
  · simp; omega
theorem bytesAll_len : ∀ (L : List Ins), words L → (bytesAll L).length ≤ L.length * 14
  | [], _ => by simp [bytesAll]
  | i :: L, h => by
    have h1 := bytesOf_len i (h i (by simp))
    have h2 := bytesAll_len L (fun x hx => h x (by simp [hx]))
    unfold bytesAll at *
    simp only [List.flatMap_cons, List.length_append, List.length_cons]
    omega
def allFormed (L : List Ins) : Bool := L.all formed

/-- a byte slice of the call's own -/
def OwnB (w : World) (base : Nat) (v : Value) (l : List UInt8) : Prop := w.ownsRow base 5 1 v l.length (bcells l)
theorem own_push {w : World} {base : Nat} {v : Value} {l : List UInt8} {z : Int} (c : UInt8) (h : w.ownsRow base 5 1 v (l.length + 1) (bcells l ++ [.int .u8 z])) (hz : (c.toNat : Int) = z) : OwnB w base v (l ++ [c]) := by
  unfold OwnB bcells
  subst hz
  rw [List.length_append, List.map_append]
  exact h
theorem ofNat_toNat {z : Int} (h0 : 0 ≤ z) (h : z < 256) : ((UInt8.ofNat z.toNat).toNat : Int) = z := by
  simp
  omega
theorem bits_or (n : Nat) : bits .or .u8 ((n : Int) % 256) 128 = (((UInt8.ofNat (n % 128 + 128)).toNat : Nat) : Int) := by
  have h : (n : Int) % 256 = ((n % 256 : Nat) : Int) := by omega
  have h2 : n % 128 = (n % 256) % 128 := by omega
  rw [h, h2]
  have hall : ∀ x : Fin 256, bits .or .u8 ((x.val : Nat) : Int) 128 = (((UInt8.ofNat (x.val % 128 + 128)).toNat : Nat) : Int) := by decide +kernel
  exact hall ⟨n % 256, by omega⟩

theorem info_u8 : (Tryd.prog.info? 5).map (fun i => (i.zero, i.size, i.bytes)) = some (some (.int .u8 0), 1, 1) := by kernel_rfl

set_option maxHeartbeats 4000000 in
theorem bytes_code (L : List Ins) (p : Option Addr) (cap : Nat) (w : World) (hL : SlN w p L) (hw : words L) (hcap : L.length ≤ cap) (hc : L.length * 40 ≤ 140737488351232) :
    Calls Tryd.prog 29 #[.slice p L.length cap] w fun e w' => (allFormed L = true ∧ ∃ v, e = .returned (.tuple #[v, .int .i64 0]) ∧ w'.ownsRow w.heap.size 5 1 v (bytesAll L).length (bcells (bytesAll L)) ∧ Upd [] w w') ∨
      (allFormed L = false ∧ e = .returned (.tuple #[.slice none 0 0, .int .i64 180]) ∧ Upd [] w w') := by
  refine calls_all fun K hK => ?_
  go_enter Tryd.func29, Tryd.ntmps29
  go_wp2_with fail
  go_loopw [4, 14] (fun v4 v14 wr => ∃ j : Nat, j ≤ L.length ∧ v14 = .int .i64 j ∧ wr.ownsRow w.heap.size 5 1 v4 (bytesAll (L.take j)).length (bcells (bytesAll (L.take j))) ∧ Upd [] w wr ∧ allFormed (L.take j) = true) (fun _ v14 _ => L.length - (intOf v14).toNat)
  case atStart => exact ⟨0, by omega, rfl, World.ownsRow_nil _ _ _ _, Upd.refl _ _, rfl⟩
  case round =>
    obtain ⟨j, hj, rfl, ho, hu, hf⟩ := hrel
    by_cases hlt : j < L.length
    · obtain ⟨x, hx⟩ : ∃ x, L[j]? = some x := ⟨_, List.getElem?_eq_getElem hlt⟩
      obtain ⟨b, o, rfl⟩ := hL.ne (by rintro rfl; simp at hlt)
      have c0 := (hL.upd hu (by simp)).cells b o rfl j x hx 0 _ rfl
      have c1 := (hL.upd hu (by simp)).cells b o rfl j x hx 1 _ rfl
      have c2 := (hL.upd hu (by simp)).cells b o rfl j x hx 2 _ rfl
      have c3 := (hL.upd hu (by simp)).cells b o rfl j x hx 3 _ rfl
      have c4 := (hL.upd hu (by simp)).cells b o rfl j x hx 4 _ rfl
      have hjl : (j : Int) < (L.length : Int) := by omega
      simp only [Nat.add_zero] at c0
      simp only [← Nat.add_assoc] at c0 c1 c2 c3 c4
      have hxw := hw x (List.mem_of_getElem? hx)
      have HFo := fun w => formed_code x w
      have HIn := fun w => info x.op w
      have HRe := fun w => regs x w
      have hR3 := regs_le x.op
      have hrc := reg_cell x
      have HX := Lib.hid hx
      have HF := Lib.hid hf
      have HO := Lib.hid ho
      have HU := Lib.hid hu
      have HL := Lib.hid hL
      clear hx hf ho hu hL
      obtain ⟨i5, hi5, hz5, hs5, hy5⟩ := info_parts info_u8
      simp only [Ins.val] at HFo HRe
      cases hfo : formed x with
      | false =>
        rw [hfo] at HFo
        have HE : Hid (allFormed L = false) := Lib.hid (by unfold allFormed; rw [List.all_eq_false]; exact ⟨x, List.mem_of_getElem? HX.out, by rw [hfo]; decide⟩)
        clear hfo
        go_wp2_with fail
        refine (HFo _).mono ?_
        rintro e w1 ⟨rfl, u1⟩
        have HU1 := Lib.hid ((HU.out.alloc _).trans u1)
        clear u1
        go_wp2
        all_goals exact .inr ⟨HE.out, rfl, HU1.out⟩
      | true =>
        rw [hfo] at HFo
        have hop := formed_isOp hfo
        have hrg := formed_reg hfo
        have hopw : IntKind.u8.wrap x.op = x.op := by rw [IntKind.wrap_u8]; omega
        have hform : Hid (bytesOf x = _) := Lib.hid (by unfold bytesOf; exact rfl)
        have HRS := Lib.hid (regBytes_succ x)
        have hR0 : regBytes x 0 = [] := rfl
        have HR0 := Lib.hid hR0
        have hRBl : ∀ k, (regBytes x k).length = k := fun k => by simp [regBytes]
        have HRBl := Lib.hid hRBl
        clear hRBl
        have HFOR := Lib.hid hfo
        clear hfo hR0
        generalize regBytes x = RB at *
        generalize formI x.op = f at *
        generalize isOp x.op = iso at *
        obtain ⟨R, num, tg, ou, ins⟩ := f
        simp only [Form.val] at HIn hR3 hrg
        go_wp2_with fail
        refine (HFo _).mono ?_
        rintro e w1 ⟨rfl, u1⟩
        have bb := (Blk.new wr [.int .i64 x.op, .int .i64 x.a, .int .i64 x.b, .int .i64 x.c, .int .u64 x.n] 38).upd u1 (by simp)
        have HU1 := Lib.hid ((HU.out.alloc (.cells #[.int .i64 x.op, .int .i64 x.a, .int .i64 x.b, .int .i64 x.c, .int .u64 x.n] 38)).trans u1)
        have HO1 := Lib.hid (own_upd (HO.out.alloc (.cells #[.int .i64 x.op, .int .i64 x.a, .int .i64 x.b, .int .i64 x.c, .int .u64 x.n] 38)) u1 (by simp))
        have k0 := bb.cell 0 rfl
        have BB := Lib.hid bb
        have hws := HU1.out.size
        clear u1 HU HO bb c0 c1 c2 c3 c4
        obtain ⟨ib, hib⟩ : ∃ ib, wr.heap.size = ib := ⟨_, rfl⟩
        rw [hib] at k0 BB ⊢
        clear hib
        go_wp2_with fail
        refine (HIn _).mono ?_
        rintro e w2 ⟨rfl, u2⟩
        have HU2 := Lib.hid (HU1.out.trans u2)
        have HO2 := Lib.hid (own_upd HO1.out u2 (by simp))
        have BB2 := Lib.hid (BB.out.upd u2 (by simp))
        have hws2 := HU2.out.size
        have k0' := (BB2.out.alloc (.cells #[.int .i64 (R : Int), .bool num, .bool tg, .bool ou, .bool ins] 24)).cell 0 rfl
        clear k0 u2 HU1 HO1 BB hws
        obtain ⟨l, hl⟩ : ∃ l, bytesAll (L.take j) = l := ⟨_, rfl⟩
        rw [hl] at HO2
        have HLL := Lib.hid hl
        have hll : Hid (l.length ≤ j * 14) := Lib.hid (by rw [← HLL.out]; exact Nat.le_trans (bytesAll_len _ (fun i hi => hw i (List.mem_of_mem_take hi))) (by have := List.length_take_le j L; omega))
        clear hl
        go_wp2_with (at_builtin; refine wpList_append_own _ rfl (.tmp 27) (.tmp 31) 59 rfl w.heap.size 5 i5 (.int .u8 0) 1 1 Tryd.underlying59 hi5 hz5 hs5 hy5 rfl (by decide) _ _ _ rfl ((HO2.out.alloc _).alloc _) ⟨_, 0, none⟩ 1 1 _ rfl rfl (news_new _ 5 (by simp)) (by simp [Value.oneCell']) (by unfold maxLen; have := hll.out; omega) (by have := hll.out; omega) (by simp; omega) ?_; intro v3 w3 ho3 hg3 _)
        have hu3 : Upd u4.ownBlock.toList _ w3 := Upd.own hg3
        have HU3 := Lib.hid (((HU2.out.alloc _).alloc _).tr (U := []) hu3 (by simp) (fun g hg => .inr (own_blocks HO2.out g hg).1))
        have bb3 := ((BB2.out.alloc _).alloc _).upd hu3 (own_ne_blk HO2.out BB2.out (by decide))
        have bf3 := ((Blk.new w2 [.int .i64 (R : Int), .bool num, .bool tg, .bool ou, .bool ins] 24).alloc _).upd hu3 (own_ne_blk (HO2.out.alloc _) (Blk.new w2 [.int .i64 (R : Int), .bool num, .bool tg, .bool ou, .bool ins] 24) (by decide))
        have HO3 := Lib.hid (own_push (UInt8.ofNat x.op.toNat) ho3 (ofNat_toNat (by omega) (by omega)))
        have hws3 := HU3.out.size
        clear ho3 hg3 hu3 HU2 HO2 BB2 k0'
        obtain ⟨fb, hfb⟩ : ∃ fb, w2.heap.size = fb := ⟨_, rfl⟩
        rw [hfb] at bf3 ⊢
        clear hfb
        have d0 := bb3.cell 0 rfl
        have d1 := bb3.cell 1 rfl
        have d2 := bb3.cell 2 rfl
        have d3 := bb3.cell 3 rfl
        have d4 := bb3.cell 4 rfl
        have f0 := bf3.cell 0 rfl
        have f1 := bf3.cell 1 rfl
        have hRl : (R : Int) ≤ 3 := by omega
        have BB3 := Lib.hid bb3
        have BF3 := Lib.hid bf3
        clear bb3 bf3
        go_region_held3 (fun w' => (w'.cell? ⟨ib, 0, none⟩ = some (.int .i64 x.op) ∧ w'.cell? ⟨ib, 1, none⟩ = some (.int .i64 x.a) ∧ w'.cell? ⟨ib, 2, none⟩ = some (.int .i64 x.b) ∧ w'.cell? ⟨ib, 3, none⟩ = some (.int .i64 x.c) ∧ w'.cell? ⟨ib, 4, none⟩ = some (.int .u64 x.n)) ∧ w'.cell? ⟨fb, 0, none⟩ = some (.int .i64 (R : Int))) (first | go_keep | exact ⟨⟨d0', d1', d2', d3', d4'⟩, f0'⟩) (first | (go_at_call 33; refine (HRe _).mono ?_; rintro e w5 ⟨g, rfl, hg, hg2, u5d⟩; have u5 := (Upd.refl [] w3).drew.trans u5d; have d0' := cell_upd d0 u5 (by simp); have d1' := cell_upd d1 u5 (by simp); have d2' := cell_upd d2 u5 (by simp); have d3' := cell_upd d3 u5 (by simp); have d4' := cell_upd d4 u5 (by simp); have f0' := cell_upd f0 u5 (by simp)))
        have HU5 := Lib.hid (HU3.out.trans u5)
        have HO5 := Lib.hid (show OwnB w5 w.heap.size v3 _ from own_upd HO3.out u5 (by simp))
        have BB5 := Lib.hid (BB3.out.upd u5 (by simp))
        have BF5 := Lib.hid (BF3.out.upd u5 (by simp))
        have hws5 := HU5.out.size
        clear d0 d1 d2 d3 d4 f0 f1 d0' d1' d2' d3' u5 u5d HU3 HO3 hws2 BB3 BF3
        go_wp2_with fail
        go_loopw [4, 39] (fun v4 v39 wr => ∃ k : Nat, k ≤ R ∧ v39 = .int .i64 k ∧ OwnB wr w.heap.size v4 (l ++ [UInt8.ofNat x.op.toNat] ++ RB k) ∧ Upd [] w wr ∧ Blk wr g [.int .i64 x.a, .int .i64 x.b, .int .i64 x.c] 3 ∧ Blk wr fb [.int .i64 (R : Int), .bool num, .bool tg, .bool ou, .bool ins] 24 ∧ Blk wr ib [.int .i64 x.op, .int .i64 x.a, .int .i64 x.b, .int .i64 x.c, .int .u64 x.n] 38) (fun _ v39 _ => R - (intOf v39).toNat)
        case atStart => exact ⟨0, by omega, rfl, by rw [HR0.out, List.append_nil]; exact HO5.out, HU5.out, hg2, BF5.out, BB5.out⟩
        case round =>
          obtain ⟨k, hk, rfl, ho, hu, hg', hf', hb'⟩ := hrel
          have HOk := Lib.hid ho
          have HUk := Lib.hid hu
          have HGk := Lib.hid hg'
          have HFk := Lib.hid hf'
          have HBk := Lib.hid hb'
          have hwsk := hu.size
          clear ho hu hg' hf' hb' HO5 HU5 hg2 BF5 BB5
          by_cases hkR : k < R
          · have hkl : (k : Int) < (R : Int) := by omega
            obtain ⟨r0, r8⟩ := hrg k hkR
            have hc := HGk.out.cell k (hrc k (by omega))
            have hs := HRS.out k
            obtain ⟨r, hr⟩ : ∃ r, x.reg k = r := ⟨_, rfl⟩
            rw [hr] at hc r0 r8 hs
            have HRk := Lib.hid hr
            have HSk := Lib.hid hs
            clear hr hs hrc
            have hrw : IntKind.u8.wrap r = r := by rw [IntKind.wrap_u8]; omega
            have hlb := Lib.hid (show (l ++ [UInt8.ofNat x.op.toNat] ++ RB k).length ≤ j * 14 + 4 by have := hll.out; have := HRBl.out k; simp only [List.length_append, List.length_cons, List.length_nil]; omega)
            obtain ⟨lk, hlk⟩ : ∃ lk, l ++ [UInt8.ofNat x.op.toNat] ++ RB k = lk := ⟨_, rfl⟩
            rw [hlk] at HOk hlb
            have HLK := Lib.hid hlk
            clear hlk
            go_wp2_with (at_builtin; refine wpList_append_own _ rfl (.tmp 43) (.tmp 46) 59 rfl w.heap.size 5 i5 (.int .u8 0) 1 1 Tryd.underlying59 hi5 hz5 hs5 hy5 rfl (by decide) _ _ _ rfl (World.ownsRow.alloc HOk.out _) ⟨_, 0, none⟩ 1 1 _ rfl rfl (news_new _ 5 (by simp)) (by simp [Value.oneCell']) (by unfold maxLen; have := hlb.out; omega) (by have := hlb.out; omega) (by simp; omega) ?_; intro v6 w6 ho6 hg6 _)
            have hu6 : Upd _ _ w6 := Upd.own hg6
            have HU6 := Lib.hid ((HUk.out.alloc _).tr (U := []) hu6 (by simp) (fun g hg => .inr (own_blocks HOk.out g hg).1))
            have HG6 := Lib.hid ((HGk.out.alloc _).upd hu6 (own_ne_blk HOk.out HGk.out (by decide)))
            have HF6 := Lib.hid ((HFk.out.alloc _).upd hu6 (own_ne_blk HOk.out HFk.out (by decide)))
            have HB6 := Lib.hid ((HBk.out.alloc _).upd hu6 (own_ne_blk HOk.out HBk.out (by decide)))
            have HO6 := Lib.hid (own_push (UInt8.ofNat r.toNat) ho6 (ofNat_toNat (by omega) (by omega)))
            clear hu6 hg6 ho6
            go_roundw
            case rel => exact ⟨k + 1, by omega, by go_num, by rw [HSk.out, ← List.append_assoc, HLK.out]; exact HO6.out, HU6.out, HG6.out, HF6.out, HB6.out⟩
            case measure => simp [intOf]; omega
          · obtain rfl : k = R := by omega
            have hfo1 := HFk.out.cell 1 rfl
            have hnx : ∀ y : Nat, bytesAll (L.take (j + 1)) = bytesAll (L.take j) ++ bytesOf x ∧ allFormed (L.take (j + 1)) = true := fun _ => by
              rw [List.take_add_one, HX.out]
              simp only [Option.toList_some, bytesAll, allFormed, List.flatMap_append, List.flatMap_cons, List.flatMap_nil, List.append_nil, List.all_append, List.all_cons, List.all_nil, Bool.and_true, HFOR.out, Bool.and_eq_true, and_true]
              first | exact ⟨trivial, HF.out⟩ | exact HF.out
            have HNX := Lib.hid (hnx 0)
            rw [HLL.out, hform.out] at HNX
            clear hnx hrc
            cases num with
            | false =>
              go_wp2_with fail
              go_roundw
              case rel => exact ⟨j + 1, by omega, by go_num, by rw [HNX.out.1]; simpa [OwnB] using HOk.out, HUk.out, HNX.out.2⟩
              case measure => simp [intOf]; omega
            | true =>
              have hbn := HBk.out.cell 4 rfl
              have hlb : Hid ((l ++ [UInt8.ofNat x.op.toNat] ++ RB k).length ≤ j * 14 + 4) := Lib.hid (by have := hll.out; have := HRBl.out k; simp only [List.length_append, List.length_cons, List.length_nil]; omega)
              have HNX' : Hid (bytesAll (L.take (j + 1)) = (l ++ [UInt8.ofNat x.op.toNat] ++ RB k) ++ vint x.n.toNat) := Lib.hid (by rw [HNX.out.1]; simp)
              have HNF := Lib.hid HNX.out.2
              obtain ⟨lk, hlk⟩ : ∃ lk, l ++ [UInt8.ofNat x.op.toNat] ++ RB k = lk := ⟨_, rfl⟩
              rw [hlk] at HOk hlb HNX'
              clear hlk HNX HGk HFk
              obtain ⟨N, hN⟩ : ∃ N : Nat, x.n = N := ⟨x.n.toNat, by omega⟩
              rw [hN] at hbn HNX'
              have hNl : N < 18446744073709551616 := by omega
              rw [Int.toNat_natCast] at HNX'
              have hvl := Lib.hid (show (lk ++ vint N).length ≤ j * 14 + 14 by have := vint_len 9 N (by omega); have := hlb.out; rw [List.length_append]; omega)
              obtain ⟨LT, hLT⟩ : ∃ LT, lk ++ vint N = LT := ⟨_, rfl⟩
              rw [hLT] at HNX' hvl
              have HLT := Lib.hid hLT
              clear hLT
              go_wp2_with fail
              go_loopw [4, 11] (fun v4 v11 wr => ∃ (m : Nat) (l2 : List UInt8), m < 18446744073709551616 ∧ v11 = .int .u64 m ∧ OwnB wr w.heap.size v4 l2 ∧ Upd [] w wr ∧ l2 ++ vint m = LT) (fun _ v11 _ => (intOf v11).toNat)
              case atStart => exact ⟨N, lk, hNl, rfl, HOk.out, HUk.out, HLT.out⟩
              case round =>
                obtain ⟨m, l2, hm, rfl, ho, hu, hv⟩ := hrel
                have HO2 := Lib.hid ho
                have HU2 := Lib.hid hu
                have hws2 := hu.size
                by_cases hm7 : m < 128
                · have hm1 : ¬ 127 < m := by omega
                  have hm3 : (m : Int) % 256 = m := by omega
                  have hlb2 : Hid (l2.length + 1 ≤ j * 14 + 14) := Lib.hid (by have := hvl.out; rw [← hv, vint_lt hm7] at this; simp at this; omega)
                  have HV : Hid (l2 ++ [UInt8.ofNat m] = LT) := Lib.hid (by rw [← hv, vint_lt hm7])
                  clear ho hu hv HOk HUk HLT
                  go_wp2_with (at_builtin; refine wpList_append_own _ rfl (.tmp 64) (.tmp 67) 59 rfl w.heap.size 5 i5 (.int .u8 0) 1 1 Tryd.underlying59 hi5 hz5 hs5 hy5 rfl (by decide) _ _ _ rfl (World.ownsRow.alloc HO2.out _) ⟨_, 0, none⟩ 1 1 _ rfl rfl (news_new _ 5 (by simp)) (by simp [Value.oneCell']) (by unfold maxLen; have := hlb2.out; omega) (by have := hlb2.out; omega) (by simp; omega) ?_; intro v6 w6 ho6 hg6 _)
                  have HU6 := Lib.hid ((HU2.out.alloc _).tr (U := []) (Upd.own hg6) (by simp) (fun g hg => .inr (own_blocks HO2.out g hg).1))
                  have HO6 := Lib.hid (own_push (UInt8.ofNat m) ho6 (by simp; omega))
                  rw [HV.out] at HO6
                  clear ho6 hg6
                  go_roundw
                  case rel => exact ⟨j + 1, by omega, by go_num, by rw [HNX'.out]; exact HO6.out, HU6.out, HNF.out⟩
                  case measure => simp [intOf]; omega
                · have hm1 : 127 < m := by omega
                  have hlb2 : Hid (l2.length + 1 ≤ j * 14 + 14) := Lib.hid (by have := hvl.out; rw [← hv, vint_ge hm7] at this; simp at this; omega)
                  have HV : Hid (l2 ++ [UInt8.ofNat (m % 128 + 128)] ++ vint (m / 128) = LT) := Lib.hid (by rw [← hv, vint_ge hm7]; simp)
                  have hmb := bits_or m
                  have HMB := Lib.hid hmb.symm
                  clear ho hu hv hmb HOk HUk HLT
                  go_wp2_with (at_builtin; refine wpList_append_own _ rfl (.tmp 58) (.tmp 62) 59 rfl w.heap.size 5 i5 (.int .u8 0) 1 1 Tryd.underlying59 hi5 hz5 hs5 hy5 rfl (by decide) _ _ _ rfl (World.ownsRow.alloc HO2.out _) ⟨_, 0, none⟩ 1 1 _ rfl rfl (news_new _ 5 (by simp)) (by simp [Value.oneCell']) (by unfold maxLen; have := hlb2.out; omega) (by have := hlb2.out; omega) (by simp; omega) ?_; intro v6 w6 ho6 hg6 _)
                  have HU6 := Lib.hid ((HU2.out.alloc _).tr (U := []) (Upd.own hg6) (by simp) (fun g hg => .inr (own_blocks HO2.out g hg).1))
                  have HO6 := Lib.hid (own_push (UInt8.ofNat (m % 128 + 128)) ho6 HMB.out)
                  clear ho6 hg6
                  go_roundw
                  case rel => exact ⟨m / 128, _, by omega, by simp, HO6.out, HU6.out, HV.out⟩
                  case measure => simp [intOf]; omega
    · obtain rfl : j = L.length := by omega
      rw [List.take_length] at ho hf
      have HO := Lib.hid ho
      have HU := Lib.hid hu
      have HF := Lib.hid hf
      clear ho hu hf
      go_wp2
      all_goals exact .inl ⟨HF.out, _, rfl, HO.out, HU.out⟩
end Go.Proofs.YtjcnlfihjfcpoaaDoor
