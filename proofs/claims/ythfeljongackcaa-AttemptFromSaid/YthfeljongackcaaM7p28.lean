/- The program's State, Copy and From; the document's From and Copy. The conditions are sizes. The document's attempt that is not there: what each call answers. No condition. -/
import Derived.Test.YthfeljongackcaaM7p18
import Derived.Test.YthfeljongackcaaM7p27
set_option linter.unusedSimpArgs false
set_option linter.unusedVariables false
set_option maxRecDepth 100000
namespace Go.Proofs.Ythfeljongackcaa
open Go.RowKit
open Go.Maps
theorem TwoNew.base {w W w' : World} {s : AS} {rv wv : Value} (h : TwoNew W w' s rv wv) (u : Upd [] w W) : TwoNew w w' s rv wv :=
  ⟨h.rd, h.wr, h.ap, fun g hg => Nat.le_trans u.size (h.nr g hg), fun g hg => Nat.le_trans u.size (h.nw g hg), u.trans h.u⟩
section
variable {w : World} {X : SX} {sh : Sh} {acc st : Int} {a : Nat} {s : AS} {F : List Nat} {rv wv mv : Value}
theorem Live.slr (hL : Live w X sh acc st a s F rv wv mv) : SlC w rv s.reads ∧ SlC w wv s.writes ∧ (s.reads = [] → rv = .slice none 0 0) ∧ (s.writes = [] → wv = .slice none 0 0) := ⟨hL.att.rd.slc, hL.att.wr.slc, hL.att.rd.nil, hL.att.wr.nil⟩
theorem kept_live (hL : Live w X sh acc st a s F rv wv mv) (hM : May s) : Calls Try.prog 54 #[stateV s rv wv] w (NewState w s) := by
  have h1 := hM.lenR
  have h2 := hM.lenW
  exact kept_code w s rv wv hL.slr.1 hL.slr.2.1 hL.slr.2.2.1 hL.slr.2.2.2 (by omega) (by omega)
set_option maxHeartbeats 1000000 in
theorem state_live (hL : Live w X sh acc st a s F rv wv mv) (hM : May s) : Calls Try.prog 26 #[.pointer (some ⟨a, 0, none⟩)] w (NewState w s) := by
  obtain ⟨W, hW⟩ : ∃ W, w.alloc (.cells (rheadV zeroS (.slice none 0 0) (.slice none 0 0)).toArray 60) = W := ⟨_, rfl⟩
  have uW : Upd [] w W := by rw [← hW]; exact (Upd.refl [] _).alloc _
  have RW : Blk W w.heap.size (rheadV zeroS (.slice none 0 0) (.slice none 0 0)) 60 := by rw [← hW]; exact Blk.new w _ _
  simp only [rheadV, zeroS] at hW
  have hLW := hL.upd0 uW
  have HT := Lib.hid (there_code hLW)
  have HK := Lib.hid (kept_live hLW hM)
  have hz := RW.lt
  have a2 := (hLW.att.head).cell 2 rfl
  have a3 := (hLW.att.head).cell 3 rfl
  have a4 := (hLW.att.head).cell 4 rfl
  have a5 := (hLW.att.head).cell 5 rfl
  have a6 := (hLW.att.head).cell 6 rfl
  have a7 := (hLW.att.head).cell 7 rfl
  have a8 := (hLW.att.head).cell 8 rfl
  have a9 := (hLW.att.head).cell 9 rfl
  have a10 := (hLW.att.head).cell 10 rfl
  obtain ⟨p, c, rfl⟩ := hL.att.rd.form
  obtain ⟨q, d, rfl⟩ := hL.att.wr.form
  clear hL hLW hM
  obtain ⟨sn, rd, wl, ph, th, ad, wo, fo, at_⟩ := s
  simp only [stateV] at HK
  dsimp only at a2 a3 a4 a5 a6 a7 a8 a9 a10
  refine calls_all fun K hK => ?_
  go_enter Try.func26, Try.ntmps26
  go_wp2_with fail
  clear hW
  refine HT.out.mono ?_
  rintro e w' ⟨rfl, rfl⟩
  go_wp2_with fail
  refine HK.out.mono ?_
  rintro e w3 ⟨v1, v2, rfl, TN⟩
  obtain ⟨p1, k1, e1⟩ := TN.rd.form
  obtain ⟨p2, k2, e2⟩ := TN.wr.form
  (try dsimp only at e1 e2)
  subst e1
  subst e2
  have R4 := RW.upd TN.u (by simp)
  have hv3 : (Value.slice p1 rd.length k1).ownBlock ≠ some w.heap.size := fun e => by have := TN.nr _ e; omega
  have hv4 : (Value.slice p2 wl.length k2).ownBlock ≠ some w.heap.size := fun e => by have := TN.nw _ e; omega
  have TN := TN.base uW
  clear a2 a3 a4 a5 a6 a7 a8 a9 a10 RW uW
  have q0 := (R4).cell 0 rfl
  have q1 := (R4).cell 1 rfl
  have q2 := (R4).cell 2 rfl
  have q3 := (R4).cell 3 rfl
  have q4 := (R4).cell 4 rfl
  have q5 := (R4).cell 5 rfl
  have q6 := (R4).cell 6 rfl
  have q7 := (R4).cell 7 rfl
  have q8 := (R4).cell 8 rfl
  have g0 := (R4).free 0
  have g1 := (R4).free 1
  have g2 := (R4).free 2
  have g3 := (R4).free 3
  have g4 := (R4).free 4
  have g5 := (R4).free 5
  have g6 := (R4).free 6
  have g7 := (R4).free 7
  have g8 := (R4).free 8
  simp only [stateV]
  go_wp2_with fail
  refine bodyPost_ret (state_results 2 rfl _ _ w.heap.size (⟨sn, rd, wl, ph, th, ad, wo, fo, at_⟩ : AS) (.slice p1 rd.length k1) (.slice p2 wl.length k2) rfl (nine_set R4 (⟨sn, rd, wl, ph, th, ad, wo, fo, at_⟩ : AS) (.slice p1 rd.length k1) (.slice p2 wl.length k2))) rfl (hK _ _ ⟨_, _, rfl, ?_⟩)
  exact TN.more (nine_upd (S := [w.heap.size]) (Upd.refl _ _) (.inl (by simp)) _ _ _ _ _ _ _ _ _) (fun g hg => by subst hg; exact ⟨Nat.le_refl _, hv3, hv4⟩)

/-- a new attempt that stands there -/
def XNew (w : World) (X : SX) (sh : Sh) (s : AS) (p : Option Addr) (w' : World) : Prop := ∃ a' F', p = some ⟨a', 0, none⟩ ∧ LX w' X sh a' s F' ∧ Upd [] w w' ∧ w.heap.size ≤ a' ∧ ∀ g ∈ F', w.heap.size ≤ g
/-- the box is made an attempt -/
theorem made_new {w w1 w2 : World} (hX : X.At w1 sh acc st) (hXl : ∀ g ∈ X.foot, g < w.heap.size) (hM : May s) (hW : Wide s) (u : Upd [] w w1) (TN : TwoNew w w1 s rv wv) (hb : Blk w2 w1.heap.size (head0 X.ra X.ca s rv wv) 66) (u2 : Upd [] w1 w2) :
    Calls Try.prog 44 #[.pointer (some ⟨w1.heap.size, 0, none⟩)] w2 fun e w' => e = .returned (.pointer (some ⟨w1.heap.size, 0, none⟩)) ∧ XNew w X sh s (some ⟨w1.heap.size, 0, none⟩) w' := by
  have hr : OwnP w2 rv s.reads (rv.ownBlock.toList ++ wv.ownBlock.toList) := (TN.rd.upd u2 (by simp)).mono (fun g hg => by simp at hg ⊢; exact .inl hg)
  have hw : OwnP w2 wv s.writes (rv.ownBlock.toList ++ wv.ownBlock.toList) := (TN.wr.upd u2 (by simp)).mono (fun g hg => by simp at hg ⊢; exact .inr hg)
  have h0 := made_code (F := rv.ownBlock.toList ++ wv.ownBlock.toList) hb hr hw TN.ap hM.nodup hM.lenW hW.writes
  refine h0.mono fun e w' ⟨he, m, hm1, hm2, hA, u4⟩ => ⟨he, w1.heap.size, m :: (rv.ownBlock.toList ++ wv.ownBlock.toList), rfl, ?_, ?_, u.size, ?_⟩
  · have u5 : Upd [w1.heap.size] w1 w' := (u2.mono (by simp)).trans u4
    have hlt := hX.lt
    have hz := hb.lt
    refine ⟨acc, st, rv, wv, _, hA, hX.upd u5 (fun g hg => by have := hlt g hg; simp; omega), fun g hg => ?_, hW⟩
    have hg2 : g = m ∨ g < w1.heap.size ∧ w.heap.size ≤ g ∧ (rv.ownBlock = some g ∨ wv.ownBlock = some g) := by
      simp only [List.mem_cons, List.mem_append, Option.mem_toList] at hg
      rcases hg with k | k | k
      · exact .inl k
      · exact .inr ⟨TN.rd.lt k, TN.nr g k, .inl k⟩
      · exact .inr ⟨TN.wr.lt k, TN.nw g k, .inr k⟩
    rcases hg2 with rfl | ⟨k1, k2, k3⟩
    · exact ⟨hm2, fun hm => by have := hlt _ hm; omega, by omega⟩
    · refine ⟨by have := u5.size; omega, fun hm => ?_, by omega⟩
      have := hXl g hm
      omega
  · exact ((u.trans u2)).tr u4 (by simp) (fun x hx => by simp at hx; subst hx; exact .inr u.size)
  · intro g hg
    simp only [List.mem_cons, List.mem_append, Option.mem_toList] at hg
    rcases hg with rfl | k | k
    · have := u.size; have := u2.size; omega
    · exact TN.nr g k
    · exact TN.nw g k

set_option maxHeartbeats 1000000 in
theorem copy_live (hL : Live w X sh acc st a s F rv wv mv) (hM : May s) : Calls Try.prog 57 #[.pointer (some ⟨a, 0, none⟩), .pointer (some ⟨X.ra, 0, none⟩), .pointer (some ⟨X.ca, 0, none⟩)] w fun e w' => ∃ p, e = .returned (.pointer p) ∧ XNew w X sh s p w' := by
  have HT := Lib.hid (there_code hL)
  have HK := Lib.hid (kept_live hL hM)
  have HMN := Lib.hid fun (w1 : World) (v1 v2 : Value) (TN : TwoNew w w1 s v1 v2) => made_new (hL.sh.upd TN.u (by simp)) hL.sh.lt hM hL.wide TN.u TN (Blk.new w1 (head0 X.ra X.ca s v1 v2) 66) ((Upd.refl [] _).alloc _)
  have HR := Lib.hid (len_row hL.sh.row)
  have hl1 : ((sh.row.length : Int) == 0) = false := by have := hL.sh.row.len1; rw [beq_eq_false_iff_ne]; omega
  have a2 := (hL.att.head).cell 2 rfl
  have a3 := (hL.att.head).cell 3 rfl
  have a4 := (hL.att.head).cell 4 rfl
  have a5 := (hL.att.head).cell 5 rfl
  have a6 := (hL.att.head).cell 6 rfl
  have a7 := (hL.att.head).cell 7 rfl
  have a8 := (hL.att.head).cell 8 rfl
  have a9 := (hL.att.head).cell 9 rfl
  have a10 := (hL.att.head).cell 10 rfl
  obtain ⟨p, c, rfl⟩ := hL.att.rd.form
  obtain ⟨q, d, rfl⟩ := hL.att.wr.form
  clear hL hM
  obtain ⟨sn, rd, wl, ph, th, ad, wo, fo, at_⟩ := s
  simp only [stateV] at HK
  dsimp only at a2 a3 a4 a5 a6 a7 a8 a9 a10
  refine calls_all fun K hK => ?_
  go_enter Try.func57, Try.ntmps57
  go_wp2_with fail
  refine HT.out.mono ?_
  rintro e w' ⟨rfl, rfl⟩
  go_wp2_with fail
  refine HR.out.mono ?_
  rintro e w' ⟨rfl, rfl⟩
  go_wp2_with fail
  refine HK.out.mono ?_
  rintro e w1 ⟨v1, v2, rfl, TN⟩
  have HMM := HMN.out _ _ _ TN
  obtain ⟨p1, k1, e1⟩ := TN.rd.form
  obtain ⟨p2, k2, e2⟩ := TN.wr.form
  (try dsimp only at e1 e2)
  subst e1
  subst e2
  clear a2 a3 a4 a5 a6 a7 a8 a9 a10 TN
  simp only [stateV]
  simp only [head0] at HMM
  have HMM := Lib.hid HMM
  go_wp2_with fail
  refine HMM.out.mono ?_
  rintro e w2 ⟨rfl, HN⟩
  go_wp2_with fail
  exact ⟨_, rfl, HN⟩

/-- From's answer -/
def XFrom (w : World) (X : SX) (sh : Sh) (s : AS) (e : Ending) (w' : World) : Prop :=
  (May s ∧ ∃ p, e = .returned (.tuple #[.pointer p, .int .i64 0]) ∧ XNew w X sh s p w') ∨ (¬ May s ∧ e = .returned (.tuple #[.pointer none, .int .i64 2]) ∧ Upd [] w w')
set_option maxHeartbeats 1000000 in
theorem from_x (hX : X.At w sh acc st) (h1 : SlC w rv s.reads) (h2 : SlC w wv s.writes) (n1 : s.reads = [] → rv = .slice none 0 0) (n2 : s.writes = [] → wv = .slice none 0 0) (hW : Wide s) (hl1 : s.reads.length * 16 ≤ 140737488355328) (hl2 : s.writes.length * 16 ≤ 140737488355328) :
    Calls Try.prog 22 #[stateV s rv wv, .pointer (some ⟨X.ra, 0, none⟩), .pointer (some ⟨X.ca, 0, none⟩)] w (XFrom w X sh s) := by
  have HM := Lib.hid fun (W : World) (u : Upd [] w W) => may_code s rv wv W (h1.upd0 u) (h2.upd0 u) hW (by omega) (by omega)
  have HK := Lib.hid fun (W : World) (u : Upd [] w W) => kept_code W s rv wv (h1.upd0 u) (h2.upd0 u) n1 n2 hl1 hl2
  have HMN := Lib.hid fun (hM : May s) (w1 : World) (v1 v2 : Value) (TN : TwoNew w w1 s v1 v2) => made_new (hX.upd TN.u (by simp)) hX.lt hM hW TN.u TN (Blk.new w1 (head0 X.ra X.ca s v1 v2) 66) ((Upd.refl [] _).alloc _)
  have HR := Lib.hid fun (W : World) (u : Upd [] w W) => len_row (hX.upd u (by simp)).row
  have hl1' : ((sh.row.length : Int) == 0) = false := by have := hX.row.len1; rw [beq_eq_false_iff_ne]; omega
  obtain ⟨p, c, rfl, _⟩ := h1
  obtain ⟨q, d, rfl, _⟩ := h2
  clear n1 n2 hX hW
  obtain ⟨sn, rd, wl, ph, th, ad, wo, fo, at_⟩ := s
  simp only [stateV] at HM HK ⊢
  dsimp only at hl1 hl2
  obtain ⟨W, hW⟩ : ∃ W, w.alloc (.cells #[.int .u64 sn, .slice p rd.length c, .slice q wl.length d, .int .i64 ph, .int .i64 th, .int .u64 ad, .int .u64 wo, .int .u64 fo, .int .i64 at_] 60) = W := ⟨_, rfl⟩
  have uW : Upd [] w W := by rw [← hW]; exact (Upd.refl [] _).alloc _
  have BW : Blk W w.heap.size [.int .u64 sn, .slice p rd.length c, .slice q wl.length d, .int .i64 ph, .int .i64 th, .int .u64 ad, .int .u64 wo, .int .u64 fo, .int .i64 at_] 60 := by rw [← hW]; exact Blk.new w _ _
  have b0 := BW.cell 0 rfl
  have b1 := BW.cell 1 rfl
  have b2 := BW.cell 2 rfl
  have b3 := BW.cell 3 rfl
  have b4 := BW.cell 4 rfl
  have b5 := BW.cell 5 rfl
  have b6 := BW.cell 6 rfl
  have b7 := BW.cell 7 rfl
  have b8 := BW.cell 8 rfl
  refine calls_all fun K hK => ?_
  go_enter Try.func22, Try.ntmps22
  go_wp2_with fail
  clear hW
  refine (HR.out W uW).mono ?_
  rintro e w' ⟨rfl, rfl⟩
  go_wp2_with fail
  refine (HM.out W uW).mono ?_
  rintro e W2 ⟨⟨b, rfl, hb⟩, u2⟩
  have U2 := uW.trans u2
  have B2 := BW.upd u2 (by simp)
  clear b0 b1 b2 b3 b4 b5 b6 b7 b8 BW uW u2
  cases b with
  | false =>
    have hno : ¬ May (⟨sn, rd, wl, ph, th, ad, wo, fo, at_⟩ : AS) := fun h => by simpa using hb.2 h
    have HNO := Lib.hid hno
    clear hb hno
    go_wp2_with fail
    exact .inr ⟨HNO.out, rfl, U2⟩
  | true =>
    have HYES := Lib.hid (hb.1 rfl)
    clear hb
    have b0 := B2.cell 0 rfl
    have b1 := B2.cell 1 rfl
    have b2 := B2.cell 2 rfl
    have b3 := B2.cell 3 rfl
    have b4 := B2.cell 4 rfl
    have b5 := B2.cell 5 rfl
    have b6 := B2.cell 6 rfl
    have b7 := B2.cell 7 rfl
    have b8 := B2.cell 8 rfl
    go_wp2_with fail
    refine (HK.out W2 U2).mono ?_
    rintro e w1 ⟨v1, v2, rfl, TN⟩
    have HMM := HMN.out HYES.out _ _ _ (TN.base U2)
    obtain ⟨p1, k1, e1⟩ := TN.rd.form
    obtain ⟨p2, k2, e2⟩ := TN.wr.form
    (try dsimp only at e1 e2)
    subst e1
    subst e2
    clear b0 b1 b2 b3 b4 b5 b6 b7 b8 B2 U2 TN
    simp only [stateV]
    simp only [head0] at HMM
    have HMM := Lib.hid HMM
    go_wp2_with fail
    refine HMM.out.mono ?_
    rintro e w2 ⟨rfl, HN⟩
    go_wp2_with fail
    exact .inl ⟨HYES.out, _, rfl, HN⟩
end
section
variable {w : World} {Y : RX} {sh : Sh} {acc : Int} {b : Nat} {s : AS} {F : List Nat} {rv wv : Value}
/-- a new attempt of the document that stands there -/
def RNew (w : World) (Y : RX) (sh : Sh) (s : AS) (p : Option Addr) (w' : World) : Prop := ∃ b' G', p = some ⟨b', 0, none⟩ ∧ RL w' Y sh b' s G' ∧ Upd [] w w' ∧ w.heap.size ≤ b' ∧ ∀ g ∈ G', w.heap.size ≤ g
theorem rnew_box {w1 : World} (hY : Y.At w sh acc) (hW : Wide s) (TN : TwoNew w w1 s rv wv) : RNew w Y sh s (some ⟨w1.heap.size, 0, none⟩) (w1.alloc (.cells (rheadV s rv wv).toArray 132)) := by
  have u : Upd [] w1 (w1.alloc (.cells (rheadV s rv wv).toArray 132)) := (Upd.refl [] _).alloc _
  have hlt := hY.lt
  have hz : w1.heap.size < (w1.alloc (.cells (rheadV s rv wv).toArray 132)).heap.size := by simp
  have hg2 : ∀ g ∈ rv.ownBlock.toList ++ wv.ownBlock.toList, g < w1.heap.size ∧ w.heap.size ≤ g := fun g hg => by
    simp only [List.mem_append, Option.mem_toList] at hg
    rcases hg with k | k
    · exact ⟨TN.rd.lt k, TN.nr g k⟩
    · exact ⟨TN.wr.lt k, TN.nw g k⟩
  refine ⟨_, rv.ownBlock.toList ++ wv.ownBlock.toList, rfl, ⟨acc, rv, wv, ⟨Blk.new w1 _ _, (TN.rd.upd u (by simp)).mono (fun g hg => by simp at hg ⊢; exact .inl hg), (TN.wr.upd u (by simp)).mono (fun g hg => by simp at hg ⊢; exact .inr hg), TN.ap⟩, (hY.upd TN.u (by simp)).upd u (by simp), fun g hg => ?_, hW⟩, TN.u.trans u, TN.u.size, fun g hg => (hg2 g hg).2⟩
  obtain ⟨k1, k2⟩ := hg2 g hg
  exact ⟨by omega, fun hm => by have := hlt g hm; omega, by omega⟩
def RFrom (w : World) (Y : RX) (sh : Sh) (s : AS) (e : Ending) (w' : World) : Prop :=
  (May s ∧ ∃ p, e = .returned (.tuple #[.pointer p, .int .i64 0]) ∧ RNew w Y sh s p w') ∨ (¬ May s ∧ e = .returned (.tuple #[.pointer none, .int .i64 2]) ∧ Upd [] w w')
set_option maxHeartbeats 1000000 in
theorem rfrom_code (hY : Y.At w sh acc) (h1 : SlC w rv s.reads) (h2 : SlC w wv s.writes) (hW : Wide s) (hl1 : s.reads.length * 16 ≤ 140737488355328) (hl2 : s.writes.length * 16 ≤ 140737488355328) :
    Calls Try.prog 30 #[stateV s rv wv] w (RFrom w Y sh s) := by
  have HM := Lib.hid fun (W : World) (u : Upd [] w W) => rmay_code s rv wv W (h1.upd0 u) (h2.upd0 u) hW (by omega) (by omega)
  have HK := Lib.hid fun (W : World) (u : Upd [] w W) => twin_code W s rv wv (h1.upd0 u) (h2.upd0 u) hl1 hl2
  have HMN := Lib.hid fun (w1 : World) (v1 v2 : Value) (TN : TwoNew w w1 s v1 v2) => rnew_box hY hW TN
  obtain ⟨p, c, rfl, _⟩ := h1
  obtain ⟨q, d, rfl, _⟩ := h2
  clear hY hW
  obtain ⟨sn, rd, wl, ph, th, ad, wo, fo, at_⟩ := s
  simp only [stateV] at HM HK ⊢
  dsimp only at hl1 hl2
  obtain ⟨W, hW⟩ : ∃ W, w.alloc (.cells #[.int .u64 sn, .slice p rd.length c, .slice q wl.length d, .int .i64 ph, .int .i64 th, .int .u64 ad, .int .u64 wo, .int .u64 fo, .int .i64 at_] 60) = W := ⟨_, rfl⟩
  have uW : Upd [] w W := by rw [← hW]; exact (Upd.refl [] _).alloc _
  have BW : Blk W w.heap.size [.int .u64 sn, .slice p rd.length c, .slice q wl.length d, .int .i64 ph, .int .i64 th, .int .u64 ad, .int .u64 wo, .int .u64 fo, .int .i64 at_] 60 := by rw [← hW]; exact Blk.new w _ _
  have b0 := BW.cell 0 rfl
  have b1 := BW.cell 1 rfl
  have b2 := BW.cell 2 rfl
  have b3 := BW.cell 3 rfl
  have b4 := BW.cell 4 rfl
  have b5 := BW.cell 5 rfl
  have b6 := BW.cell 6 rfl
  have b7 := BW.cell 7 rfl
  have b8 := BW.cell 8 rfl
  refine calls_all fun K hK => ?_
  go_enter Try.func30, Try.ntmps30
  go_wp2_with fail
  clear hW
  refine (HM.out W uW).mono ?_
  rintro e W2 ⟨⟨b, rfl, hb⟩, u2⟩
  have U2 := uW.trans u2
  have B2 := BW.upd u2 (by simp)
  clear b0 b1 b2 b3 b4 b5 b6 b7 b8 BW uW u2
  cases b with
  | false =>
    have hno : ¬ May (⟨sn, rd, wl, ph, th, ad, wo, fo, at_⟩ : AS) := fun h => by simpa using hb.2 h
    have HNO := Lib.hid hno
    clear hb hno
    go_wp2_with fail
    exact .inr ⟨HNO.out, rfl, U2⟩
  | true =>
    have HYES := Lib.hid (hb.1 rfl)
    clear hb
    have b0 := B2.cell 0 rfl
    have b1 := B2.cell 1 rfl
    have b2 := B2.cell 2 rfl
    have b3 := B2.cell 3 rfl
    have b4 := B2.cell 4 rfl
    have b5 := B2.cell 5 rfl
    have b6 := B2.cell 6 rfl
    have b7 := B2.cell 7 rfl
    have b8 := B2.cell 8 rfl
    go_wp2_with fail
    refine (HK.out W2 U2).mono ?_
    rintro e w1 ⟨v1, v2, rfl, TN⟩
    have HMM := HMN.out _ _ _ (TN.base U2)
    obtain ⟨p1, k1, e1⟩ := TN.rd.form
    obtain ⟨p2, k2, e2⟩ := TN.wr.form
    (try dsimp only at e1 e2)
    subst e1
    subst e2
    clear b0 b1 b2 b3 b4 b5 b6 b7 b8 B2 U2 TN
    simp only [stateV]
    simp only [rheadV] at HMM
    have HMM := Lib.hid HMM
    go_wp2_with fail
    exact .inl ⟨HYES.out, _, rfl, HMM.out⟩
set_option maxHeartbeats 1000000 in
theorem rcopy_live (hL : RLive w Y sh acc b s F rv wv) (hM : May s) : Calls Try.prog 62 #[.pointer (some ⟨b, 0, none⟩)] w fun e w' => ∃ p, e = .returned (.pointer p) ∧ RNew w Y sh s p w' := by
  have HK := Lib.hid (twin_code w s rv wv hL.att.rd.slc hL.att.wr.slc (by have := hM.lenR; omega) (by have := hM.lenW; omega))
  have HMN := Lib.hid fun (w1 : World) (v1 v2 : Value) (TN : TwoNew w w1 s v1 v2) => rnew_box hL.sh hL.wide TN
  have b0 := hL.att.head.cell 0 rfl
  have b1 := hL.att.head.cell 1 rfl
  have b2 := hL.att.head.cell 2 rfl
  have b3 := hL.att.head.cell 3 rfl
  have b4 := hL.att.head.cell 4 rfl
  have b5 := hL.att.head.cell 5 rfl
  have b6 := hL.att.head.cell 6 rfl
  have b7 := hL.att.head.cell 7 rfl
  have b8 := hL.att.head.cell 8 rfl
  obtain ⟨p, c, rfl⟩ := hL.att.rd.form
  obtain ⟨q, d, rfl⟩ := hL.att.wr.form
  clear hL hM
  obtain ⟨sn, rd, wl, ph, th, ad, wo, fo, at_⟩ := s
  simp only [stateV] at HK
  dsimp only at b0 b1 b2 b3 b4 b5 b6 b7 b8
  refine calls_all fun K hK => ?_
  go_enter Try.func62, Try.ntmps62
  go_wp2_with fail
  refine HK.out.mono ?_
  rintro e w1 ⟨v1, v2, rfl, TN⟩
  have HMM := HMN.out _ _ _ TN
  obtain ⟨p1, k1, e1⟩ := TN.rd.form
  obtain ⟨p2, k2, e2⟩ := TN.wr.form
  (try dsimp only at e1 e2)
  subst e1
  subst e2
  clear b0 b1 b2 b3 b4 b5 b6 b7 b8 TN
  simp only [stateV]
  simp only [rheadV] at HMM
  have HMM := Lib.hid HMM
  go_wp2_with fail
  exact ⟨_, rfl, HMM.out⟩
end
end Go.Proofs.Ythfeljongackcaa
set_option linter.unusedSimpArgs false
set_option linter.unusedVariables false
set_option maxRecDepth 100000
namespace Go.Proofs.Ythfeljongackcaa
open Go.RowKit
open Go.Maps
theorem rget_no (w : World) (p : Option Addr) (x : Int) : Calls Try.prog 98 #[.pointer none, .pointer p, .int .u64 x] w fun e w' => e = .returned (.tuple #[trnNone.val, .int .i64 1]) ∧ Upd [] w w' := by
  obtain ⟨W, hW⟩ : ∃ W, w.alloc (.cells turn0.toArray 36) = W := ⟨_, rfl⟩
  have RB : Blk W w.heap.size turn0 36 := by rw [← hW]; exact Blk.new w _ _
  have HU : Upd [] w W := by rw [← hW]; exact (Upd.refl _ _).alloc _
  simp only [turn0, trnNone, evNone, Trn.cells] at hW
  have q0 := (RB).cell 0 rfl
  have q1 := (RB).cell 1 rfl
  have q2 := (RB).cell 2 rfl
  have q3 := (RB).cell 3 rfl
  have q4 := (RB).cell 4 rfl
  have q5 := (RB).cell 5 rfl
  have q6 := (RB).cell 6 rfl
  have q7 := (RB).cell 7 rfl
  have g0 := (RB).free 0
  have g1 := (RB).free 1
  have g2 := (RB).free 2
  have g3 := (RB).free 3
  have g4 := (RB).free 4
  have g5 := (RB).free 5
  have g6 := (RB).free 6
  have g7 := (RB).free 7
  refine calls_all fun K hK => ?_
  go_enter Try.func98, Try.ntmps98
  go_wp2
  first
    | exact bodyPost_ret (turn_results2 2 3 rfl _ _ _ trnNone (.int .i64 1) rfl rfl (turn_set RB rfl trnNone)) rfl (hK _ _ ⟨rfl, upd8 HU (Nat.le_refl _) _ _ _ _ _ _ _ _⟩)
    | exact bodyPost_ret (turn_results2 3 4 rfl _ _ _ trnNone (.int .i64 1) rfl rfl (turn_set RB rfl trnNone)) rfl (hK _ _ ⟨rfl, upd8 HU (Nat.le_refl _) _ _ _ _ _ _ _ _⟩)
    | exact bodyPost_ret (turn_results2 4 5 rfl _ _ _ trnNone (.int .i64 1) rfl rfl (turn_set RB rfl trnNone)) rfl (hK _ _ ⟨rfl, upd8 HU (Nat.le_refl _) _ _ _ _ _ _ _ _⟩)
    | exact bodyPost_ret (turn_results2 5 6 rfl _ _ _ trnNone (.int .i64 1) rfl rfl (turn_set RB rfl trnNone)) rfl (hK _ _ ⟨rfl, upd8 HU (Nat.le_refl _) _ _ _ _ _ _ _ _⟩)
    | exact bodyPost_ret (turn_results2 8 9 rfl _ _ _ trnNone (.int .i64 1) rfl rfl (turn_set RB rfl trnNone)) rfl (hK _ _ ⟨rfl, upd8 HU (Nat.le_refl _) _ _ _ _ _ _ _ _⟩)
    | exact bodyPost_ret (turn_results2 9 10 rfl _ _ _ trnNone (.int .i64 1) rfl rfl (turn_set RB rfl trnNone)) rfl (hK _ _ ⟨rfl, upd8 HU (Nat.le_refl _) _ _ _ _ _ _ _ _⟩)
    | exact bodyPost_ret (turn_results2 6 7 rfl _ _ _ trnNone (.int .i64 1) rfl rfl (turn_set RB rfl trnNone)) rfl (hK _ _ ⟨rfl, upd8 HU (Nat.le_refl _) _ _ _ _ _ _ _ _⟩)
    | exact bodyPost_ret (turn_results2 7 8 rfl _ _ _ trnNone (.int .i64 1) rfl rfl (turn_set RB rfl trnNone)) rfl (hK _ _ ⟨rfl, upd8 HU (Nat.le_refl _) _ _ _ _ _ _ _ _⟩)
theorem rput_no (w : World) (p : Option Addr) (x v : Int) : Calls Try.prog 99 #[.pointer none, .pointer p, .int .u64 x, .int .u64 v] w fun e w' => e = .returned (.tuple #[trnNone.val, .int .i64 1]) ∧ Upd [] w w' := by
  obtain ⟨W, hW⟩ : ∃ W, w.alloc (.cells turn0.toArray 36) = W := ⟨_, rfl⟩
  have RB : Blk W w.heap.size turn0 36 := by rw [← hW]; exact Blk.new w _ _
  have HU : Upd [] w W := by rw [← hW]; exact (Upd.refl _ _).alloc _
  simp only [turn0, trnNone, evNone, Trn.cells] at hW
  have q0 := (RB).cell 0 rfl
  have q1 := (RB).cell 1 rfl
  have q2 := (RB).cell 2 rfl
  have q3 := (RB).cell 3 rfl
  have q4 := (RB).cell 4 rfl
  have q5 := (RB).cell 5 rfl
  have q6 := (RB).cell 6 rfl
  have q7 := (RB).cell 7 rfl
  have g0 := (RB).free 0
  have g1 := (RB).free 1
  have g2 := (RB).free 2
  have g3 := (RB).free 3
  have g4 := (RB).free 4
  have g5 := (RB).free 5
  have g6 := (RB).free 6
  have g7 := (RB).free 7
  refine calls_all fun K hK => ?_
  go_enter Try.func99, Try.ntmps99
  go_wp2
  first
    | exact bodyPost_ret (turn_results2 2 3 rfl _ _ _ trnNone (.int .i64 1) rfl rfl (turn_set RB rfl trnNone)) rfl (hK _ _ ⟨rfl, upd8 HU (Nat.le_refl _) _ _ _ _ _ _ _ _⟩)
    | exact bodyPost_ret (turn_results2 3 4 rfl _ _ _ trnNone (.int .i64 1) rfl rfl (turn_set RB rfl trnNone)) rfl (hK _ _ ⟨rfl, upd8 HU (Nat.le_refl _) _ _ _ _ _ _ _ _⟩)
    | exact bodyPost_ret (turn_results2 4 5 rfl _ _ _ trnNone (.int .i64 1) rfl rfl (turn_set RB rfl trnNone)) rfl (hK _ _ ⟨rfl, upd8 HU (Nat.le_refl _) _ _ _ _ _ _ _ _⟩)
    | exact bodyPost_ret (turn_results2 5 6 rfl _ _ _ trnNone (.int .i64 1) rfl rfl (turn_set RB rfl trnNone)) rfl (hK _ _ ⟨rfl, upd8 HU (Nat.le_refl _) _ _ _ _ _ _ _ _⟩)
    | exact bodyPost_ret (turn_results2 8 9 rfl _ _ _ trnNone (.int .i64 1) rfl rfl (turn_set RB rfl trnNone)) rfl (hK _ _ ⟨rfl, upd8 HU (Nat.le_refl _) _ _ _ _ _ _ _ _⟩)
    | exact bodyPost_ret (turn_results2 9 10 rfl _ _ _ trnNone (.int .i64 1) rfl rfl (turn_set RB rfl trnNone)) rfl (hK _ _ ⟨rfl, upd8 HU (Nat.le_refl _) _ _ _ _ _ _ _ _⟩)
    | exact bodyPost_ret (turn_results2 6 7 rfl _ _ _ trnNone (.int .i64 1) rfl rfl (turn_set RB rfl trnNone)) rfl (hK _ _ ⟨rfl, upd8 HU (Nat.le_refl _) _ _ _ _ _ _ _ _⟩)
    | exact bodyPost_ret (turn_results2 7 8 rfl _ _ _ trnNone (.int .i64 1) rfl rfl (turn_set RB rfl trnNone)) rfl (hK _ _ ⟨rfl, upd8 HU (Nat.le_refl _) _ _ _ _ _ _ _ _⟩)
theorem rend_no (w : World) (p : Option Addr) : Calls Try.prog 100 #[.pointer none, .pointer p] w fun e w' => e = .returned (.tuple #[trnNone.val, .int .i64 1]) ∧ Upd [] w w' := by
  obtain ⟨W, hW⟩ : ∃ W, w.alloc (.cells turn0.toArray 36) = W := ⟨_, rfl⟩
  have RB : Blk W w.heap.size turn0 36 := by rw [← hW]; exact Blk.new w _ _
  have HU : Upd [] w W := by rw [← hW]; exact (Upd.refl _ _).alloc _
  simp only [turn0, trnNone, evNone, Trn.cells] at hW
  have q0 := (RB).cell 0 rfl
  have q1 := (RB).cell 1 rfl
  have q2 := (RB).cell 2 rfl
  have q3 := (RB).cell 3 rfl
  have q4 := (RB).cell 4 rfl
  have q5 := (RB).cell 5 rfl
  have q6 := (RB).cell 6 rfl
  have q7 := (RB).cell 7 rfl
  have g0 := (RB).free 0
  have g1 := (RB).free 1
  have g2 := (RB).free 2
  have g3 := (RB).free 3
  have g4 := (RB).free 4
  have g5 := (RB).free 5
  have g6 := (RB).free 6
  have g7 := (RB).free 7
  refine calls_all fun K hK => ?_
  go_enter Try.func100, Try.ntmps100
  go_wp2
  first
    | exact bodyPost_ret (turn_results2 2 3 rfl _ _ _ trnNone (.int .i64 1) rfl rfl (turn_set RB rfl trnNone)) rfl (hK _ _ ⟨rfl, upd8 HU (Nat.le_refl _) _ _ _ _ _ _ _ _⟩)
    | exact bodyPost_ret (turn_results2 3 4 rfl _ _ _ trnNone (.int .i64 1) rfl rfl (turn_set RB rfl trnNone)) rfl (hK _ _ ⟨rfl, upd8 HU (Nat.le_refl _) _ _ _ _ _ _ _ _⟩)
    | exact bodyPost_ret (turn_results2 4 5 rfl _ _ _ trnNone (.int .i64 1) rfl rfl (turn_set RB rfl trnNone)) rfl (hK _ _ ⟨rfl, upd8 HU (Nat.le_refl _) _ _ _ _ _ _ _ _⟩)
    | exact bodyPost_ret (turn_results2 5 6 rfl _ _ _ trnNone (.int .i64 1) rfl rfl (turn_set RB rfl trnNone)) rfl (hK _ _ ⟨rfl, upd8 HU (Nat.le_refl _) _ _ _ _ _ _ _ _⟩)
    | exact bodyPost_ret (turn_results2 8 9 rfl _ _ _ trnNone (.int .i64 1) rfl rfl (turn_set RB rfl trnNone)) rfl (hK _ _ ⟨rfl, upd8 HU (Nat.le_refl _) _ _ _ _ _ _ _ _⟩)
    | exact bodyPost_ret (turn_results2 9 10 rfl _ _ _ trnNone (.int .i64 1) rfl rfl (turn_set RB rfl trnNone)) rfl (hK _ _ ⟨rfl, upd8 HU (Nat.le_refl _) _ _ _ _ _ _ _ _⟩)
    | exact bodyPost_ret (turn_results2 6 7 rfl _ _ _ trnNone (.int .i64 1) rfl rfl (turn_set RB rfl trnNone)) rfl (hK _ _ ⟨rfl, upd8 HU (Nat.le_refl _) _ _ _ _ _ _ _ _⟩)
    | exact bodyPost_ret (turn_results2 7 8 rfl _ _ _ trnNone (.int .i64 1) rfl rfl (turn_set RB rfl trnNone)) rfl (hK _ _ ⟨rfl, upd8 HU (Nat.le_refl _) _ _ _ _ _ _ _ _⟩)
theorem rstep_no (w : World) (p : Option Addr) : Calls Try.prog 102 #[.pointer none, .pointer p] w fun e w' => e = .returned (.tuple #[trnNone.val, .int .i64 1]) ∧ Upd [] w w' := by
  obtain ⟨W, hW⟩ : ∃ W, w.alloc (.cells turn0.toArray 36) = W := ⟨_, rfl⟩
  have RB : Blk W w.heap.size turn0 36 := by rw [← hW]; exact Blk.new w _ _
  have HU : Upd [] w W := by rw [← hW]; exact (Upd.refl _ _).alloc _
  simp only [turn0, trnNone, evNone, Trn.cells] at hW
  have q0 := (RB).cell 0 rfl
  have q1 := (RB).cell 1 rfl
  have q2 := (RB).cell 2 rfl
  have q3 := (RB).cell 3 rfl
  have q4 := (RB).cell 4 rfl
  have q5 := (RB).cell 5 rfl
  have q6 := (RB).cell 6 rfl
  have q7 := (RB).cell 7 rfl
  have g0 := (RB).free 0
  have g1 := (RB).free 1
  have g2 := (RB).free 2
  have g3 := (RB).free 3
  have g4 := (RB).free 4
  have g5 := (RB).free 5
  have g6 := (RB).free 6
  have g7 := (RB).free 7
  refine calls_all fun K hK => ?_
  go_enter Try.func102, Try.ntmps102
  go_wp2
  first
    | exact bodyPost_ret (turn_results2 2 3 rfl _ _ _ trnNone (.int .i64 1) rfl rfl (turn_set RB rfl trnNone)) rfl (hK _ _ ⟨rfl, upd8 HU (Nat.le_refl _) _ _ _ _ _ _ _ _⟩)
    | exact bodyPost_ret (turn_results2 3 4 rfl _ _ _ trnNone (.int .i64 1) rfl rfl (turn_set RB rfl trnNone)) rfl (hK _ _ ⟨rfl, upd8 HU (Nat.le_refl _) _ _ _ _ _ _ _ _⟩)
    | exact bodyPost_ret (turn_results2 4 5 rfl _ _ _ trnNone (.int .i64 1) rfl rfl (turn_set RB rfl trnNone)) rfl (hK _ _ ⟨rfl, upd8 HU (Nat.le_refl _) _ _ _ _ _ _ _ _⟩)
    | exact bodyPost_ret (turn_results2 5 6 rfl _ _ _ trnNone (.int .i64 1) rfl rfl (turn_set RB rfl trnNone)) rfl (hK _ _ ⟨rfl, upd8 HU (Nat.le_refl _) _ _ _ _ _ _ _ _⟩)
    | exact bodyPost_ret (turn_results2 8 9 rfl _ _ _ trnNone (.int .i64 1) rfl rfl (turn_set RB rfl trnNone)) rfl (hK _ _ ⟨rfl, upd8 HU (Nat.le_refl _) _ _ _ _ _ _ _ _⟩)
    | exact bodyPost_ret (turn_results2 9 10 rfl _ _ _ trnNone (.int .i64 1) rfl rfl (turn_set RB rfl trnNone)) rfl (hK _ _ ⟨rfl, upd8 HU (Nat.le_refl _) _ _ _ _ _ _ _ _⟩)
    | exact bodyPost_ret (turn_results2 6 7 rfl _ _ _ trnNone (.int .i64 1) rfl rfl (turn_set RB rfl trnNone)) rfl (hK _ _ ⟨rfl, upd8 HU (Nat.le_refl _) _ _ _ _ _ _ _ _⟩)
    | exact bodyPost_ret (turn_results2 7 8 rfl _ _ _ trnNone (.int .i64 1) rfl rfl (turn_set RB rfl trnNone)) rfl (hK _ _ ⟨rfl, upd8 HU (Nat.le_refl _) _ _ _ _ _ _ _ _⟩)
theorem rdrop_no (w : World) : Calls Try.prog 101 #[.pointer none] w fun e w' => e = .returned (.int .i64 1) ∧ w = w' := by
  refine calls_all fun K hK => ?_
  go_enter Try.func101, Try.ntmps101
  go_wp2
  all_goals first | exact ⟨rfl, rfl⟩ | rfl
theorem rphase_no (w : World) : Calls Try.prog 67 #[.pointer none] w fun e w' => e = .returned (.int .i64 0) ∧ w = w' := by
  refine calls_all fun K hK => ?_
  go_enter Try.func67, Try.ntmps67
  go_wp2
  all_goals first | exact ⟨rfl, rfl⟩ | rfl
theorem rlocked_no (w : World) : Calls Try.prog 68 #[.pointer none] w fun e w' => e = .returned (.bool false) ∧ w = w' := by
  refine calls_all fun K hK => ?_
  go_enter Try.func68, Try.ntmps68
  go_wp2_with (go_at_call 67; refine (rphase_no _).mono ?_; rintro e w' ⟨rfl, rfl⟩)
  all_goals first | exact ⟨rfl, rfl⟩ | rfl
theorem rcopy_no (w : World) : Calls Try.prog 62 #[.pointer none] w fun e w' => e = .returned (.pointer none) ∧ w = w' := by
  refine calls_all fun K hK => ?_
  go_enter Try.func62, Try.ntmps62
  go_wp2
  all_goals first | exact ⟨rfl, rfl⟩ | rfl
theorem rstate_no (w : World) : Calls Try.prog 66 #[.pointer none] w fun e w' => e = .returned (stateV zeroAS (.slice none 0 0) (.slice none 0 0)) ∧ Upd [] w w' := by
  obtain ⟨W, hW⟩ : ∃ W, w.alloc (.cells (rheadV zeroS (.slice none 0 0) (.slice none 0 0)).toArray 60) = W := ⟨_, rfl⟩
  have uW : Upd [] w W := by rw [← hW]; exact (Upd.refl [] _).alloc _
  have R4 : Blk W w.heap.size (rheadV zeroS (.slice none 0 0) (.slice none 0 0)) 60 := by rw [← hW]; exact Blk.new w _ _
  simp only [rheadV, zeroS] at hW
  have q0 := R4.cell 0 rfl
  have q1 := R4.cell 1 rfl
  have q2 := R4.cell 2 rfl
  have q3 := R4.cell 3 rfl
  have q4 := R4.cell 4 rfl
  have q5 := R4.cell 5 rfl
  have q6 := R4.cell 6 rfl
  have q7 := R4.cell 7 rfl
  have q8 := R4.cell 8 rfl
  have g0 := R4.free 0
  have g1 := R4.free 1
  have g2 := R4.free 2
  have g3 := R4.free 3
  have g4 := R4.free 4
  have g5 := R4.free 5
  have g6 := R4.free 6
  have g7 := R4.free 7
  have g8 := R4.free 8
  refine calls_all fun K hK => ?_
  go_enter Try.func66, Try.ntmps66
  go_wp2
  exact bodyPost_ret (state_results 2 rfl _ _ w.heap.size zeroAS (.slice none 0 0) (.slice none 0 0) rfl (nine_set R4 zeroAS (.slice none 0 0) (.slice none 0 0))) rfl (hK _ _ ⟨rfl, nine_upd uW (.inr (Nat.le_refl _)) _ _ _ _ _ _ _ _ _⟩)
end Go.Proofs.Ythfeljongackcaa
