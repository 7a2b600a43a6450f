/- An attempt of the document in memory (parleyref07), and its small functions. No conditions. Two states are the same: the reference's Same, where they are. No conditions. The document's attempt: written, twice, and the small steps. No conditions. The document's attempt: over, load, lock. No conditions. The document's attempt: lock, look. No conditions. -/
import Derived.Test.YthfeljongackcaaM7p10
set_option linter.unusedSimpArgs false
set_option linter.unusedVariables false
set_option maxRecDepth 100000
namespace Go.Proofs.Ythfeljongackcaa
open Go.RowKit
open Go.Maps
/-- a state's nine cells -/
def rheadV (s : AS) (rv wv : Value) : List Value := [.int .u64 s.snap, rv, wv, .int .i64 s.phase, .int .i64 s.thn, .int .u64 s.addr, .int .u64 s.word, .int .u64 s.found, .int .i64 s.at_]
/-- the document's attempt: its block b, what else it owns F -/
structure RA (w : World) (b : Nat) (s : AS) (F : List Nat) (rv wv : Value) : Prop where
  head : Blk w b (rheadV s rv wv) 132
  rd : OwnP w rv s.reads F
  wr : OwnP w wv s.writes F
  apart : ∀ g, rv.ownBlock = some g → wv.ownBlock ≠ some g
structure RX where
  wb : Nat
  ra : Nat
  rb : Nat
def RX.foot (Y : RX) : List Nat := [Y.wb, Y.ra, Y.rb]
/-- the document's cells and clock -/
structure RX.At (Y : RX) (w : World) (sh : Sh) (acc : Int) : Prop where
  wld : Blk w Y.wb [.pointer (some ⟨Y.ra, 0, none⟩), .int .u64 sh.clock] 127
  row : RRow w Y.ra Y.rb sh.row acc
  wide : WideSh sh
section
variable {w w' : World} {b : Nat} {s : AS} {F S : List Nat} {rv wv : Value} {Y : RX} {sh : Sh} {acc : Int}
theorem RA.upd (h : RA w b s F rv wv) (u : Upd S w w') (hb : b ∉ S) (hF : ∀ g ∈ F, g ∉ S) : RA w' b s F rv wv :=
  ⟨h.head.upd u hb, h.rd.upd u (fun g hg e => hF g (h.rd.inF g e) hg), h.wr.upd u (fun g hg e => hF g (h.wr.inF g e) hg), h.apart⟩
theorem RA.not_rd (h : RA w b s F rv wv) : rv.ownBlock ≠ some b := h.rd.ne_blk h.head (by decide)
theorem RA.not_wr (h : RA w b s F rv wv) : wv.ownBlock ≠ some b := h.wr.ne_blk h.head (by decide)
theorem RA.put (h : RA w b s F rv wv) (o : Nat) (v : Value) (s' : AS) (hs : (rheadV s rv wv).set o v = rheadV s' rv wv) (hr : s'.reads = s.reads) (hw : s'.writes = s.writes) : RA (w.setCell ⟨b, o, none⟩ v) b s' F rv wv := by
  have u : Upd [b] w (w.setCell ⟨b, o, none⟩ v) := (Upd.refl _ _).setCell (.inl (by simp)) _
  refine ⟨hs ▸ h.head.set o v, ?_, ?_, h.apart⟩
  · rw [hr]; exact h.rd.upd u (fun g hg e => by simp at hg; subst hg; exact h.not_rd e)
  · rw [hw]; exact h.wr.upd u (fun g hg e => by simp at hg; subst hg; exact h.not_wr e)
theorem RX.At.ne (h : Y.At w sh acc) : Y.wb ≠ Y.ra ∧ Y.wb ≠ Y.rb := by
  obtain ⟨cap, h1, sp, h2, _⟩ := h.row.head
  exact ⟨fun e => by have := h.wld; rw [e] at this; exact absurd (this.inj h1).2 (by decide), fun e => by have := h.wld; rw [e] at this; exact absurd (this.inj h2).2 (by decide)⟩
theorem RX.At.lt (h : Y.At w sh acc) : ∀ g ∈ Y.foot, g < w.heap.size := by
  have := h.wld.lt; have := h.row.lta; have := h.row.ltb
  simp only [RX.foot, List.mem_cons, List.not_mem_nil, or_false]
  rintro g (rfl | rfl | rfl) <;> assumption
theorem RX.At.upd (h : Y.At w sh acc) (u : Upd S w w') (hS : ∀ g ∈ Y.foot, g ∉ S) : Y.At w' sh acc :=
  ⟨h.wld.upd u (hS _ (by simp [RX.foot])), h.row.upd u (hS _ (by simp [RX.foot])) (hS _ (by simp [RX.foot])), h.wide⟩
theorem RX.At.clock (h : Y.At w sh acc) (k : Int) (hk : 0 ≤ k ∧ k < 18446744073709551616) : Y.At (w.setCell ⟨Y.wb, 1, none⟩ (.int .u64 k)) { sh with clock := k } acc := by
  have u : Upd [Y.wb] w (w.setCell ⟨Y.wb, 1, none⟩ (.int .u64 k)) := (Upd.refl _ _).setCell (.inl (by simp)) _
  exact ⟨h.wld.set 1 _, h.row.upd u (by simpa using h.ne.1.symm) (by simpa using h.ne.2.symm), ⟨h.wide.row, hk⟩⟩
end

/-- the document's attempt that is going on -/
structure RLive (w : World) (Y : RX) (sh : Sh) (acc : Int) (b : Nat) (s : AS) (F : List Nat) (rv wv : Value) : Prop where
  att : RA w b s F rv wv
  sh : Y.At w sh acc
  sep : ∀ g ∈ F, g < w.heap.size ∧ g ∉ Y.foot ∧ g ≠ b
  wide : Wide s
section
variable {w w' : World} {b : Nat} {s : AS} {F S : List Nat} {rv wv : Value} {Y : RX} {sh : Sh} {acc : Int}
theorem RLive.out (h : RLive w Y sh acc b s F rv wv) : b ∉ Y.foot := by
  have hh := h.att.head
  obtain ⟨cap, h1, sp, h2, _⟩ := h.sh.row.head
  have h3 := h.sh.wld
  simp only [RX.foot, List.mem_cons, List.not_mem_nil, or_false, not_or]
  exact ⟨fun e => by subst e; exact absurd (hh.inj h3).2 (by decide), fun e => by subst e; exact absurd (hh.inj h1).2 (by decide), fun e => by subst e; exact absurd (hh.inj h2).2 (by decide)⟩
theorem RLive.lt (h : RLive w Y sh acc b s F rv wv) : b < w.heap.size := h.att.head.lt
theorem RLive.upd (h : RLive w Y sh acc b s F rv wv) (u : Upd S w w') (hS : ∀ g ∈ b :: (F ++ Y.foot), g ∉ S) : RLive w' Y sh acc b s F rv wv :=
  ⟨h.att.upd u (hS _ (by simp)) (fun g hg => hS g (by simp [hg])), h.sh.upd u (fun g hg => hS g (by simp [hg])), fun g hg => ⟨Nat.lt_of_lt_of_le (h.sep g hg).1 u.size, (h.sep g hg).2⟩, h.wide⟩
theorem RLive.upd0 (h : RLive w Y sh acc b s F rv wv) (u : Upd [] w w') : RLive w' Y sh acc b s F rv wv := h.upd u (by simp)
theorem RLive.put (h : RLive w Y sh acc b s F rv wv) (o : Nat) (v : Value) (s' : AS) (hs : (rheadV s rv wv).set o v = rheadV s' rv wv) (hr : s'.reads = s.reads) (hw : s'.writes = s.writes) (hW : Wide s') : RLive (w.setCell ⟨b, o, none⟩ v) Y sh acc b s' F rv wv := by
  have u : Upd [b] w (w.setCell ⟨b, o, none⟩ v) := (Upd.refl _ _).setCell (.inl (by simp)) _
  have ho := h.out
  exact ⟨h.att.put o v s' hs hr hw, h.sh.upd u (fun g hg e => by simp at e; subst e; exact ho hg), fun g hg => ⟨Nat.lt_of_lt_of_le (h.sep g hg).1 u.size, (h.sep g hg).2⟩, hW⟩
end
/-- it stands, the counts left out -/
def RL (w : World) (Y : RX) (sh : Sh) (b : Nat) (s : AS) (F : List Nat) : Prop := ∃ acc rv wv, RLive w Y sh acc b s F rv wv
/-- a step's turn, and what it leaves -/
def RStep (w : World) (Y : RX) (b : Nat) (F : List Nat) (T : Trn) (s' : AS) (sh' : Sh) (e : Ending) (w' : World) : Prop :=
  e = .returned T.val ∧ ∃ F', RL w' Y sh' b s' F' ∧ Upd (b :: (F ++ Y.foot)) w w' ∧ ∀ g ∈ F', g ∈ F ∨ w.heap.size ≤ g
/-- a call's answer, and what it leaves -/
def RCall (w : World) (Y : RX) (b : Nat) (F : List Nat) (T : Trn) (r : Int) (s' : AS) (sh' : Sh) (e : Ending) (w' : World) : Prop :=
  e = .returned (.tuple #[T.val, .int .i64 r]) ∧ ∃ F', RL w' Y sh' b s' F' ∧ Upd (b :: (F ++ Y.foot)) w w' ∧ ∀ g ∈ F', g ∈ F ∨ w.heap.size ≤ g

theorem rgoing_code (w : World) : Calls Try.prog 134 #[] w fun e w' => e = .returned going.val ∧ Upd [] w w' := by
  refine calls_all fun K hK => ?_
  go_enter Try.func134, Try.ntmps134
  go_wp2
  exact bodyPost_ret (turn_results 0 rfl _ _ w.heap.size going rfl (Blk.new w _ _)) rfl (hK _ _ ⟨rfl, (Upd.refl _ _).alloc _⟩)

/-- the place of an address, or -1 -/
def placeI (l : List (Int × Int)) (x : Int) : Int := match place l x with | some k => k | none => -1
theorem placeI_nil (x : Int) : placeI [] x = -1 := rfl
theorem place_at {l : List (Int × Int)} {x : Int} {k : Nat} (hk : k < l.length) (h : ∀ j, j < k → (l.map (·.1))[j]? ≠ some x) (he : (l.map (·.1))[k]? = some x) : place l x = some k := by
  unfold place
  rw [List.findIdx?_eq_some_iff_getElem]
  refine ⟨hk, by simpa [hk] using he, fun j hj => ?_⟩
  have := h j hj
  simp [show j < l.length by omega] at this
  simpa using this
theorem place_not {l : List (Int × Int)} {x : Int} (h : ∀ j, j < l.length → (l.map (·.1))[j]? ≠ some x) : place l x = none := by
  unfold place
  rw [List.findIdx?_eq_none_iff]
  intro c hc
  obtain ⟨j, hj, rfl⟩ := List.getElem_of_mem hc
  have := h j hj
  simpa [hj] using this
end Go.Proofs.Ythfeljongackcaa
set_option linter.unusedSimpArgs false
set_option linter.unusedVariables false
set_option maxRecDepth 100000
namespace Go.Proofs.Ythfeljongackcaa
open Go.RowKit
open Go.Maps
/-- v reads as these cells -/
def SlC (w : World) (v : Value) (l : List (Int × Int)) : Prop :=
  ∃ p cap, v = .slice p l.length cap ∧ ∀ j x y, l[j]? = some (x, y) → ∃ b o, p = some ⟨b, o, none⟩ ∧ w.cell? ⟨b, o + j * 2, none⟩ = some (.int .u64 x) ∧ w.cell? ⟨b, o + j * 2 + 1, none⟩ = some (.int .u64 y)
theorem SlC.nil (w : World) : SlC w (.slice none 0 0) [] := ⟨none, 0, rfl, fun j x y h => by simp at h⟩
theorem OwnP.slc {w : World} {v : Value} {l : List (Int × Int)} {F : List Nat} (h : OwnP w v l F) : SlC w v l := by
  by_cases hl : l = []
  · subst hl; rw [h.nil rfl]; exact SlC.nil w
  · obtain ⟨g, cap, sp, rfl, hc, hb, _⟩ := h.open hl
    refine ⟨_, _, rfl, fun j x y hj => ⟨g, 0, rfl, ?_⟩⟩
    have hjl : j < l.length := by
      by_cases hh : j < l.length
      · exact hh
      · rw [List.getElem?_eq_none (by omega)] at hj; cases hj
    obtain ⟨h1, h2⟩ := pcells_get l j x y hj
    rw [Nat.zero_add]
    exact ⟨hb.cell _ (by rw [List.getElem?_append_left (by rw [pcells_len]; omega)]; exact h1), hb.cell _ (by rw [List.getElem?_append_left (by rw [pcells_len]; omega)]; exact h2)⟩
theorem SlC.upd {w w' : World} {v : Value} {l : List (Int × Int)} {S : List Nat} (h : SlC w v l) (u : Upd S w w') (hS : ∀ g, v.ownBlock = some g → g ∉ S) : SlC w' v l := by
  obtain ⟨p, cap, rfl, hc⟩ := h
  refine ⟨p, cap, rfl, fun j x y hj => ?_⟩
  obtain ⟨b, o, rfl, h1, h2⟩ := hc j x y hj
  have hb : b < w.heap.size := World.block_lt_of_cell? w _ h1
  have he := u.block b hb (hS b rfl)
  exact ⟨b, o, rfl, (World.cell?_of_block (w := w) he).trans h1, (World.cell?_of_block (w := w) he).trans h2⟩
theorem SlC.upd0 {w w' : World} {v : Value} {l : List (Int × Int)} (h : SlC w v l) (u : Upd [] w w') : SlC w' v l := h.upd u (by simp)

set_option maxHeartbeats 1000000 in
theorem same_cells (w : World) (v v' : Value) (l : List (Int × Int)) (h : SlC w v l) (h' : SlC w v' l) (hl : l.length ≤ 4611686018427387904) : Calls Try.prog 70 #[v, v'] w fun e w' => e = .returned (.bool true) ∧ Upd [] w w' := by
  obtain ⟨p, cap, rfl, hc⟩ := h
  obtain ⟨p', cap', rfl, hc'⟩ := h'
  have HC := Lib.hid hc
  have HC' := Lib.hid hc'
  clear hc hc'
  have h0 : (0 : Int) ≤ (l.length : Int) := by omega
  refine calls_all fun K hK => ?_
  go_enter Try.func70, Try.ntmps70
  go_wp2_with fail
  go_loopw [5] (fun v5 wr => ∃ k : Nat, k ≤ l.length ∧ v5 = .int .i64 k ∧ Upd [] w wr) (fun v5 _ => l.length - (intOf v5).toNat)
  case atStart => exact ⟨0, by omega, rfl, Upd.refl _ _⟩
  case round =>
    obtain ⟨k, hk, rfl, hu⟩ := hrel
    have HU := Lib.hid hu
    clear hu
    by_cases hlt : k < l.length
    · have hlt' : (k : Int) < (l.length : Int) := by omega
      obtain ⟨⟨x, y⟩, hxy⟩ : ∃ c, l[k]? = some c := ⟨_, List.getElem?_eq_getElem hlt⟩
      obtain ⟨b, o, rfl, c0, c1⟩ := HC.out k x y hxy
      obtain ⟨b', o', rfl, d0, d1⟩ := HC'.out k x y hxy
      have hcell : ∀ (b' o' : Nat) (v : Value), w.cell? ⟨b', o', none⟩ = some v → wr.cell? ⟨b', o', none⟩ = some v := fun b' o' v h => (World.cell?_of_block (w := w) (HU.out.block b' (World.block_lt_of_cell? w _ h) (by simp))).trans h
      replace c0 := hcell _ _ _ c0
      replace c1 := hcell _ _ _ c1
      replace d0 := hcell _ _ _ d0
      replace d1 := hcell _ _ _ d1
      clear hcell hxy
      have hxx : (x != x) = false := by simp
      have hyy : (y != y) = false := by simp
      go_wp2_with fail
      refine wp_region_eff (fun w' => w'.cell? ⟨b, o + k * 2, none⟩ = some (.int .u64 x) ∧ w'.cell? ⟨b, o + k * 2 + 1, none⟩ = some (.int .u64 y) ∧ w'.cell? ⟨b', o' + k * 2, none⟩ = some (.int .u64 x) ∧ w'.cell? ⟨b', o' + k * 2 + 1, none⟩ = some (.int .u64 y)) 9 (by kernel_rfl) (by kernel_rfl) ⟨c0, c1, d0, d1⟩ ?_
      repeat
        refine wpE_take (v := ?_) (by decide) rfl (by rfl) ?_ ?_
        rotate_left 1
        · ((intro w hSw; (try dsimp only at hSw); go_simp); try with_reducible rfl)
        try simp only [Act.put, List.setIfInBounds_toArray, List.set_cons_zero, List.set_cons_succ]
      refine wpE_end (NoPanic.normal ?_)
      have HU2 := Lib.hid HU.out.drew
      clear c0 c1 d0 d1
      generalize wr.drew = wr2 at HU2 ⊢
      go_wp2_with fail
      go_roundw
      case rel => exact ⟨k + 1, by omega, by go_num, HU2.out⟩
      case measure => simp [intOf]; omega
    · obtain rfl : k = l.length := by omega
      go_wp2_with fail
      all_goals exact ⟨rfl, HU.out⟩

/-- a state as a value -/
def stateV (s : AS) (rv wv : Value) : Value := .agg #[.int .u64 s.snap, rv, wv, .int .i64 s.phase, .int .i64 s.thn, .int .u64 s.addr, .int .u64 s.word, .int .u64 s.found, .int .i64 s.at_]
set_option maxHeartbeats 2000000 in
theorem same_state (w : World) (s : AS) (r1 w1 r2 w2 : Value) (h1 : SlC w r1 s.reads) (k1 : SlC w w1 s.writes) (h2 : SlC w r2 s.reads) (k2 : SlC w w2 s.writes) (hl : s.reads.length ≤ 4611686018427387904) (hm : s.writes.length ≤ 4611686018427387904) :
    Calls Try.prog 31 #[stateV s r1 w1, stateV s r2 w2] w fun e w' => e = .returned (.bool true) ∧ Upd [] w w' := by
  have HS := Lib.hid fun (W : World) (u : Upd [] w W) => same_cells W r1 r2 s.reads (h1.upd0 u) (h2.upd0 u) hl
  have HT := Lib.hid fun (W : World) (u : Upd [] w W) => same_cells W w1 w2 s.writes (k1.upd0 u) (k2.upd0 u) hm
  obtain ⟨p1, c1, rfl, _⟩ := h1
  obtain ⟨p2, c2, rfl, _⟩ := h2
  obtain ⟨q1, d1, rfl, _⟩ := k1
  obtain ⟨q2, d2, rfl, _⟩ := k2
  obtain ⟨sn, rd, wr, ph, th, ad, wo, fo, at_⟩ := s
  simp only [stateV] at *
  have e0 : (sn == sn) = true := by simp
  have e1 : (ph == ph) = true := by simp
  have e2 : (th == th) = true := by simp
  have e3 : (ad == ad) = true := by simp
  have e4 : (wo == wo) = true := by simp
  have e5 : (fo == fo) = true := by simp
  have e6 : (at_ == at_) = true := by simp
  refine calls_all fun K hK => ?_
  go_enter Try.func31, Try.ntmps31
  go_wp2_with fail
  have B1 := (Blk.new w [.int .u64 sn, .slice p1 rd.length c1, .slice q1 wr.length d1, .int .i64 ph, .int .i64 th, .int .u64 ad, .int .u64 wo, .int .u64 fo, .int .i64 at_] 60).alloc (.cells #[.int .u64 sn, .slice p2 rd.length c2, .slice q2 wr.length d2, .int .i64 ph, .int .i64 th, .int .u64 ad, .int .u64 wo, .int .u64 fo, .int .i64 at_] 60)
  have B2 := Blk.new (w.alloc (.cells #[.int .u64 sn, .slice p1 rd.length c1, .slice q1 wr.length d1, .int .i64 ph, .int .i64 th, .int .u64 ad, .int .u64 wo, .int .u64 fo, .int .i64 at_] 60)) [.int .u64 sn, .slice p2 rd.length c2, .slice q2 wr.length d2, .int .i64 ph, .int .i64 th, .int .u64 ad, .int .u64 wo, .int .u64 fo, .int .i64 at_] 60
  have u1 : Upd [] w ((w.alloc (.cells #[.int .u64 sn, .slice p1 rd.length c1, .slice q1 wr.length d1, .int .i64 ph, .int .i64 th, .int .u64 ad, .int .u64 wo, .int .u64 fo, .int .i64 at_] 60)).alloc (.cells #[.int .u64 sn, .slice p2 rd.length c2, .slice q2 wr.length d2, .int .i64 ph, .int .i64 th, .int .u64 ad, .int .u64 wo, .int .u64 fo, .int .i64 at_] 60)) := ((Upd.refl [] _).alloc _).alloc _
  rw [World.size_alloc] at B2
  generalize (w.alloc (.cells #[.int .u64 sn, .slice p1 rd.length c1, .slice q1 wr.length d1, .int .i64 ph, .int .i64 th, .int .u64 ad, .int .u64 wo, .int .u64 fo, .int .i64 at_] 60)).alloc (.cells #[.int .u64 sn, .slice p2 rd.length c2, .slice q2 wr.length d2, .int .i64 ph, .int .i64 th, .int .u64 ad, .int .u64 wo, .int .u64 fo, .int .i64 at_] 60) = W at B1 B2 u1 ⊢
  refine (HS.out W u1).mono ?_
  rintro e W2 ⟨rfl, u2⟩
  have b1 := (B1.upd u2 (by simp)).cell 2 rfl
  have b2 := (B2.upd u2 (by simp)).cell 2 rfl
  have u3 := u1.trans u2
  clear B1 B2 u1 u2
  go_wp2_with fail
  refine (HT.out W2 u3).mono ?_
  rintro e W3 ⟨rfl, u4⟩
  go_wp2_with fail
  all_goals exact ⟨rfl, u3.trans u4⟩
end Go.Proofs.Ythfeljongackcaa
set_option linter.unusedSimpArgs false
set_option linter.unusedVariables false
set_option maxRecDepth 100000
namespace Go.Proofs.Ythfeljongackcaa
open Go.RowKit
open Go.Maps
theorem rwritten (w : World) (v : Value) (l : List (Int × Int)) (x : Int) (h : SlC w v l) (hl : l.length ≤ 4611686018427387904) :
    Calls Try.prog 105 #[v, .int .u64 x] w fun e w' => e = .returned (.int .i64 (placeI l x)) ∧ w = w' := by
  obtain ⟨p, cap, rfl, hc⟩ := h
  have HC := Lib.hid hc
  clear hc
  have h0 : (0 : Int) ≤ (l.length : Int) := by omega
  refine calls_all fun K hK => ?_
  go_enter Try.func105, Try.ntmps105
  go_wp2_with fail
  go_loopw [5] (fun v5 wr => ∃ k : Nat, k ≤ l.length ∧ v5 = .int .i64 k ∧ wr = w ∧ ∀ j, j < k → (l.map (·.1))[j]? ≠ some x) (fun v5 _ => l.length - (intOf v5).toNat)
  case atStart => exact ⟨0, by omega, rfl, rfl, fun j hj => absurd hj (by omega)⟩
  case round =>
    obtain ⟨k, hk, rfl, rfl, hno⟩ := hrel
    have HN := Lib.hid hno
    clear hno
    by_cases hlt : k < l.length
    · have hlt' : (k : Int) < (l.length : Int) := by omega
      obtain ⟨⟨y, u⟩, hxy⟩ : ∃ c, l[k]? = some c := ⟨_, List.getElem?_eq_getElem hlt⟩
      obtain ⟨b, o, rfl, c0, c1⟩ := HC.out k y u hxy
      have hm : (l.map (·.1))[k]? = some y := by rw [List.getElem?_map, hxy]; rfl
      by_cases e : y = x
      · subst e
        have hp := place_at hlt HN.out hm
        have hpI : placeI l y = k := by unfold placeI; rw [hp]
        have HPI := Lib.hid hpI
        have hyy : (y == y) = true := by simp
        clear hxy hm hp hpI
        go_wp2_with fail
        all_goals (first | (rw [HPI.out]; exact ⟨rfl, rfl⟩) | (rw [HPI.out]))
      · have hyx : (y == x) = false := by simpa using e
        have hnext : ∀ j, j < k + 1 → (l.map (·.1))[j]? ≠ some x := fun j hj => by
          by_cases hjk : j < k
          · exact HN.out j hjk
          · obtain rfl : j = k := by omega
            rw [hm]; simpa using e
        have HX := Lib.hid hnext
        clear hxy hm hnext
        go_wp2_with fail
        go_roundw
        case rel => exact ⟨k + 1, by omega, by go_num, trivial, HX.out⟩
        case measure => simp [intOf]; omega
    · obtain rfl : k = l.length := by omega
      have hpI : placeI l x = -1 := by unfold placeI; rw [place_not HN.out]
      have HPI := Lib.hid hpI
      clear hpI
      go_wp2_with fail
      all_goals (first | (rw [HPI.out]; exact ⟨rfl, rfl⟩) | (rw [HPI.out]))
end Go.Proofs.Ythfeljongackcaa
set_option linter.unusedSimpArgs false
set_option linter.unusedVariables false
set_option maxRecDepth 100000
namespace Go.Proofs.Ythfeljongackcaa
open Go.RowKit
open Go.Maps
-- behind a call to going: the turn is stored
section
variable {w : World} {Y : RX} {sh : Sh} {acc : Int} {b : Nat} {s : AS} {F : List Nat} {rv wv : Value}
theorem own_nil (w : World) (F : List Nat) : OwnP w (.slice none 0 0) [] F := ⟨⟨rfl, .inl ⟨rfl, rfl⟩⟩, fun _ => rfl, fun g hg => by simp [Value.ownBlock] at hg⟩
theorem no_results {fn : Func} (hr : fn.results = #[]) (t : Array Value) (w : World) : (results fn t).run Try.prog w = .ok (.tuple #[]) w := by simp [results, hr, go_sem]
theorem RLive.setSnap (h : RLive w Y sh acc b s F rv wv) (x : Int) (hx : 0 ≤ x ∧ x < 18446744073709551616) : RLive (w.setCell ⟨b, 0, none⟩ (.int .u64 x)) Y sh acc b { s with snap := x } F rv wv := h.put 0 _ _ rfl rfl rfl ⟨hx, h.wide.reads, h.wide.writes, h.wide.addr, h.wide.word, h.wide.found⟩
theorem RLive.setPhase (h : RLive w Y sh acc b s F rv wv) (x : Int) : RLive (w.setCell ⟨b, 3, none⟩ (.int .i64 x)) Y sh acc b { s with phase := x } F rv wv := h.put 3 _ _ rfl rfl rfl ⟨h.wide.snap, h.wide.reads, h.wide.writes, h.wide.addr, h.wide.word, h.wide.found⟩
theorem RLive.setThen (h : RLive w Y sh acc b s F rv wv) (x : Int) : RLive (w.setCell ⟨b, 4, none⟩ (.int .i64 x)) Y sh acc b { s with thn := x } F rv wv := h.put 4 _ _ rfl rfl rfl ⟨h.wide.snap, h.wide.reads, h.wide.writes, h.wide.addr, h.wide.word, h.wide.found⟩
theorem RLive.setAddr (h : RLive w Y sh acc b s F rv wv) (x : Int) (hx : 0 ≤ x ∧ x < 18446744073709551616) : RLive (w.setCell ⟨b, 5, none⟩ (.int .u64 x)) Y sh acc b { s with addr := x } F rv wv := h.put 5 _ _ rfl rfl rfl ⟨h.wide.snap, h.wide.reads, h.wide.writes, hx, h.wide.word, h.wide.found⟩
theorem RLive.setWord (h : RLive w Y sh acc b s F rv wv) (x : Int) (hx : 0 ≤ x ∧ x < 18446744073709551616) : RLive (w.setCell ⟨b, 6, none⟩ (.int .u64 x)) Y sh acc b { s with word := x } F rv wv := h.put 6 _ _ rfl rfl rfl ⟨h.wide.snap, h.wide.reads, h.wide.writes, h.wide.addr, hx, h.wide.found⟩
theorem RLive.setFound (h : RLive w Y sh acc b s F rv wv) (x : Int) (hx : 0 ≤ x ∧ x < 18446744073709551616) : RLive (w.setCell ⟨b, 7, none⟩ (.int .u64 x)) Y sh acc b { s with found := x } F rv wv := h.put 7 _ _ rfl rfl rfl ⟨h.wide.snap, h.wide.reads, h.wide.writes, h.wide.addr, h.wide.word, hx⟩
theorem RLive.setAt (h : RLive w Y sh acc b s F rv wv) (x : Int) : RLive (w.setCell ⟨b, 8, none⟩ (.int .i64 x)) Y sh acc b { s with at_ := x } F rv wv := h.put 8 _ _ rfl rfl rfl ⟨h.wide.snap, h.wide.reads, h.wide.writes, h.wide.addr, h.wide.word, h.wide.found⟩
theorem rover_code (h : RLive w Y sh acc b s F rv wv) : Calls Try.prog 123 #[.pointer (some ⟨b, 0, none⟩)] w fun e w' => e = .returned (.tuple #[]) ∧ RLive w' Y sh acc b overS F (.slice none 0 0) (.slice none 0 0) ∧ Upd [b] w w' := by
  have hB := h.att.head
  have b0 := (hB).cell 0 rfl
  have b1 := (hB).cell 1 rfl
  have b2 := (hB).cell 2 rfl
  have b3 := (hB).cell 3 rfl
  have b4 := (hB).cell 4 rfl
  have b5 := (hB).cell 5 rfl
  have b6 := (hB).cell 6 rfl
  have b7 := (hB).cell 7 rfl
  have b8 := (hB).cell 8 rfl
  have f0 := (hB).free 0
  have f1 := (hB).free 1
  have f2 := (hB).free 2
  have f3 := (hB).free 3
  have f4 := (hB).free 4
  have f5 := (hB).free 5
  have f6 := (hB).free 6
  have f7 := (hB).free 7
  have f8 := (hB).free 8
  have ho := h.out
  refine calls_all fun K hK => ?_
  go_enter Try.func123, Try.ntmps123
  go_wp2_with fail
  refine bodyPost_ret (no_results rfl _ _) rfl (hK _ _ ⟨rfl, ?_, ?_⟩)
  · have u : Upd [b] w (((((((((w.setCell ⟨b, 0, none⟩ (.int .u64 0)).setCell ⟨b, 1, none⟩ (.slice none 0 0)).setCell ⟨b, 2, none⟩ (.slice none 0 0)).setCell ⟨b, 3, none⟩ (.int .i64 10)).setCell ⟨b, 4, none⟩ (.int .i64 0)).setCell ⟨b, 5, none⟩ (.int .u64 0)).setCell ⟨b, 6, none⟩ (.int .u64 0)).setCell ⟨b, 7, none⟩ (.int .u64 0)).setCell ⟨b, 8, none⟩ (.int .i64 0)) := by
      (repeat (refine Upd.setCell ?_ (Or.inl (by simp)) _))
      exact Upd.refl _ _
    exact ⟨⟨(((((((((hB.set 0 _).set 1 _).set 2 _).set 3 _).set 4 _).set 5 _).set 6 _).set 7 _).set 8 _), own_nil _ _, own_nil _ _, fun g hg => by simp [Value.ownBlock] at hg⟩, h.sh.upd u (fun g hg e => by simp at e; subst e; exact ho hg), fun g hg => ⟨Nat.lt_of_lt_of_le (h.sep g hg).1 u.size, (h.sep g hg).2⟩, wide_over⟩
  · (repeat (refine Upd.setCell ?_ (Or.inl (by simp)) _))
    exact Upd.refl _ _

/-- a step is done: its turn's block is written -/
theorem rfin {W' : World} {s' : AS} {sh' : Sh} {acc' : Int} {F' : List Nat} {rv' wv' : Value} {T : Trn} {rb : Nat} (hr : w.heap.size ≤ rb) (H : RLive W' Y sh' acc' b s' F' rv' wv') (U : Upd (b :: (F ++ Y.foot)) w W') (hF : ∀ g ∈ F', g ∈ F ∨ w.heap.size ≤ g) (hn : rb ∉ b :: (F' ++ Y.foot)) (v0 v1 v2 v3 v4 v5 v6 v7 : Value) :
    RStep w Y b F T s' sh' (.returned T.val) ((((((((W'.setCell ⟨rb, 0, none⟩ v0).setCell ⟨rb, 1, none⟩ v1).setCell ⟨rb, 2, none⟩ v2).setCell ⟨rb, 3, none⟩ v3).setCell ⟨rb, 4, none⟩ v4).setCell ⟨rb, 5, none⟩ v5).setCell ⟨rb, 6, none⟩ v6).setCell ⟨rb, 7, none⟩ v7) :=
  ⟨rfl, F', ⟨acc', rv', wv', H.upd (at8 v0 v1 v2 v3 v4 v5 v6 v7) (fun g hg e => hn (by simp at e; subst e; exact hg))⟩, upd8 U hr _ _ _ _ _ _ _ _, hF⟩
theorem RX.At.loaded (h : Y.At w sh acc) {w' : World} {acc' : Int} (r : RRow w' Y.ra Y.rb sh.row acc') (u : Upd [Y.ra] w w') : Y.At w' sh acc' :=
  ⟨h.wld.upd u (by simpa using h.ne.1), r, h.wide⟩
theorem RLive.loaded (h : RLive w Y sh acc b s F rv wv) {w' : World} {acc' : Int} (r : RRow w' Y.ra Y.rb sh.row acc') (u : Upd [Y.ra] w w') : RLive w' Y sh acc' b s F rv wv := by
  have ho := h.out
  refine ⟨h.att.upd u (fun e => by simp at e; exact ho (by simp [RX.foot, e])) (fun g hg e => by simp at e; subst e; exact (h.sep _ hg).2.1 (by simp [RX.foot])), h.sh.loaded r u, fun g hg => ⟨Nat.lt_of_lt_of_le (h.sep g hg).1 u.size, (h.sep g hg).2⟩, h.wide⟩
set_option maxHeartbeats 1000000 in
theorem rload_code (hL : RLive w Y sh acc b s F rv wv) (ht : s.thn = 0) (hf : s.found = 0) :
    Calls Try.prog 121 #[.pointer (some ⟨b, 0, none⟩), .pointer (some ⟨Y.wb, 0, none⟩)] w (RStep w Y b F (loadS s sh).1 (loadS s sh).2 sh) := by
  obtain ⟨sn, rd, wr, ph, th, ad, wo, fo, at_⟩ := s
  simp only at ht hf
  subst ht hf
  have la := hL.lt
  have lx := hL.sh.lt
  have hnr : w.heap.size ∉ b :: (F ++ Y.foot) := by
    simp only [List.mem_cons, List.mem_append, not_or]
    exact ⟨by omega, fun h => Nat.lt_irrefl _ (hL.sep _ h).1, fun h => Nat.lt_irrefl _ (lx _ h)⟩
  have hwb : b ≠ Y.wb := fun e => hL.out (by simp [RX.foot, e])
  have lb0 : b ≠ w.heap.size := by omega
  have lw0 : Y.wb ≠ w.heap.size := by have := lx Y.wb (by simp [RX.foot]); omega
  refine calls_all fun K hK => ?_
  go_enter Try.func121, Try.ntmps121
  go_wp2_with fail
  obtain ⟨W, hW⟩ : ∃ W, W = w.alloc (.cells turn0.toArray 36) := ⟨_, rfl⟩
  have RB : Blk W w.heap.size turn0 36 := by rw [hW]; exact Blk.new w _ _
  have HU : Upd [] w W := by rw [hW]; exact (Upd.refl _ _).alloc _
  simp only [turn0, trnNone, evNone, Trn.cells] at hW
  rw [← hW]
  clear hW
  have hL1 := hL.upd0 HU.drew
  have a0 := hL1.sh.wld.cell 0 rfl
  have a5 := hL1.att.head.cell 5 rfl
  refine wp_region_eff (fun w' => w'.cell? ⟨Y.wb, 0, none⟩ = some (.pointer (some ⟨Y.ra, 0, none⟩)) ∧ w'.cell? ⟨b, 5, none⟩ = some (.int .u64 ad)) 15 (by kernel_rfl) (by kernel_rfl) ⟨a0, a5⟩ ?_
  repeat
    refine wpE_take (v := ?_) (by decide) rfl (by rfl) ?_ ?_
    rotate_left 1
    · ((intro w hSw; (try dsimp only at hSw); go_simp); try with_reducible rfl)
    try simp only [Act.put, List.setIfInBounds_toArray, List.set_cons_zero, List.set_cons_succ]
  refine wpE_eff (by decide) rfl (by kernel_rfl) (by rfl) (fun K2 hK2 => ?_)
  go_simp
  refine (rload_any hL1.sh.row ad hL.wide.addr.1).mono ?_
  rintro e w1 ⟨rfl, r1, u1⟩
  rw [loadW_eq]
  have hL2 := hL1.loaded r1 u1
  refine hK2.out _ _ ⟨hL2.sh.wld.cell 0 rfl, hL2.att.head.cell 5 rfl⟩ ?_
  clear hK2 K2
  repeat
    refine wpE_take (v := ?_) (by decide) rfl (by rfl) ?_ ?_
    rotate_left 1
    · ((intro w hSw; (try dsimp only at hSw); go_simp); try with_reducible rfl)
    try simp only [Act.put, List.setIfInBounds_toArray, List.set_cons_zero, List.set_cons_succ]
  refine wpE_end (NoPanic.normal ?_)
  have RB2 := RB.drew.upd u1 (fun e => by simp at e; have := lx Y.ra (by simp [RX.foot]); omega)
  have U2 : Upd (b :: (F ++ Y.foot)) w w1 := (HU.drew.mono (by simp)).trans (u1.mono (by simp [RX.foot]))
  have hlw := loadW_wide hL.sh.wide.row ad
  have HL3 := (((hL2.setWord (loadW sh.row ad) hlw).setPhase 3).setThen 0).setFound 0 (by omega)
  have hB := hL2.att.head
  have b0 := (hB).cell 0 rfl
  have b1 := (hB).cell 1 rfl
  have b2 := (hB).cell 2 rfl
  have b3 := (hB).cell 3 rfl
  have b4 := (hB).cell 4 rfl
  have b5 := (hB).cell 5 rfl
  have b6 := (hB).cell 6 rfl
  have b7 := (hB).cell 7 rfl
  have b8 := (hB).cell 8 rfl
  have f0 := (hB).free 0
  have f1 := (hB).free 1
  have f2 := (hB).free 2
  have f3 := (hB).free 3
  have f4 := (hB).free 4
  have f5 := (hB).free 5
  have f6 := (hB).free 6
  have f7 := (hB).free 7
  have f8 := (hB).free 8
  have RB3 := (((RB2.other ⟨b, 6, none⟩ (.int .u64 (loadW sh.row ad)) (Ne.symm lb0)).other ⟨b, 3, none⟩ (.int .i64 3) (Ne.symm lb0)).other ⟨b, 4, none⟩ (.int .i64 0) (Ne.symm lb0)).other ⟨b, 7, none⟩ (.int .u64 0) (Ne.symm lb0)
  have U3 := (((U2.setCell (p := ⟨b, 6, none⟩) (.inl (by simp)) (.int .u64 (loadW sh.row ad))).setCell (p := ⟨b, 3, none⟩) (.inl (by simp)) (.int .i64 3)).setCell (p := ⟨b, 4, none⟩) (.inl (by simp)) (.int .i64 0)).setCell (p := ⟨b, 7, none⟩) (.inl (by simp)) (.int .u64 0)
  clear a0 a5 r1 u1 RB2 U2
  go_wp2_with fail
  clear b0 b1 b2 b3 b4 b5 b6 b7 b8 f0 f1 f2 f3 f4 f5 f6 f7 f8
  refine (rgoing_code _).mono ?_
  rintro e w2 ⟨rfl, u2⟩
  simp only [Trn.val, going, evNone]
  have HL2 := (HL3).upd0 u2
  have RB2 := (RB3).upd u2 (by simp)
  have U2 := (U3).trans (u2.mono (by simp))
  have q0 := (RB2).cell 0 rfl
  have q1 := (RB2).cell 1 rfl
  have q2 := (RB2).cell 2 rfl
  have q3 := (RB2).cell 3 rfl
  have q4 := (RB2).cell 4 rfl
  have q5 := (RB2).cell 5 rfl
  have q6 := (RB2).cell 6 rfl
  have q7 := (RB2).cell 7 rfl
  have g0 := (RB2).free 0
  have g1 := (RB2).free 1
  have g2 := (RB2).free 2
  have g3 := (RB2).free 3
  have g4 := (RB2).free 4
  have g5 := (RB2).free 5
  have g6 := (RB2).free 6
  have g7 := (RB2).free 7
  go_wp2_with fail
  exact bodyPost_ret (turn_results 4 rfl _ _ _ going rfl (turn_set RB2 rfl going)) rfl (hK _ _ (rfin (Nat.le_refl _) HL2 U2 (fun g hg => .inl hg) hnr _ _ _ _ _ _ _ _))
end
end Go.Proofs.Ythfeljongackcaa
set_option linter.unusedSimpArgs false
set_option linter.unusedVariables false
set_option maxRecDepth 100000
namespace Go.Proofs.Ythfeljongackcaa
open Go.RowKit
open Go.Maps
-- behind a call to going: the turn is stored
-- the end: the turn T is stored
-- a store into the attempt's block, kept up in RB, U
section
variable {w : World} {Y : RX} {sh : Sh} {acc : Int} {b : Nat} {s : AS} {F : List Nat} {rv wv : Value}
theorem RLive.clock (h : RLive w Y sh acc b s F rv wv) (k : Int) (hk : 0 ≤ k ∧ k < 18446744073709551616) : RLive (w.setCell ⟨Y.wb, 1, none⟩ (.int .u64 k)) Y { sh with clock := k } acc b s F rv wv := by
  have ho := h.out
  have u : Upd [Y.wb] w (w.setCell ⟨Y.wb, 1, none⟩ (.int .u64 k)) := (Upd.refl _ _).setCell (.inl (by simp)) _
  exact ⟨h.att.upd u (fun e => by simp at e; exact ho (by simp [RX.foot, e])) (fun g hg e => by simp at e; subst e; exact (h.sep _ hg).2.1 (by simp [RX.foot])), h.sh.clock k hk, fun g hg => ⟨Nat.lt_of_lt_of_le (h.sep g hg).1 u.size, (h.sep g hg).2⟩, h.wide⟩
set_option maxHeartbeats 1000000 in
theorem rlock_code (hL : RLive w Y sh acc b s F rv wv) (ht : s.thn = 0) (hf : s.found = 0) (ha : s.at_ = 0) (he : s.snap % 2 = 0) :
    Calls Try.prog 122 #[.pointer (some ⟨b, 0, none⟩), .pointer (some ⟨Y.wb, 0, none⟩)] w (RStep w Y b F (lockS s sh).1 (lockS s sh).2.1 (lockS s sh).2.2) := by
  obtain ⟨sn, rd, wr, ph, th, ad, wo, fo, at_⟩ := s
  obtain ⟨row, clock⟩ := sh
  simp only at ht hf ha he
  subst ht hf ha
  have hsn := hL.wide.snap
  have hck := hL.sh.wide.clock
  simp only at hsn hck
  have la := hL.lt
  have lx := hL.sh.lt
  have hnr : w.heap.size ∉ b :: (F ++ Y.foot) := by
    simp only [List.mem_cons, List.mem_append, not_or]
    exact ⟨by omega, fun h => Nat.lt_irrefl _ (hL.sep _ h).1, fun h => Nat.lt_irrefl _ (lx _ h)⟩
  have hwb : b ≠ Y.wb := fun e => hL.out (by simp [RX.foot, e])
  have lb0 : b ≠ w.heap.size := by omega
  have lw0 : Y.wb ≠ w.heap.size := by have := lx Y.wb (by simp [RX.foot]); omega
  by_cases hc : clock = sn
  · subst hc
    have hl : lockS ⟨clock, rd, wr, ph, 0, ad, wo, 0, 0⟩ ⟨row, clock⟩ = (⟨1, 0, ⟨5, 0, 0, false⟩⟩, ⟨clock, rd, wr, 8, 0, ad, wo, 0, 0⟩, ⟨row, clock + 1⟩) := by unfold lockS; rw [if_pos rfl]
    rw [hl]
    clear hl
    have hcc : (clock != clock) = false := by simp
    have hwr : IntKind.u64.wrap (clock + 1) = clock + 1 := by rw [IntKind.wrap_u64]; omega
    refine calls_all fun K hK => ?_
    go_enter Try.func122, Try.ntmps122
    go_wp2_with fail
    obtain ⟨W, hW⟩ : ∃ W, W = w.alloc (.cells turn0.toArray 36) := ⟨_, rfl⟩
    have RB : Blk W w.heap.size turn0 36 := by rw [hW]; exact Blk.new w _ _
    have HU : Upd [] w W := by rw [hW]; exact (Upd.refl _ _).alloc _
    simp only [turn0, trnNone, evNone, Trn.cells] at hW
    rw [← hW]
    clear hW
    have hL1 := hL.upd0 HU.drew
    have a1 := hL1.sh.wld.cell 1 rfl
    have b0 := hL1.att.head.cell 0 rfl
    refine wp_region_eff (fun w' => w'.cell? ⟨Y.wb, 1, none⟩ = some (.int .u64 clock) ∧ w'.cell? ⟨b, 0, none⟩ = some (.int .u64 clock)) 10 (by kernel_rfl) (by kernel_rfl) ⟨a1, b0⟩ ?_
    repeat
      refine wpE_take (v := ?_) (by decide) rfl (by rfl) ?_ ?_
      rotate_left 1
      · ((intro w hSw; (try dsimp only at hSw); go_simp); try with_reducible rfl)
      try simp only [Act.put, List.setIfInBounds_toArray, List.set_cons_zero, List.set_cons_succ]
    refine wpE_end (NoPanic.normal ?_)
    clear b0
    replace RB := RB.drew
    have U : Upd (b :: (F ++ Y.foot)) w W.drew := HU.drew.mono (by simp)
    have fw := hL1.sh.wld.free 1
    have HL := ((((hL1.clock (clock + 1) (by omega)).setPhase 8).setThen 0).setFound 0 (by omega)).setAt 0
    have hB := hL1.att.head
    have b0 := (hB).cell 0 rfl
    have b1 := (hB).cell 1 rfl
    have b2 := (hB).cell 2 rfl
    have b3 := (hB).cell 3 rfl
    have b4 := (hB).cell 4 rfl
    have b5 := (hB).cell 5 rfl
    have b6 := (hB).cell 6 rfl
    have b7 := (hB).cell 7 rfl
    have b8 := (hB).cell 8 rfl
    have f0 := (hB).free 0
    have f1 := (hB).free 1
    have f2 := (hB).free 2
    have f3 := (hB).free 3
    have f4 := (hB).free 4
    have f5 := (hB).free 5
    have f6 := (hB).free 6
    have f7 := (hB).free 7
    have f8 := (hB).free 8
    have hbw := Ne.symm hwb
    clear hL1 hB
    replace RB := RB.other ⟨Y.wb, 1, none⟩ (.int .u64 (clock + 1)) (Ne.symm lw0)
    replace U := U.setCell (p := ⟨Y.wb, 1, none⟩) (.inl (by simp [RX.foot])) (.int .u64 (clock + 1))
    replace RB := RB.other ⟨b, 3, none⟩ (.int .i64 8) (Ne.symm lb0)
    replace U := U.setCell (p := ⟨b, 3, none⟩) (.inl (by simp)) (.int .i64 8)
    replace RB := RB.other ⟨b, 4, none⟩ (.int .i64 0) (Ne.symm lb0)
    replace U := U.setCell (p := ⟨b, 4, none⟩) (.inl (by simp)) (.int .i64 0)
    replace RB := RB.other ⟨b, 7, none⟩ (.int .u64 0) (Ne.symm lb0)
    replace U := U.setCell (p := ⟨b, 7, none⟩) (.inl (by simp)) (.int .u64 0)
    replace RB := RB.other ⟨b, 8, none⟩ (.int .i64 0) (Ne.symm lb0)
    replace U := U.setCell (p := ⟨b, 8, none⟩) (.inl (by simp)) (.int .i64 0)
    generalize W.drew = W1 at a1 fw b0 b1 b2 b3 b4 b5 b6 b7 b8 f0 f1 f2 f3 f4 f5 f6 f7 f8 RB U HL ⊢
    have q0 := (RB).cell 0 rfl
    have q1 := (RB).cell 1 rfl
    have q2 := (RB).cell 2 rfl
    have q3 := (RB).cell 3 rfl
    have q4 := (RB).cell 4 rfl
    have q5 := (RB).cell 5 rfl
    have q6 := (RB).cell 6 rfl
    have q7 := (RB).cell 7 rfl
    have g0 := (RB).free 0
    have g1 := (RB).free 1
    have g2 := (RB).free 2
    have g3 := (RB).free 3
    have g4 := (RB).free 4
    have g5 := (RB).free 5
    have g6 := (RB).free 6
    have g7 := (RB).free 7
    go_wp2_with fail
    exact bodyPost_ret (turn_results 4 rfl _ _ _ (⟨1, 0, ⟨5, 0, 0, false⟩⟩ : Trn) rfl (turn_set RB rfl (⟨1, 0, ⟨5, 0, 0, false⟩⟩ : Trn))) rfl (hK _ _ (rfin (Nat.le_refl _) HL U (fun g hg => .inl hg) hnr _ _ _ _ _ _ _ _))
  · have hl : lockS ⟨sn, rd, wr, ph, 0, ad, wo, 0, 0⟩ ⟨row, clock⟩ = (going, ⟨sn, rd, wr, 4, 7, ad, wo, 0, 0⟩, ⟨row, clock⟩) := by unfold lockS; rw [if_neg hc]
    rw [hl]
    clear hl
    have hcc : (clock != sn) = true := by simpa using hc
    refine calls_all fun K hK => ?_
    go_enter Try.func122, Try.ntmps122
    go_wp2_with fail
    obtain ⟨W, hW⟩ : ∃ W, W = w.alloc (.cells turn0.toArray 36) := ⟨_, rfl⟩
    have RB : Blk W w.heap.size turn0 36 := by rw [hW]; exact Blk.new w _ _
    have HU : Upd [] w W := by rw [hW]; exact (Upd.refl _ _).alloc _
    simp only [turn0, trnNone, evNone, Trn.cells] at hW
    rw [← hW]
    clear hW
    have hL1 := hL.upd0 HU.drew
    have a1 := hL1.sh.wld.cell 1 rfl
    have b0 := hL1.att.head.cell 0 rfl
    refine wp_region_eff (fun w' => w'.cell? ⟨Y.wb, 1, none⟩ = some (.int .u64 clock) ∧ w'.cell? ⟨b, 0, none⟩ = some (.int .u64 sn)) 10 (by kernel_rfl) (by kernel_rfl) ⟨a1, b0⟩ ?_
    repeat
      refine wpE_take (v := ?_) (by decide) rfl (by rfl) ?_ ?_
      rotate_left 1
      · ((intro w hSw; (try dsimp only at hSw); go_simp); try with_reducible rfl)
      try simp only [Act.put, List.setIfInBounds_toArray, List.set_cons_zero, List.set_cons_succ]
    refine wpE_end (NoPanic.normal ?_)
    clear b0
    replace RB := RB.drew
    have U : Upd (b :: (F ++ Y.foot)) w W.drew := HU.drew.mono (by simp)
    have HL := (hL1.setPhase 4).setThen 7
    have hB := hL1.att.head
    have b0 := (hB).cell 0 rfl
    have b1 := (hB).cell 1 rfl
    have b2 := (hB).cell 2 rfl
    have b3 := (hB).cell 3 rfl
    have b4 := (hB).cell 4 rfl
    have b5 := (hB).cell 5 rfl
    have b6 := (hB).cell 6 rfl
    have b7 := (hB).cell 7 rfl
    have b8 := (hB).cell 8 rfl
    have f0 := (hB).free 0
    have f1 := (hB).free 1
    have f2 := (hB).free 2
    have f3 := (hB).free 3
    have f4 := (hB).free 4
    have f5 := (hB).free 5
    have f6 := (hB).free 6
    have f7 := (hB).free 7
    have f8 := (hB).free 8
    clear hL1 hB
    replace RB := RB.other ⟨b, 3, none⟩ (.int .i64 4) (Ne.symm lb0)
    replace U := U.setCell (p := ⟨b, 3, none⟩) (.inl (by simp)) (.int .i64 4)
    replace RB := RB.other ⟨b, 4, none⟩ (.int .i64 7) (Ne.symm lb0)
    replace U := U.setCell (p := ⟨b, 4, none⟩) (.inl (by simp)) (.int .i64 7)
    generalize W.drew = W1 at a1 b0 b1 b2 b3 b4 b5 b6 b7 b8 f0 f1 f2 f3 f4 f5 f6 f7 f8 RB U HL ⊢
    go_wp2_with fail
    clear b0 b1 b2 b3 b4 b5 b6 b7 b8 f0 f1 f2 f3 f4 f5 f6 f7 f8
    refine (rgoing_code _).mono ?_
    rintro e w2 ⟨rfl, u2⟩
    simp only [Trn.val, going, evNone]
    have HL2 := (HL).upd0 u2
    have RB2 := (RB).upd u2 (by simp)
    have U2 := (U).trans (u2.mono (by simp))
    have q0 := (RB2).cell 0 rfl
    have q1 := (RB2).cell 1 rfl
    have q2 := (RB2).cell 2 rfl
    have q3 := (RB2).cell 3 rfl
    have q4 := (RB2).cell 4 rfl
    have q5 := (RB2).cell 5 rfl
    have q6 := (RB2).cell 6 rfl
    have q7 := (RB2).cell 7 rfl
    have g0 := (RB2).free 0
    have g1 := (RB2).free 1
    have g2 := (RB2).free 2
    have g3 := (RB2).free 3
    have g4 := (RB2).free 4
    have g5 := (RB2).free 5
    have g6 := (RB2).free 6
    have g7 := (RB2).free 7
    go_wp2_with fail
    exact bodyPost_ret (turn_results 4 rfl _ _ _ going rfl (turn_set RB2 rfl going)) rfl (hK _ _ (rfin (Nat.le_refl _) HL2 U2 (fun g hg => .inl hg) hnr _ _ _ _ _ _ _ _))
end
end Go.Proofs.Ythfeljongackcaa
