/- The contracts of the document's clock (parleyref06), function by function, wherever it lies in a block. No condition. -/
import Derived.Test.YthjiiedpplimpaaSeq
set_option linter.unusedSimpArgs false
set_option linter.unusedVariables false
set_option maxRecDepth 100000
namespace Go.Proofs.Ythjiiedpplimpaa
open Go.RowKit

/-- the two cells of a clock of the document's, from place o of block b on -/
structure QAt (w : World) (b o : Nat) (vs : List Value) (t : TypeId) (word st : Int) : Prop where
  blk : Blk w b vs t
  c0 : vs[o]? = some (.int .u64 word)
  c1 : vs[o + 1]? = some (.int .i64 st)

/-- the block's cells behind a step -/
def qset (vs : List Value) (o : Nat) (word st : Int) : List Value := (vs.set o (.int .u64 word)).set (o + 1) (.int .i64 st)

theorem QAt.lt1 {w : World} {b o : Nat} {vs : List Value} {t : TypeId} {word st : Int} (h : QAt w b o vs t word st) : o + 1 < vs.length := by
  have := h.c1
  by_cases hl : o + 1 < vs.length
  · exact hl
  · rw [List.getElem?_eq_none (by omega)] at this; cases this

theorem QAt.same0 {w : World} {b o : Nat} {vs : List Value} {t : TypeId} {word st : Int} (h : QAt w b o vs t word st) : vs.set o (.int .u64 word) = vs := by
  have hl := h.lt1
  have := h.c0
  rw [List.getElem?_eq_getElem (by omega)] at this
  simp at this
  rw [← this, List.set_getElem_self]

theorem QAt.stepped {w : World} {b o : Nat} {vs : List Value} {t : TypeId} {word st : Int} (h : QAt w b o vs t word st) (st' : Int) :
    Blk (w.setCell ⟨b, o + 1, none⟩ (.int .i64 st')) b (qset vs o word st') t := by
  have := h.blk.set (o + 1) (.int .i64 st')
  rwa [qset, h.same0]

theorem QAt.both {w : World} {b o : Nat} {vs : List Value} {t : TypeId} {word st : Int} (h : QAt w b o vs t word st) (st' word' : Int) :
    Blk ((w.setCell ⟨b, o + 1, none⟩ (.int .i64 st')).setCell ⟨b, o, none⟩ (.int .u64 word')) b (qset vs o word' st') t := by
  have := (h.blk.set (o + 1) (.int .i64 st')).set o (.int .u64 word')
  rwa [qset, List.set_comm _ _ (by omega)]

theorem upd1 {w : World} {b : Nat} (o : Nat) (v : Value) : Upd [b] w (w.setCell ⟨b, o, none⟩ v) := (Upd.refl _ _).setCell (.inl (by simp)) _

theorem qLoad_any {w : World} {b o : Nat} {vs : List Value} {t : TypeId} {word st : Int} (h : QAt w b o vs t word st) :
    Calls Try.prog 63 #[.pointer (some ⟨b, o, none⟩)] w fun e w' => e = .returned (.int .u64 word) ∧ Blk w' b (qset vs o word (wrap64 (st + 1))) t ∧ Upd [b] w w' := by
  have h0 := h.blk.cell o h.c0
  have h1 := h.blk.cell (o + 1) h.c1
  have f1 := h.blk.free (o + 1)
  have k := h.stepped (wrap64 (st + 1))
  have u := upd1 (w := w) (b := b) (o + 1) (.int .i64 (wrap64 (st + 1)))
  clear h
  refine calls_all fun K hK => ?_
  go_enter Try.func63, Try.ntmps63
  go_wp2
  exact ⟨rfl, k, u⟩

/-- does the document's clock let it be taken? -/
def qtakes (word s : Int) : Bool := (s % 2 == 0) && (word == s)
def qholds (word s : Int) : Bool := (s % 2 == 0) && (word == up64 s)

theorem qTake_any {w : World} {b o : Nat} {vs : List Value} {t : TypeId} {word st : Int} (h : QAt w b o vs t word st) (s : Int) (hs : 0 ≤ s) :
    Calls Try.prog 64 #[.pointer (some ⟨b, o, none⟩), .int .u64 s] w fun e w' => e = .returned (.bool (qtakes word s)) ∧ Blk w' b (qset vs o (heldWord (qtakes word s) (up64 s) word) (wrap64 (st + 1))) t ∧ Upd [b] w w' := by
  have h0 := h.blk.cell o h.c0
  have h1 := h.blk.cell (o + 1) h.c1
  have f1 := h.blk.free (o + 1)
  have f0 := h.blk.free o
  have k := h.stepped (wrap64 (st + 1))
  have k2 := h.both (wrap64 (st + 1)) (up64 s)
  have u := upd1 (w := w) (b := b) (o + 1) (.int .i64 (wrap64 (st + 1)))
  have u2 := u.setCell (p := ⟨b, o, none⟩) (.inl (by simp)) (.int .u64 (up64 s))
  clear h
  by_cases he : s % 2 = 0
  · by_cases hw : word = s
    · subst hw
      rw [show qtakes word word = true by simp [qtakes, he]]
      have hb : (word % 2 == 0) = true := by simp [he]
      have hn : (word != word) = false := by simp
      refine calls_all fun K hK => ?_
      go_enter Try.func64, Try.ntmps64
      go_wp2
      exact ⟨rfl, k2, u2⟩
    · rw [show qtakes word s = false by simp [qtakes, hw]]
      have hb : (s % 2 == 0) = true := by simp [he]
      have hn : (word != s) = true := by simp [hw]
      refine calls_all fun K hK => ?_
      go_enter Try.func64, Try.ntmps64
      go_wp2
      exact ⟨rfl, k, u⟩
  · rw [show qtakes word s = false by simp [qtakes, he]]
    have hb : (s % 2 == 0) = false := by simp [he]
    refine calls_all fun K hK => ?_
    go_enter Try.func64, Try.ntmps64
    go_wp2
    exact ⟨rfl, k, u⟩

theorem qheld_any {w : World} {b o : Nat} {vs : List Value} {t : TypeId} {word : Int} (hb : Blk w b vs t) (h0 : vs[o]? = some (.int .u64 word)) (s : Int) (hs : 0 ≤ s) :
    Calls Try.prog 83 #[.pointer (some ⟨b, o, none⟩), .int .u64 s] w fun e w' => e = .returned (.bool (qholds word s)) ∧ w = w' := by
  have h0 := hb.cell o h0
  clear hb
  by_cases he : s % 2 = 0
  · have hb : (s % 2 == 0) = true := by simp [he]
    have hq : qholds word s = (word == up64 s) := by simp [qholds, he]
    rw [hq]
    clear hq he
    refine calls_all fun K hK => ?_
    go_enter Try.func83, Try.ntmps83
    go_wp2
    all_goals first | exact ⟨rfl, rfl⟩ | rfl
  · have hb : (s % 2 == 0) = false := by simp [he]
    rw [show qholds word s = false by simp [qholds, he]]
    refine calls_all fun K hK => ?_
    go_enter Try.func83, Try.ntmps83
    go_wp2
    all_goals first | exact ⟨rfl, rfl⟩ | rfl

theorem qLeave_any {w : World} {b o : Nat} {vs : List Value} {t : TypeId} {word st : Int} (h : QAt w b o vs t word st) (s : Int) (hs : 0 ≤ s) :
    Calls Try.prog 65 #[.pointer (some ⟨b, o, none⟩), .int .u64 s] w fun e w' => e = .returned (.int .i64 (heldRes (qholds word s))) ∧ Blk w' b (qset vs o (heldWord (qholds word s) (up64b s) word) (wrap64 (st + 1))) t ∧ Upd [b] w w' := by
  have h1 := h.blk.cell (o + 1) h.c1
  have f1 := h.blk.free (o + 1)
  have f0 := h.blk.free o
  have k := h.stepped (wrap64 (st + 1))
  have k2 := h.both (wrap64 (st + 1)) (up64b s)
  have u := upd1 (w := w) (b := b) (o + 1) (.int .i64 (wrap64 (st + 1)))
  have u2 := u.setCell (p := ⟨b, o, none⟩) (.inl (by simp)) (.int .u64 (up64b s))
  have hl := h.lt1
  have H0 := Lib.hid (show (qset vs o word (wrap64 (st + 1)))[o]? = some (.int .u64 word) by
    simp only [qset]; rw [List.getElem?_set_ne (by omega), List.getElem?_set_self (by omega)])
  have c0 := k.cell o H0.out
  have HH := Lib.hid (qheld_any k H0.out s hs)
  clear H0 h
  cases hq : qholds word s
  · rw [hq] at HH
    show Calls _ _ _ _ fun e w' => e = .returned (.int .i64 160) ∧ Blk w' b (qset vs o word (wrap64 (st + 1))) t ∧ Upd [b] w w'
    clear hq
    refine calls_all fun K hK => ?_
    go_enter Try.func65, Try.ntmps65
    go_wp2_with fail
    refine (HH.out).mono ?_
    rintro e w' ⟨rfl, rfl⟩
    go_wp2
    exact ⟨rfl, k, u⟩
  · rw [hq] at HH
    show Calls _ _ _ _ fun e w' => e = .returned (.int .i64 0) ∧ Blk w' b (qset vs o (up64b s) (wrap64 (st + 1))) t ∧ Upd [b] w w'
    clear hq
    refine calls_all fun K hK => ?_
    go_enter Try.func65, Try.ntmps65
    go_wp2_with fail
    refine (HH.out).mono ?_
    rintro e w' ⟨rfl, rfl⟩
    go_wp2
    exact ⟨rfl, k2, u2⟩

theorem qBack_any {w : World} {b o : Nat} {vs : List Value} {t : TypeId} {word st : Int} (h : QAt w b o vs t word st) (s : Int) (hs : 0 ≤ s) :
    Calls Try.prog 66 #[.pointer (some ⟨b, o, none⟩), .int .u64 s] w fun e w' => e = .returned (.int .i64 (heldRes (qholds word s))) ∧ Blk w' b (qset vs o (heldWord (qholds word s) (s) word) (wrap64 (st + 1))) t ∧ Upd [b] w w' := by
  have h1 := h.blk.cell (o + 1) h.c1
  have f1 := h.blk.free (o + 1)
  have f0 := h.blk.free o
  have k := h.stepped (wrap64 (st + 1))
  have k2 := h.both (wrap64 (st + 1)) (s)
  have u := upd1 (w := w) (b := b) (o + 1) (.int .i64 (wrap64 (st + 1)))
  have u2 := u.setCell (p := ⟨b, o, none⟩) (.inl (by simp)) (.int .u64 (s))
  have hl := h.lt1
  have H0 := Lib.hid (show (qset vs o word (wrap64 (st + 1)))[o]? = some (.int .u64 word) by
    simp only [qset]; rw [List.getElem?_set_ne (by omega), List.getElem?_set_self (by omega)])
  have c0 := k.cell o H0.out
  have HH := Lib.hid (qheld_any k H0.out s hs)
  clear H0 h
  cases hq : qholds word s
  · rw [hq] at HH
    show Calls _ _ _ _ fun e w' => e = .returned (.int .i64 160) ∧ Blk w' b (qset vs o word (wrap64 (st + 1))) t ∧ Upd [b] w w'
    clear hq
    refine calls_all fun K hK => ?_
    go_enter Try.func66, Try.ntmps66
    go_wp2_with fail
    refine (HH.out).mono ?_
    rintro e w' ⟨rfl, rfl⟩
    go_wp2
    exact ⟨rfl, k, u⟩
  · rw [hq] at HH
    show Calls _ _ _ _ fun e w' => e = .returned (.int .i64 0) ∧ Blk w' b (qset vs o (s) (wrap64 (st + 1))) t ∧ Upd [b] w w'
    clear hq
    refine calls_all fun K hK => ?_
    go_enter Try.func66, Try.ntmps66
    go_wp2_with fail
    refine (HH.out).mono ?_
    rintro e w' ⟨rfl, rfl⟩
    go_wp2
    exact ⟨rfl, k2, u2⟩

end Go.Proofs.Ythjiiedpplimpaa
