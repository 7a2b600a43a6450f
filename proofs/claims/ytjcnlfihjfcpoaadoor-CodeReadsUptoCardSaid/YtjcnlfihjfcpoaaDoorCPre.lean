/- What the code's walks ask of the world: the tables and the library's variables are laid. And the meaning of a line, in plain lists. -/
import Derived.Test.YtjcnlfihjfcpoaaDoorCNum
import Derived.Test.YtjcnlfihjfcpoaaDoorCText
import Derived.Test.YtjcnlfihjfcpoaaDoorCNamed
import Derived.Test.YtjcnlfihjfcpoaaDoorSpL
set_option linter.unusedSimpArgs false
set_option linter.unusedVariables false
set_option maxRecDepth 100000
namespace Go.Proofs.YtjcnlfihjfcpoaaDoor
open Go.RowKit

/-- the table of names, the library's table and errors, and its threshold are laid -/
structure Pre (w : World) : Prop where
  names : NamesAt w
  tab : Tab w
  errs : Errs w
  max : ∃ m, w.cell? ⟨2, 0, none⟩ = some (.int .i64 m)

theorem Pre.upd {w w' : World} (h : Pre w) (u : Upd [] w w') : Pre w' :=
  ⟨h.names.upd u (by simp), h.tab.upd u, h.errs.upd u, by obtain ⟨m, hm⟩ := h.max; exact ⟨m, cell_upd hm u (by simp)⟩⟩

def zeroIns : Ins := ⟨0, 0, 0, 0, 0⟩
def insO : Option Ins → Ins
  | some i => i
  | none => zeroIns
def errO : Option Ins → Int
  | some _ => 0
  | none => 180

def regOk (p : List UInt8) : Bool := (numL p).2 && decide ((numL p).1 < 8)
def rg (P : List (List UInt8)) (R k : Nat) : Nat := if k < R then (numL (P.getD (1 + k) [])).1 else 0
def regsOk (P : List (List UInt8)) (R : Nat) : Bool := (List.range R).all fun k => regOk (P.getD (1 + k) [])
def lastN (P : List (List UInt8)) : Nat × Bool := numL (P.getD (P.length - 1) [])
def parseF (P : List (List UInt8)) (op : Nat) (ok : Bool) (R : Nat) (num : Bool) : Option Ins :=
  if ok && decide (P.length = 1 + R + (if num then 1 else 0)) && regsOk P R && (!num || (lastN P).2) then
    some ⟨op, rg P R 0, rg P R 1, rg P R 2, if num then (lastN P).1 else 0⟩
  else none
/-- the instruction whose text a line is -/
def parseL (l : List UInt8) : Option Ins := parseF (sp l) (namedL ((sp l).getD 0 [])).1 (namedL ((sp l).getD 0 [])).2 (formI (namedL ((sp l).getD 0 [])).1).regs (formI (namedL ((sp l).getD 0 [])).1).num

section
variable {P : List (List UInt8)} {op : Nat} {ok : Bool} {R : Nat} {num : Bool}
theorem parseF_ok (h : ok = false) : parseF P op ok R num = none := by simp [parseF, h]
theorem parseF_len (h : P.length ≠ 1 + R + (if num then 1 else 0)) : parseF P op ok R num = none := by simp [parseF, h]
theorem parseF_reg {k : Nat} (hk : k < R) (h : regOk (P.getD (1 + k) []) = false) : parseF P op ok R num = none := by
  have : regsOk P R = false := by
    unfold regsOk
    rw [List.all_eq_false]
    exact ⟨k, List.mem_range.2 hk, by rw [h]; decide⟩
  simp [parseF, this]
theorem parseF_num (hn : num = true) (h : (lastN P).2 = false) : parseF P op ok R num = none := by simp [parseF, h, hn]
theorem parseF_yes (h : ok = true) (hl : P.length = 1 + R + (if num then 1 else 0)) (hr : ∀ k, k < R → regOk (P.getD (1 + k) []) = true) (hn : num = true → (lastN P).2 = true) :
    parseF P op ok R num = some ⟨op, rg P R 0, rg P R 1, rg P R 2, if num then (lastN P).1 else 0⟩ := by
  have h1 : regsOk P R = true := by
    unfold regsOk
    rw [List.all_eq_true]
    intro k hk
    exact hr k (List.mem_range.1 hk)
  have h2 : (!num || (lastN P).2) = true := by
    cases num with
    | false => rfl
    | true => simp [hn rfl]
  simp [parseF, h, hl, h1, h2]
end

theorem mem_cons1 {c : UInt8} {L : List (List UInt8)} {p : List UInt8} (h : p ∈ cons1 c L) : ∃ q, p.length ≤ q.length + 1 ∧ (q = [] ∨ q ∈ L) := by
  cases L with
  | nil => simp [cons1] at h; subst h; exact ⟨[], by simp, .inl rfl⟩
  | cons a r =>
    simp only [cons1, List.mem_cons] at h
    rcases h with rfl | h
    · exact ⟨a, by simp, .inr (by simp)⟩
    · exact ⟨p, by omega, .inr (by simp [h])⟩
theorem sp_piece : ∀ (l : List UInt8) (p : List UInt8), p ∈ sp l → p.length ≤ l.length
  | [], p, h => by simp [sp] at h; subst h; simp
  | c :: l, p, h => by
    unfold sp at h
    split at h
    · rcases List.mem_cons.1 h with rfl | h
      · simp
      · have := sp_piece l p h
        simp; omega
    · obtain ⟨q, hq, h'⟩ := mem_cons1 h
      rcases h' with rfl | h'
      · simp at hq ⊢; omega
      · have := sp_piece l q h'
        simp; omega

theorem numL_lt (l : List UInt8) : (numL l).1 < 18446744073709551616 := by
  unfold numL
  split
  · rcases h : Lib.parseUintB 64 l with u | _ | _
    · unfold numEnd
      unfold Lib.parseUintB at h
      split at h
      · cases h
      · have := Lib.parseUintM_le _ l 0 u (by omega) h
        simp only
        omega
    · simp [numEnd]
    · simp [numEnd]
  · simp
end Go.Proofs.YtjcnlfihjfcpoaaDoor
