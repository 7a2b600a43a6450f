/- What an operation is made of, and its name: the code and the reference. No condition but that the table of names is laid. -/
import Derived.Test.YtjcnlfihjfcpoaaDoorBase
import Derived.Handy
set_option linter.unusedSimpArgs false
set_option linter.unusedVariables false
set_option maxRecDepth 100000
namespace Go.Proofs.YtjcnlfihjfcpoaaDoor
open Go.RowKit

structure Form where
  regs : Nat
  num : Bool
  target : Bool
  out : Bool
  ins : Bool

def Form.val (f : Form) : Value := .agg #[.int .i64 (f.regs : Int), .bool f.num, .bool f.target, .bool f.out, .bool f.ins]

def formN : Nat → Form
  | 1 => ⟨1, true, false, true, true⟩
  | 2 => ⟨2, false, false, true, true⟩
  | 3 | 4 | 5 | 6 | 7 => ⟨3, false, false, true, true⟩
  | 8 => ⟨0, true, true, true, true⟩
  | 9 => ⟨1, true, true, true, true⟩
  | 10 | 11 => ⟨2, false, false, true, false⟩
  | 12 | 17 => ⟨0, false, false, true, false⟩
  | 13 | 14 => ⟨2, false, false, false, true⟩
  | 15 => ⟨0, false, false, false, true⟩
  | 16 => ⟨0, true, true, false, true⟩
  | _ => ⟨0, false, false, false, false⟩

def isOp (op : Int) : Bool := decide (1 ≤ op ∧ op ≤ 17)

def formI (op : Int) : Form := if 1 ≤ op ∧ op ≤ 17 then formN op.toNat else ⟨0, false, false, false, false⟩

set_option maxHeartbeats 20000000 in
theorem info (op : Int) (w : World) : Calls Tryd.prog 10 #[.int .i64 op] w fun e w' => e = .returned (.tuple #[(formI op).val, .bool (isOp op)]) ∧ Upd [] w w' := by
  by_cases h : 1 ≤ op ∧ op ≤ 17
  · have hc : op = 1 ∨ op = 2 ∨ op = 3 ∨ op = 4 ∨ op = 5 ∨ op = 6 ∨ op = 7 ∨ op = 8 ∨ op = 9 ∨ op = 10 ∨ op = 11 ∨ op = 12 ∨ op = 13 ∨ op = 14 ∨ op = 15 ∨ op = 16 ∨ op = 17 := by omega
    clear h
    rcases hc with rfl | rfl | rfl | rfl | rfl | rfl | rfl | rfl | rfl | rfl | rfl | rfl | rfl | rfl | rfl | rfl | rfl
    all_goals
      refine calls_all fun K hK => ?_
      go_enter Tryd.func10, Tryd.ntmps10
      go_wp2
      go_returns
      exact hK _ _ ⟨rfl, ((Upd.refl _ _).alloc _).alloc _⟩
  · have e1 : (op == 1) = false := beq_eq_false_iff_ne.2 (by omega)
    have e2 : (op == 2) = false := beq_eq_false_iff_ne.2 (by omega)
    have e3 : (op == 3) = false := beq_eq_false_iff_ne.2 (by omega)
    have e4 : (op == 4) = false := beq_eq_false_iff_ne.2 (by omega)
    have e5 : (op == 5) = false := beq_eq_false_iff_ne.2 (by omega)
    have e6 : (op == 6) = false := beq_eq_false_iff_ne.2 (by omega)
    have e7 : (op == 7) = false := beq_eq_false_iff_ne.2 (by omega)
    have e8 : (op == 8) = false := beq_eq_false_iff_ne.2 (by omega)
    have e9 : (op == 9) = false := beq_eq_false_iff_ne.2 (by omega)
    have e10 : (op == 10) = false := beq_eq_false_iff_ne.2 (by omega)
    have e11 : (op == 11) = false := beq_eq_false_iff_ne.2 (by omega)
    have e12 : (op == 12) = false := beq_eq_false_iff_ne.2 (by omega)
    have e13 : (op == 13) = false := beq_eq_false_iff_ne.2 (by omega)
    have e14 : (op == 14) = false := beq_eq_false_iff_ne.2 (by omega)
    have e15 : (op == 15) = false := beq_eq_false_iff_ne.2 (by omega)
    have e16 : (op == 16) = false := beq_eq_false_iff_ne.2 (by omega)
    have e17 : (op == 17) = false := beq_eq_false_iff_ne.2 (by omega)
    have ef : formI op = ⟨0, false, false, false, false⟩ := if_neg h
    have ei : isOp op = false := decide_eq_false h
    rw [ef, ei]
    clear h ef ei
    refine calls_all fun K hK => ?_
    go_enter Tryd.func10, Tryd.ntmps10
    go_wp2
    go_returns
    exact hK _ _ ⟨rfl, ((Upd.refl _ _).alloc _).alloc _⟩

end Go.Proofs.YtjcnlfihjfcpoaaDoor
