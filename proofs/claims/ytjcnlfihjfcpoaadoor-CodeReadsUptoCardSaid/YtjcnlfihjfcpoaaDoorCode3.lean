/- Is an instruction formed: the code and the reference. No condition. -/
import Derived.Test.YtjcnlfihjfcpoaaDoorCode2
set_option linter.unusedSimpArgs false
set_option linter.unusedVariables false
set_option maxRecDepth 100000
namespace Go.Proofs.YtjcnlfihjfcpoaaDoor
open Go.RowKit

structure Ins where
  op : Int
  a : Int
  b : Int
  c : Int
  n : Int

def Ins.cells (i : Ins) : List Value := [.int .i64 i.op, .int .i64 i.a, .int .i64 i.b, .int .i64 i.c, .int .u64 i.n]
def Ins.val (i : Ins) : Value := .agg #[.int .i64 i.op, .int .i64 i.a, .int .i64 i.b, .int .i64 i.c, .int .u64 i.n]
def Ins.reg (i : Ins) (k : Nat) : Int := [i.a, i.b, i.c].getD k 0

def okReg (R : Nat) (reg : Nat → Int) (k : Nat) : Bool := if k < R then decide (0 ≤ reg k ∧ reg k < 8) else decide (reg k = 0)

theorem okReg_neg {R k : Nat} {reg : Nat → Int} (h : reg k < 0) : okReg R reg k = false := by
  unfold okReg
  split
  · exact decide_eq_false (by omega)
  · exact decide_eq_false (by omega)
theorem okReg_big {R k : Nat} {reg : Nat → Int} (h : 8 ≤ reg k) : okReg R reg k = false := by
  unfold okReg
  split
  · exact decide_eq_false (by omega)
  · exact decide_eq_false (by omega)
theorem okReg_more {R k : Nat} {reg : Nat → Int} (h : ¬ k < R) (h0 : reg k ≠ 0) : okReg R reg k = false := by
  unfold okReg
  rw [if_neg h]
  exact decide_eq_false h0
theorem okReg_in {R k : Nat} {reg : Nat → Int} (h : k < R) (h0 : 0 ≤ reg k) (h8 : reg k < 8) : okReg R reg k = true := by
  unfold okReg
  rw [if_pos h]
  exact decide_eq_true ⟨h0, h8⟩
theorem okReg_zero {R k : Nat} {reg : Nat → Int} (h : ¬ k < R) (h0 : reg k = 0) : okReg R reg k = true := by
  unfold okReg
  rw [if_neg h]
  exact decide_eq_true h0

def formedF (R : Nat) (reg : Nat → Int) (x : Bool) : Bool := okReg R reg 0 && okReg R reg 1 && okReg R reg 2 && x
def formed (i : Ins) : Bool := formedF (formI i.op).regs i.reg (isOp i.op && ((formI i.op).num || decide (i.n = 0)))

theorem formedF_no {R k : Nat} {reg : Nat → Int} {x : Bool} (h : okReg R reg k = false) (hk : k < 3) : formedF R reg x = false := by
  have : k = 0 ∨ k = 1 ∨ k = 2 := by omega
  unfold formedF
  rcases this with rfl | rfl | rfl <;> simp [h]
theorem formedF_yes {R : Nat} {reg : Nat → Int} {x : Bool} (h : ∀ j, j < 3 → okReg R reg j = true) : formedF R reg x = x := by
  unfold formedF
  simp [h 0 (by omega), h 1 (by omega), h 2 (by omega)]

theorem regs (i : Ins) (w : World) : Calls Tryd.prog 33 #[i.val] w fun e w' => ∃ g, e = .returned (.slice (some ⟨g, 0, none⟩) 3 3) ∧ w.heap.size ≤ g ∧ Blk w' g [.int .i64 i.a, .int .i64 i.b, .int .i64 i.c] 3 ∧ Upd [] w w' := by
  obtain ⟨op, a, b, c, n⟩ := i
  simp only [Ins.val]
  refine calls_all fun K hK => ?_
  go_enter Tryd.func33, Tryd.ntmps33
  go_wp2
  exact ⟨w.heap.size + 1, rfl, by omega, by simpa using Blk.new (w.alloc (.cells #[.int .i64 op, .int .i64 a, .int .i64 b, .int .i64 c, .int .u64 n] 38)) [.int .i64 a, .int .i64 b, .int .i64 c] 3, ((Upd.refl _ _).alloc _).alloc _⟩

theorem reg_cell (i : Ins) (k : Nat) (hk : k < 3) : [Value.int .i64 i.a, .int .i64 i.b, .int .i64 i.c][k]? = some (.int .i64 (i.reg k)) := by
  have : k = 0 ∨ k = 1 ∨ k = 2 := by omega
  rcases this with rfl | rfl | rfl <;> rfl

def Form.cells (f : Form) : List Value := [.int .i64 (f.regs : Int), .bool f.num, .bool f.target, .bool f.out, .bool f.ins]

set_option maxHeartbeats 8000000 in
theorem formed_code (i : Ins) (w : World) : Calls Tryd.prog 19 #[i.val] w fun e w' => e = .returned (.bool (formed i)) ∧ Upd [] w w' := by
  obtain ⟨f, hf⟩ : ∃ f, formI i.op = f := ⟨_, rfl⟩
  obtain ⟨ok, hok⟩ : ∃ ok, isOp i.op = ok := ⟨_, rfl⟩
  have HI : ∀ w, Calls Tryd.prog 10 #[.int .i64 i.op] w fun e w' => e = .returned (.tuple #[f.val, .bool ok]) ∧ Upd [] w w' := fun w => by rw [← hf, ← hok]; exact info i.op w
  have HR := fun w => regs i w
  have hform : formed i = formedF f.regs i.reg (ok && (f.num || decide (i.n = 0))) := by
    unfold formed; rw [hf, hok]
  have hrc := reg_cell i
  have HF := Lib.hid hform
  clear hf hok hform
  obtain ⟨op, a, b, c, n⟩ := i
  simp only [Ins.val] at HR HI ⊢
  obtain ⟨R, nm, tg, ou, is⟩ := f
  simp only [Form.val] at HI
  obtain ⟨reg, hreg⟩ : ∃ reg, Ins.reg ⟨op, a, b, c, n⟩ = reg := ⟨_, rfl⟩
  rw [hreg] at hrc HF
  clear hreg
  obtain ⟨F, hFF⟩ : ∃ F, formed ⟨op, a, b, c, n⟩ = F := ⟨_, rfl⟩
  rw [hFF] at HF ⊢
  clear hFF
  refine calls_all fun K hK => ?_
  go_enter Tryd.func19, Tryd.ntmps19
  go_wp2_with fail
  refine (HI _).mono ?_
  rintro e w1 ⟨rfl, u1⟩
  have u0 : Upd [] w w1 := ((Upd.refl _ _).alloc _).trans u1
  have hb : Blk w1 w.heap.size [.int .i64 op, .int .i64 a, .int .i64 b, .int .i64 c, .int .u64 n] 38 := (Blk.new w _ _).upd u1 (by simp)
  clear u1
  have hbA := hb.alloc (.cells #[.int .i64 (R : Int), .bool nm, .bool tg, .bool ou, .bool is] 24)
  have d0 := hbA.cell 0 rfl
  have d1 := hbA.cell 1 rfl
  have d2 := hbA.cell 2 rfl
  have d3 := hbA.cell 3 rfl
  have d4 := hbA.cell 4 rfl
  clear hbA
  have HB := Lib.hid hb
  have U0 := Lib.hid u0
  clear hb u0
  go_wp2_with fail
  refine (HR _).mono ?_
  rintro e w2 ⟨g, rfl, hg, hg2, u2⟩
  have hf2 : Blk w2 w1.heap.size [.int .i64 (R : Int), .bool nm, .bool tg, .bool ou, .bool is] 24 := (Blk.new w1 _ _).upd u2 (by simp)
  have hb2 := (HB.out.alloc (.cells #[.int .i64 (R : Int), .bool nm, .bool tg, .bool ou, .bool is] 24)).upd u2 (by simp)
  have U2 := Lib.hid ((U0.out.alloc (.cells #[.int .i64 (R : Int), .bool nm, .bool tg, .bool ou, .bool is] 24)).trans u2)
  have f0 := hf2.cell 0 rfl
  have f1 := hf2.cell 1 rfl
  have b4 := hb2.cell 4 rfl
  clear d0 d1 d2 d3 d4 u2 HB U0 hf2 hb2
  go_wp2
  go_loop [16] (fun v16 => ∃ k : Nat, k ≤ 3 ∧ v16 = .int .i64 k ∧ ∀ j, j < k → okReg R reg j = true) (fun v16 => 3 - (intOf v16).toNat)
  case atStart => exact ⟨0, by omega, rfl, by omega⟩
  case round =>
    obtain ⟨k, hk, rfl, hall⟩ := hrel
    have HA := Lib.hid hall
    clear hall
    by_cases hlt : k < 3
    · have hc := hg2.cell k (hrc k hlt)
      have hkl : (k : Int) < 3 := by omega
      have HN : Hid (okReg R reg k = false → F = false) := Lib.hid fun h => HF.out.trans (formedF_no h hlt)
      obtain ⟨r, hr⟩ : ∃ r, reg k = r := ⟨_, rfl⟩
      rw [hr] at hc
      have HK := Lib.hid hr
      clear hr hrc
      by_cases hkR : k < R
      · by_cases h0 : r < 0
        · have e0 := HN.out (okReg_neg (by rw [HK.out]; exact h0))
          subst e0
          clear HN HF
          go_wp2
          all_goals first | exact U2.out | exact ⟨rfl, U2.out⟩
        · by_cases h8 : 8 ≤ r
          · have e0 := HN.out (okReg_big (by rw [HK.out]; exact h8))
            subst e0
            clear HN HF
            go_wp2
            all_goals first | exact U2.out | exact ⟨rfl, U2.out⟩
          · have HY := Lib.hid (okReg_in hkR (show 0 ≤ reg k by rw [HK.out]; omega) (show reg k < 8 by rw [HK.out]; omega))
            have hnk : decide (R ≤ k) = false := decide_eq_false (by omega)
            clear HN
            go_wp2
            go_round
            case rel => exact ⟨k + 1, by omega, by go_num, fun j hj => by rcases Nat.lt_succ_iff_lt_or_eq.1 hj with h | rfl; exact HA.out j h; exact HY.out⟩
            case measure => simp [intOf]; omega
      · have hRk : R ≤ k := by omega
        by_cases hz : r = 0
        · have HY := Lib.hid (okReg_zero hkR (show reg k = 0 by rw [HK.out]; exact hz))
          subst hz
          clear HN
          go_wp2
          go_round
          case rel => exact ⟨k + 1, by omega, by go_num, fun j hj => by rcases Nat.lt_succ_iff_lt_or_eq.1 hj with h | rfl; exact HA.out j h; exact HY.out⟩
          case measure => simp [intOf]; omega
        · have e0 := HN.out (okReg_more hkR (by rw [HK.out]; exact hz))
          subst e0
          have hzz : (r != 0) = true := by simpa using hz
          clear HN HF
          go_wp2
          all_goals first | exact U2.out | exact ⟨rfl, U2.out⟩
    · obtain rfl : k = 3 := by omega
      have eF := HF.out.trans (formedF_yes HA.out)
      have HE := Lib.hid eF
      clear eF HF
      by_cases hn : n = 0
      · subst hn
        cases ok <;> cases nm
        all_goals
          go_wp2
          all_goals first | exact ⟨by rw [HE.out]; rfl, U2.out⟩ | (rw [HE.out]; exact ⟨rfl, U2.out⟩) | (rw [HE.out]; exact U2.out)
      · have hnn : (n == 0) = false := beq_eq_false_iff_ne.2 hn
        have hdn : decide (n = 0) = false := decide_eq_false hn
        cases ok <;> cases nm
        all_goals
          go_wp2
          all_goals first | exact ⟨by rw [HE.out, hdn]; rfl, U2.out⟩ | (rw [HE.out]; exact ⟨rfl, U2.out⟩) | (rw [HE.out]; exact U2.out)
end Go.Proofs.YtjcnlfihjfcpoaaDoor
