/- CellsPlays' parts: rows that are made or not, said once for both; a row's copy or none. The conditions are sizes. -/
import Derived.Test.YthjiiedpplimpaaRowsInv
import Derived.Test.YthjiiedpplimpaaOpen
import Derived.Test.YthjiiedpplimpaaEff
import Derived.Test.YthjiiedpplimpaaCellsK
set_option linter.unusedSimpArgs false
set_option linter.unusedVariables false
set_option maxRecDepth 100000
namespace Go.Proofs.Ythjiiedpplimpaa
open Go.RowKit

/-- an error's number: 0, or ErrArg -/
def erB (ok : Bool) : Int := if ok then 0 else 2
/-- a new row, or none -/
structure NewR (w w1 : World) (ok : Bool) (ws : List Int) (p : Option Addr) : Prop where
  yes : ok = true → ∃ a b, p = some ⟨a, 0, none⟩ ∧ RowAt w1 a b ws 0 ∧ w.heap.size ≤ a ∧ w.heap.size ≤ b
  no : ok = false → p = none
  u : Upd [] w w1
structure NewQ (w w1 : World) (ok : Bool) (ws : List Int) (p : Option Addr) : Prop where
  yes : ok = true → ∃ a b, p = some ⟨a, 0, none⟩ ∧ RRow w1 a b ws 0 ∧ w.heap.size ≤ a ∧ w.heap.size ≤ b
  no : ok = false → p = none
  u : Upd [] w w1
def MadeR (w : World) (ok : Bool) (ws : List Int) (e : Ending) (w1 : World) : Prop := ∃ p, e = .returned (.tuple #[.pointer p, .int .i64 (erB ok)]) ∧ NewR w w1 ok ws p
def MadeQ (w : World) (ok : Bool) (ws : List Int) (e : Ending) (w1 : World) : Prop := ∃ p, e = .returned (.tuple #[.pointer p, .int .i64 (erB ok)]) ∧ NewQ w w1 ok ws p
theorem MadeRow.gen {w w1 : World} {ws : List Int} {e : Ending} (h : MadeRow w ws e w1) : MadeR w true ws e w1 := by
  obtain ⟨a, b, rfl, hr, ha, hb, u⟩ := h
  exact ⟨_, rfl, ⟨fun _ => ⟨a, b, rfl, hr, ha, hb⟩, (fun e => by cases e), u⟩⟩
theorem RMade.gen {w w1 : World} {ws : List Int} {e : Ending} (h : RMade w ws e w1) : MadeQ w true ws e w1 := by
  obtain ⟨a, b, rfl, hr, ha, hb, u⟩ := h
  exact ⟨_, rfl, ⟨fun _ => ⟨a, b, rfl, hr, ha, hb⟩, (fun e => by cases e), u⟩⟩
theorem new_gen (n : Int) (w : World) (ok : Bool) (h : ok = decide (1 ≤ n ∧ n ≤ 65536)) : Calls Try.prog 12 #[.int .i64 n] w (MadeR w ok (List.replicate n.toNat 0)) := by
  cases ok with
  | true =>
    have h1 : 1 ≤ n ∧ n ≤ 65536 := by simpa using h.symm
    obtain ⟨m, rfl⟩ : ∃ m : Nat, n = m := ⟨n.toNat, by omega⟩
    exact (new_row m w (by omega) (by omega)).mono fun e w' k => k.gen
  | false =>
    have h1 : ¬ (1 ≤ n ∧ n ≤ 65536) := by simpa using h.symm
    exact (new_bad n w (by omega)).mono fun e w' ⟨he, hw⟩ => ⟨none, by rw [he]; rfl, ⟨(fun e => by cases e), fun _ => rfl, by rw [← hw]; exact Upd.refl _ _⟩⟩
theorem rnew_gen (n : Int) (w : World) (ok : Bool) (h : ok = decide (1 ≤ n ∧ n ≤ 65536)) : Calls Try.prog 48 #[.int .i64 n] w (MadeQ w ok (List.replicate n.toNat 0)) := by
  cases ok with
  | true =>
    have h1 : 1 ≤ n ∧ n ≤ 65536 := by simpa using h.symm
    obtain ⟨m, rfl⟩ : ∃ m : Nat, n = m := ⟨n.toNat, by omega⟩
    exact (rnew_ok m w (by omega) (by omega)).mono fun e w' k => k.gen
  | false =>
    have h1 : ¬ (1 ≤ n ∧ n ≤ 65536) := by simpa using h.symm
    exact (rnew_bad n w (by omega)).mono fun e w' ⟨he, hw⟩ => ⟨none, by rw [he]; rfl, ⟨(fun e => by cases e), fun _ => rfl, by rw [← hw]; exact Upd.refl _ _⟩⟩
theorem of_gen (p : Option Addr) (cap : Nat) (zs : List Int) (w : World) (ok : Bool) (h : ok = decide (1 ≤ zs.length ∧ zs.length ≤ 65536)) (hs : SlI w .u64 p zs) (hm : zs.length ≤ maxLen) : Calls Try.prog 25 #[.slice p zs.length cap] w (MadeR w ok zs) := by
  cases ok with
  | true =>
    have h1 : 1 ≤ zs.length ∧ zs.length ≤ 65536 := by simpa using h.symm
    exact (of_ok p cap zs w hs h1.1 h1.2).mono fun e w' k => k.gen
  | false =>
    have h1 : ¬ (1 ≤ zs.length ∧ zs.length ≤ 65536) := by simpa using h.symm
    exact (of_bad p zs.length cap w (by omega) hm).mono fun e w' ⟨he, hw⟩ => ⟨none, by rw [he]; rfl, ⟨(fun e => by cases e), fun _ => rfl, by rw [← hw]; exact Upd.refl _ _⟩⟩
theorem rof_gen (p : Option Addr) (cap : Nat) (zs : List Int) (w : World) (ok : Bool) (h : ok = decide (1 ≤ zs.length ∧ zs.length ≤ 65536)) (hs : SlI w .u64 p zs) (hm : zs.length ≤ maxLen) : Calls Try.prog 27 #[.slice p zs.length cap] w (MadeQ w ok zs) := by
  cases ok with
  | true =>
    have h1 : 1 ≤ zs.length ∧ zs.length ≤ 65536 := by simpa using h.symm
    exact (rof_ok p cap zs w hs h1.1 h1.2).mono fun e w' k => k.gen
  | false =>
    have h1 : ¬ (1 ≤ zs.length ∧ zs.length ≤ 65536) := by simpa using h.symm
    exact (rof_bad p zs.length cap w (by omega) hm).mono fun e w' ⟨he, hw⟩ => ⟨none, by rw [he]; rfl, ⟨(fun e => by cases e), fun _ => rfl, by rw [← hw]; exact Upd.refl _ _⟩⟩

/-- a pointer against nil -/
theorem eql_row (p : Option Addr) (w : World) : (binOp .eql 22 (.pointer p) (.pointer none)).run Try.prog w = .ok (.bool p.isNone) w := by cases p <;> kernel_rfl
theorem eql_rrow (p : Option Addr) (w : World) : (binOp .eql 45 (.pointer p) (.pointer none)).run Try.prog w = .ok (.bool p.isNone) w := by cases p <;> kernel_rfl

/-- the two of them together -/
theorem rows_of {w w1 w2 w3 w4 w' : World} {ok : Bool} {ws : List Int} {p q : Option Addr} {S T : List Nat} (hr : NewR w1 w2 ok ws p) (hq : NewQ w3 w4 ok ws q) (u0 : Upd [] w w1) (u1 : Upd S w2 w3) (u2 : Upd T w4 w') (hS : ∀ g ∈ S, g < w1.heap.size) (hT : ∀ g ∈ T, g < w1.heap.size) (hw : AllW ws) :
    ∃ x : Option Rw, rowP x = .pointer p ∧ refP x = .pointer q ∧ AtO w' x ∧ (∀ k ∈ footO x, w.heap.size ≤ k) ∧ (∀ k ∈ footO x, (w1.heap.size ≤ k ∧ k < w2.heap.size) ∨ (w3.heap.size ≤ k ∧ k < w4.heap.size)) := by
  cases ok with
  | false => exact ⟨none, by rw [hr.no rfl]; rfl, by rw [hq.no rfl]; rfl, (fun _ e => by cases e), by simp [footO], by simp [footO]⟩
  | true =>
    obtain ⟨a, b, rfl, hR, ha, hb⟩ := hr.yes rfl
    obtain ⟨c, d, rfl, hQ, hc, hd⟩ := hq.yes rfl
    have l1 := hR.lta
    have l2 := hR.ltb
    have l3 := hQ.lta
    have l4 := hQ.ltb
    have s0 := u0.size
    have s1 := u1.size
    have s2 := hr.u.size
    have nS : ∀ g, w1.heap.size ≤ g → g ∉ S := fun g h1 h2 => by have := hS g h2; omega
    have nT : ∀ g, w1.heap.size ≤ g → g ∉ T := fun g h1 h2 => by have := hT g h2; omega
    refine ⟨some ⟨a, b, c, d, ws, 0⟩, rfl, rfl, fun r e => ?_, ?_, ?_⟩
    · cases e
      exact ⟨((hR.upd u1 (nS _ ha) (nS _ hb)).upd hq.u (by simp) (by simp)).upd u2 (nT _ ha) (nT _ hb), hQ.upd u2 (nT _ (by omega)) (nT _ (by omega)), hw, by simp only; omega, by simp only; omega⟩
    · simp only [footO, Rw.foot, List.mem_cons, List.not_mem_nil, or_false]
      omega
    · simp only [footO, Rw.foot, List.mem_cons, List.not_mem_nil, or_false]
      omega

/-- a row's words -/
def wsO (x : Option Rw) : List Int := match x with | some x => x.ws | none => []
/-- a row's copy, or none -/
theorem copy_opt {w : World} (x : Option Rw) (h : AtO w x) : Calls Try.prog 51 #[rowP x] w fun e w1 => ∃ p, e = .returned (.pointer p) ∧ NewR w w1 x.isSome (wsO x) p := by
  cases x with
  | none => exact (copy_no (.inl rfl)).mono fun e w' ⟨he, hw⟩ => ⟨none, he, (fun e => by cases e), fun _ => rfl, by rw [← hw]; exact Upd.refl _ _⟩
  | some x => exact (copy_row (h x rfl).row).mono fun e w' ⟨a, b, he, hr, ha, hb, u⟩ => ⟨_, he, fun _ => ⟨a, b, rfl, hr, ha, hb⟩, (fun e => by cases e), u⟩
theorem rcopy_opt {w : World} (x : Option Rw) (h : AtO w x) : Calls Try.prog 29 #[refP x] w fun e w1 => ∃ p, e = .returned (.pointer p) ∧ NewQ w w1 x.isSome (wsO x) p := by
  cases x with
  | none => exact (rcopy_no w).mono fun e w' ⟨he, hw⟩ => ⟨none, he, (fun e => by cases e), fun _ => rfl, by rw [← hw]; exact Upd.refl _ _⟩
  | some x => exact (rcopy_any (h x rfl).ref).mono fun e w' ⟨a, b, he, hr, ha, hb, u⟩ => ⟨_, he, fun _ => ⟨a, b, rfl, hr, ha, hb⟩, (fun e => by cases e), u⟩
theorem NewR.none_iff {w w1 : World} {ok : Bool} {ws : List Int} {p : Option Addr} (h : NewR w w1 ok ws p) : p.isNone = !ok := by
  cases ok with
  | false => rw [h.no rfl]; rfl
  | true => obtain ⟨a, b, rfl, _⟩ := h.yes rfl; rfl
theorem NewQ.none_iff {w w1 : World} {ok : Bool} {ws : List Int} {p : Option Addr} (h : NewQ w w1 ok ws p) : p.isNone = !ok := by
  cases ok with
  | false => rw [h.no rfl]; rfl
  | true => obtain ⟨a, b, rfl, _⟩ := h.yes rfl; rfl

/-- the steps that came in -/
def StepsAt (w : World) (n : Nat) (V : Nat → Value) : Prop := ∀ i, i < n → ∃ s : StepV, (∀ j v, s.cells[j]? = some v → V (i * 9 + j) = v) ∧ (-9223372036854775808 ≤ s.who ∧ s.who ≤ 9223372036854775807) ∧ (-9223372036854775808 ≤ s.to ∧ s.to ≤ 9223372036854775807) ∧ s.Ok w [] ∧ (∀ b o, s.p = some ⟨b, o, none⟩ → s.zs ≠ [] → b < w.heap.size)

theorem StepV.Ok.below {w wr : World} {s : StepV} (h : s.Ok w []) (hb : ∀ b o, s.p = some ⟨b, o, none⟩ → s.zs ≠ [] → b < w.heap.size) (hB : Below w.heap.size w wr) : SlI wr .u64 s.p s.zs :=
  ⟨h.sl.ne, fun b o e i hi => by
    have hne : s.zs ≠ [] := fun e => by rw [e] at hi; simp at hi
    exact (hB.cell (p := ⟨b, o + i, none⟩) (hb b o e hne)).trans (h.sl.cells b o e i hi)⟩

/-- the rows at the loop's start -/
theorem ri_start {w w1 : World} {x0 x1 : Option Rw} {p0 p1 q0 q1 : Option Addr} (U : Upd [] w w1) (h0 : AtO w1 x0) (h1 : AtO w1 x1) (n0 : ∀ k ∈ footO x0, w.heap.size ≤ k) (n1 : ∀ k ∈ footO x1, w.heap.size ≤ k) (hd : ∀ k ∈ footO x0, k ∉ footO x1)
    (e0 : rowP x0 = .pointer p0) (e1 : rowP x1 = .pointer p1) (f0 : refP x0 = .pointer q0) (f1 : refP x1 = .pointer q1) :
    RI w w1.heap.size (w1.heap.size + 1) [x0, x1, none] ((w1.alloc (.cells #[.pointer p0, .pointer p1, .pointer none] 92)).alloc (.cells #[.pointer q0, .pointer q1, .pointer none] 93)) := by
  rw [← e0, ← e1, ← f0, ← f1]
  have u : Upd [] w1 ((w1.alloc (.cells #[rowP x0, rowP x1, .pointer none] 92)).alloc (.cells #[refP x0, refP x1, .pointer none] 93)) := ((Upd.refl _ _).alloc _).alloc _
  have k0 : ∀ {x : Option Rw}, AtO w1 x → AtO ((w1.alloc (.cells #[rowP x0, rowP x1, .pointer none] 92)).alloc (.cells #[refP x0, refP x1, .pointer none] 93)) x := fun h r e => (h r e).upd0 u
  have b2 := Blk.new (w1.alloc (.cells #[rowP x0, rowP x1, .pointer none] 92)) [refP x0, refP x1, .pointer none] 93
  simp only [World.size_alloc] at b2
  refine ⟨rfl, (Blk.new w1 [rowP x0, rowP x1, .pointer none] 92).alloc _, b2, fun i x hx => ?_, fun i j x y hx hy hne => ?_, (U.trans u).below (Nat.le_refl _) (by simp), ⟨U.size, by have := U.size; omega⟩⟩
  · match i, hx with
    | 0, hx => simp at hx; subst hx; exact ⟨k0 h0 x rfl, n0⟩
    | 1, hx => simp at hx; subst hx; exact ⟨k0 h1 x rfl, n1⟩
    | 2, hx => simp at hx
    | i + 3, hx => simp at hx
  · match i, j, hx, hy with
    | 0, 0, _, _ => exact absurd rfl hne
    | 1, 1, _, _ => exact absurd rfl hne
    | 0, 1, ha, hb => simp at ha hb; subst ha; subst hb; exact hd
    | 1, 0, ha, hb => simp at ha hb; subst ha; subst hb; exact fun k h1 h2 => hd k h2 h1
    | 2, _, hx, _ => simp at hx
    | i + 3, _, hx, _ => simp at hx
    | 0, 2, _, hy => simp at hy
    | 1, 2, _, hy => simp at hy
    | 0, j + 3, _, hy => simp at hy
    | 1, j + 3, _, hy => simp at hy
end Go.Proofs.Ythjiiedpplimpaa
