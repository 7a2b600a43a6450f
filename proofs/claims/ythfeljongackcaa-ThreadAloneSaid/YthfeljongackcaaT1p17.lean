/- The thread's own step: a turn of the attempt that is under way. No conditions. The thread's own step: what is said of it. No conditions. A step of a thread leaves a state that may be. No program in sight. No conditions. A step of a thread leaves a state that may be, and registers that are words. No program in sight. No conditions. The block that the document names, alone: known answers true. No conditions. Two states are the same: the reference's Same, where they are. No conditions. -/
import Derived.Test.YthfeljongackcaaT1p16
import Derived.Test.YthfeljongackcaaT1p12
import Derived.Test.YthfeljongackcaaT1p10
set_option linter.unusedSimpArgs false
set_option linter.unusedVariables false
set_option maxRecDepth 100000
namespace Go.Proofs.Ythfeljongackcaa
open Go.RowKit
open Go.Maps

-- the event is stored and told: W9 the world, HV the thread there (hidden), U what was written since w

-- the event's box
section
variable {w w' : World} {X : SX} {sh : Sh} {acc st : Int} {p : List Ins} {pb cap tb : Nat} {t : TS} {o : AO}
set_option maxHeartbeats 1000000 in
theorem step_turn (h : TV w X sh acc st p pb cap tb t o) (hat : 0 ≤ t.at_ ∧ t.at_ < p.length) (hA : 0 ≤ (insAt p t.at_).a ∧ (insAt p t.at_).a < 8) {s : AS} (ha : t.att = some s) (hM : May s) (hph : s.phase ≠ 1) : Calls Try.prog 75 #[.pointer (some ⟨tb, 0, none⟩)] w (TOut w X acc st p pb cap tb o (stepT p t sh)) := by
  have hS : stepT p t sh = ((turnedT p (withA t (stepS s sh).2.2.1) (stepS s sh).1 (stepS s sh).2.1).1, (turnedT p (withA t (stepS s sh).2.2.1) (stepS s sh).1 (stepS s sh).2.1).2, (stepS s sh).2.2.2) := by
    have h1 : attS t = s := by unfold attS; rw [ha]; rfl
    have h2 : t.ins = true := by unfold TS.ins; rw [ha]; rfl
    unfold stepT
    rw [if_pos ⟨h2, by rw [h1]; exact hph⟩, h1]
  rw [hS]
  clear hS
  obtain ⟨W1, hW⟩ : ∃ W, w.alloc (.cells #[.int .i64 0, .int .i64 0, .int .u64 0, .int .u64 0, .bool false, .int .i64 0] 34) = W := ⟨_, rfl⟩
  have U1 : Upd [] w W1 := by rw [← hW]; exact (Upd.refl [] _).alloc _
  have EB : Blk W1 w.heap.size teNone.cells 34 := by rw [← hW]; exact Blk.new w teNone.cells 34
  have hlt := h.head.lt
  have HLT := Lib.hid (show ∀ g, w.heap.size ≤ g → ¬ inTh X pb tb o g from fun g hg e => by have := h.lt e; omega)
  have hne2 : w.heap.size ≠ tb := by omega
  replace h := h.upd0 U1
  simp only [teNone, TE.cells] at EB
  obtain ⟨a, F, rv, wv, mv, ho, hL⟩ := h.att.some ha
  have d34 := h.head.cell 34 (head_cell h.r8 h.s8).2.2.2.2.2.2
  have d11 := h.head.cell 11 (head_cell h.r8 h.s8).1
  rw [show t.ins = true by unfold TS.ins; rw [ha]; rfl] at d11
  rw [ho] at d34
  simp only [AO.ptr, Option.map_some] at d34
  have HFIT := Lib.hid (fit_of (p := p) hat h.prog.2.1 hA)
  have HPB := Lib.hid (show pb ∉ a :: (F ++ X.foot) from by
    have h4 := h.ap
    rw [ho] at h4
    simp only [AO.foot, List.mem_cons, not_or] at h4
    simp only [List.mem_cons, List.mem_append, not_or]
    exact ⟨h4.2.2.2.2.1, h4.2.2.2.2.2, h4.2.2.1⟩)
  have EB0 := EB
  have H := Lib.hid h
  have HL := Lib.hid hL
  have hph2 : (s.phase != 1) = true := by simpa using hph
  clear h hL hat hA hph
  refine calls_all fun K hK => ?_
  go_enter Try.func75, Try.ntmps75
  go_wp2_with fail
  clear hW
  refine (phase_code HL.out).mono ?_
  rintro e w' ⟨rfl, rfl⟩
  go_wp2_with fail
  have hcall := step_code HL.out hM
  obtain ⟨R0, hR0⟩ : ∃ R0, stepS s sh = R0 := ⟨_, rfl⟩
  rw [hR0] at hcall hK
  clear hR0
  obtain ⟨Tn, rn, sn, shn⟩ := R0
  dsimp only at hcall hK
  have HC := Lib.hid hcall
  clear hcall
  refine HC.out.mono ?_
  rintro e W2 ⟨rfl, _, F', acc', st', rv', wv', mv', hL2, u2, hF2, honce⟩
  have V2 := H.out.call ha ho hL2 u2 hF2
  have hu : ∀ g ∈ a :: (F ++ X.foot), inTh X pb tb o g := fun g hg => by
    subst ho
    simp only [List.mem_cons, List.mem_append] at hg
    rcases hg with k | k | k
    · exact .inr (.inr (.inl (by simp [AO.foot, k])))
    · exact .inr (.inr (.inl (by simp [AO.foot, k])))
    · exact .inr (.inr (.inr k))
  have hn2 : w.heap.size ∉ a :: (F ++ X.foot) := fun e => HLT.out (w.heap.size) (by omega) (hu _ e)
  replace EB : Blk W2 _ teNone.cells _ := EB.upd u2 hn2
  have U : Upd (tb :: (o.foot ++ X.foot)) w W2 := (U1.mono (by simp)).trans (u2.mono (fun g hg => .inl (by
    rcases hu g hg with k | k | k | k
    · simp [k]
    · exact absurd (show pb ∈ a :: (F ++ X.foot) from by rw [← k]; exact hg) HPB.out
    · simp [k]
    · simp [k])))
  have HV2 := Lib.hid V2
  have HF2 := Lib.hid hF2
  have HO := Lib.hid honce
  have hw1 := U1.size
  clear V2 hL2 u2 hF2 honce HC H
  have hturn := turned_code HV2.out Tn rn (HFIT.out _ _ _)
  obtain ⟨T, hT⟩ : ∃ T, turnedT p (withA t sn) Tn rn = T := ⟨_, rfl⟩
  rw [hT] at hturn hK
  have HT := Lib.hid hturn
  clear hturn hT HV2
  go_wp2_with fail
  refine HT.out.mono ?_
  rintro e W3 ⟨rfl, o', V3, u3, ho3⟩
  obtain ⟨⟨⟨ek, ea, ew, eo, ee⟩, tl⟩, t'⟩ := T
  simp only [TE.val]
  have HV := Lib.hid V3
  have HO3 := Lib.hid ho3
  have hsz := U1.size
  replace EB : Blk W3 _ teNone.cells _ := EB.upd u3 (by simpa using hne2)
  replace U := U.trans (u3.mono (fun g hg => .inl (by simp at hg; simp [hg])))
  have HNI := Lib.hid (show ¬ inTh X pb tb o' (w.heap.size) from fun q => by
    rcases q with q | q | q | q
    · exact hne2 q
    · exact HLT.out (w.heap.size) (by omega) (.inr (.inl q))
    · rcases HO3.out with e | e
      · subst e
        simp only [AO.foot, List.mem_cons] at q
        rcases q with q | q
        · exact HLT.out (w.heap.size) (by omega) (.inr (.inr (.inl (by rw [ho]; simp [AO.foot, q]))))
        · rcases HF2.out _ q with z | z
          · exact HLT.out (w.heap.size) (by omega) (.inr (.inr (.inl (by rw [ho]; simp [AO.foot, z]))))
          · have := EB0.lt; omega
      · subst e
        simp [AO.foot] at q
    · exact HLT.out (w.heap.size) (by omega) (.inr (.inr (.inr q))))
  clear V3 u3 HT ho3
  have q0 := EB.cell 0 rfl
  have q1 := EB.cell 1 rfl
  have q2 := EB.cell 2 rfl
  have q3 := EB.cell 3 rfl
  have q4 := EB.cell 4 rfl
  have q5 := EB.cell 5 rfl
  have f0 := EB.free 0
  have f1 := EB.free 1
  have f2 := EB.free 2
  have f3 := EB.free 3
  have f4 := EB.free 4
  have f5 := EB.free 5
  go_wp2_with fail
  refine bodyPost_ret (ev_results2 2 3 rfl _ _ (w.heap.size) (⟨ek, ea, ew, eo, ee⟩ : TE) (.bool tl) rfl rfl (ev_set (e0 := teNone) EB (⟨ek, ea, ew, eo, ee⟩ : TE))) rfl (hK _ _ ⟨rfl, _, _, _, HV.out.updn (ev_upd (S := [w.heap.size]) (Upd.refl _ _) (.inl (by simp)) _ _ _ _ _ _) ?_, ev_upd U (.inr (by omega)) _ _ _ _ _ _, ?_, HO.out⟩)
  · exact fun g hg e => by simp at hg; subst hg; exact HNI.out e
  · intro g hg
    rcases HO3.out with e | e
    · subst e
      simp only [AO.foot, List.mem_cons] at hg
      rcases hg with q | q
      · exact .inl (by rw [ho]; simp [AO.foot, q])
      · rcases HF2.out _ q with z | z
        · exact .inl (by rw [ho]; simp [AO.foot, z])
        · exact .inr (by omega)
    · subst e
      simp [AO.foot] at hg
end
end Go.Proofs.Ythfeljongackcaa
set_option linter.unusedSimpArgs false
set_option linter.unusedVariables false
set_option maxRecDepth 100000
namespace Go.Proofs.Ythfeljongackcaa
open Go.RowKit
open Go.Maps
section
variable {w w' : World} {X : SX} {sh : Sh} {acc st : Int} {p : List Ins} {pb cap tb : Nat} {t : TS} {o : AO}
def Form.list (f : Form) : List Value := [.int .i64 (f.regs : Int), .bool f.num, .bool f.target, .bool f.out, .bool f.ins]
/-- behind the look at the instruction: its form in a box -/
def AtForm (W : World) (X : SX) (sh : Sh) (acc st : Int) (p : List Ins) (pb cap tb eb : Nat) (t : TS) (o : AO) (f : Form) (ok : Bool) (v4 v5 : Value) (wx : World) : Prop :=
  ∃ fb, v4 = .pointer (some ⟨fb, 0, none⟩) ∧ v5 = .bool ok ∧ Blk wx fb f.list 175 ∧ Upd [] W wx
theorem Upd.cell {S : List Nat} {a b : World} (u : Upd S a b) {g k : Nat} {v : Value} (hg : g ∉ S) (h : a.cell? ⟨g, k, none⟩ = some v) : b.cell? ⟨g, k, none⟩ = some v :=
  (World.cell?_of_block (w := a) (u.block g (World.block_lt_of_cell? a _ h) hg)).trans h
theorem setR2 (t : TS) (k u v : Int) : setR (setR t k u) k v = setR t k v := by unfold setR; simp
theorem okReg_bound {R k : Nat} {reg : Nat → Int} (h : okReg R reg k = true) : 0 ≤ reg k ∧ reg k < 8 := by
  unfold okReg at h
  split at h
  · simpa using h
  · have : reg k = 0 := by simpa using h
    omega
theorem formed_regs {i : Ins} (h : formed i = true) : (0 ≤ i.a ∧ i.a < 8) ∧ (0 ≤ i.b ∧ i.b < 8) ∧ (0 ≤ i.c ∧ i.c < 8) := by
  unfold formed formedF at h
  simp only [Bool.and_eq_true] at h
  exact ⟨okReg_bound h.1.1.1, okReg_bound h.1.1.2, okReg_bound h.1.2⟩
/-- the thread may not begin this instruction here -/
def badIns (t : TS) (op : Int) : Prop := isOp op = false ∨ (t.ins = true ∧ (formI op).ins = false) ∨ (t.ins = false ∧ (formI op).out = false)
theorem stepT_bad (hidle : ∀ s, t.att = some s → s.phase = 1) (hb : badIns t (opAt p t.at_)) : stepT p t sh = ((failT t 210).1, (failT t 210).2, sh) := by
  have h1 : ¬ (t.ins = true ∧ (attS t).phase ≠ 1) := fun ⟨h, k⟩ => by
    unfold TS.ins at h
    cases ha : t.att with
    | none => rw [ha] at h; cases h
    | some s => unfold attS at k; rw [ha] at k; exact k (hidle s ha)
  unfold stepT
  rw [if_neg h1]
  exact if_pos hb
theorem stepT_full (hidle : ∀ s, t.att = some s → s.phase = 1) (hb : ¬ badIns t (opAt p t.at_)) (hf : t.ins = true ∧ t.fuel = 4096) : stepT p t sh = ((failT t 6).1, (failT t 6).2, sh) := by
  have h1 : ¬ (t.ins = true ∧ (attS t).phase ≠ 1) := fun ⟨h, k⟩ => by
    unfold TS.ins at h
    cases ha : t.att with
    | none => rw [ha] at h; cases h
    | some s => unfold attS at k; rw [ha] at k; exact k (hidle s ha)
  unfold stepT
  rw [if_neg h1]
  exact (if_neg hb).trans (if_pos hf)
theorem stepT_go (hidle : ∀ s, t.att = some s → s.phase = 1) (hb : ¬ badIns t (opAt p t.at_)) (hf : ¬ (t.ins = true ∧ t.fuel = 4096)) : stepT p t sh = match plainT (fuelT t) (insAt p t.at_) with
      | some t' => (quiet, t', sh)
      | none => sharedT p (fuelT t) sh (insAt p t.at_) := by
  have h1 : ¬ (t.ins = true ∧ (attS t).phase ≠ 1) := fun ⟨h, k⟩ => by
    unfold TS.ins at h
    cases ha : t.att with
    | none => rw [ha] at h; cases h
    | some s => unfold attS at k; rw [ha] at k; exact k (hidle s ha)
  unfold stepT
  rw [if_neg h1]
  exact (if_neg hb).trans (if_neg hf)
/-- ahead of the instruction: all is well -/
def AtGo (w : World) (X : SX) (sh : Sh) (acc st : Int) (p : List Ins) (pb cap tb : Nat) (t : TS) (o : AO) (wx : World) : Prop :=
  TV wx X sh acc st p pb cap tb (fuelT t) o ∧ Blk wx w.heap.size teNone.cells 34 ∧ Upd (tb :: (o.foot ++ X.foot)) w wx ∧ ¬ badIns t (opAt p t.at_) ∧ ¬ (t.ins = true ∧ t.fuel = 4096)
theorem head_setF {pv : Value} {ap : Option Addr} (hr : t.regs.length = 8) (hs : t.saved.length = 8) (k : Int) : (headTV t pv X ap).set 21 (.int .i64 k) = headTV { t with fuel := k } pv X ap := by
  obtain ⟨st, er, at_, rs, sta, sv, fu, at2⟩ := t
  obtain ⟨r0, r1, r2, r3, r4, r5, r6, r7, rfl⟩ := list8 hr
  obtain ⟨s0, s1, s2, s3, s4, s5, s6, s7, rfl⟩ := list8 hs
  rfl
/-- behind an instruction of registers, At not yet further -/
def AtEnd (w : World) (X : SX) (sh : Sh) (acc st : Int) (p : List Ins) (pb cap tb : Nat) (o : AO) (t' : TS) (i : Ins) (at_ : Int) (wx : World) : Prop :=
  ∃ t'', t''.at_ = at_ ∧ plainT t' i = some (nextT t'') ∧ TV wx X sh acc st p pb cap tb t'' o ∧ Blk wx w.heap.size teNone.cells 34 ∧ Upd (tb :: (o.foot ++ X.foot)) w wx
end
end Go.Proofs.Ythfeljongackcaa
set_option linter.unusedSimpArgs false
set_option linter.unusedVariables false
set_option maxRecDepth 100000
namespace Go.Proofs.Ythfeljongackcaa
open Go.RowKit
section
variable {p : List Ins} {t : TS} {sh : Sh}
theorem fuelT_att (t : TS) : (fuelT t).att = t.att := by unfold fuelT; split <;> rfl
theorem tmay_fuel (h : TMay p t) (hf : ¬ (t.ins = true ∧ t.fuel = 4096)) : TMay p (fuelT t) := by
  unfold fuelT
  split
  · rename_i hi
    refine ⟨h.st, h.err, h.at0, fun e => ?_, fun s e => ?_⟩
    · have : t.att = none := e
      unfold TS.ins at hi; rw [this] at hi; cases hi
    · obtain ⟨a, b, c, d, e1, f⟩ := h.ins s e
      refine ⟨a, b, ⟨by simp only; omega, ?_⟩, d, e1, ?_⟩
      · have : t.fuel ≠ 4096 := fun k => hf ⟨hi, k⟩
        simp only; omega
      · rcases f with k | ⟨k, k2⟩
        · exact .inl k
        · exact .inr ⟨by simp only; omega, k2⟩
  · exact h
/-- the place moves, the registers change -/
theorem tmay_at (h : TMay p t) (hidle : ∀ s, t.att = some s → s.phase = 1) {t' : TS} (h1 : t'.st = t.st) (h2 : t'.err = t.err) (h3 : 0 ≤ t'.at_ ∧ t'.at_ ≤ 9223372036854775807) (h4 : t'.start = t.start) (h5 : t'.saved = t.saved) (h6 : t'.fuel = t.fuel) (h7 : t'.att = t.att) : TMay p t' := by
  refine ⟨by rw [h1]; exact h.st, by rw [h1, h2]; exact h.err, h3, fun e => by rw [h4, h5, h6]; exact h.out (h7 ▸ e), fun s e => ?_⟩
  have hs := h7 ▸ e
  obtain ⟨a, b, c, d, e1, f⟩ := h.ins s hs
  exact ⟨by rw [h1]; exact a, by rw [h4]; exact b, by rw [h6]; exact c, d, e1, .inl (hidle s hs)⟩
theorem tmay_plain (h : TMay p t) (hidle : ∀ s, t.att = some s → s.phase = 1) (hat : 0 ≤ t.at_ ∧ t.at_ < p.length) (hp : p.length ≤ 256) {i : Ins} (hn : 0 ≤ i.n) {t' : TS} (he : plainT t i = some t') : TMay p t' := by
  have hnx : 0 ≤ t.at_ + 1 ∧ t.at_ + 1 ≤ 9223372036854775807 := by omega
  have htg := target_bound hn
  unfold plainT at he
  repeat' split at he
  all_goals first
    | (cases he; exact tmay_at h hidle rfl rfl hnx rfl rfl rfl rfl)
    | (cases he; exact tmay_at h hidle rfl rfl htg rfl rfl rfl rfl)
    | (cases he; split <;> first | exact tmay_at h hidle rfl rfl htg rfl rfl rfl rfl | exact tmay_at h hidle rfl rfl hnx rfl rfl rfl rfl)
    | cases he
theorem TMay.pre (h : TMay p t) (hp : p.length ≤ 256) (hat : 0 ≤ t.at_ ∧ t.at_ < p.length) {s : AS} (ha : t.att = some s) : Pre p t := by
  obtain ⟨a, b, c, d, e1, f⟩ := h.ins s ha
  refine ⟨a, ?_, hat, hp, b, c⟩
  by_cases e : t.err = 0
  · exact e
  · have := h.err.2 e; omega
theorem tale_get {s : AS} {x : Int} (h1 : s.phase = 1) (hM : May s) : (getS s sh x).2.1 = 0 → Tale true (getS s sh x).1 (getS s sh x).2.2 := by
  intro hk
  unfold getS at hk ⊢
  rw [if_neg (by omega)] at hk ⊢
  cases hpl : place s.writes x with
  | some k => exact ⟨fun _ => h1, fun h => absurd ⟨by simp, by simp⟩ h⟩
  | none =>
    rw [hpl] at hk
    simp only at hk ⊢
    by_cases hx : x < sh.row.length
    · rw [if_neg (by omega)] at hk ⊢
      by_cases hl : 1024 ≤ s.reads.length
      · rw [if_pos hl] at hk; simp at hk
      · rw [if_neg hl]
        exact ⟨fun h => by simp [loadS, going] at h, fun _ => ⟨by simp [loadS], rfl⟩⟩
    · rw [if_pos hx] at hk; simp at hk
theorem tale_put {s : AS} {x v : Int} (h1 : s.phase = 1) : (putS s sh x v).2.1 = 0 → Tale false (putS s sh x v).1 (putS s sh x v).2.2 := by
  intro hk
  unfold putS at hk ⊢
  rw [if_neg (by omega)] at hk ⊢
  by_cases hx : x < sh.row.length
  · rw [if_neg (by omega)] at hk ⊢
    cases hpl : place s.writes x with
    | some k => exact ⟨fun _ => h1, fun h => absurd ⟨by simp, by simp⟩ h⟩
    | none =>
      rw [hpl] at hk
      simp only at hk ⊢
      by_cases hl : s.writes.length < 1024
      · rw [if_pos hl]
        exact ⟨fun _ => h1, fun h => absurd ⟨by simp, by simp⟩ h⟩
      · rw [if_neg hl] at hk; simp at hk
  · rw [if_pos hx] at hk; simp at hk
theorem tale_end {s : AS} (h1 : s.phase = 1) (hM : May s) : Tale false (endS s sh).1 (endS s sh).2.2.1 := by
  have ht : s.thn = 0 := by
    have := hM.thn
    have hv : validB s = false := by unfold validB; simp [h1]
    rw [hv] at this
    simpa using this
  unfold endS
  rw [if_neg (by omega)]
  split
  · exact ⟨fun h => by simp at h, fun h => absurd ⟨by simp, by simp⟩ h⟩
  · exact tale_lock ht
theorem tmay_shared (h : TMay p t) (hw : WideSh sh) (hidle : ∀ s, t.att = some s → s.phase = 1) (hat : 0 ≤ t.at_ ∧ t.at_ < p.length) (hp : p.length ≤ 256) (hn : 0 ≤ (insAt p t.at_).n) (hst : t.st = 1) (hop : 10 ≤ opAt p t.at_ ∧ opAt p t.at_ ≤ 17)
    (hin : opAt p t.at_ = 13 ∨ opAt p t.at_ = 14 ∨ opAt p t.at_ = 15 → ∃ s, t.att = some s ∧ 0 < t.fuel) (hout : opAt p t.at_ = 12 ∨ opAt p t.at_ = 17 → t.att = none) : TMay p (sharedT p t sh (insAt p t.at_)).2.1 := by
  have hnx : 0 ≤ t.at_ + 1 ∧ t.at_ + 1 ≤ 9223372036854775807 := by omega
  have hopi : (insAt p t.at_).op = opAt p t.at_ := rfl
  have herr : t.err = 0 := by
    by_cases e : t.err = 0
    · exact e
    · have := h.err.2 e; omega
  generalize hi : insAt p t.at_ = i at *
  unfold sharedT
  by_cases e10 : i.op = 10
  · rw [if_pos e10]
    split
    · exact tmay_at h hidle rfl rfl hnx rfl rfl rfl rfl
    · exact tmay_fail h hp (by decide)
  rw [if_neg e10]
  by_cases e11 : i.op = 11
  · rw [if_pos e11]
    split
    · exact tmay_at h hidle rfl rfl hnx rfl rfl rfl rfl
    · exact tmay_fail h hp (by decide)
  rw [if_neg e11]
  by_cases e17 : i.op = 17
  · rw [if_pos e17]
    have ha := hout (.inr (by omega))
    exact ⟨by simp, by simp [herr], h.at0, fun _ => h.out ha, fun s e => by rw [show t.att = some s from e] at ha; cases ha⟩
  rw [if_neg e17]
  by_cases e12 : i.op = 12
  · rw [if_pos e12]
    have ha := hout (.inl (by omega))
    split
    · rename_i hc
      refine ⟨by simp only [nextT]; omega, by simp only [nextT]; omega, hnx, fun e => by (cases e), fun s e => ?_⟩
      cases e
      refine ⟨hst, by show opAt p t.at_ = 12; omega, ?_, may_fresh hc, by simp [fresh], .inl rfl⟩
      have := (h.out ha).2.2
      show 0 ≤ t.fuel ∧ t.fuel ≤ 4096
      omega
    · exact h
  rw [if_neg e12]
  by_cases e13 : i.op = 13
  · rw [if_pos e13]
    obtain ⟨s, hs, hf⟩ := hin (.inl (by omega))
    have h1 := hidle s hs
    have hM := (h.ins s hs).2.2.2.1
    have ha : attS t = s := by unfold attS; rw [hs]; rfl
    simp only [ha]
    exact tmay_turned (h.pre hp hat hs) (may_get hM _) (fun hk => (tale_get h1 hM hk).1) (fun hk ho => ⟨((tale_get h1 hM hk).2 ho).1, .inr ⟨hf, by rw [((tale_get h1 hM hk).2 ho).2]; simp; omega⟩⟩)
  rw [if_neg e13]
  by_cases e14 : i.op = 14
  · rw [if_pos e14]
    obtain ⟨s, hs, hf⟩ := hin (.inr (.inl (by omega)))
    have h1 := hidle s hs
    have hM := (h.ins s hs).2.2.2.1
    have ha : attS t = s := by unfold attS; rw [hs]; rfl
    simp only [ha]
    have hz : ∀ {x v : Int}, (putS s sh x v).2.1 = 0 → 2 ≤ (putS s sh x v).1.out ∧ (putS s sh x v).1.out ≤ 5 := by
      intro x v hk
      unfold putS at hk ⊢
      rw [if_neg (by omega)] at hk ⊢
      by_cases hx : x < sh.row.length
      · rw [if_neg (by omega)] at hk ⊢
        cases hpl : place s.writes x with
        | some k => simp
        | none =>
          rw [hpl] at hk
          simp only at hk ⊢
          by_cases hl : s.writes.length < 1024
          · rw [if_pos hl]; simp
          · rw [if_neg hl] at hk; simp at hk
      · rw [if_pos hx] at hk; simp at hk
    exact tmay_turned (h.pre hp hat hs) (may_put hM _ _) (fun hk => (tale_put h1 hk).1) (fun hk ho => absurd (hz hk) ho)
  rw [if_neg e14]
  by_cases e16 : i.op = 16
  · rw [if_pos e16]
    exact tmay_give h (target_bound hn)
  rw [if_neg e16]
  have e15 : i.op = 15 := by omega
  obtain ⟨s, hs, hf⟩ := hin (.inr (.inr (by omega)))
  have h1 := hidle s hs
  have hM := (h.ins s hs).2.2.2.1
  have ha : attS t = s := by unfold attS; rw [hs]; rfl
  simp only [ha]
  exact tmay_turned (h.pre hp hat hs) (may_end hM) (fun _ => (tale_end h1 hM).1) (fun _ ho => ⟨((tale_end h1 hM).2 ho).1, .inr ⟨hf, by rw [((tale_end h1 hM).2 ho).2]; simp; omega⟩⟩)
end
end Go.Proofs.Ythfeljongackcaa
set_option linter.unusedSimpArgs false
set_option linter.unusedVariables false
set_option maxRecDepth 100000
namespace Go.Proofs.Ythfeljongackcaa
open Go.RowKit
section
variable {p : List Ins} {t : TS} {sh : Sh}
theorem fuelT_at (t : TS) : (fuelT t).at_ = t.at_ := by unfold fuelT; split <;> rfl
theorem fuelT_st (t : TS) : (fuelT t).st = t.st := by unfold fuelT; split <;> rfl
theorem tmay_step (h : TMay p t) (hfp : formedP p = true) (hnum : ∀ i ∈ p, 0 ≤ i.n ∧ i.n < 18446744073709551616) (hw : WideSh sh) : TMay p (StepT p t sh).2.1 := by
  have hp := (formedP_len hfp).2
  unfold StepT
  split
  · exact h
  · rename_i hst
    have hst1 : t.st = 1 := by omega
    by_cases hrun : ∃ s, t.att = some s ∧ s.phase ≠ 1
    · obtain ⟨s, hs, h1⟩ := hrun
      have ha : attS t = s := by unfold attS; rw [hs]; rfl
      have hi : t.ins = true := by unfold TS.ins; rw [hs]; rfl
      unfold stepT
      rw [if_pos ⟨hi, by rw [ha]; exact h1⟩, ha]
      exact tmay_turn h hp hw hs h1
    · have hidle : ∀ s, t.att = some s → s.phase = 1 := fun s hs => by
        by_cases e : s.phase = 1
        · exact e
        · exact absurd ⟨s, hs, e⟩ hrun
      by_cases hb : badIns t (opAt p t.at_)
      · rw [stepT_bad hidle hb]; exact tmay_fail h hp (by decide)
      by_cases hf : t.ins = true ∧ t.fuel = 4096
      · rw [stepT_full hidle hb hf]; exact tmay_fail h hp (by decide)
      rw [stepT_go hidle hb hf]
      have hop : 1 ≤ opAt p t.at_ ∧ opAt p t.at_ ≤ 17 := by
        have : isOp (opAt p t.at_) = true := by
          cases h : isOp (opAt p t.at_) with
          | true => rfl
          | false => exact absurd (.inl h) hb
        simpa [isOp] using this
      have hat := opAt_in (p := p) (k := t.at_) (by omega)
      have hmem : insAt p t.at_ ∈ p := List.mem_of_getElem? (insAt_get p hat.1 hat.2)
      have hn := (hnum _ hmem).1
      have hF := tmay_fuel h hf
      have hidF : ∀ s, (fuelT t).att = some s → s.phase = 1 := fun s hs => hidle s (by rw [← fuelT_att t]; exact hs)
      have hatF : 0 ≤ (fuelT t).at_ ∧ (fuelT t).at_ < p.length := by rw [fuelT_at]; exact hat
      cases he : plainT (fuelT t) (insAt p t.at_) with
      | some t' => exact tmay_plain hF hidF hatF hp hn he
      | none =>
        have h10 : 10 ≤ opAt p t.at_ := by
          rcases Int.lt_or_le (opAt p t.at_) 10 with k | k
          · have hc : (insAt p t.at_).op = 1 ∨ (insAt p t.at_).op = 2 ∨ (insAt p t.at_).op = 3 ∨ (insAt p t.at_).op = 4 ∨ (insAt p t.at_).op = 5 ∨ (insAt p t.at_).op = 6 ∨ (insAt p t.at_).op = 7 ∨ (insAt p t.at_).op = 8 ∨ (insAt p t.at_).op = 9 := by
              have : (insAt p t.at_).op = opAt p t.at_ := rfl
              omega
            unfold plainT at he
            rcases hc with e | e | e | e | e | e | e | e | e <;> simp [e] at he
          · exact k
        have := tmay_shared (t := fuelT t) (sh := sh) hF hw hidF hatF hp (by rw [fuelT_at]; exact hn) (by rw [fuelT_st]; exact hst1) (by rw [fuelT_at]; exact ⟨h10, hop.2⟩) (fun hk => by
          rw [fuelT_at] at hk
          rw [fuelT_att]
          cases ha : t.att with
          | some s =>
            refine ⟨s, rfl, ?_⟩
            have hi : t.ins = true := by unfold TS.ins; rw [ha]; rfl
            unfold fuelT
            rw [if_pos hi]
            have := (h.ins s ha).2.2.1
            simp only; omega
          | none =>
            refine absurd (.inr (.inr ⟨by unfold TS.ins; rw [ha]; rfl, ?_⟩)) hb
            rcases hk with k | k | k <;> (rw [k]; rfl)) (fun hk => by
          rw [fuelT_at] at hk
          rw [fuelT_att]
          cases ha : t.att with
          | none => rfl
          | some s =>
            refine absurd (.inr (.inl ⟨by unfold TS.ins; rw [ha]; rfl, ?_⟩)) hb
            rcases hk with k | k <;> (rw [k]; rfl))
        rw [fuelT_at] at this
        exact this
end
end Go.Proofs.Ythfeljongackcaa
set_option linter.unusedSimpArgs false
set_option linter.unusedVariables false
set_option maxRecDepth 100000
namespace Go.Proofs.Ythfeljongackcaa
open Go.RowKit
open Go.Maps
-- the turn of the law
theorem num07 (n : Int) (w : World) : Calls Try.prog 12 #[.int .i64 n] w fun e w' => e = .returned (.int .i64 n) ∧ w = w' := by
  refine calls_all fun K hK => ?_
  go_enter Try.func12, Try.ntmps12
  go_wp2
  all_goals exact ⟨rfl, rfl⟩

def k1 : AS := ⟨0, [], [], 3, 0, 1, 6, 0, 0⟩
def k2 : AS := ⟨0, [(1, 6)], [], 1, 0, 0, 0, 0, 0⟩
def k3 : AS := ⟨0, [(1, 6)], [(1, 9)], 1, 0, 0, 0, 0, 0⟩
def k4 : AS := ⟨0, [(1, 6)], [(1, 9)], 8, 0, 0, 0, 0, 0⟩
def k5 : AS := ⟨0, [(1, 6)], [(1, 9)], 9, 0, 0, 0, 0, 0⟩
theorem ke1 : getS (fresh 0) ⟨[5, 6, 7], 0⟩ 1 = (going, 0, k1) := by rfl
theorem ke2 : stepS k1 ⟨[5, 6, 7], 0⟩ = (⟨2, 6, ⟨2, 1, 6, false⟩⟩, 0, k2, ⟨[5, 6, 7], 0⟩) := by rfl
theorem ke3 : putS k2 ⟨[5, 6, 7], 0⟩ 1 9 = (⟨3, 0, ⟨3, 1, 9, false⟩⟩, 0, k3) := by rfl
theorem ke4 : endS k3 ⟨[5, 6, 7], 0⟩ = (⟨1, 0, ⟨5, 0, 0, false⟩⟩, 0, k4, ⟨[5, 6, 7], 1⟩) := by rfl
theorem ke5 : stepS k4 ⟨[5, 6, 7], 1⟩ = (going, 0, k5, ⟨[5, 9, 7], 1⟩) := by rfl
theorem ke6 : stepS k5 ⟨[5, 9, 7], 1⟩ = (⟨4, 0, ⟨6, 0, 1, false⟩⟩, 0, overS, ⟨[5, 9, 7], 2⟩) := by rfl
theorem km0 : May (fresh 0) := may_fresh rfl
theorem km1 : May k1 := by have := may_get (sh := ⟨[5, 6, 7], 0⟩) km0 1; rw [ke1] at this; exact this
theorem km2 : May k2 := by have := may_step (sh := ⟨[5, 6, 7], 0⟩) km1 (.inl rfl); rw [ke2] at this; exact this
theorem km3 : May k3 := by have := may_put (sh := ⟨[5, 6, 7], 0⟩) km2 1 9; rw [ke3] at this; exact this
theorem km4 : May k4 := by have := may_end (sh := ⟨[5, 6, 7], 0⟩) km3; rw [ke4] at this; exact this
theorem km5 : May k5 := by have := may_step (sh := ⟨[5, 6, 7], 1⟩) km4 (.inr rfl); rw [ke5] at this; exact this

/-- where the law stands: one attempt, one turn's block tb, all in new memory -/
structure St (w0 : World) (tb : Nat) (T : Trn) (X : SX) (sh : Sh) (a : Nat) (s : AS) (F : List Nat) (W : World) : Prop where
  hL : LX W X sh a s F
  out : ∀ g ∈ own X a F, w0.heap.size ≤ g
  blk : Blk W tb T.cells 36
  ntb : tb ∉ own X a F
  tb0 : w0.heap.size ≤ tb
  U : Upd [] w0 W
theorem St.next {w0 W W' : World} {tb : Nat} {T : Trn} {X : SX} {sh sh' : Sh} {a : Nat} {s s' : AS} {F F' : List Nat} (h : St w0 tb T X sh a s F W) (hL : LX W' X sh' a s' F') (u : Upd (own X a F) W W') (hF : ∀ g ∈ F', g ∈ F ∨ W.heap.size ≤ g) : St w0 tb T X sh' a s' F' W' := by
  have hs := h.U.size
  have ht := h.blk.lt
  have ho : ∀ g ∈ own X a F', g ∈ own X a F ∨ W.heap.size ≤ g := fun g hg => by
    simp only [own, List.mem_cons, List.mem_append] at hg ⊢
    rcases hg with k | k | k
    · exact .inl (.inl k)
    · exact (hF g k).imp (fun k => .inr (.inl k)) id
    · exact .inl (.inr (.inr k))
  refine ⟨hL, fun g hg => ?_, h.blk.upd u h.ntb, fun hg => ?_, h.tb0, h.U.tr u (by simp) (fun x hx => .inr (h.out x hx))⟩
  · rcases ho g hg with k | k
    · exact h.out g k
    · omega
  · rcases ho _ hg with k | k
    · exact h.ntb k
    · omega
theorem St.shared {w0 W W' : World} {tb : Nat} {T : Trn} {X : SX} {sh sh' : Sh} {a : Nat} {s : AS} {F : List Nat} (h : St w0 tb T X sh a s F W) (hL : XAt W' X sh') (u : Upd X.foot W W') (hd : a ∉ X.foot) (hF : ∀ g ∈ F, g ∉ X.foot) : St w0 tb T X sh' a s F W' := by
  obtain ⟨acc, st, hX⟩ := hL
  obtain ⟨_, _, rv, wv, mv, k⟩ := h.hL
  have k2 := k.att.upd u hd hF
  have hu : Upd (own X a F) W W' := u.mono (by simp [own]; exact fun x h => .inl (.inr (.inr h)))
  exact h.next ⟨acc, st, rv, wv, mv, k2, hX, fun g hg => ⟨Nat.lt_of_lt_of_le (k.sep g hg).1 u.size, (k.sep g hg).2⟩, k.wide⟩ hu (fun g hg => .inl hg)
theorem St.apart {w0 W : World} {tb : Nat} {T : Trn} {X : SX} {sh : Sh} {a : Nat} {s : AS} {F : List Nat} (h : St w0 tb T X sh a s F W) : a ∉ X.foot ∧ ∀ g ∈ F, g ∉ X.foot := by
  obtain ⟨_, _, rv, wv, mv, k⟩ := h.hL
  exact ⟨k.out, fun g hg => (k.sep g hg).2.1⟩
theorem St.turn {w0 W : World} {tb : Nat} {T : Trn} {X : SX} {sh : Sh} {a : Nat} {s : AS} {F : List Nat} (h : St w0 tb T X sh a s F W) (T' : Trn) :
    St w0 tb T' X sh a s F ((((((((W.setCell ⟨tb, 0, none⟩ (.int .i64 T'.out)).setCell ⟨tb, 1, none⟩ (.int .u64 T'.word)).setCell ⟨tb, 2, none⟩ (.int .i64 0)).setCell ⟨tb, 3, none⟩ (.int .i64 T'.ev.kind)).setCell ⟨tb, 4, none⟩ (.int .u64 T'.ev.addr)).setCell ⟨tb, 5, none⟩ (.int .u64 T'.ev.word)).setCell ⟨tb, 6, none⟩ (.bool T'.ev.own)).setCell ⟨tb, 7, none⟩ (.int .i64 0)) :=
  ⟨h.hL.updb (at8 _ _ _ _ _ _ _ _) h.ntb, h.out, turn_set h.blk rfl T', h.ntb, h.tb0, upd8 h.U h.tb0 _ _ _ _ _ _ _ _⟩

theorem St.turn' {w0 W : World} {tb : Nat} {T : Trn} {X : SX} {sh : Sh} {a : Nat} {s : AS} {F : List Nat} (h : St w0 tb T X sh a s F W) (T' : Trn) :
    ∃ W', W' = (((((((W.setCell ⟨tb, 0, none⟩ (.int .i64 T'.out)).setCell ⟨tb, 1, none⟩ (.int .u64 T'.word)).setCell ⟨tb, 2, none⟩ (.int .i64 0)).setCell ⟨tb, 3, none⟩ (.int .i64 T'.ev.kind)).setCell ⟨tb, 4, none⟩ (.int .u64 T'.ev.addr)).setCell ⟨tb, 5, none⟩ (.int .u64 T'.ev.word)).setCell ⟨tb, 6, none⟩ (.bool T'.ev.own)).setCell ⟨tb, 7, none⟩ (.int .i64 0) ∧ St w0 tb T' X sh a s F W' := ⟨_, rfl, h.turn T'⟩
set_option maxHeartbeats 2000000 in
theorem known07_walk (w : World) : Calls Try.prog 18 #[] w fun e w' => e = .returned (.bool true) ∧ Upd [] w w' := by
  refine calls_all fun K hK => ?_
  go_enter Try.func18, Try.ntmps18
  go_wp2_with fail
  have hs := Blk.new w [.int .u64 5, .int .u64 6, .int .u64 7] 31
  have hsl : SlI (w.alloc (.cells #[.int .u64 5, .int .u64 6, .int .u64 7] 31)) .u64 (some ⟨w.heap.size, 0, none⟩) [5, 6, 7] := SlI.of_blk (sp := []) (t := 31) hs
  refine (of_ok _ _ [5, 6, 7] _ hsl (by simp) (by simp)).mono ?_
  rintro e w1 ⟨ra, rb, rfl, hR, hra, hrb, u1⟩
  have U1 : Upd [] w w1 := ((Upd.refl [] w).alloc _).trans u1
  simp only [World.size_alloc] at hra hrb
  clear hs hsl u1
  go_wp2_with fail
  refine (clkNew w1).mono ?_
  rintro e w2 ⟨ca, cr, cb, rfl, hC, h1, h2, h3, u2⟩
  have hX := XAt.made hR hC u2 h1 h2 h3 ⟨by simp, by simp⟩
  have hs1 := U1.size
  have hX0 : ∀ g ∈ SX.foot ⟨ra, rb, ca, cr, cb⟩, w.heap.size ≤ g := by simp [SX.foot]; omega
  have U2 := U1.trans u2
  clear hR hC u2 h1 h2 h3 hra hrb hs1 U1
  generalize hXe : (⟨ra, rb, ca, cr, cb⟩ : SX) = X at hX hX0
  obtain rfl : ra = X.ra := by rw [← hXe]
  obtain rfl : ca = X.ca := by rw [← hXe]
  clear hXe
  go_wp2_with fail
  refine (num07 0 w2).mono ?_
  rintro e w' ⟨rfl, rfl⟩
  go_wp2_with fail
  refine (begin_x hX rfl).mono ?_
  rintro e w3 ⟨a, F, rfl, hL, u3, ha, hF⟩
  simp only [Trn.val]
  have S : St w w3.heap.size ⟨6, 0, ⟨1, 0, 0, false⟩⟩ X ⟨[5, 6, 7], 0⟩ a (fresh 0) F (w3.alloc (.cells #[.int .i64 6, .int .u64 0, .int .i64 0, .int .i64 1, .int .u64 0, .int .u64 0, .bool false, .int .i64 0] 36)) := by
    have hs2 := U2.size
    have hO : ∀ g ∈ own X a F, w.heap.size ≤ g := fun g hg => by
      simp only [own, List.mem_cons, List.mem_append] at hg
      rcases hg with k | k | k
      · omega
      · have := hF g k; omega
      · exact hX0 g k
    have U3 := U2.tr (U := []) u3 (by simp) (fun x hx => .inr (hX0 x hx))
    exact ⟨hL.upd0 ((Upd.refl [] _).alloc _), hO, Blk.new w3 _ _, fun h => Nat.lt_irrefl _ (hL.lt _ h), U3.size, U3.alloc _⟩
  clear hL u3 ha hF hX hX0 U2
  go_wp2_with fail
  generalize w3.alloc (.cells #[.int .i64 6, .int .u64 0, .int .i64 0, .int .i64 1, .int .u64 0, .int .u64 0, .bool false, .int .i64 0] 36) = w4 at S ⊢
  refine (num07 _ _).mono ?_
  rintro e w' ⟨rfl, rfl⟩
  have q0 := (S.blk).cell 0 rfl
  have q1 := (S.blk).cell 1 rfl
  have q2 := (S.blk).cell 2 rfl
  have q3 := (S.blk).cell 3 rfl
  have q4 := (S.blk).cell 4 rfl
  have q5 := (S.blk).cell 5 rfl
  have q6 := (S.blk).cell 6 rfl
  have q7 := (S.blk).cell 7 rfl
  have g0 := (S.blk).free 0
  have g1 := (S.blk).free 1
  have g2 := (S.blk).free 2
  have g3 := (S.blk).free 3
  have g4 := (S.blk).free 4
  have g5 := (S.blk).free 5
  have g6 := (S.blk).free 6
  have g7 := (S.blk).free 7
  go_wp2_with fail
  clear q0 q1 q2 q3 q4 q5 q6 q7 g0 g1 g2 g3 g4 g5 g6 g7
  have k := (get_x S.hL km0 1 (by omega))
  rw [ke1] at k
  refine k.mono ?_
  clear k
  rintro e W2 ⟨rfl, F2, hL2, u2, hF2⟩
  simp only [Trn.val, going, evNone]
  replace S := S.next hL2 u2 hF2
  clear hL2 u2 hF2
  go_wp2_with fail
  have k := (step_x S.hL km1)
  rw [ke2] at k
  refine k.mono ?_
  clear k
  rintro e W2 ⟨rfl, F2, hL2, u2, hF2⟩
  simp only [Trn.val, going, evNone]
  replace S := S.next hL2 u2 hF2
  clear hL2 u2 hF2
  have q0 := (S.blk).cell 0 rfl
  have q1 := (S.blk).cell 1 rfl
  have q2 := (S.blk).cell 2 rfl
  have q3 := (S.blk).cell 3 rfl
  have q4 := (S.blk).cell 4 rfl
  have q5 := (S.blk).cell 5 rfl
  have q6 := (S.blk).cell 6 rfl
  have q7 := (S.blk).cell 7 rfl
  have g0 := (S.blk).free 0
  have g1 := (S.blk).free 1
  have g2 := (S.blk).free 2
  have g3 := (S.blk).free 3
  have g4 := (S.blk).free 4
  have g5 := (S.blk).free 5
  have g6 := (S.blk).free 6
  have g7 := (S.blk).free 7
  go_wp2_with fail
  obtain ⟨w5, h5, S5⟩ := S.turn' (⟨2, 6, ⟨2, 1, 6, false⟩⟩ : Trn)
  dsimp only at h5
  rw [← h5]
  clear q0 q1 q2 q3 q4 q5 q6 q7 g0 g1 g2 g3 g4 g5 g6 g7 h5
  clear S
  have S := S5
  clear S5
  refine (num07 _ _).mono ?_
  rintro e w' ⟨rfl, rfl⟩
  have q0 := (S.blk).cell 0 rfl
  have q1 := (S.blk).cell 1 rfl
  have q2 := (S.blk).cell 2 rfl
  have q3 := (S.blk).cell 3 rfl
  have q4 := (S.blk).cell 4 rfl
  have q5 := (S.blk).cell 5 rfl
  have q6 := (S.blk).cell 6 rfl
  have q7 := (S.blk).cell 7 rfl
  have g0 := (S.blk).free 0
  have g1 := (S.blk).free 1
  have g2 := (S.blk).free 2
  have g3 := (S.blk).free 3
  have g4 := (S.blk).free 4
  have g5 := (S.blk).free 5
  have g6 := (S.blk).free 6
  have g7 := (S.blk).free 7
  go_wp2_with fail
  clear q0 q1 q2 q3 q4 q5 q6 q7 g0 g1 g2 g3 g4 g5 g6 g7
  have k := (put_x S.hL km2 1 9 (by omega) (by omega))
  rw [ke3] at k
  refine k.mono ?_
  clear k
  rintro e W2 ⟨rfl, F2, hL2, u2, hF2⟩
  simp only [Trn.val, going, evNone]
  replace S := S.next hL2 u2 hF2
  clear hL2 u2 hF2
  go_wp2_with fail
  have k := (end_x S.hL km3)
  rw [ke4] at k
  refine k.mono ?_
  clear k
  rintro e W2 ⟨rfl, F2, hL2, u2, hF2⟩
  simp only [Trn.val, going, evNone]
  replace S := S.next hL2 u2 hF2
  clear hL2 u2 hF2
  go_wp2_with fail
  have k := (step_x S.hL km4)
  rw [ke5] at k
  refine k.mono ?_
  clear k
  rintro e W2 ⟨rfl, F2, hL2, u2, hF2⟩
  simp only [Trn.val, going, evNone]
  replace S := S.next hL2 u2 hF2
  clear hL2 u2 hF2
  go_wp2_with fail
  have k := (step_x S.hL km5)
  rw [ke6] at k
  refine k.mono ?_
  clear k
  rintro e W2 ⟨rfl, F2, hL2, u2, hF2⟩
  simp only [Trn.val, going, evNone]
  replace S := S.next hL2 u2 hF2
  clear hL2 u2 hF2
  have q0 := (S.blk).cell 0 rfl
  have q1 := (S.blk).cell 1 rfl
  have q2 := (S.blk).cell 2 rfl
  have q3 := (S.blk).cell 3 rfl
  have q4 := (S.blk).cell 4 rfl
  have q5 := (S.blk).cell 5 rfl
  have q6 := (S.blk).cell 6 rfl
  have q7 := (S.blk).cell 7 rfl
  have g0 := (S.blk).free 0
  have g1 := (S.blk).free 1
  have g2 := (S.blk).free 2
  have g3 := (S.blk).free 3
  have g4 := (S.blk).free 4
  have g5 := (S.blk).free 5
  have g6 := (S.blk).free 6
  have g7 := (S.blk).free 7
  go_wp2_with fail
  obtain ⟨w5, h5, S5⟩ := S.turn' (⟨4, 0, ⟨6, 0, 1, false⟩⟩ : Trn)
  dsimp only at h5
  rw [← h5]
  clear q0 q1 q2 q3 q4 q5 q6 q7 g0 g1 g2 g3 g4 g5 g6 g7 h5
  clear S
  have S := S5
  clear S5
  refine (S.hL.xat.load 1 (by omega)).mono ?_
  rintro e w6 ⟨rfl, hX6, u6⟩
  replace S := S.shared hX6 u6 S.apart.1 S.apart.2
  clear hX6 u6
  have hl9 : loadW [5, 9, 7] 1 = 9 := by rfl
  rw [hl9]
  go_wp2_with fail
  refine (S.hL.xat.clk).mono ?_
  rintro e w7 ⟨rfl, hX7, u7⟩
  replace S := S.shared hX7 u7 S.apart.1 S.apart.2
  clear hX7 u7
  go_wp2_with fail
  refine (num07 _ _).mono ?_
  rintro e w' ⟨rfl, rfl⟩
  have q0 := (S.blk).cell 0 rfl
  have q1 := (S.blk).cell 1 rfl
  have q2 := (S.blk).cell 2 rfl
  have q3 := (S.blk).cell 3 rfl
  have q4 := (S.blk).cell 4 rfl
  have q5 := (S.blk).cell 5 rfl
  have q6 := (S.blk).cell 6 rfl
  have q7 := (S.blk).cell 7 rfl
  have g0 := (S.blk).free 0
  have g1 := (S.blk).free 1
  have g2 := (S.blk).free 2
  have g3 := (S.blk).free 3
  have g4 := (S.blk).free 4
  have g5 := (S.blk).free 5
  have g6 := (S.blk).free 6
  have g7 := (S.blk).free 7
  go_wp2_with fail
  clear q0 q1 q2 q3 q4 q5 q6 q7 g0 g1 g2 g3 g4 g5 g6 g7
  refine (phase_x S.hL).mono ?_
  rintro e w' ⟨rfl, rfl⟩
  go_wp2_with fail
  all_goals exact ⟨rfl, S.U⟩
end Go.Proofs.Ythfeljongackcaa
set_option linter.unusedSimpArgs false
set_option linter.unusedVariables false
set_option maxRecDepth 100000
namespace Go.Proofs.Ythfeljongackcaa
open Go.RowKit
open Go.Maps
/-- v reads as these cells -/
def SlC (w : World) (v : Value) (l : List (Int × Int)) : Prop :=
  ∃ p cap, v = .slice p l.length cap ∧ ∀ j x y, l[j]? = some (x, y) → ∃ b o, p = some ⟨b, o, none⟩ ∧ w.cell? ⟨b, o + j * 2, none⟩ = some (.int .u64 x) ∧ w.cell? ⟨b, o + j * 2 + 1, none⟩ = some (.int .u64 y)
theorem SlC.nil (w : World) : SlC w (.slice none 0 0) [] := ⟨none, 0, rfl, fun j x y h => by simp at h⟩
theorem OwnP.slc {w : World} {v : Value} {l : List (Int × Int)} {F : List Nat} (h : OwnP w v l F) : SlC w v l := by
  by_cases hl : l = []
  · subst hl; rw [h.nil rfl]; exact SlC.nil w
  · obtain ⟨g, cap, sp, rfl, hc, hb, _⟩ := h.open hl
    refine ⟨_, _, rfl, fun j x y hj => ⟨g, 0, rfl, ?_⟩⟩
    have hjl : j < l.length := by
      by_cases hh : j < l.length
      · exact hh
      · rw [List.getElem?_eq_none (by omega)] at hj; cases hj
    obtain ⟨h1, h2⟩ := pcells_get l j x y hj
    rw [Nat.zero_add]
    exact ⟨hb.cell _ (by rw [List.getElem?_append_left (by rw [pcells_len]; omega)]; exact h1), hb.cell _ (by rw [List.getElem?_append_left (by rw [pcells_len]; omega)]; exact h2)⟩
theorem SlC.upd {w w' : World} {v : Value} {l : List (Int × Int)} {S : List Nat} (h : SlC w v l) (u : Upd S w w') (hS : ∀ g, v.ownBlock = some g → g ∉ S) : SlC w' v l := by
  obtain ⟨p, cap, rfl, hc⟩ := h
  refine ⟨p, cap, rfl, fun j x y hj => ?_⟩
  obtain ⟨b, o, rfl, h1, h2⟩ := hc j x y hj
  have hb : b < w.heap.size := World.block_lt_of_cell? w _ h1
  have he := u.block b hb (hS b rfl)
  exact ⟨b, o, rfl, (World.cell?_of_block (w := w) he).trans h1, (World.cell?_of_block (w := w) he).trans h2⟩
theorem SlC.upd0 {w w' : World} {v : Value} {l : List (Int × Int)} (h : SlC w v l) (u : Upd [] w w') : SlC w' v l := h.upd u (by simp)

set_option maxHeartbeats 1000000 in
theorem same_cells (w : World) (v v' : Value) (l : List (Int × Int)) (h : SlC w v l) (h' : SlC w v' l) (hl : l.length ≤ 4611686018427387904) : Calls Try.prog 70 #[v, v'] w fun e w' => e = .returned (.bool true) ∧ Upd [] w w' := by
  obtain ⟨p, cap, rfl, hc⟩ := h
  obtain ⟨p', cap', rfl, hc'⟩ := h'
  have HC := Lib.hid hc
  have HC' := Lib.hid hc'
  clear hc hc'
  have h0 : (0 : Int) ≤ (l.length : Int) := by omega
  refine calls_all fun K hK => ?_
  go_enter Try.func70, Try.ntmps70
  go_wp2_with fail
  go_loopw [5] (fun v5 wr => ∃ k : Nat, k ≤ l.length ∧ v5 = .int .i64 k ∧ Upd [] w wr) (fun v5 _ => l.length - (intOf v5).toNat)
  case atStart => exact ⟨0, by omega, rfl, Upd.refl _ _⟩
  case round =>
    obtain ⟨k, hk, rfl, hu⟩ := hrel
    have HU := Lib.hid hu
    clear hu
    by_cases hlt : k < l.length
    · have hlt' : (k : Int) < (l.length : Int) := by omega
      obtain ⟨⟨x, y⟩, hxy⟩ : ∃ c, l[k]? = some c := ⟨_, List.getElem?_eq_getElem hlt⟩
      obtain ⟨b, o, rfl, c0, c1⟩ := HC.out k x y hxy
      obtain ⟨b', o', rfl, d0, d1⟩ := HC'.out k x y hxy
      have hcell : ∀ (b' o' : Nat) (v : Value), w.cell? ⟨b', o', none⟩ = some v → wr.cell? ⟨b', o', none⟩ = some v := fun b' o' v h => (World.cell?_of_block (w := w) (HU.out.block b' (World.block_lt_of_cell? w _ h) (by simp))).trans h
      replace c0 := hcell _ _ _ c0
      replace c1 := hcell _ _ _ c1
      replace d0 := hcell _ _ _ d0
      replace d1 := hcell _ _ _ d1
      clear hcell hxy
      have hxx : (x != x) = false := by simp
      have hyy : (y != y) = false := by simp
      go_wp2_with fail
      refine wp_region_eff (fun w' => w'.cell? ⟨b, o + k * 2, none⟩ = some (.int .u64 x) ∧ w'.cell? ⟨b, o + k * 2 + 1, none⟩ = some (.int .u64 y) ∧ w'.cell? ⟨b', o' + k * 2, none⟩ = some (.int .u64 x) ∧ w'.cell? ⟨b', o' + k * 2 + 1, none⟩ = some (.int .u64 y)) 9 (by kernel_rfl) (by kernel_rfl) ⟨c0, c1, d0, d1⟩ ?_
      repeat
        refine wpE_take (v := ?_) (by decide) rfl (by rfl) ?_ ?_
        rotate_left 1
        · ((intro w hSw; (try dsimp only at hSw); go_simp); try with_reducible rfl)
        try simp only [Act.put, List.setIfInBounds_toArray, List.set_cons_zero, List.set_cons_succ]
      refine wpE_end (NoPanic.normal ?_)
      have HU2 := Lib.hid HU.out.drew
      clear c0 c1 d0 d1
      generalize wr.drew = wr2 at HU2 ⊢
      go_wp2_with fail
      go_roundw
      case rel => exact ⟨k + 1, by omega, by go_num, HU2.out⟩
      case measure => simp [intOf]; omega
    · obtain rfl : k = l.length := by omega
      go_wp2_with fail
      all_goals exact ⟨rfl, HU.out⟩

/-- a state as a value -/
def stateV (s : AS) (rv wv : Value) : Value := .agg #[.int .u64 s.snap, rv, wv, .int .i64 s.phase, .int .i64 s.thn, .int .u64 s.addr, .int .u64 s.word, .int .u64 s.found, .int .i64 s.at_]
set_option maxHeartbeats 2000000 in
theorem same_state (w : World) (s : AS) (r1 w1 r2 w2 : Value) (h1 : SlC w r1 s.reads) (k1 : SlC w w1 s.writes) (h2 : SlC w r2 s.reads) (k2 : SlC w w2 s.writes) (hl : s.reads.length ≤ 4611686018427387904) (hm : s.writes.length ≤ 4611686018427387904) :
    Calls Try.prog 31 #[stateV s r1 w1, stateV s r2 w2] w fun e w' => e = .returned (.bool true) ∧ Upd [] w w' := by
  have HS := Lib.hid fun (W : World) (u : Upd [] w W) => same_cells W r1 r2 s.reads (h1.upd0 u) (h2.upd0 u) hl
  have HT := Lib.hid fun (W : World) (u : Upd [] w W) => same_cells W w1 w2 s.writes (k1.upd0 u) (k2.upd0 u) hm
  obtain ⟨p1, c1, rfl, _⟩ := h1
  obtain ⟨p2, c2, rfl, _⟩ := h2
  obtain ⟨q1, d1, rfl, _⟩ := k1
  obtain ⟨q2, d2, rfl, _⟩ := k2
  obtain ⟨sn, rd, wr, ph, th, ad, wo, fo, at_⟩ := s
  simp only [stateV] at *
  have e0 : (sn == sn) = true := by simp
  have e1 : (ph == ph) = true := by simp
  have e2 : (th == th) = true := by simp
  have e3 : (ad == ad) = true := by simp
  have e4 : (wo == wo) = true := by simp
  have e5 : (fo == fo) = true := by simp
  have e6 : (at_ == at_) = true := by simp
  refine calls_all fun K hK => ?_
  go_enter Try.func31, Try.ntmps31
  go_wp2_with fail
  have B1 := (Blk.new w [.int .u64 sn, .slice p1 rd.length c1, .slice q1 wr.length d1, .int .i64 ph, .int .i64 th, .int .u64 ad, .int .u64 wo, .int .u64 fo, .int .i64 at_] 60).alloc (.cells #[.int .u64 sn, .slice p2 rd.length c2, .slice q2 wr.length d2, .int .i64 ph, .int .i64 th, .int .u64 ad, .int .u64 wo, .int .u64 fo, .int .i64 at_] 60)
  have B2 := Blk.new (w.alloc (.cells #[.int .u64 sn, .slice p1 rd.length c1, .slice q1 wr.length d1, .int .i64 ph, .int .i64 th, .int .u64 ad, .int .u64 wo, .int .u64 fo, .int .i64 at_] 60)) [.int .u64 sn, .slice p2 rd.length c2, .slice q2 wr.length d2, .int .i64 ph, .int .i64 th, .int .u64 ad, .int .u64 wo, .int .u64 fo, .int .i64 at_] 60
  have u1 : Upd [] w ((w.alloc (.cells #[.int .u64 sn, .slice p1 rd.length c1, .slice q1 wr.length d1, .int .i64 ph, .int .i64 th, .int .u64 ad, .int .u64 wo, .int .u64 fo, .int .i64 at_] 60)).alloc (.cells #[.int .u64 sn, .slice p2 rd.length c2, .slice q2 wr.length d2, .int .i64 ph, .int .i64 th, .int .u64 ad, .int .u64 wo, .int .u64 fo, .int .i64 at_] 60)) := ((Upd.refl [] _).alloc _).alloc _
  rw [World.size_alloc] at B2
  generalize (w.alloc (.cells #[.int .u64 sn, .slice p1 rd.length c1, .slice q1 wr.length d1, .int .i64 ph, .int .i64 th, .int .u64 ad, .int .u64 wo, .int .u64 fo, .int .i64 at_] 60)).alloc (.cells #[.int .u64 sn, .slice p2 rd.length c2, .slice q2 wr.length d2, .int .i64 ph, .int .i64 th, .int .u64 ad, .int .u64 wo, .int .u64 fo, .int .i64 at_] 60) = W at B1 B2 u1 ⊢
  refine (HS.out W u1).mono ?_
  rintro e W2 ⟨rfl, u2⟩
  have b1 := (B1.upd u2 (by simp)).cell 2 rfl
  have b2 := (B2.upd u2 (by simp)).cell 2 rfl
  have u3 := u1.trans u2
  clear B1 B2 u1 u2
  go_wp2_with fail
  refine (HT.out W2 u3).mono ?_
  rintro e W3 ⟨rfl, u4⟩
  go_wp2_with fail
  all_goals exact ⟨rfl, u3.trans u4⟩
end Go.Proofs.Ythfeljongackcaa
