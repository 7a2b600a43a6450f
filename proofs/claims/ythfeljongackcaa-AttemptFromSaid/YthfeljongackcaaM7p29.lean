/- The law's play: what is shared and three attempts, of the program and of the document: what each call leaves. No condition. The law's own: a call of an attempt, of the program and of the document, answers alike. No condition. -/
import Derived.Test.YthfeljongackcaaM7p28
set_option linter.unusedSimpArgs false
set_option linter.unusedVariables false
set_option maxRecDepth 100000
namespace Go.Proofs.Ythfeljongackcaa
open Go.RowKit
open Go.Maps
abbrev Atts := Nat → Option One
def ptrO (o : Option One) : Option Addr := o.map fun t => ⟨t.1, 0, none⟩
def stO (o : Option One) : Option AS := o.map fun t => t.2.1
/-- the blocks of an attempt's side -/
def Foot (Z : List Nat) (att : Atts) (g : Nat) : Prop := g ∈ Z ∨ ∃ i a s F, att i = some (a, s, F) ∧ g ∈ a :: F
structure PH (w0 : World) (X : SX) (sh : Sh) (att : Atts) (W : World) : Prop where
  m : Many w0 X sh att W
  may : ∀ i a s F, att i = some (a, s, F) → May s
structure RH (w0 : World) (Y : RX) (sh : Sh) (att : Atts) (W : World) : Prop where
  m : RMany w0 Y sh att W
  may : ∀ i a s F, att i = some (a, s, F) → May s
/-- something has moved -/
structure Moved (P P' : Nat → Prop) (W W' : World) : Prop where
  u : ∃ S : List Nat, (∀ g ∈ S, P g) ∧ Upd S W W'
  f : ∀ g, P' g → P g ∨ W.heap.size ≤ g
theorem Moved.of0 {P : Nat → Prop} {W W' : World} (u : Upd [] W W') : Moved P P W W' := ⟨⟨[], by simp, u⟩, fun g h => .inl h⟩
def upd1 (att : Atts) (i : Nat) (v : Option One) : Atts := fun j => if j = i then v else att j
theorem upd1_same (att : Atts) (i : Nat) (v : Option One) : upd1 att i v i = v := if_pos rfl
theorem upd1_other (att : Atts) {i j : Nat} (v : Option One) (h : j ≠ i) : upd1 att i v j = att j := if_neg h

section
variable {w0 W W' : World} {X : SX} {Y : RX} {sh rsh sh' rsh' : Sh} {att att' ratt ratt' : Atts} {p : Nat} {hd : List Value}
theorem PH.out (h : PH w0 X sh att W) {g : Nat} (hg : Foot X.foot att g) : w0.heap.size ≤ g ∧ g < W.heap.size := by
  rcases hg with k | ⟨i, a, s, F, hi, k⟩
  · exact ⟨h.m.outX g k, h.m.x.lt g k⟩
  · refine ⟨h.m.out i a s F hi g k, (h.m.hL i a s F hi).lt g ?_⟩
    simp only [own, List.mem_cons, List.mem_append] at k ⊢
    rcases k with k | k
    · exact .inl k
    · exact .inr (.inl k)
theorem RH.out (h : RH w0 Y sh att W) {g : Nat} (hg : Foot Y.foot att g) : w0.heap.size ≤ g ∧ g < W.heap.size := by
  rcases hg with k | ⟨i, a, s, F, hi, k⟩
  · exact ⟨h.m.outX g k, h.m.x.lt g k⟩
  · refine ⟨h.m.out i a s F hi g k, (h.m.hL i a s F hi).lt g ?_⟩
    simp only [rown, List.mem_cons, List.mem_append] at k ⊢
    rcases k with k | k
    · exact .inl k
    · exact .inr (.inl k)
theorem PH.free0 (h : PH w0 X sh att W) (u : Upd [] W W') : PH w0 X sh att W' := ⟨h.m.free0 u, h.may⟩
theorem RH.free0 (h : RH w0 Y sh att W) (u : Upd [] W W') : RH w0 Y sh att W' := ⟨h.m.free0 u, h.may⟩

structure PL (w0 : World) (p : Nat) (hd : List Value) (X : SX) (Y : RX) (sh rsh : Sh) (att ratt : Atts) (W : World) : Prop where
  head : Blk W p hd 76
  m : PH w0 X sh att W
  r : RH w0 Y rsh ratt W
  sep : ∀ g, Foot X.foot att g → ¬ Foot Y.foot ratt g
  pf : ¬ Foot X.foot att p ∧ ¬ Foot Y.foot ratt p
  pn : w0.heap.size ≤ p

theorem PL.prog (h : PL w0 p hd X Y sh rsh att ratt W) (m : PH w0 X sh' att' W') (mv : Moved (Foot X.foot att) (Foot X.foot att') W W') : PL w0 p hd X Y sh' rsh att' ratt W' := by
  obtain ⟨⟨S, hS, u⟩, hf⟩ := mv
  refine ⟨h.head.upd u (fun e => h.pf.1 (hS _ e)), m, ⟨h.r.m.free u (fun g hg => (h.m.out (hS g hg)).1) (fun g hg e => h.sep g (hS g e) (.inl hg)) (fun i a s F hi g hg e => h.sep g (hS g e) (.inr ⟨i, a, s, F, hi, hg⟩)), h.r.may⟩, fun g hg hr => ?_, ⟨fun hg => ?_, h.pf.2⟩, h.pn⟩
  · rcases hf g hg with k | k
    · exact h.sep g k hr
    · have := (h.r.out hr).2; omega
  · rcases hf _ hg with k | k
    · exact h.pf.1 k
    · have := h.head.lt; omega
theorem PL.doc (h : PL w0 p hd X Y sh rsh att ratt W) (r : RH w0 Y rsh' ratt' W') (mv : Moved (Foot Y.foot ratt) (Foot Y.foot ratt') W W') : PL w0 p hd X Y sh rsh' att ratt' W' := by
  obtain ⟨⟨S, hS, u⟩, hf⟩ := mv
  refine ⟨h.head.upd u (fun e => h.pf.2 (hS _ e)), ⟨h.m.m.free u (fun g hg => (h.r.out (hS g hg)).1) (fun g hg e => h.sep g (.inl hg) (hS g e)) (fun i a s F hi g hg e => h.sep g (.inr ⟨i, a, s, F, hi, hg⟩) (hS g e)), h.m.may⟩, r, fun g hg hr => ?_, ⟨h.pf.1, fun hg => ?_⟩, h.pn⟩
  · rcases hf g hr with k | k
    · exact h.sep g hg k
    · have := (h.m.out hg).2; omega
  · rcases hf _ hg with k | k
    · exact h.pf.2 k
    · have := h.head.lt; omega
theorem PL.free0 (h : PL w0 p hd X Y sh rsh att ratt W) (u : Upd [] W W') : PL w0 p hd X Y sh rsh att ratt W' :=
  ⟨h.head.upd u (by simp), h.m.free0 u, h.r.free0 u, h.sep, h.pf, h.pn⟩
/-- a write into the play's own block -/
theorem PL.put (h : PL w0 p hd X Y sh rsh att ratt W) (o : Nat) (v : Value) : PL w0 p (hd.set o v) X Y sh rsh att ratt (W.setCell ⟨p, o, none⟩ v) := by
  have u : Upd [p] W (W.setCell ⟨p, o, none⟩ v) := (Upd.refl _ _).setCell (.inl (by simp)) _
  refine ⟨h.head.set o v, ⟨h.m.m.free u (fun g hg => by simp at hg; subst hg; exact h.pn) (fun g hg e => by simp at e; subst e; exact h.pf.1 (.inl hg)) (fun i a s F hi g hg e => by simp at e; subst e; exact h.pf.1 (.inr ⟨i, a, s, F, hi, hg⟩)), h.m.may⟩,
    ⟨h.r.m.free u (fun g hg => by simp at hg; subst hg; exact h.pn) (fun g hg e => by simp at e; subst e; exact h.pf.2 (.inl hg)) (fun i a s F hi g hg e => by simp at e; subst e; exact h.pf.2 (.inr ⟨i, a, s, F, hi, hg⟩)), h.r.may⟩, h.sep, h.pf, h.pn⟩
theorem PL.low (h : PL w0 p hd X Y sh rsh att ratt W) : Upd [] w0 W := h.m.m.U

/-- what a call does, plainly -/
inductive Kd where
  | get (x : Int)
  | put (x v : Int)
  | fin
  | step
def callO (k : Kd) (o : Option AS) (sh : Sh) : Trn × Int × Option AS × Sh :=
  match o with
  | none => (trnNone, 1, none, sh)
  | some s => match k with
    | .get x => ((getS s sh x).1, (getS s sh x).2.1, some (getS s sh x).2.2, sh)
    | .put x v => ((putS s sh x v).1, (putS s sh x v).2.1, some (putS s sh x v).2.2, sh)
    | .fin => ((endS s sh).1, (endS s sh).2.1, some (endS s sh).2.2.1, (endS s sh).2.2.2)
    | .step => ((stepS s sh).1, (stepS s sh).2.1, some (stepS s sh).2.2.1, (stepS s sh).2.2.2)

/-- what a call of the program leaves -/
def POk (w0 W : World) (X : SX) (att : Atts) (i : Nat) (T : Trn × Int × Option AS × Sh) (e : Ending) (W' : World) : Prop :=
  e = .returned (.tuple #[T.1.val, .int .i64 T.2.1]) ∧ ∃ att', PH w0 X T.2.2.2 att' W' ∧ Moved (Foot X.foot att) (Foot X.foot att') W W' ∧ (∀ j, ptrO (att' j) = ptrO (att j)) ∧ stO (att' i) = T.2.2.1 ∧ ∀ j, j ≠ i → att' j = att j
def ROk (w0 W : World) (Y : RX) (att : Atts) (i : Nat) (T : Trn × Int × Option AS × Sh) (e : Ending) (W' : World) : Prop :=
  e = .returned (.tuple #[T.1.val, .int .i64 T.2.1]) ∧ ∃ att', RH w0 Y T.2.2.2 att' W' ∧ Moved (Foot Y.foot att) (Foot Y.foot att') W W' ∧ (∀ j, ptrO (att' j) = ptrO (att j)) ∧ stO (att' i) = T.2.2.1 ∧ ∀ j, j ≠ i → att' j = att j

theorem ptr_upd1 {i a : Nat} {s s' : AS} {F F' : List Nat} (hi : att i = some (a, s, F)) (j : Nat) : ptrO (upd1 att i (some (a, s', F')) j) = ptrO (att j) := by
  by_cases h : j = i
  · subst h; rw [upd1_same, hi]; rfl
  · rw [upd1_other _ _ h]
theorem PH.next (h : PH w0 X sh att W) {i a : Nat} {s s' : AS} {F F' : List Nat} (hi : att i = some (a, s, F)) (hL : LX W' X sh' a s' F') (u : Upd (own X a F) W W') (hF : ∀ g ∈ F', g ∈ F ∨ W.heap.size ≤ g) (hM : May s') :
    PH w0 X sh' (upd1 att i (some (a, s', F'))) W' ∧ Moved (Foot X.foot att) (Foot X.foot (upd1 att i (some (a, s', F')))) W W' := by
  refine ⟨⟨h.m.next i hi hL u hF (upd1_same _ _ _) (fun j hj => upd1_other _ _ hj), fun j b t G hb => ?_⟩, ⟨_, fun g hg => ?_, u⟩, fun g hg => ?_⟩
  · by_cases hj : j = i
    · subst hj; rw [upd1_same] at hb; cases hb; exact hM
    · rw [upd1_other _ _ hj] at hb; exact h.may j b t G hb
  · simp only [own, List.mem_cons, List.mem_append] at hg
    rcases hg with k | k | k
    · exact .inr ⟨i, a, s, F, hi, by simp [k]⟩
    · exact .inr ⟨i, a, s, F, hi, by simp [k]⟩
    · exact .inl k
  · rcases hg with k | ⟨j, b, t, G, hb, k⟩
    · exact .inl (.inl k)
    · by_cases hj : j = i
      · subst hj
        rw [upd1_same] at hb
        cases hb
        rcases List.mem_cons.1 k with e | e
        · exact .inl (.inr ⟨_, _, _, _, hi, by simp [e]⟩)
        · rcases hF g e with q | q
          · exact .inl (.inr ⟨_, _, _, _, hi, by simp [q]⟩)
          · exact .inr q
      · rw [upd1_other _ _ hj] at hb
        exact .inl (.inr ⟨j, b, t, G, hb, k⟩)
theorem RH.next (h : RH w0 Y sh att W) {i a : Nat} {s s' : AS} {F F' : List Nat} (hi : att i = some (a, s, F)) (hL : RL W' Y sh' a s' F') (u : Upd (rown Y a F) W W') (hF : ∀ g ∈ F', g ∈ F ∨ W.heap.size ≤ g) (hM : May s') :
    RH w0 Y sh' (upd1 att i (some (a, s', F'))) W' ∧ Moved (Foot Y.foot att) (Foot Y.foot (upd1 att i (some (a, s', F')))) W W' := by
  refine ⟨⟨h.m.next i hi hL u hF (upd1_same _ _ _) (fun j hj => upd1_other _ _ hj), fun j b t G hb => ?_⟩, ⟨_, fun g hg => ?_, u⟩, fun g hg => ?_⟩
  · by_cases hj : j = i
    · subst hj; rw [upd1_same] at hb; cases hb; exact hM
    · rw [upd1_other _ _ hj] at hb; exact h.may j b t G hb
  · simp only [rown, List.mem_cons, List.mem_append] at hg
    rcases hg with k | k | k
    · exact .inr ⟨i, a, s, F, hi, by simp [k]⟩
    · exact .inr ⟨i, a, s, F, hi, by simp [k]⟩
    · exact .inl k
  · rcases hg with k | ⟨j, b, t, G, hb, k⟩
    · exact .inl (.inl k)
    · by_cases hj : j = i
      · subst hj
        rw [upd1_same] at hb
        cases hb
        rcases List.mem_cons.1 k with e | e
        · exact .inl (.inr ⟨_, _, _, _, hi, by simp [e]⟩)
        · rcases hF g e with q | q
          · exact .inl (.inr ⟨_, _, _, _, hi, by simp [q]⟩)
          · exact .inr q
      · rw [upd1_other _ _ hj] at hb
        exact .inl (.inr ⟨j, b, t, G, hb, k⟩)
theorem pok_x (h : PH w0 X sh att W) {i a : Nat} {s s' : AS} {F : List Nat} {T : Trn} {r : Int} {e : Ending} (hi : att i = some (a, s, F)) (hM : May s') (hx : XOk W X a F T r s' sh' e W') : POk w0 W X att i (T, r, some s', sh') e W' := by
  obtain ⟨he, F', hL, hu, hF⟩ := hx
  obtain ⟨h1, h2⟩ := h.next hi hL hu hF hM
  exact ⟨he, _, h1, h2, ptr_upd1 hi, by rw [upd1_same]; rfl, fun j hj => upd1_other _ _ hj⟩
theorem pok_no (h : PH w0 X sh att W) {i : Nat} {e : Ending} (hi : att i = none) (he : e = .returned (.tuple #[trnNone.val, .int .i64 1])) (hu : Upd [] W W') : POk w0 W X att i (trnNone, 1, none, sh) e W' :=
  ⟨he, att, h.free0 hu, Moved.of0 hu, fun _ => rfl, by rw [hi]; rfl, fun _ _ => rfl⟩
theorem rok_x (h : RH w0 Y sh att W) {i a : Nat} {s s' : AS} {F : List Nat} {T : Trn} {r : Int} {e : Ending} (hi : att i = some (a, s, F)) (hM : May s') (hx : RCall W Y a F T r s' sh' e W') : ROk w0 W Y att i (T, r, some s', sh') e W' := by
  obtain ⟨he, F', hL, hu, hF⟩ := hx
  obtain ⟨h1, h2⟩ := h.next hi hL hu hF hM
  exact ⟨he, _, h1, h2, ptr_upd1 hi, by rw [upd1_same]; rfl, fun j hj => upd1_other _ _ hj⟩
theorem rok_no (h : RH w0 Y sh att W) {i : Nat} {e : Ending} (hi : att i = none) (he : e = .returned (.tuple #[trnNone.val, .int .i64 1])) (hu : Upd [] W W') : ROk w0 W Y att i (trnNone, 1, none, sh) e W' :=
  ⟨he, att, h.free0 hu, Moved.of0 hu, fun _ => rfl, by rw [hi]; rfl, fun _ _ => rfl⟩

theorem XAt.par (h : XAt W X sh) : sh.clock % 2 = 0 ∨ sh.clock % 2 = 1 := let ⟨_, _, h⟩ := h; h.wide.par
theorem pget (h : PH w0 X sh att W) (i : Nat) (x : Int) (hx : 0 ≤ x ∧ x < 18446744073709551616) : Calls Try.prog 14 #[.pointer (ptrO (att i)), .int .u64 x] W (POk w0 W X att i (callO (.get x) (stO (att i)) sh)) := by
  cases hi : att i with
  | none => exact (get_no (.inl rfl) x).mono fun e w' ⟨he, hu⟩ => pok_no h hi he hu
  | some t =>
    obtain ⟨a, s, F⟩ := t
    exact (get_x (h.m.hL i a s F hi) (h.may i a s F hi) x hx).mono fun e w' k => pok_x h hi (by first | exact may_get (h.may i a s F hi) _ | exact may_put (h.may i a s F hi) _ _ | exact may_end (h.may i a s F hi) | exact may_step (h.may i a s F hi) (h.m.x.par)) k
theorem pput (h : PH w0 X sh att W) (i : Nat) (x v : Int) (hx : 0 ≤ x ∧ x < 18446744073709551616) (hv : 0 ≤ v ∧ v < 18446744073709551616) : Calls Try.prog 16 #[.pointer (ptrO (att i)), .int .u64 x, .int .u64 v] W (POk w0 W X att i (callO (.put x v) (stO (att i)) sh)) := by
  cases hi : att i with
  | none => exact (put_no (.inl rfl) x v).mono fun e w' ⟨he, hu⟩ => pok_no h hi he hu
  | some t =>
    obtain ⟨a, s, F⟩ := t
    exact (put_x (h.m.hL i a s F hi) (h.may i a s F hi) x v hx hv).mono fun e w' k => pok_x h hi (by first | exact may_get (h.may i a s F hi) _ | exact may_put (h.may i a s F hi) _ _ | exact may_end (h.may i a s F hi) | exact may_step (h.may i a s F hi) (h.m.x.par)) k
theorem pend (h : PH w0 X sh att W) (i : Nat) : Calls Try.prog 49 #[.pointer (ptrO (att i))] W (POk w0 W X att i (callO .fin (stO (att i)) sh)) := by
  cases hi : att i with
  | none => exact (end_no (.inl rfl)).mono fun e w' ⟨he, hu⟩ => pok_no h hi he hu
  | some t =>
    obtain ⟨a, s, F⟩ := t
    exact (end_x (h.m.hL i a s F hi) (h.may i a s F hi)).mono fun e w' k => pok_x h hi (by first | exact may_get (h.may i a s F hi) _ | exact may_put (h.may i a s F hi) _ _ | exact may_end (h.may i a s F hi) | exact may_step (h.may i a s F hi) (h.m.x.par)) k
theorem pstep (h : PH w0 X sh att W) (i : Nat) : Calls Try.prog 15 #[.pointer (ptrO (att i))] W (POk w0 W X att i (callO .step (stO (att i)) sh)) := by
  cases hi : att i with
  | none => exact (step_no (.inl rfl)).mono fun e w' ⟨he, hu⟩ => pok_no h hi he hu
  | some t =>
    obtain ⟨a, s, F⟩ := t
    exact (step_x (h.m.hL i a s F hi) (h.may i a s F hi)).mono fun e w' k => pok_x h hi (by first | exact may_get (h.may i a s F hi) _ | exact may_put (h.may i a s F hi) _ _ | exact may_end (h.may i a s F hi) | exact may_step (h.may i a s F hi) (h.m.x.par)) k
theorem rget (h : RH w0 Y sh att W) (i : Nat) (x : Int) (hx : 0 ≤ x ∧ x < 18446744073709551616) : Calls Try.prog 98 #[.pointer (ptrO (att i)), .pointer (some ⟨Y.wb, 0, none⟩), .int .u64 x] W (ROk w0 W Y att i (callO (.get x) (stO (att i)) sh)) := by
  cases hi : att i with
  | none => exact (rget_no W _ x).mono fun e w' ⟨he, hu⟩ => rok_no h hi he hu
  | some t =>
    obtain ⟨a, s, F⟩ := t
    obtain ⟨acc, rv, wv, hL⟩ := h.m.hL i a s F hi
    exact (rget_code hL (h.may i a s F hi) x hx).mono fun e w' k => rok_x h hi (by first | exact may_get (h.may i a s F hi) _ | exact may_put (h.may i a s F hi) _ _ | exact may_end (h.may i a s F hi) | exact may_step (h.may i a s F hi) hL.sh.wide.par) k
theorem rput (h : RH w0 Y sh att W) (i : Nat) (x v : Int) (hx : 0 ≤ x ∧ x < 18446744073709551616) (hv : 0 ≤ v ∧ v < 18446744073709551616) : Calls Try.prog 99 #[.pointer (ptrO (att i)), .pointer (some ⟨Y.wb, 0, none⟩), .int .u64 x, .int .u64 v] W (ROk w0 W Y att i (callO (.put x v) (stO (att i)) sh)) := by
  cases hi : att i with
  | none => exact (rput_no W _ x v).mono fun e w' ⟨he, hu⟩ => rok_no h hi he hu
  | some t =>
    obtain ⟨a, s, F⟩ := t
    obtain ⟨acc, rv, wv, hL⟩ := h.m.hL i a s F hi
    exact (rput_code hL (h.may i a s F hi) x v hx hv).mono fun e w' k => rok_x h hi (by first | exact may_get (h.may i a s F hi) _ | exact may_put (h.may i a s F hi) _ _ | exact may_end (h.may i a s F hi) | exact may_step (h.may i a s F hi) hL.sh.wide.par) k
theorem rend (h : RH w0 Y sh att W) (i : Nat) : Calls Try.prog 100 #[.pointer (ptrO (att i)), .pointer (some ⟨Y.wb, 0, none⟩)] W (ROk w0 W Y att i (callO .fin (stO (att i)) sh)) := by
  cases hi : att i with
  | none => exact (rend_no W _).mono fun e w' ⟨he, hu⟩ => rok_no h hi he hu
  | some t =>
    obtain ⟨a, s, F⟩ := t
    obtain ⟨acc, rv, wv, hL⟩ := h.m.hL i a s F hi
    exact (rend_code hL (h.may i a s F hi)).mono fun e w' k => rok_x h hi (by first | exact may_get (h.may i a s F hi) _ | exact may_put (h.may i a s F hi) _ _ | exact may_end (h.may i a s F hi) | exact may_step (h.may i a s F hi) hL.sh.wide.par) k
theorem rstep (h : RH w0 Y sh att W) (i : Nat) : Calls Try.prog 102 #[.pointer (ptrO (att i)), .pointer (some ⟨Y.wb, 0, none⟩)] W (ROk w0 W Y att i (callO .step (stO (att i)) sh)) := by
  cases hi : att i with
  | none => exact (rstep_no W _).mono fun e w' ⟨he, hu⟩ => rok_no h hi he hu
  | some t =>
    obtain ⟨a, s, F⟩ := t
    obtain ⟨acc, rv, wv, hL⟩ := h.m.hL i a s F hi
    exact (rstep_code hL (h.may i a s F hi)).mono fun e w' k => rok_x h hi (by first | exact may_get (h.may i a s F hi) _ | exact may_put (h.may i a s F hi) _ _ | exact may_end (h.may i a s F hi) | exact may_step (h.may i a s F hi) hL.sh.wide.par) k
end
end Go.Proofs.Ythfeljongackcaa
set_option linter.unusedSimpArgs false
set_option linter.unusedVariables false
set_option maxRecDepth 100000
namespace Go.Proofs.Ythfeljongackcaa
open Go.RowKit
open Go.Maps
/-- the play's cells -/
def headP (X : SX) (Y : RX) (att ratt : Atts) (held : Bool) (tk : Int) : List Value :=
  [.pointer (some ⟨X.ra, 0, none⟩), .pointer (some ⟨X.ca, 0, none⟩), .pointer (some ⟨Y.wb, 0, none⟩), .pointer (ptrO (att 0)), .pointer (ptrO (att 1)), .pointer (ptrO (att 2)), .pointer (ptrO (ratt 0)), .pointer (ptrO (ratt 1)), .pointer (ptrO (ratt 2)), .bool held, .int .u64 tk]
theorem head_att {X : SX} {Y : RX} {att ratt : Atts} {held : Bool} {tk : Int} {i : Nat} (hi : i < 3) : (headP X Y att ratt held tk)[3 + i]? = some (.pointer (ptrO (att i))) := by
  have : i = 0 ∨ i = 1 ∨ i = 2 := by omega
  rcases this with rfl | rfl | rfl <;> rfl
theorem head_ratt {X : SX} {Y : RX} {att ratt : Atts} {held : Bool} {tk : Int} {i : Nat} (hi : i < 3) : (headP X Y att ratt held tk)[6 + i]? = some (.pointer (ptrO (ratt i))) := by
  have : i = 0 ∨ i = 1 ∨ i = 2 := by omega
  rcases this with rfl | rfl | rfl <;> rfl
/-- the play between two steps -/
structure PS (w0 : World) (p : Nat) (X : SX) (Y : RX) (sh : Sh) (att ratt : Atts) (held : Bool) (tk : Int) (W : World) : Prop where
  pl : PL w0 p (headP X Y att ratt held tk) X Y sh sh att ratt W
  same : ∀ i, stO (att i) = stO (ratt i)
  tkw : 0 ≤ tk ∧ tk < 18446744073709551616
def stepC (kind who dst addr word : Int) : List Value := [.int .i64 kind, .int .i64 who, .int .i64 dst, .int .u64 addr, .int .u64 word]
/-- an own call's outcome -/
def OwnOk (w0 : World) (p : Nat) (X : SX) (Y : RX) (held : Bool) (tk : Int) (e : Ending) (W' : World) : Prop :=
  e = .returned (.bool true) ∧ ∃ sh' att' ratt', PS w0 p X Y sh' att' ratt' held tk W'
theorem headP_eq {X : SX} {Y : RX} {att att' ratt ratt' : Atts} {held : Bool} {tk : Int} (h : ∀ j, ptrO (att' j) = ptrO (att j)) (k : ∀ j, ptrO (ratt' j) = ptrO (ratt j)) : headP X Y att ratt held tk = headP X Y att' ratt' held tk := by
  unfold headP; rw [h 0, h 1, h 2, k 0, k 1, k 2]
theorem Moved.not {P P' : Nat → Prop} {W W' : World} (h : Moved P P' W W') {b : Nat} (hb : ¬ P b) (hl : b < W.heap.size) : ¬ P' b := fun e => by
  rcases h.f b e with k | k
  · exact hb k
  · omega
theorem PL.scratch {w0 W W' : World} {X : SX} {Y : RX} {sh rsh : Sh} {att ratt : Atts} {p : Nat} {hd : List Value} {b : Nat} (h : PL w0 p hd X Y sh rsh att ratt W) (u : Upd [b] W W') (h0 : w0.heap.size ≤ b) (hX : ¬ Foot X.foot att b) (hY : ¬ Foot Y.foot ratt b) (hp : p ≠ b) : PL w0 p hd X Y sh rsh att ratt W' :=
  ⟨h.head.upd u (by simpa using hp), ⟨h.m.m.free u (fun g hg => by simp at hg; subst hg; exact h0) (fun g hg e => by simp at e; subst e; exact hX (.inl hg)) (fun i a s F hi g hg e => by simp at e; subst e; exact hX (.inr ⟨i, a, s, F, hi, hg⟩)), h.m.may⟩,
    ⟨h.r.m.free u (fun g hg => by simp at hg; subst hg; exact h0) (fun g hg e => by simp at e; subst e; exact hY (.inl hg)) (fun i a s F hi g hg e => by simp at e; subst e; exact hY (.inr ⟨i, a, s, F, hi, hg⟩)), h.r.may⟩, h.sep, h.pf, h.pn⟩
-- the boxes: the step, two turns
-- behind the program's call: names, blocks
set_option maxHeartbeats 1000000 in
theorem own_get {w0 W : World} {p : Nat} {X : SX} {Y : RX} {sh : Sh} {att ratt : Atts} {held : Bool} {tk : Int} (h : PS w0 p X Y sh att ratt held tk W) (i : Nat) (hi : i < 3) (who dst addr word : Int) (ha : 0 ≤ addr ∧ addr < 18446744073709551616) (hv : 0 ≤ word ∧ word < 18446744073709551616) :
    Calls Try.prog 64 #[.pointer (some ⟨p, 0, none⟩), .int .i64 i, .agg (stepC 2 who dst addr word).toArray] W (OwnOk w0 p X Y held tk) := by
  have hlt : ∀ g, Foot X.foot att g → g < W.heap.size := fun g hg => (h.pl.m.out hg).2
  have hrlt : ∀ g, Foot Y.foot ratt g → g < W.heap.size := fun g hg => (h.pl.r.out hg).2
  have hpl := h.pl.head.lt
  have hw0 := h.pl.low.size
  have hsame := h.same i
  have htk := h.tkw
  have hsm := h.same
  obtain ⟨W1, hW1⟩ : ∃ W1, ((W.alloc (.cells (stepC 2 who dst addr word).toArray 79)).alloc (.cells turn0.toArray 36)).alloc (.cells turn0.toArray 36) = W1 := ⟨_, rfl⟩
  have u1 : Upd [] W W1 := by rw [← hW1]; exact (((Upd.refl [] _).alloc _).alloc _).alloc _
  have B5 : Blk W1 W.heap.size (stepC 2 who dst addr word) 79 := by rw [← hW1]; exact ((Blk.new W _ _).alloc _).alloc _
  have A1 : Blk W1 (W.heap.size + 1) turn0 36 := by
    have := (Blk.new (W.alloc (.cells (stepC 2 who dst addr word).toArray 79)) turn0 36).alloc (.cells turn0.toArray 36)
    rw [← hW1]; simpa using this
  have A2 : Blk W1 (W.heap.size + 1 + 1) turn0 36 := by
    have := Blk.new ((W.alloc (.cells (stepC 2 who dst addr word).toArray 79)).alloc (.cells turn0.toArray 36)) turn0 36
    rw [← hW1]; simpa using this
  have hsz : W.heap.size + 2 < W1.heap.size := A2.lt
  have P1 := h.pl.free0 u1
  have HX := Lib.hid (show ∀ b, W.heap.size ≤ b → ¬ Foot X.foot att b from fun b hb e => by have := hlt b e; omega)
  have HY := Lib.hid (show ∀ b, W.heap.size ≤ b → ¬ Foot Y.foot ratt b from fun b hb e => by have := hrlt b e; omega)
  have HLT := Lib.hid hlt
  have HRLT := Lib.hid hrlt
  have HSAME := Lib.hid hsame
  have HSM := Lib.hid hsm
  clear hlt hrlt hsame hsm u1 h
  simp only [turn0, trnNone, evNone, Trn.cells, stepC] at hW1
  have k0 := B5.cell 0 rfl
  have hi3 : (i : Int) < 3 := by omega
  have cp := P1.head.cell (3 + i) (head_att hi)
  simp only [stepC]
  refine calls_all fun K hK => ?_
  go_enter Try.func64, Try.ntmps64
  go_wp2_with fail
  clear hW1 k0 cp
  have ud := (Upd.refl [] W1).drew
  replace P1 := P1.free0 ud
  replace B5 := B5.drew
  replace A1 := A1.drew
  replace A2 := A2.drew
  have c1 := P1.head.cell (3 + i) (head_att hi)
  have c2 := B5.cell 3 rfl
  refine wp_region_ord (fun w' => w'.cell? ⟨p, 3 + i, none⟩ = some (.pointer (ptrO (att i))) ∧ w'.cell? ⟨W.heap.size, 3, none⟩ = some (.int .u64 addr)) [0, 1, 2, 3, 4, 5, 6, 7, 8, 9, 10, 11, 12, 13] (by kernel_rfl) (by kernel_rfl) ⟨c1, c2⟩ ?_
  have hszd : W.heap.size + 2 < W1.drew.heap.size := hsz
  clear ud c1 c2 hsz
  generalize W1.drew = W2 at P1 B5 A1 A2 hszd ⊢
  repeat
    first
      | (refine wpL_skip rfl (by rfl) ?_)
      | ((refine wpL_take (v := ?_) rfl rfl (by rfl) ?_ ?_); rotate_left 1; (· ((intro w hSw; (try dsimp only at hSw); go_simp); try with_reducible rfl)))
    try simp only [Act.put, List.setIfInBounds_toArray, List.set_cons_zero, List.set_cons_succ]
  refine wpL_eff rfl (by kernel_rfl) (by rfl) (fun K2 hK2 => ?_)
  go_simp
  have hc := pget P1.m i addr ha
  generalize hT : callO (.get addr) (stO (att i)) sh = T at hc
  have HT := Lib.hid (show callO (.get addr) (stO (ratt i)) sh = T by rw [← HSAME.out]; exact hT)
  clear hT
  refine hc.mono ?_
  clear hc
  rintro e W3 ⟨rfl, att', m3, mv3, hp3, hs3, ho3⟩
  have P3 := P1.prog m3 mv3
  obtain ⟨S3, hS3, u3⟩ := mv3.u
  have B5 := B5.upd u3 (fun e => by have := HLT.out _ (hS3 _ e); omega)
  have A1 := A1.upd u3 (fun e => by have := HLT.out _ (hS3 _ e); omega)
  have A2 := A2.upd u3 (fun e => by have := HLT.out _ (hS3 _ e); omega)
  have HX' := Lib.hid (show ∀ b, W.heap.size ≤ b → b < W.heap.size + 3 → ¬ Foot X.foot att' b from fun b h1 h2 => mv3.not (HX.out b h1) (by omega))
  have hsz3 := u3.size
  have HS3 := Lib.hid hs3
  have HO3 := Lib.hid ho3
  have HP3 := Lib.hid hp3
  clear m3 mv3 hS3 u3 hs3 ho3 hp3 P1
  obtain ⟨⟨to_, tw, ⟨tk2, ta, tv, tb⟩⟩, r, s', sh3⟩ := T
  simp only [Trn.val]
  refine hK2.out _ _ ⟨P3.head.cell (3 + i) (head_att hi), B5.cell 3 rfl⟩ ?_
  clear hK2 K2
  repeat
    first
      | (refine wpL_skip rfl (by rfl) ?_)
      | ((refine wpL_take (v := ?_) rfl rfl (by rfl) ?_ ?_); rotate_left 1; (· ((intro w hSw; (try dsimp only at hSw); go_simp); try with_reducible rfl)))
    try simp only [Act.put, List.setIfInBounds_toArray, List.set_cons_zero, List.set_cons_succ]
  have q0 := (A1).cell 0 rfl
  have q1 := (A1).cell 1 rfl
  have q2 := (A1).cell 2 rfl
  have q3 := (A1).cell 3 rfl
  have q4 := (A1).cell 4 rfl
  have q5 := (A1).cell 5 rfl
  have q6 := (A1).cell 6 rfl
  have q7 := (A1).cell 7 rfl
  have g0 := (A1).free 0
  have g1 := (A1).free 1
  have g2 := (A1).free 2
  have g3 := (A1).free 3
  have g4 := (A1).free 4
  have g5 := (A1).free 5
  have g6 := (A1).free 6
  have g7 := (A1).free 7
  refine wpL_eff rfl (by kernel_rfl) (by rfl) (fun K2 hK2 => ?_)
  go_simp
  have uA : Upd [W.heap.size + 1] W3 ((((((((W3.setCell ⟨W.heap.size + 1, 0, none⟩ (.int .i64 to_)).setCell ⟨W.heap.size + 1, 1, none⟩ (.int .u64 tw)).setCell ⟨W.heap.size + 1, 2, none⟩ (.int .i64 0)).setCell ⟨W.heap.size + 1, 3, none⟩ (.int .i64 tk2)).setCell ⟨W.heap.size + 1, 4, none⟩ (.int .u64 ta)).setCell ⟨W.heap.size + 1, 5, none⟩ (.int .u64 tv)).setCell ⟨W.heap.size + 1, 6, none⟩ (.bool tb)).setCell ⟨W.heap.size + 1, 7, none⟩ (.int .i64 0)) :=
    ((((((((Upd.refl _ _).setCell (.inl (by simp)) _).setCell (.inl (by simp)) _).setCell (.inl (by simp)) _).setCell (.inl (by simp)) _).setCell (.inl (by simp)) _).setCell (.inl (by simp)) _).setCell (.inl (by simp)) _).setCell (.inl (by simp)) _
  have P4 := P3.scratch uA (by omega) (HX'.out _ (by omega) (by omega)) (HY.out _ (by omega)) (by omega)
  have B5 := B5.upd uA (by simp)
  have A2 := A2.upd uA (by simp)
  have A1 := turn_set A1 rfl (⟨to_, tw, ⟨tk2, ta, tv, tb⟩⟩ : Trn)
  dsimp only at A1
  have hsz4 := uA.size
  clear uA P3
  refine hK2.out _ _ ⟨P4.head.cell (3 + i) (head_att hi), B5.cell 3 rfl⟩ ?_
  clear q0 q1 q2 q3 q4 q5 q6 q7 g0 g1 g2 g3 g4 g5 g6 g7
  clear hK2 K2
  repeat
    first
      | (refine wpL_skip rfl (by rfl) ?_)
      | ((refine wpL_take (v := ?_) rfl rfl (by rfl) ?_ ?_); rotate_left 1; (· ((intro w hSw; (try dsimp only at hSw); go_simp); try with_reducible rfl)))
    try simp only [Act.put, List.setIfInBounds_toArray, List.set_cons_zero, List.set_cons_succ]
  refine wpO_end (NoPanic.normal ?_)
  generalize ((((((((W3.setCell ⟨W.heap.size + 1, 0, none⟩ (.int .i64 to_)).setCell ⟨W.heap.size + 1, 1, none⟩ (.int .u64 tw)).setCell ⟨W.heap.size + 1, 2, none⟩ (.int .i64 0)).setCell ⟨W.heap.size + 1, 3, none⟩ (.int .i64 tk2)).setCell ⟨W.heap.size + 1, 4, none⟩ (.int .u64 ta)).setCell ⟨W.heap.size + 1, 5, none⟩ (.int .u64 tv)).setCell ⟨W.heap.size + 1, 6, none⟩ (.bool tb)).setCell ⟨W.heap.size + 1, 7, none⟩ (.int .i64 0)) = W4 at P4 B5 A1 A2 hsz4 ⊢
  go_wp2_with fail
  have ud := (Upd.refl [] W4).drew
  replace P4 := P4.free0 ud
  replace B5 := B5.drew
  replace A1 := A1.drew
  replace A2 := A2.drew
  have c1 := P4.head.cell (6 + i) (head_ratt hi)
  have c2 := P4.head.cell 2 rfl
  have c3 := B5.cell 3 rfl
  refine wp_region_ord (fun w' => w'.cell? ⟨p, 6 + i, none⟩ = some (.pointer (ptrO (ratt i))) ∧ w'.cell? ⟨p, 2, none⟩ = some (.pointer (some ⟨Y.wb, 0, none⟩)) ∧ w'.cell? ⟨W.heap.size, 3, none⟩ = some (.int .u64 addr)) [0, 1, 2, 3, 4, 5, 6, 7, 8, 9, 10, 11, 12, 13, 14, 15, 16, 17] (by kernel_rfl) (by kernel_rfl) ⟨c1, c2, c3⟩ ?_
  clear ud c1 c2 c3
  replace hsz4 : W3.heap.size ≤ W4.drew.heap.size := hsz4
  generalize W4.drew = W7 at P4 B5 A1 A2 hsz4 ⊢
  repeat
    first
      | (refine wpL_skip rfl (by rfl) ?_)
      | ((refine wpL_take (v := ?_) rfl rfl (by rfl) ?_ ?_); rotate_left 1; (· ((intro w hSw; (try dsimp only at hSw); go_simp); try with_reducible rfl)))
    try simp only [Act.put, List.setIfInBounds_toArray, List.set_cons_zero, List.set_cons_succ]
  refine wpL_eff rfl (by kernel_rfl) (by rfl) (fun K2 hK2 => ?_)
  go_simp
  have hc := rget P4.r i addr ha
  rw [HT.out] at hc
  refine hc.mono ?_
  clear hc HT
  rintro e W5 ⟨rfl, ratt', m5, mv5, hp5, hs5, ho5⟩
  have P5 := P4.doc m5 mv5
  obtain ⟨S5, hS5, u5⟩ := mv5.u
  have B5 := B5.upd u5 (fun e => by have := HRLT.out _ (hS5 _ e); omega)
  have A1 := A1.upd u5 (fun e => by have := HRLT.out _ (hS5 _ e); omega)
  have A2 := A2.upd u5 (fun e => by have := HRLT.out _ (hS5 _ e); omega)
  have HY' := Lib.hid (show ∀ b, W.heap.size ≤ b → b < W.heap.size + 3 → ¬ Foot Y.foot ratt' b from fun b h1 h2 => mv5.not (HY.out b h1) (by omega))
  have hsz5 := u5.size
  have HS5 := Lib.hid hs5
  have HO5 := Lib.hid ho5
  have HP5 := Lib.hid hp5
  clear m5 mv5 hS5 u5 hs5 ho5 hp5 P4
  simp only [Trn.val]
  refine hK2.out _ _ ⟨P5.head.cell (6 + i) (head_ratt hi), P5.head.cell 2 rfl, B5.cell 3 rfl⟩ ?_
  clear hK2 K2
  repeat
    first
      | (refine wpL_skip rfl (by rfl) ?_)
      | ((refine wpL_take (v := ?_) rfl rfl (by rfl) ?_ ?_); rotate_left 1; (· ((intro w hSw; (try dsimp only at hSw); go_simp); try with_reducible rfl)))
    try simp only [Act.put, List.setIfInBounds_toArray, List.set_cons_zero, List.set_cons_succ]
  have q0 := (A2).cell 0 rfl
  have q1 := (A2).cell 1 rfl
  have q2 := (A2).cell 2 rfl
  have q3 := (A2).cell 3 rfl
  have q4 := (A2).cell 4 rfl
  have q5 := (A2).cell 5 rfl
  have q6 := (A2).cell 6 rfl
  have q7 := (A2).cell 7 rfl
  have g0 := (A2).free 0
  have g1 := (A2).free 1
  have g2 := (A2).free 2
  have g3 := (A2).free 3
  have g4 := (A2).free 4
  have g5 := (A2).free 5
  have g6 := (A2).free 6
  have g7 := (A2).free 7
  refine wpL_eff rfl (by kernel_rfl) (by rfl) (fun K2 hK2 => ?_)
  go_simp
  have uB : Upd [W.heap.size + 1 + 1] W5 ((((((((W5.setCell ⟨W.heap.size + 1 + 1, 0, none⟩ (.int .i64 to_)).setCell ⟨W.heap.size + 1 + 1, 1, none⟩ (.int .u64 tw)).setCell ⟨W.heap.size + 1 + 1, 2, none⟩ (.int .i64 0)).setCell ⟨W.heap.size + 1 + 1, 3, none⟩ (.int .i64 tk2)).setCell ⟨W.heap.size + 1 + 1, 4, none⟩ (.int .u64 ta)).setCell ⟨W.heap.size + 1 + 1, 5, none⟩ (.int .u64 tv)).setCell ⟨W.heap.size + 1 + 1, 6, none⟩ (.bool tb)).setCell ⟨W.heap.size + 1 + 1, 7, none⟩ (.int .i64 0)) :=
    ((((((((Upd.refl _ _).setCell (.inl (by simp)) _).setCell (.inl (by simp)) _).setCell (.inl (by simp)) _).setCell (.inl (by simp)) _).setCell (.inl (by simp)) _).setCell (.inl (by simp)) _).setCell (.inl (by simp)) _).setCell (.inl (by simp)) _
  have P6 := P5.scratch uB (by omega) (HX'.out _ (by omega) (by omega)) (HY'.out _ (by omega) (by omega)) (by omega)
  have B5 := B5.upd uB (fun h => by simp at h; omega)
  have A1 := A1.upd uB (fun h => by simp at h)
  have A2 := turn_set A2 rfl (⟨to_, tw, ⟨tk2, ta, tv, tb⟩⟩ : Trn)
  dsimp only at A2
  clear uB P5
  refine hK2.out _ _ ⟨P6.head.cell (6 + i) (head_ratt hi), P6.head.cell 2 rfl, B5.cell 3 rfl⟩ ?_
  clear q0 q1 q2 q3 q4 q5 q6 q7 g0 g1 g2 g3 g4 g5 g6 g7
  clear hK2 K2
  repeat
    first
      | (refine wpL_skip rfl (by rfl) ?_)
      | ((refine wpL_take (v := ?_) rfl rfl (by rfl) ?_ ?_); rotate_left 1; (· ((intro w hSw; (try dsimp only at hSw); go_simp); try with_reducible rfl)))
    try simp only [Act.put, List.setIfInBounds_toArray, List.set_cons_zero, List.set_cons_succ]
  refine wpO_end (NoPanic.normal ?_)
  have PSn : PS w0 p X Y sh3 att' ratt' held tk _ := ⟨by have := P6; rw [headP_eq HP3.out HP5.out] at this; exact this, fun j => by
    by_cases hj : j = i
    · subst hj; exact HS3.out.trans HS5.out.symm
    · rw [HO3.out j hj, HO5.out j hj]; exact HSM.out j, htk⟩
  have HPS := Lib.hid PSn
  have x0 := A1.cell 0 rfl
  have x1 := A1.cell 1 rfl
  have x2 := A1.cell 2 rfl
  have x3 := A1.cell 3 rfl
  have x4 := A1.cell 4 rfl
  have x5 := A1.cell 5 rfl
  have x6 := A1.cell 6 rfl
  have x7 := A1.cell 7 rfl
  have y0 := A2.cell 0 rfl
  have y1 := A2.cell 1 rfl
  have y2 := A2.cell 2 rfl
  have y3 := A2.cell 3 rfl
  have y4 := A2.cell 4 rfl
  have y5 := A2.cell 5 rfl
  have y6 := A2.cell 6 rfl
  have y7 := A2.cell 7 rfl
  have hrr : (r == r) = true := by simp
  clear PSn P6 B5 A1 A2
  go_wp2_with (go_at_call 12; refine (num07 _ _).mono ?_; rintro e w' ⟨rfl, rfl⟩)
  exact ⟨rfl, _, _, _, HPS.out⟩
end Go.Proofs.Ythfeljongackcaa
