/- Small laws of my own on blocks and worlds: what a block of cells holds, what a step leaves as it was. No condition. -/
import Derived.Test.YtfldpejifpmapaaDoorRows
import Derived.WalkKit
import Derived.WalkSpells
import Derived.WalkLawsBesides
import Derived.Defers
import Derived.Lib.Hide
set_option linter.unusedSimpArgs false
set_option linter.unusedVariables false
set_option maxRecDepth 100000
namespace Go.Proofs.YtfldpejifpmapaaDoor
open Go.RowKit

/-- w' is w but for the blocks in S and for new blocks -/
structure Upd (S : List Nat) (w w' : World) : Prop where
  os : w'.os = w.os
  tape : w'.tape = w.tape
  output : w'.output = w.output
  size : w.heap.size ≤ w'.heap.size
  block : ∀ k, k < w.heap.size → k ∉ S → w'.heap[k]? = w.heap[k]?

theorem Upd.refl (S : List Nat) (w : World) : Upd S w w := ⟨rfl, rfl, rfl, Nat.le_refl _, fun _ _ _ => rfl⟩

theorem Upd.tr {S T U : List Nat} {a b c : World} (h : Upd S a b) (k : Upd T b c) (hS : ∀ x ∈ S, x ∈ U ∨ a.heap.size ≤ x) (hT : ∀ x ∈ T, x ∈ U ∨ a.heap.size ≤ x) : Upd U a c :=
  ⟨k.os.trans h.os, k.tape.trans h.tape, k.output.trans h.output, Nat.le_trans h.size k.size, fun i hi hn => by
    have h1 : i ∉ S := fun m => by rcases hS i m with e | e; exact hn e; omega
    have h2 : i ∉ T := fun m => by rcases hT i m with e | e; exact hn e; omega
    exact (k.block i (Nat.lt_of_lt_of_le hi h.size) h2).trans (h.block i hi h1)⟩

theorem Upd.trans {S : List Nat} {a b c : World} (h : Upd S a b) (k : Upd S b c) : Upd S a c :=
  h.tr k (fun _ h => .inl h) (fun _ h => .inl h)

theorem Upd.mono {S T : List Nat} {a b : World} (h : Upd S a b) (hS : ∀ x ∈ S, x ∈ T ∨ a.heap.size ≤ x) : Upd T a b :=
  h.tr (Upd.refl T b) hS (fun _ h => .inl h)

theorem Upd.alloc {S : List Nat} {a b : World} (h : Upd S a b) (o : Obj) : Upd S a (b.alloc o) :=
  h.trans ⟨rfl, rfl, rfl, by simp, fun k hk _ => Below.heap_alloc _ _ _ (by omega)⟩

theorem Upd.drew {S : List Nat} {a b : World} (h : Upd S a b) : Upd S a b.drew := h.trans ⟨rfl, rfl, rfl, Nat.le_refl _, fun _ _ _ => rfl⟩

theorem Upd.setCell {S : List Nat} {a b : World} (h : Upd S a b) {p : Addr} (hp : p.block ∈ S ∨ a.heap.size ≤ p.block) (u : Value) : Upd S a (b.setCell p u) :=
  h.tr (T := [p.block]) ⟨rfl, rfl, rfl, by simp [World.setCell], fun k _ hn => Below.heap_setCell _ _ _ _ (by simpa using hn)⟩ (fun _ h => .inl h) (fun x hx => by simp at hx; subst hx; exact hp)

theorem Upd.below {S : List Nat} {B : Nat} {a b : World} (h : Upd S a b) (hB : B ≤ a.heap.size) (hS : ∀ x ∈ S, B ≤ x) : Below B a b :=
  ⟨h.os, h.tape, h.output, h.size, fun k hk => h.block k (by omega) (fun m => by have := hS k m; omega)⟩

theorem Upd.of_below {a b : World} (h : Below a.heap.size a b) : Upd [] a b := ⟨h.os, h.tape, h.output, h.size, fun k hk _ => h.block k hk⟩

theorem Upd.of_grown {a b : World} {row : Option Nat} {S : List Nat} (h : a.grownBy b row) (hr : ∀ k, row = some k → k ∈ S ∨ a.heap.size ≤ k) : Upd S a b :=
  ⟨h.os, h.tape, h.output, h.size, fun k hk hn => h.block k hk (fun e => by rcases hr k e.symm with x | x; exact hn x; omega)⟩

theorem Below.then_upd {S : List Nat} {B : Nat} {a b c : World} (h : Below B a b) (k : Upd S b c) (hB : B ≤ b.heap.size) (hS : ∀ x ∈ S, B ≤ x) : Below B a c :=
  h.trans (k.below hB hS)

/-- block b is a plain row of these cells -/
def Blk (w : World) (b : Nat) (vs : List Value) (t : TypeId) : Prop := w.heap[b]? = some (.cells vs.toArray t (0, 0))

theorem Blk.lt {w : World} {b : Nat} {vs : List Value} {t : TypeId} (h : Blk w b vs t) : b < w.heap.size := by
  unfold Blk at h
  by_cases hb : b < w.heap.size
  · exact hb
  · rw [Array.getElem?_eq_none (by omega)] at h; cases h

theorem Blk.at {w : World} {b : Nat} {vs : List Value} {t : TypeId} (h : Blk w b vs t) (o : Nat) : w.cell? ⟨b, o, none⟩ = vs[o]? := by
  unfold Blk at h; simp [World.cell?, h]

theorem Blk.cell {w : World} {b : Nat} {vs : List Value} {t : TypeId} (h : Blk w b vs t) (o : Nat) {v : Value} (e : vs[o]? = some v) : w.cell? ⟨b, o, none⟩ = some v := (h.at o).trans e

theorem Blk.free {w : World} {b : Nat} {vs : List Value} {t : TypeId} (h : Blk w b vs t) (o : Nat) : w.frozen? ⟨b, o, none⟩ = false := by
  unfold Blk at h; simp [World.frozen?, h]

theorem Blk.same {w w' : World} {b : Nat} {vs : List Value} {t : TypeId} (h : Blk w b vs t) (e : w'.heap[b]? = w.heap[b]?) : Blk w' b vs t := e.trans h

theorem Blk.upd {S : List Nat} {w w' : World} {b : Nat} {vs : List Value} {t : TypeId} (h : Blk w b vs t) (k : Upd S w w') (hn : b ∉ S) : Blk w' b vs t := h.same (k.block b h.lt hn)

theorem Blk.below {B : Nat} {w w' : World} {b : Nat} {vs : List Value} {t : TypeId} (h : Blk w b vs t) (k : Below B w w') (hn : b < B) : Blk w' b vs t := h.same (k.block b hn)

theorem Blk.alloc {w : World} {b : Nat} {vs : List Value} {t : TypeId} (h : Blk w b vs t) (o : Obj) : Blk (w.alloc o) b vs t := h.same (Below.heap_alloc _ _ _ h.lt)

theorem Blk.new (w : World) (vs : List Value) (t : TypeId) : Blk (w.alloc (.cells vs.toArray t)) w.heap.size vs t := heap_alloc_new w _

theorem Blk.drew {w : World} {b : Nat} {vs : List Value} {t : TypeId} (h : Blk w b vs t) : Blk w.drew b vs t := h

theorem Blk.other {w : World} {b : Nat} {vs : List Value} {t : TypeId} (h : Blk w b vs t) (p : Addr) (u : Value) (hp : b ≠ p.block) : Blk (w.setCell p u) b vs t := h.same (Below.heap_setCell _ _ _ _ hp)

theorem Blk.set {w : World} {b : Nat} {vs : List Value} {t : TypeId} (h : Blk w b vs t) (o : Nat) (u : Value) : Blk (w.setCell ⟨b, o, none⟩ u) b (vs.set o u) t := by
  unfold Blk at h ⊢
  simp [World.setCell, Array.getElem?_modify, h]

theorem Blk.setRow {w : World} {b : Nat} {vs : List Value} {t : TypeId} (h : Blk w b vs t) (us : List Value) : Blk (w.setRow b us.toArray) b us t :=
  setRow_heap w b vs.toArray us.toArray t _ h

theorem Upd.setRow {S : List Nat} {a b : World} (h : Upd S a b) {g : Nat} (hp : g ∈ S ∨ a.heap.size ≤ g) (cs : Array Value) : Upd S a (b.setRow g cs) :=
  h.tr (T := [g]) ⟨rfl, rfl, rfl, by simp, fun k _ hn => setRow_other b g k _ (by simpa using hn)⟩ (fun _ h => .inl h) (fun x hx => by simp at hx; subst hx; exact hp)

theorem Blk.inj {w : World} {b : Nat} {vs us : List Value} {t u : TypeId} (h : Blk w b vs t) (k : Blk w b us u) : vs = us ∧ t = u := by
  unfold Blk at h k; rw [h] at k; simp at k; exact k

/-- a walk to a plain end, and what it means -/
theorem calls_to {P : Program} {f : FuncId} {args : Array Value} {w : World} {R R' : Ending → World → Prop} (h : Calls P f args w R) (hr : ∀ e w', R e w' → R' e w') : Calls P f args w R' :=
  h.mono fun e w' r => hr e w' r

/-- the same with the end as a variable: the walk then leaves it as it stands -/
theorem calls_all {P : Program} {f : FuncId} {args : Array Value} {w : World} {R : Ending → World → Prop} (h : ∀ K : Ending → World → Prop, (∀ e w', R e w' → K e w') → Calls P f args w K) : Calls P f args w R :=
  h R fun _ _ r => r

/-- the i-th word (a name of its own: the walk leaves it standing) -/
def wd (ws : List Int) (i : Nat) : Int := ws.getD i 0
theorem wd_get {ws : List Int} {i : Nat} (h : i < ws.length) : wd ws i = ws[i] := by simp [wd, h]
theorem wd_set {ws : List Int} {i : Nat} (x : Int) (j : Nat) (h : i < ws.length) : wd (ws.set i x) j = if i = j then x else wd ws j := by
  unfold wd; simp only [List.getD_eq_getElem?_getD, List.getElem?_set]; split <;> simp [h]

theorem addr_add (b o j : Nat) : (⟨b, o, none⟩ : Addr).add j = ⟨b, o + j, none⟩ := by
  unfold Addr.add; split
  · rename_i h; subst h; rfl
  · rfl

/-- v is a slice that reads as these integers -/
structure SlI (w : World) (k : IntKind) (p : Option Addr) (zs : List Int) : Prop where
  ne : zs ≠ [] → ∃ b o, p = some ⟨b, o, none⟩
  cells : ∀ b o, p = some ⟨b, o, none⟩ → ∀ i, i < zs.length → w.cell? ⟨b, o + i, none⟩ = some (.int k (wd zs i))

theorem SlI.nil (w : World) (k : IntKind) (p : Option Addr) : SlI w k p [] := ⟨fun h => absurd rfl h, fun _ _ _ i hi => by simp at hi⟩

theorem SlI.src {w : World} {k : IntKind} {p : Option Addr} {zs : List Int} (h : SlI w k p zs) (hz : zs ≠ []) : ∃ ad, p = some ad ∧ ∀ j v, (zs.map (Value.int k))[j]? = some v → w.cell? (ad.add j) = some v := by
  obtain ⟨b, o, rfl⟩ := h.ne hz
  refine ⟨_, rfl, fun j v hj => ?_⟩
  have hl : j < zs.length := by
    by_cases hl : j < zs.length
    · exact hl
    · rw [List.getElem?_eq_none (by simpa using hl)] at hj; cases hj
  rw [List.getElem?_map, List.getElem?_eq_getElem hl] at hj
  simp at hj
  rw [← hj, ← wd_get hl]
  rw [addr_add]; exact h.cells b o rfl j hl

theorem SlI.upd {w w' : World} {k : IntKind} {p : Option Addr} {zs : List Int} {S : List Nat} (h : SlI w k p zs) (hu : Upd S w w') (hn : ∀ b o, p = some ⟨b, o, none⟩ → b ∉ S) : SlI w' k p zs :=
  ⟨h.ne, fun b o e i hi => by
    have hc := h.cells b o e i hi
    have hb : b < w.heap.size := World.block_lt_of_cell? w _ hc
    exact (World.cell?_of_block (w := w) (hu.block b hb (hn b o e))).trans hc⟩

theorem SlI.upd2 {w w' : World} {k : IntKind} {p : Option Addr} {zs : List Int} {S : List Nat} (h : SlI w k p zs) (hu : Upd S w w') (hn : ∀ b o, p = some ⟨b, o, none⟩ → zs ≠ [] → b ∉ S) : SlI w' k p zs := by
  by_cases hz : zs = []
  · subst hz; exact SlI.nil _ _ _
  · exact h.upd hu (fun b o e => hn b o e hz)

theorem SlI.below {w w' : World} {k : IntKind} {p : Option Addr} {zs : List Int} {B : Nat} (h : SlI w k p zs) (hu : Below B w w') (hn : ∀ b o, p = some ⟨b, o, none⟩ → b < B) : SlI w' k p zs :=
  ⟨h.ne, fun b o e i hi => (hu.cell (p := ⟨b, o + i, none⟩) (hn b o e)).trans (h.cells b o e i hi)⟩

theorem SlI.of_blk {w : World} {k : IntKind} {b : Nat} {zs : List Int} {sp : List Value} {t : TypeId} (h : Blk w b (zs.map (Value.int k) ++ sp) t) : SlI w k (some ⟨b, 0, none⟩) zs :=
  ⟨fun _ => ⟨b, 0, rfl⟩, fun b' o e i hi => by
    simp at e
    obtain ⟨rfl, rfl⟩ := e
    exact h.cell _ (by rw [List.getElem?_append_left (by simpa using hi)]; simp [hi, wd_get])⟩

/-- n cells of zero (a name of its own: the walk leaves it standing) -/
def zeros (k : IntKind) (n : Nat) : Array Value := ((List.replicate n (0 : Int)).map (Value.int k)).toArray

theorem zeros_made (k : IntKind) (n : Nat) : madeCells (Value.int k 0).cells (n * 1) = zeros k n := by
  have h : (madeCells #[Value.int k 0] n).toList = List.replicate n (Value.int k 0) := toList_madeCells_one _ _
  have h2 : madeCells (Value.int k 0).cells (n * 1) = madeCells #[Value.int k 0] n := by rw [Nat.mul_one]; rfl
  rw [h2]
  apply Array.ext'
  rw [h, zeros]
  simp

theorem wpList_append_eq {P : Program} {ops : Array Oper} {rest : List Oper} {o : Oper} {a : Act} {w w' : World} {Q : Exit → Act → World → Prop} (hgd : o.guard = none) (s x : Operand) (t u : TypeId)
    (ho : o.op = .call { callee := .builtin .append, args := #[s, x], argTypes := #[t, u] }) (sv xv v : Value) (hs : a.eval s = sv) (hx : a.eval x = xv)
    (hr : (Builtin.append_ #[t, u] o.type #[sv, xv]).run P w = .ok v w') (h : wpList P ops Q rest (a.put o.dst v) w') : wpList P ops Q (o :: rest) a w := by
  refine wpList_plain hgd fun K hK => ?_
  unfold Oper.wp execOp
  simp only [ho, resolve, invoke, builtin, Sem.run_bind, Sem.run_pure, Result.andThen_ok, List.map_toArray, List.map_cons, List.map_nil, hs, hx, hr]
  exact hK _ _ h

theorem ret_int {k : IntKind} {a b : Int} (h : a = b) : Ending.returned (.int k a) = .returned (.int k b) := by rw [h]
theorem ret_bool {a b : Bool} (h : a = b) : Ending.returned (.bool a) = .returned (.bool b) := by rw [h]

theorem u64_in (n : Int) (h : 0 ≤ n ∧ n < 18446744073709551616) : IntKind.u64.wrap n = n := by rw [IntKind.wrap_u64]; omega

end Go.Proofs.YtfldpejifpmapaaDoor
