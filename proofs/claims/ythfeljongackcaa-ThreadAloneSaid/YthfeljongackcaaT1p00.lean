/- Small laws of my own on blocks and worlds: what a block of cells holds, what a step leaves as it was. No condition. An attempt's state, plainly: what may be, what each step makes of it. No program in sight. No conditions. -/
import Derived.Test.YthfeljongackcaaRows
import Derived.WalkKit
import Derived.WalkSpells
import Derived.WalkLawsBesides
import Derived.Defers
import Derived.Lib.Hide
set_option linter.unusedSimpArgs false
set_option linter.unusedVariables false
set_option maxRecDepth 100000
namespace Go.Proofs.Ythfeljongackcaa
open Go.RowKit

/-- w' is w but for the blocks in S and for new blocks -/
structure Upd (S : List Nat) (w w' : World) : Prop where
  os : w'.os = w.os
  tape : w'.tape = w.tape
  output : w'.output = w.output
  size : w.heap.size ≤ w'.heap.size
  block : ∀ k, k < w.heap.size → k ∉ S → w'.heap[k]? = w.heap[k]?

theorem Upd.refl (S : List Nat) (w : World) : Upd S w w := ⟨rfl, rfl, rfl, Nat.le_refl _, fun _ _ _ => rfl⟩

theorem Upd.tr {S T U : List Nat} {a b c : World} (h : Upd S a b) (k : Upd T b c) (hS : ∀ x ∈ S, x ∈ U ∨ a.heap.size ≤ x) (hT : ∀ x ∈ T, x ∈ U ∨ a.heap.size ≤ x) : Upd U a c :=
  ⟨k.os.trans h.os, k.tape.trans h.tape, k.output.trans h.output, Nat.le_trans h.size k.size, fun i hi hn => by
    have h1 : i ∉ S := fun m => by rcases hS i m with e | e; exact hn e; omega
    have h2 : i ∉ T := fun m => by rcases hT i m with e | e; exact hn e; omega
    exact (k.block i (Nat.lt_of_lt_of_le hi h.size) h2).trans (h.block i hi h1)⟩

theorem Upd.trans {S : List Nat} {a b c : World} (h : Upd S a b) (k : Upd S b c) : Upd S a c :=
  h.tr k (fun _ h => .inl h) (fun _ h => .inl h)

theorem Upd.mono {S T : List Nat} {a b : World} (h : Upd S a b) (hS : ∀ x ∈ S, x ∈ T ∨ a.heap.size ≤ x) : Upd T a b :=
  h.tr (Upd.refl T b) hS (fun _ h => .inl h)

theorem Upd.alloc {S : List Nat} {a b : World} (h : Upd S a b) (o : Obj) : Upd S a (b.alloc o) :=
  h.trans ⟨rfl, rfl, rfl, by simp, fun k hk _ => Below.heap_alloc _ _ _ (by omega)⟩

theorem Upd.drew {S : List Nat} {a b : World} (h : Upd S a b) : Upd S a b.drew := h.trans ⟨rfl, rfl, rfl, Nat.le_refl _, fun _ _ _ => rfl⟩

theorem Upd.setCell {S : List Nat} {a b : World} (h : Upd S a b) {p : Addr} (hp : p.block ∈ S ∨ a.heap.size ≤ p.block) (u : Value) : Upd S a (b.setCell p u) :=
  h.tr (T := [p.block]) ⟨rfl, rfl, rfl, by simp [World.setCell], fun k _ hn => Below.heap_setCell _ _ _ _ (by simpa using hn)⟩ (fun _ h => .inl h) (fun x hx => by simp at hx; subst hx; exact hp)

theorem Upd.below {S : List Nat} {B : Nat} {a b : World} (h : Upd S a b) (hB : B ≤ a.heap.size) (hS : ∀ x ∈ S, B ≤ x) : Below B a b :=
  ⟨h.os, h.tape, h.output, h.size, fun k hk => h.block k (by omega) (fun m => by have := hS k m; omega)⟩

theorem Upd.of_below {a b : World} (h : Below a.heap.size a b) : Upd [] a b := ⟨h.os, h.tape, h.output, h.size, fun k hk _ => h.block k hk⟩

theorem Upd.of_grown {a b : World} {row : Option Nat} {S : List Nat} (h : a.grownBy b row) (hr : ∀ k, row = some k → k ∈ S ∨ a.heap.size ≤ k) : Upd S a b :=
  ⟨h.os, h.tape, h.output, h.size, fun k hk hn => h.block k hk (fun e => by rcases hr k e.symm with x | x; exact hn x; omega)⟩

theorem Below.then_upd {S : List Nat} {B : Nat} {a b c : World} (h : Below B a b) (k : Upd S b c) (hB : B ≤ b.heap.size) (hS : ∀ x ∈ S, B ≤ x) : Below B a c :=
  h.trans (k.below hB hS)

/-- block b is a plain row of these cells -/
def Blk (w : World) (b : Nat) (vs : List Value) (t : TypeId) : Prop := w.heap[b]? = some (.cells vs.toArray t (0, 0))

theorem Blk.lt {w : World} {b : Nat} {vs : List Value} {t : TypeId} (h : Blk w b vs t) : b < w.heap.size := by
  unfold Blk at h
  by_cases hb : b < w.heap.size
  · exact hb
  · rw [Array.getElem?_eq_none (by omega)] at h; cases h

theorem Blk.at {w : World} {b : Nat} {vs : List Value} {t : TypeId} (h : Blk w b vs t) (o : Nat) : w.cell? ⟨b, o, none⟩ = vs[o]? := by
  unfold Blk at h; simp [World.cell?, h]

theorem Blk.cell {w : World} {b : Nat} {vs : List Value} {t : TypeId} (h : Blk w b vs t) (o : Nat) {v : Value} (e : vs[o]? = some v) : w.cell? ⟨b, o, none⟩ = some v := (h.at o).trans e

theorem Blk.free {w : World} {b : Nat} {vs : List Value} {t : TypeId} (h : Blk w b vs t) (o : Nat) : w.frozen? ⟨b, o, none⟩ = false := by
  unfold Blk at h; simp [World.frozen?, h]

theorem Blk.same {w w' : World} {b : Nat} {vs : List Value} {t : TypeId} (h : Blk w b vs t) (e : w'.heap[b]? = w.heap[b]?) : Blk w' b vs t := e.trans h

theorem Blk.upd {S : List Nat} {w w' : World} {b : Nat} {vs : List Value} {t : TypeId} (h : Blk w b vs t) (k : Upd S w w') (hn : b ∉ S) : Blk w' b vs t := h.same (k.block b h.lt hn)

theorem Blk.below {B : Nat} {w w' : World} {b : Nat} {vs : List Value} {t : TypeId} (h : Blk w b vs t) (k : Below B w w') (hn : b < B) : Blk w' b vs t := h.same (k.block b hn)

theorem Blk.alloc {w : World} {b : Nat} {vs : List Value} {t : TypeId} (h : Blk w b vs t) (o : Obj) : Blk (w.alloc o) b vs t := h.same (Below.heap_alloc _ _ _ h.lt)

theorem Blk.new (w : World) (vs : List Value) (t : TypeId) : Blk (w.alloc (.cells vs.toArray t)) w.heap.size vs t := heap_alloc_new w _

theorem Blk.drew {w : World} {b : Nat} {vs : List Value} {t : TypeId} (h : Blk w b vs t) : Blk w.drew b vs t := h

theorem Blk.other {w : World} {b : Nat} {vs : List Value} {t : TypeId} (h : Blk w b vs t) (p : Addr) (u : Value) (hp : b ≠ p.block) : Blk (w.setCell p u) b vs t := h.same (Below.heap_setCell _ _ _ _ hp)

theorem Blk.set {w : World} {b : Nat} {vs : List Value} {t : TypeId} (h : Blk w b vs t) (o : Nat) (u : Value) : Blk (w.setCell ⟨b, o, none⟩ u) b (vs.set o u) t := by
  unfold Blk at h ⊢
  simp [World.setCell, Array.getElem?_modify, h]

theorem Blk.setRow {w : World} {b : Nat} {vs : List Value} {t : TypeId} (h : Blk w b vs t) (us : List Value) : Blk (w.setRow b us.toArray) b us t :=
  setRow_heap w b vs.toArray us.toArray t _ h

theorem Upd.setRow {S : List Nat} {a b : World} (h : Upd S a b) {g : Nat} (hp : g ∈ S ∨ a.heap.size ≤ g) (cs : Array Value) : Upd S a (b.setRow g cs) :=
  h.tr (T := [g]) ⟨rfl, rfl, rfl, by simp, fun k _ hn => setRow_other b g k _ (by simpa using hn)⟩ (fun _ h => .inl h) (fun x hx => by simp at hx; subst hx; exact hp)

theorem Blk.inj {w : World} {b : Nat} {vs us : List Value} {t u : TypeId} (h : Blk w b vs t) (k : Blk w b us u) : vs = us ∧ t = u := by
  unfold Blk at h k; rw [h] at k; simp at k; exact k

/-- a walk to a plain end, and what it means -/
theorem calls_to {P : Program} {f : FuncId} {args : Array Value} {w : World} {R R' : Ending → World → Prop} (h : Calls P f args w R) (hr : ∀ e w', R e w' → R' e w') : Calls P f args w R' :=
  h.mono fun e w' r => hr e w' r

/-- the same with the end as a variable: the walk then leaves it as it stands -/
theorem calls_all {P : Program} {f : FuncId} {args : Array Value} {w : World} {R : Ending → World → Prop} (h : ∀ K : Ending → World → Prop, (∀ e w', R e w' → K e w') → Calls P f args w K) : Calls P f args w R :=
  h R fun _ _ r => r

/-- the i-th word (a name of its own: the walk leaves it standing) -/
def wd (ws : List Int) (i : Nat) : Int := ws.getD i 0
theorem wd_get {ws : List Int} {i : Nat} (h : i < ws.length) : wd ws i = ws[i] := by simp [wd, h]
theorem wd_set {ws : List Int} {i : Nat} (x : Int) (j : Nat) (h : i < ws.length) : wd (ws.set i x) j = if i = j then x else wd ws j := by
  unfold wd; simp only [List.getD_eq_getElem?_getD, List.getElem?_set]; split <;> simp [h]

theorem addr_add (b o j : Nat) : (⟨b, o, none⟩ : Addr).add j = ⟨b, o + j, none⟩ := by
  unfold Addr.add; split
  · rename_i h; subst h; rfl
  · rfl

/-- v is a slice that reads as these integers -/
structure SlI (w : World) (k : IntKind) (p : Option Addr) (zs : List Int) : Prop where
  ne : zs ≠ [] → ∃ b o, p = some ⟨b, o, none⟩
  cells : ∀ b o, p = some ⟨b, o, none⟩ → ∀ i, i < zs.length → w.cell? ⟨b, o + i, none⟩ = some (.int k (wd zs i))

theorem SlI.nil (w : World) (k : IntKind) (p : Option Addr) : SlI w k p [] := ⟨fun h => absurd rfl h, fun _ _ _ i hi => by simp at hi⟩

theorem SlI.src {w : World} {k : IntKind} {p : Option Addr} {zs : List Int} (h : SlI w k p zs) (hz : zs ≠ []) : ∃ ad, p = some ad ∧ ∀ j v, (zs.map (Value.int k))[j]? = some v → w.cell? (ad.add j) = some v := by
  obtain ⟨b, o, rfl⟩ := h.ne hz
  refine ⟨_, rfl, fun j v hj => ?_⟩
  have hl : j < zs.length := by
    by_cases hl : j < zs.length
    · exact hl
    · rw [List.getElem?_eq_none (by simpa using hl)] at hj; cases hj
  rw [List.getElem?_map, List.getElem?_eq_getElem hl] at hj
  simp at hj
  rw [← hj, ← wd_get hl]
  rw [addr_add]; exact h.cells b o rfl j hl

theorem SlI.upd {w w' : World} {k : IntKind} {p : Option Addr} {zs : List Int} {S : List Nat} (h : SlI w k p zs) (hu : Upd S w w') (hn : ∀ b o, p = some ⟨b, o, none⟩ → b ∉ S) : SlI w' k p zs :=
  ⟨h.ne, fun b o e i hi => by
    have hc := h.cells b o e i hi
    have hb : b < w.heap.size := World.block_lt_of_cell? w _ hc
    exact (World.cell?_of_block (w := w) (hu.block b hb (hn b o e))).trans hc⟩

theorem SlI.upd2 {w w' : World} {k : IntKind} {p : Option Addr} {zs : List Int} {S : List Nat} (h : SlI w k p zs) (hu : Upd S w w') (hn : ∀ b o, p = some ⟨b, o, none⟩ → zs ≠ [] → b ∉ S) : SlI w' k p zs := by
  by_cases hz : zs = []
  · subst hz; exact SlI.nil _ _ _
  · exact h.upd hu (fun b o e => hn b o e hz)

theorem SlI.below {w w' : World} {k : IntKind} {p : Option Addr} {zs : List Int} {B : Nat} (h : SlI w k p zs) (hu : Below B w w') (hn : ∀ b o, p = some ⟨b, o, none⟩ → b < B) : SlI w' k p zs :=
  ⟨h.ne, fun b o e i hi => (hu.cell (p := ⟨b, o + i, none⟩) (hn b o e)).trans (h.cells b o e i hi)⟩

theorem SlI.of_blk {w : World} {k : IntKind} {b : Nat} {zs : List Int} {sp : List Value} {t : TypeId} (h : Blk w b (zs.map (Value.int k) ++ sp) t) : SlI w k (some ⟨b, 0, none⟩) zs :=
  ⟨fun _ => ⟨b, 0, rfl⟩, fun b' o e i hi => by
    simp at e
    obtain ⟨rfl, rfl⟩ := e
    exact h.cell _ (by rw [List.getElem?_append_left (by simpa using hi)]; simp [hi, wd_get])⟩

/-- n cells of zero (a name of its own: the walk leaves it standing) -/
def zeros (k : IntKind) (n : Nat) : Array Value := ((List.replicate n (0 : Int)).map (Value.int k)).toArray

theorem zeros_made (k : IntKind) (n : Nat) : madeCells (Value.int k 0).cells (n * 1) = zeros k n := by
  have h : (madeCells #[Value.int k 0] n).toList = List.replicate n (Value.int k 0) := toList_madeCells_one _ _
  have h2 : madeCells (Value.int k 0).cells (n * 1) = madeCells #[Value.int k 0] n := by rw [Nat.mul_one]; rfl
  rw [h2]
  apply Array.ext'
  rw [h, zeros]
  simp

theorem wpList_append_eq {P : Program} {ops : Array Oper} {rest : List Oper} {o : Oper} {a : Act} {w w' : World} {Q : Exit → Act → World → Prop} (hgd : o.guard = none) (s x : Operand) (t u : TypeId)
    (ho : o.op = .call { callee := .builtin .append, args := #[s, x], argTypes := #[t, u] }) (sv xv v : Value) (hs : a.eval s = sv) (hx : a.eval x = xv)
    (hr : (Builtin.append_ #[t, u] o.type #[sv, xv]).run P w = .ok v w') (h : wpList P ops Q rest (a.put o.dst v) w') : wpList P ops Q (o :: rest) a w := by
  refine wpList_plain hgd fun K hK => ?_
  unfold Oper.wp execOp
  simp only [ho, resolve, invoke, builtin, Sem.run_bind, Sem.run_pure, Result.andThen_ok, List.map_toArray, List.map_cons, List.map_nil, hs, hx, hr]
  exact hK _ _ h

theorem ret_int {k : IntKind} {a b : Int} (h : a = b) : Ending.returned (.int k a) = .returned (.int k b) := by rw [h]
theorem ret_bool {a b : Bool} (h : a = b) : Ending.returned (.bool a) = .returned (.bool b) := by rw [h]

theorem u64_in (n : Int) (h : 0 ≤ n ∧ n < 18446744073709551616) : IntKind.u64.wrap n = n := by rw [IntKind.wrap_u64]; omega

end Go.Proofs.Ythfeljongackcaa
set_option linter.unusedSimpArgs false
set_option linter.unusedVariables false
set_option maxRecDepth 100000
namespace Go.Proofs.Ythfeljongackcaa
open Go.RowKit

/-- a state; a cell is an address with a word -/
structure AS where
  snap : Int
  reads : List (Int × Int)
  writes : List (Int × Int)
  phase : Int
  thn : Int
  addr : Int
  word : Int
  found : Int
  at_ : Int

/-- an event, a turn -/
structure Ev where
  kind : Int
  addr : Int
  word : Int
  own : Bool
structure Trn where
  out : Int
  word : Int
  ev : Ev
def Ev.val (e : Ev) : Value := .agg #[.int .i64 0, .int .i64 e.kind, .int .u64 e.addr, .int .u64 e.word, .bool e.own, .int .i64 0]
def Trn.val (t : Trn) : Value := .agg #[.int .i64 t.out, .int .u64 t.word, .int .i64 0, .int .i64 t.ev.kind, .int .u64 t.ev.addr, .int .u64 t.ev.word, .bool t.ev.own, .int .i64 0]
def Trn.cells (t : Trn) : List Value := [.int .i64 t.out, .int .u64 t.word, .int .i64 0, .int .i64 t.ev.kind, .int .u64 t.ev.addr, .int .u64 t.ev.word, .bool t.ev.own, .int .i64 0]
def evNone : Ev := ⟨0, 0, 0, false⟩
def trnNone : Trn := ⟨0, 0, evNone⟩
def going : Trn := ⟨1, 0, evNone⟩

/-- the place of an address in the redo log -/
def place (l : List (Int × Int)) (x : Int) : Option Nat := l.findIdx? fun c => c.1 == x

def fresh (snap : Int) : AS := ⟨snap, [], [], 1, 0, 0, 0, 0, 0⟩
def overS : AS := ⟨0, [], [], 10, 0, 0, 0, 0, 0⟩

def getsB (s : AS) : Bool := s.phase == 2 || s.phase == 3 || s.thn == 2
def locksB (s : AS) : Bool := s.phase == 7 || s.phase == 8 || s.phase == 9 || s.thn == 7
def validB (s : AS) : Bool := s.phase == 4 || s.phase == 5 || s.phase == 6

/-- words are words -/
structure Wide (s : AS) : Prop where
  snap : 0 ≤ s.snap ∧ s.snap < 18446744073709551616
  reads : ∀ c ∈ s.reads, (0 ≤ c.1 ∧ c.1 < 18446744073709551616) ∧ 0 ≤ c.2 ∧ c.2 < 18446744073709551616
  writes : ∀ c ∈ s.writes, (0 ≤ c.1 ∧ c.1 < 18446744073709551616) ∧ 0 ≤ c.2 ∧ c.2 < 18446744073709551616
  addr : 0 ≤ s.addr ∧ s.addr < 18446744073709551616
  word : 0 ≤ s.word ∧ s.word < 18446744073709551616
  found : 0 ≤ s.found ∧ s.found < 18446744073709551616

/-- may the state be? -/
structure May (s : AS) : Prop where
  ph : 1 ≤ s.phase ∧ s.phase ≤ 10
  thn : if validB s = true then s.thn = 2 ∨ s.thn = 7 else s.thn = 0
  addr : getsB s = false → s.addr = 0
  word : s.phase ≠ 3 → s.word = 0
  found : s.phase ≠ 5 → s.phase ≠ 6 → s.found = 0
  at0 : s.phase ≠ 5 → s.phase ≠ 8 → s.at_ = 0
  at5 : s.phase = 5 → 0 ≤ s.at_ ∧ s.at_ < s.reads.length
  at8 : s.phase = 8 → 0 ≤ s.at_ ∧ s.at_ < s.writes.length
  over : s.phase = 10 → s.snap = 0 ∧ s.reads = [] ∧ s.writes = []
  even : s.snap % 2 = 0 ∧ s.found % 2 = 0
  lenR : s.reads.length ≤ 1024
  lenW : s.writes.length ≤ 1024
  nodup : (s.writes.map (·.1)).Nodup
  locks : locksB s = true → s.writes ≠ []
  gets : getsB s = true → s.reads.length < 1024 ∧ s.addr ∉ s.writes.map (·.1)

/-- the cells, the clock -/
structure Sh where
  row : List Int
  clock : Int
def loadW (row : List Int) (x : Int) : Int := if x < row.length then wd row x.toNat else 0
def storeW (row : List Int) (x v : Int) : List Int := if x < row.length then row.set x.toNat v else row

/-- a get's first step -/
def loadS (s : AS) (sh : Sh) : Trn × AS := (going, { s with word := loadW sh.row s.addr, phase := 3 })
def lookS (s : AS) (sh : Sh) : Trn × AS :=
  if sh.clock = s.snap then (⟨2, s.word, ⟨2, s.addr, s.word, false⟩⟩, { s with reads := s.reads ++ [(s.addr, s.word)], phase := 1, addr := 0, word := 0 })
  else (going, { s with phase := 4, thn := 2, word := 0 })
def waitS (s : AS) (sh : Sh) : Trn × AS :=
  if sh.clock % 2 = 1 then (going, s) else (going, { s with found := sh.clock, phase := if s.reads = [] then 6 else 5 })
def checkS (s : AS) (sh : Sh) : Trn × AS :=
  match s.reads[s.at_.toNat]? with
  | none => (going, s)
  | some c =>
    if c.1 < sh.row.length ∧ wd sh.row c.1.toNat = c.2 then
      (going, if s.at_ + 1 = s.reads.length then { s with at_ := 0, phase := 6 } else { s with at_ := s.at_ + 1 })
    else (⟨5, 0, ⟨7, 0, 0, false⟩⟩, overS)
def closeS (s : AS) (sh : Sh) : Trn × AS :=
  if sh.clock = s.found then (⟨1, 0, ⟨4, 0, s.found, false⟩⟩, { s with snap := s.found, phase := s.thn, thn := 0, found := 0 })
  else (going, { s with phase := 4, found := 0 })
def lockS (s : AS) (sh : Sh) : Trn × AS × Sh :=
  if sh.clock = s.snap then (⟨1, 0, ⟨5, 0, 0, false⟩⟩, { s with phase := 8 }, { sh with clock := sh.clock + 1 })
  else (going, { s with phase := 4, thn := 7 }, sh)
def storeS (s : AS) (sh : Sh) : Trn × AS × Sh :=
  match s.writes[s.at_.toNat]? with
  | none => (going, s, sh)
  | some c => (going, (if s.at_ + 1 = s.writes.length then { s with at_ := 0, phase := 9 } else { s with at_ := s.at_ + 1 }), { sh with row := storeW sh.row c.1 c.2 })
def freeS (s : AS) (sh : Sh) : Trn × AS × Sh :=
  (⟨4, 0, ⟨6, 0, (s.snap + 2) % 18446744073709551616 / 2, false⟩⟩, overS, if sh.clock = s.snap + 1 then { sh with clock := (s.snap + 2) % 18446744073709551616 } else sh)

def getS (s : AS) (sh : Sh) (x : Int) : Trn × Int × AS :=
  if s.phase ≠ 1 then (trnNone, 2, s) else
  match place s.writes x with
  | some k => (⟨2, (s.writes.getD k (0, 0)).2, ⟨2, x, (s.writes.getD k (0, 0)).2, true⟩⟩, 0, s)
  | none => if ¬ x < sh.row.length then (trnNone, 4, s) else if 1024 ≤ s.reads.length then (trnNone, 5, s) else
      ((loadS { s with addr := x } sh).1, 0, (loadS { s with addr := x } sh).2)
def putS (s : AS) (sh : Sh) (x v : Int) : Trn × Int × AS :=
  if s.phase ≠ 1 then (trnNone, 2, s) else if ¬ x < sh.row.length then (trnNone, 4, s) else
  match place s.writes x with
  | some k => (⟨3, 0, ⟨3, x, v, false⟩⟩, 0, { s with writes := s.writes.set k (x, v) })
  | none => if s.writes.length < 1024 then (⟨3, 0, ⟨3, x, v, false⟩⟩, 0, { s with writes := s.writes ++ [(x, v)] }) else (trnNone, 5, s)
def endS (s : AS) (sh : Sh) : Trn × Int × AS × Sh :=
  if s.phase ≠ 1 then (trnNone, 2, s, sh) else
  if s.writes = [] then (⟨4, 0, ⟨6, 0, s.snap / 2, false⟩⟩, 0, overS, sh) else ((lockS s sh).1, 0, (lockS s sh).2.1, (lockS s sh).2.2)
def stepS (s : AS) (sh : Sh) : Trn × Int × AS × Sh :=
  if s.phase = 2 then (if s.addr < sh.row.length then ((loadS s sh).1, 0, (loadS s sh).2, sh) else (trnNone, 4, s, sh))
  else if s.phase = 3 then ((lookS s sh).1, 0, (lookS s sh).2, sh)
  else if s.phase = 4 then ((waitS s sh).1, 0, (waitS s sh).2, sh)
  else if s.phase = 5 then ((checkS s sh).1, 0, (checkS s sh).2, sh)
  else if s.phase = 6 then ((closeS s sh).1, 0, (closeS s sh).2, sh)
  else if s.phase = 7 then ((lockS s sh).1, 0, (lockS s sh).2.1, (lockS s sh).2.2)
  else if s.phase = 8 then ((storeS s sh).1, 0, (storeS s sh).2.1, (storeS s sh).2.2)
  else if s.phase = 9 then ((freeS s sh).1, 0, (freeS s sh).2.1, (freeS s sh).2.2)
  else (trnNone, 2, s, sh)
def dropS (s : AS) : Int × AS := if 8 ≤ s.phase then (2, s) else (0, overS)

theorem may_over : May overS := ⟨by decide, by decide, fun _ => rfl, fun _ => rfl, fun _ _ => rfl, fun _ _ => rfl, fun h => by simp [overS] at h, fun h => by simp [overS] at h, fun _ => ⟨rfl, rfl, rfl⟩, by decide, by decide, by decide, by simp [overS], fun h => by simp [locksB, overS] at h, fun h => by simp [getsB, overS] at h⟩
theorem may_fresh {n : Int} (h : n % 2 = 0) : May (fresh n) := ⟨by simp [fresh], by simp [fresh, validB], fun _ => rfl, fun _ => rfl, fun _ _ => rfl, fun _ _ => rfl, fun h => by simp [fresh] at h, fun h => by simp [fresh] at h, fun h => by simp [fresh] at h, ⟨h, by simp [fresh]⟩, by simp [fresh], by simp [fresh], by simp [fresh], fun h => by simp [locksB, fresh] at h, fun h => by simp [getsB, fresh] at h⟩

theorem place_none {l : List (Int × Int)} {x : Int} (h : place l x = none) : x ∉ l.map (·.1) := by
  unfold place at h
  rw [List.findIdx?_eq_none_iff] at h
  intro hm
  obtain ⟨c, hc, rfl⟩ := List.mem_map.1 hm
  have := h c hc
  simp at this
theorem place_some {l : List (Int × Int)} {x : Int} {k : Nat} (h : place l x = some k) : k < l.length ∧ ∃ v, l[k]? = some (x, v) := by
  unfold place at h
  rw [List.findIdx?_eq_some_iff_getElem] at h
  obtain ⟨hk, h1, _⟩ := h
  refine ⟨hk, (l[k]).2, ?_⟩
  rw [List.getElem?_eq_getElem hk]
  have : (l[k]).1 = x := by simpa using h1
  rw [← this]
theorem set_map {l : List (Int × Int)} {x v : Int} {k : Nat} (h : place l x = some k) : (l.set k (x, v)).map (·.1) = l.map (·.1) := by
  obtain ⟨hk, u, hu⟩ := place_some h
  rw [List.map_set]
  apply List.ext_getElem?
  intro j
  rw [List.getElem?_set]
  split
  · rename_i e
    subst e
    rw [List.getElem?_map, hu]
    simp [hk]
  · rfl

section
variable {s : AS} {sh : Sh}
theorem may_load (h : May s) (hp : s.phase = 1 ∨ s.phase = 2) (x : Int) (hl : s.reads.length < 1024) (hx : x ∉ s.writes.map (·.1)) : May (loadS { s with addr := x } sh).2 := by
  have h1 := h.thn
  have h2 := h.found
  have h3 := h.at0
  have hv : validB s = false := by unfold validB; rcases hp with e | e <;> simp [e]
  rw [hv, if_neg (by simp)] at h1
  refine ⟨by simp [loadS], by simp [loadS, validB, h1], fun h => by simp [loadS, getsB] at h, fun h => by simp [loadS] at h, fun _ _ => h2 (by omega) (by omega), fun _ _ => h3 (by omega) (by omega), fun h => by simp [loadS] at h, fun h => by simp [loadS] at h, fun h => by simp [loadS] at h, h.even, h.lenR, h.lenW, h.nodup, fun hk => ?_, fun _ => ⟨hl, hx⟩⟩
  simp [loadS, locksB, h1] at hk
theorem may_look (h : May s) (hp : s.phase = 3) : May (lookS s sh).2 := by
  have h1 := h.thn
  have hv : validB s = false := by unfold validB; simp [hp]
  rw [hv, if_neg (by simp)] at h1
  have hg := h.gets (by simp [getsB, hp])
  unfold lookS
  split
  · refine ⟨by simp, by simp [validB, h1], fun _ => rfl, fun _ => rfl, fun _ _ => h.found (by omega) (by omega), fun _ _ => h.at0 (by omega) (by omega), fun h => by simp at h, fun h => by simp at h, fun h => by simp at h, h.even, by simp; omega, h.lenW, h.nodup, fun hk => by simp [locksB, h1] at hk, fun hk => by simp [getsB, h1] at hk⟩
  · refine ⟨by simp, by simp [validB], fun hk => by simp [getsB] at hk, fun _ => rfl, fun _ _ => h.found (by omega) (by omega), fun _ _ => h.at0 (by omega) (by omega), fun h => by simp at h, fun h => by simp at h, fun h => by simp at h, h.even, h.lenR, h.lenW, h.nodup, fun hk => by simp [locksB] at hk, fun _ => hg⟩
theorem may_wait (h : May s) (hp : s.phase = 4) (hc : sh.clock % 2 = 0 ∨ sh.clock % 2 = 1) : May (waitS s sh).2 := by
  have h1 := h.thn
  have hv : validB s = true := by unfold validB; simp [hp]
  rw [hv, if_pos rfl] at h1
  unfold waitS
  split
  · exact h
  · have h3 := h.at0 (by omega) (by omega)
    have hgt : getsB s = (s.thn == 2) := by simp [getsB, hp]
    have hlk : locksB s = (s.thn == 7) := by simp [locksB, hp]
    split
    · rename_i he
      refine ⟨by simp, by simp [validB, h1], fun hk => h.addr (by rw [hgt]; simpa [getsB] using hk), fun _ => h.word (by omega), fun _ h => by simp at h, fun _ _ => h3, fun h => by simp at h, fun h => by simp at h, fun h => by simp at h, ⟨h.even.1, by simp only; omega⟩, h.lenR, h.lenW, h.nodup, fun hk => h.locks (by rw [hlk]; simpa [locksB] using hk), fun hk => h.gets (by rw [hgt]; simpa [getsB] using hk)⟩
    · rename_i he
      refine ⟨by simp, by simp [validB, h1], fun hk => h.addr (by rw [hgt]; simpa [getsB] using hk), fun _ => h.word (by omega), fun h => by simp at h, fun h => by simp at h, fun _ => ⟨by simp only; omega, by simp only; rw [h3]; have := List.length_pos_iff.2 he; omega⟩, fun h => by simp at h, fun h => by simp at h, ⟨h.even.1, by simp only; omega⟩, h.lenR, h.lenW, h.nodup, fun hk => h.locks (by rw [hlk]; simpa [locksB] using hk), fun hk => h.gets (by rw [hgt]; simpa [getsB] using hk)⟩
theorem may_check (h : May s) (hp : s.phase = 5) : May (checkS s sh).2 := by
  have h1 := h.thn
  have hv : validB s = true := by unfold validB; simp [hp]
  rw [hv, if_pos rfl] at h1
  have h5 := h.at5 hp
  have hgt : getsB s = (s.thn == 2) := by simp [getsB, hp]
  have hlk : locksB s = (s.thn == 7) := by simp [locksB, hp]
  unfold checkS
  split
  · exact h
  · split
    · simp only
      split
      · refine ⟨by simp, by simp [validB, h1], fun hk => h.addr (by rw [hgt]; simpa [getsB] using hk), fun _ => h.word (by omega), fun _ h => by simp at h, fun _ _ => rfl, fun h => by simp at h, fun h => by simp at h, fun h => by simp at h, h.even, h.lenR, h.lenW, h.nodup, fun hk => h.locks (by rw [hlk]; simpa [locksB] using hk), fun hk => h.gets (by rw [hgt]; simpa [getsB] using hk)⟩
      · rename_i hne
        refine ⟨h.ph, by have hv2 : validB { s with at_ := s.at_ + 1 } = true := hv; rw [if_pos hv2]; exact h1, fun hk => h.addr (by simpa [getsB] using hk), fun k => h.word k, fun k => absurd hp k, fun k => absurd hp k, fun _ => ⟨by simp only; omega, by simp only; omega⟩, fun k => by simp only at k; omega, fun k => by simp only at k; omega, h.even, h.lenR, h.lenW, h.nodup, fun hk => h.locks (by simpa [locksB] using hk), fun hk => h.gets (by simpa [getsB] using hk)⟩
    · exact may_over
theorem may_close (h : May s) (hp : s.phase = 6) : May (closeS s sh).2 := by
  have h1 := h.thn
  have hv : validB s = true := by unfold validB; simp [hp]
  rw [hv, if_pos rfl] at h1
  have h3 := h.at0 (by omega) (by omega)
  have hgt : getsB s = (s.thn == 2) := by simp [getsB, hp]
  have hlk : locksB s = (s.thn == 7) := by simp [locksB, hp]
  unfold closeS
  split
  · rcases h1 with e | e
    · have hg := h.gets (by rw [hgt, e]; rfl)
      simp only [e]
      refine ⟨by simp, by simp [validB], fun hk => by simp [getsB] at hk, fun _ => h.word (by omega), fun _ _ => rfl, fun _ _ => h3, fun h => by simp at h, fun h => by simp at h, fun h => by simp at h, ⟨h.even.2, by simp⟩, h.lenR, h.lenW, h.nodup, fun hk => by simp [locksB] at hk, fun _ => hg⟩
    · have hk := h.locks (by rw [hlk, e]; rfl)
      have ha := h.addr (by rw [hgt, e]; rfl)
      simp only [e]
      refine ⟨by simp, by simp [validB], fun _ => ha, fun _ => h.word (by omega), fun _ _ => rfl, fun _ _ => h3, fun h => by simp at h, fun h => by simp at h, fun h => by simp at h, ⟨h.even.2, by simp⟩, h.lenR, h.lenW, h.nodup, fun _ => hk, fun k => by simp [getsB] at k⟩
  · refine ⟨by simp, by simp [validB, h1], fun hk => h.addr (by rw [hgt]; simpa [getsB] using hk), fun _ => h.word (by omega), fun _ _ => rfl, fun _ _ => h3, fun h => by simp at h, fun h => by simp at h, fun h => by simp at h, ⟨h.even.1, by simp⟩, h.lenR, h.lenW, h.nodup, fun hk => h.locks (by rw [hlk]; simpa [locksB] using hk), fun hk => h.gets (by rw [hgt]; simpa [getsB] using hk)⟩
theorem may_lock (h : May s) (hp : s.phase = 1 ∨ s.phase = 7) (hw : s.writes ≠ []) : May (lockS s sh).2.1 := by
  have hv : validB s = false := by unfold validB; rcases hp with e | e <;> simp [e]
  have h1 := h.thn
  rw [hv, if_neg (by simp)] at h1
  have h3 := h.at0 (by omega) (by omega)
  have hf := h.found (by omega) (by omega)
  have ha : s.addr = 0 := h.addr (by unfold getsB; rcases hp with e | e <;> simp [e, h1])
  unfold lockS
  split
  · refine ⟨by simp, by simp [validB, h1], fun _ => ha, fun _ => h.word (by omega), fun _ _ => hf, fun _ h => by simp at h, fun h => by simp at h, fun _ => ⟨by simp only; omega, by simp only; rw [h3]; have := List.length_pos_iff.2 hw; omega⟩, fun h => by simp at h, h.even, h.lenR, h.lenW, h.nodup, fun _ => hw, fun hk => by simp [getsB, h1] at hk⟩
  · refine ⟨by simp, by simp [validB], fun _ => ha, fun _ => h.word (by omega), fun _ _ => hf, fun _ _ => h3, fun h => by simp at h, fun h => by simp at h, fun h => by simp at h, h.even, h.lenR, h.lenW, h.nodup, fun _ => hw, fun hk => by simp [getsB] at hk⟩
theorem may_store (h : May s) (hp : s.phase = 8) : May (storeS s sh).2.1 := by
  have hv : validB s = false := by unfold validB; simp [hp]
  have h1 := h.thn
  rw [hv, if_neg (by simp)] at h1
  have h8 := h.at8 hp
  have hw := h.locks (by simp [locksB, hp])
  have hf := h.found (by omega) (by omega)
  have ha : s.addr = 0 := h.addr (by simp [getsB, hp, h1])
  unfold storeS
  split
  · exact h
  · simp only
    split
    · refine ⟨by simp, by simp [validB, h1], fun _ => ha, fun _ => h.word (by omega), fun _ _ => hf, fun _ _ => rfl, fun h => by simp at h, fun h => by simp at h, fun h => by simp at h, h.even, h.lenR, h.lenW, h.nodup, fun _ => hw, fun hk => by simp [getsB, h1] at hk⟩
    · refine ⟨h.ph, by have hv2 : validB { s with at_ := s.at_ + 1 } = false := hv; rw [if_neg (by rw [hv2]; simp)]; exact h1, fun _ => ha, fun k => h.word k, fun k1 k2 => h.found k1 k2, fun _ k => absurd hp k, fun k => by simp only at k; omega, fun _ => ⟨by simp only; omega, by simp only; omega⟩, fun k => by simp only at k; omega, h.even, h.lenR, h.lenW, h.nodup, fun _ => hw, fun hk => h.gets (by simpa [getsB] using hk)⟩
theorem may_get (h : May s) (x : Int) : May (getS s sh x).2.2 := by
  unfold getS
  split
  · exact h
  · rename_i hp
    split
    · exact h
    · rename_i hpl
      split
      · exact h
      · split
        · exact h
        · exact may_load h (.inl (by omega)) x (by omega) (place_none hpl)
theorem may_put (h : May s) (x v : Int) : May (putS s sh x v).2.2 := by
  unfold putS
  split
  · exact h
  · rename_i hp
    have hp1 : s.phase = 1 := by omega
    have hv : validB s = false := by unfold validB; simp [hp1]
    have h1 := h.thn
    rw [hv, if_neg (by simp)] at h1
    have hg : getsB s = false := by simp [getsB, hp1, h1]
    have hl : locksB s = false := by simp [locksB, hp1, h1]
    split
    · exact h
    · split
      · rename_i k hk
        exact ⟨h.ph, h.thn, h.addr, h.word, h.found, h.at0, fun k => by simp only at k; omega, fun k => by simp only at k; omega, fun k => by simp only at k; omega, h.even, h.lenR, by simpa using h.lenW, by simp only; rw [set_map hk]; exact h.nodup, (fun k => by have : locksB s = true := k; rw [hl] at this; cases this), (fun k => by have : getsB s = true := k; rw [hg] at this; cases this)⟩
      · rename_i hk
        split
        · refine ⟨h.ph, h.thn, h.addr, h.word, h.found, h.at0, fun k => by simp only at k; omega, fun k => by simp only at k; omega, fun k => by simp only at k; omega, h.even, h.lenR, by simp; omega, ?_, (fun k => by have : locksB s = true := k; rw [hl] at this; cases this), (fun k => by have : getsB s = true := k; rw [hg] at this; cases this)⟩
          simp only [List.map_append, List.map_cons, List.map_nil]
          rw [List.nodup_append]
          exact ⟨h.nodup, by simp, fun a ha b hb => by simp at hb; subst hb; rintro rfl; exact place_none hk ha⟩
        · exact h
theorem may_end (h : May s) : May (endS s sh).2.2.1 := by
  unfold endS
  split
  · exact h
  · split
    · exact may_over
    · exact may_lock h (.inl (by omega)) (by assumption)
theorem may_drop (h : May s) : May (dropS s).2 := by
  unfold dropS
  split
  · exact h
  · exact may_over
theorem may_step (h : May s) (hc : sh.clock % 2 = 0 ∨ sh.clock % 2 = 1) : May (stepS s sh).2.2.1 := by
  unfold stepS
  split
  · rename_i hp
    have hg := h.gets (by simp [getsB, hp])
    split
    · exact may_load (sh := sh) h (.inr hp) s.addr hg.1 hg.2
    · exact h
  · split
    · exact may_look h (by assumption)
    · split
      · exact may_wait h (by assumption) hc
      · split
        · exact may_check h (by assumption)
        · split
          · exact may_close h (by assumption)
          · split
            · rename_i hp
              exact may_lock h (.inr hp) (h.locks (by simp [locksB, hp]))
            · split
              · exact may_store h (by assumption)
              · split
                · exact may_over
                · exact h
end

/-- cells and clock are words -/
structure WideSh (sh : Sh) : Prop where
  row : ∀ v ∈ sh.row, 0 ≤ v ∧ v < 18446744073709551616
  clock : 0 ≤ sh.clock ∧ sh.clock < 18446744073709551616
theorem WideSh.par {sh : Sh} (h : WideSh sh) : sh.clock % 2 = 0 ∨ sh.clock % 2 = 1 := by have := h.clock; omega
theorem wide_over : Wide overS := ⟨by simp [overS], by simp [overS], by simp [overS], by simp [overS], by simp [overS], by simp [overS]⟩
theorem wide_fresh {n : Int} (h : 0 ≤ n ∧ n < 18446744073709551616) : Wide (fresh n) := ⟨h, by simp [fresh], by simp [fresh], by simp [fresh], by simp [fresh], by simp [fresh]⟩
theorem wd_wide {row : List Int} (h : ∀ v ∈ row, 0 ≤ v ∧ v < 18446744073709551616) (i : Nat) : 0 ≤ wd row i ∧ wd row i < 18446744073709551616 := by
  unfold wd
  by_cases hi : i < row.length
  · rw [List.getD_eq_getElem?_getD, List.getElem?_eq_getElem hi]
    exact h _ (List.getElem_mem hi)
  · rw [List.getD_eq_getElem?_getD, List.getElem?_eq_none (by omega)]
    exact ⟨by simp, by simp⟩
theorem loadW_wide {row : List Int} (h : ∀ v ∈ row, 0 ≤ v ∧ v < 18446744073709551616) (x : Int) : 0 ≤ loadW row x ∧ loadW row x < 18446744073709551616 := by
  unfold loadW
  split
  · exact wd_wide h _
  · exact ⟨by simp, by simp⟩
theorem storeW_wide {row : List Int} (h : ∀ v ∈ row, 0 ≤ v ∧ v < 18446744073709551616) (x v : Int) (hv : 0 ≤ v ∧ v < 18446744073709551616) : ∀ u ∈ storeW row x v, 0 ≤ u ∧ u < 18446744073709551616 := by
  unfold storeW
  split
  · intro u hu
    rcases List.mem_or_eq_of_mem_set hu with h1 | h1
    · exact h u h1
    · rw [h1]; exact hv
  · exact h
theorem storeW_len (row : List Int) (x v : Int) : (storeW row x v).length = row.length := by unfold storeW; split <;> simp
section
variable {s : AS} {sh : Sh}
theorem wide_load (h : Wide s) (hs : WideSh sh) {x : Int} (hx : 0 ≤ x ∧ x < 18446744073709551616) : Wide (loadS { s with addr := x } sh).2 :=
  ⟨h.snap, h.reads, h.writes, hx, loadW_wide hs.row _, h.found⟩
theorem wide_look (h : Wide s) : Wide (lookS s sh).2 := by
  unfold lookS
  split
  · refine ⟨h.snap, fun c hc => ?_, h.writes, by simp, by simp, h.found⟩
    rcases List.mem_append.1 hc with hc | hc
    · exact h.reads c hc
    · rw [List.mem_singleton] at hc; subst hc; exact ⟨h.addr, h.word⟩
  · exact ⟨h.snap, h.reads, h.writes, h.addr, by simp, h.found⟩
theorem wide_wait (h : Wide s) (hs : WideSh sh) : Wide (waitS s sh).2 := by
  unfold waitS
  split
  · exact h
  · exact ⟨h.snap, h.reads, h.writes, h.addr, h.word, hs.clock⟩
theorem wide_check (h : Wide s) : Wide (checkS s sh).2 := by
  unfold checkS
  split
  · exact h
  · split
    · simp only
      split
      · exact ⟨h.snap, h.reads, h.writes, h.addr, h.word, h.found⟩
      · exact ⟨h.snap, h.reads, h.writes, h.addr, h.word, h.found⟩
    · exact wide_over
theorem wide_close (h : Wide s) : Wide (closeS s sh).2 := by
  unfold closeS
  split
  · exact ⟨h.found, h.reads, h.writes, h.addr, h.word, by simp⟩
  · exact ⟨h.snap, h.reads, h.writes, h.addr, h.word, by simp⟩
theorem wide_lock (h : Wide s) : Wide (lockS s sh).2.1 := by
  unfold lockS
  split
  · exact ⟨h.snap, h.reads, h.writes, h.addr, h.word, h.found⟩
  · exact ⟨h.snap, h.reads, h.writes, h.addr, h.word, h.found⟩
theorem wsh_lock (hs : WideSh sh) (he : s.snap % 2 = 0) : WideSh (lockS s sh).2.2 := by
  unfold lockS
  split
  · rename_i e
    exact ⟨hs.row, by have := hs.clock; simp only; omega⟩
  · exact hs
theorem wide_store (h : Wide s) : Wide (storeS s sh).2.1 := by
  unfold storeS
  split
  · exact h
  · simp only
    split
    · exact ⟨h.snap, h.reads, h.writes, h.addr, h.word, h.found⟩
    · exact ⟨h.snap, h.reads, h.writes, h.addr, h.word, h.found⟩
theorem wsh_store (h : Wide s) (hs : WideSh sh) : WideSh (storeS s sh).2.2 := by
  unfold storeS
  split
  · exact hs
  · rename_i c hc
    exact ⟨storeW_wide hs.row _ _ (h.writes c (List.mem_of_getElem? hc)).2, hs.clock⟩
theorem wsh_free (hs : WideSh sh) : WideSh (freeS s sh).2.2 := by
  unfold freeS
  simp only
  split
  · exact ⟨hs.row, by simp only; omega⟩
  · exact hs
theorem wide_get (h : Wide s) (hs : WideSh sh) {x : Int} (hx : 0 ≤ x ∧ x < 18446744073709551616) : Wide (getS s sh x).2.2 := by
  unfold getS
  split
  · exact h
  · split
    · exact h
    · split
      · exact h
      · split
        · exact h
        · exact wide_load h hs hx
theorem wide_put (h : Wide s) {x v : Int} (hx : 0 ≤ x ∧ x < 18446744073709551616) (hv : 0 ≤ v ∧ v < 18446744073709551616) : Wide (putS s sh x v).2.2 := by
  unfold putS
  split
  · exact h
  · split
    · exact h
    · split
      · refine ⟨h.snap, h.reads, fun c hc => ?_, h.addr, h.word, h.found⟩
        rcases List.mem_or_eq_of_mem_set hc with h1 | h1
        · exact h.writes c h1
        · rw [h1]; exact ⟨hx, hv⟩
      · split
        · refine ⟨h.snap, h.reads, fun c hc => ?_, h.addr, h.word, h.found⟩
          rcases List.mem_append.1 hc with hc | hc
          · exact h.writes c hc
          · rw [List.mem_singleton] at hc; subst hc; exact ⟨hx, hv⟩
        · exact h
theorem wide_end (h : Wide s) : Wide (endS s sh).2.2.1 := by
  unfold endS
  split
  · exact h
  · split
    · exact wide_over
    · exact wide_lock h
theorem wsh_end (hs : WideSh sh) (he : s.snap % 2 = 0) : WideSh (endS s sh).2.2.2 := by
  unfold endS
  split
  · exact hs
  · split
    · exact hs
    · exact wsh_lock hs he
theorem wide_drop (h : Wide s) : Wide (dropS s).2 := by
  unfold dropS
  split
  · exact h
  · exact wide_over
theorem wide_step (h : Wide s) (hs : WideSh sh) : Wide (stepS s sh).2.2.1 := by
  unfold stepS
  split
  · split
    · exact wide_load (s := s) h hs h.addr
    · exact h
  · split
    · exact wide_look h
    · split
      · exact wide_wait h hs
      · split
        · exact wide_check h
        · split
          · exact wide_close h
          · split
            · exact wide_lock h
            · split
              · exact wide_store h
              · split
                · exact wide_over
                · exact h
theorem wsh_step (h : Wide s) (hs : WideSh sh) (he : s.snap % 2 = 0) : WideSh (stepS s sh).2.2.2 := by
  unfold stepS
  split
  · split <;> exact hs
  · split
    · exact hs
    · split
      · exact hs
      · split
        · exact hs
        · split
          · exact hs
          · split
            · exact wsh_lock hs he
            · split
              · exact wsh_store h hs
              · split
                · exact wsh_free hs
                · exact hs
theorem len_store : (storeS s sh).2.2.row.length = sh.row.length := by
  unfold storeS
  split
  · rfl
  · exact storeW_len _ _ _
theorem len_lock : (lockS s sh).2.2.row = sh.row := by unfold lockS; split <;> rfl
theorem len_free : (freeS s sh).2.2.row = sh.row := by unfold freeS; simp only; split <;> rfl
theorem len_step : (stepS s sh).2.2.2.row.length = sh.row.length := by
  unfold stepS
  repeat' split
  all_goals first | rfl | exact len_store | (rw [len_lock]) | (rw [len_free])
theorem len_end : (endS s sh).2.2.2.row.length = sh.row.length := by
  unfold endS
  repeat' split
  all_goals first | rfl | (rw [len_lock])
end
end Go.Proofs.Ythfeljongackcaa
