/- AttemptAlone: what stands in memory in the law's loop. The conditions: its log short. -/
import Derived.Test.YthfeljongackcaaAAlone4
import Derived.Test.YthfeljongackcaaOpen
import Derived.Test.YthfeljongackcaaOwn
import Derived.Maps.AppendAt
set_option linter.unusedSimpArgs false
set_option linter.unusedVariables false
set_option maxRecDepth 100000
namespace Go.Proofs.Ythfeljongackcaa
open Go.RowKit
open Go.Maps
/-- address and word of the i-th pair -/
def pA (V : Nat → Value) (i : Nat) : Int := intOf (V (i * 2))
def pX (V : Nat → Value) (i : Nat) : Int := intOf (V (i * 2 + 1))
/-- cells hold n pairs of u64 -/
def PairsAt (n : Nat) (V : Nat → Value) : Prop := ∀ i, i < n → V (i * 2) = .int .u64 (pA V i) ∧ V (i * 2 + 1) = .int .u64 (pX V i) ∧ (0 ≤ pA V i ∧ pA V i < 18446744073709551616) ∧ (0 ≤ pX V i ∧ pX V i < 18446744073709551616)
theorem PairsAt.at {n : Nat} {V : Nat → Value} {w w' : World} {b o i : Nat} (h : PairsAt n V) (hs : SlV w (some ⟨b, o, none⟩) (n * 2) V) (hi : i < n) (hu : Below w.heap.size w w') :
    w'.cell? ⟨b, o + i * 2, none⟩ = some (.int .u64 (pA V i)) ∧ w'.cell? ⟨b, o + i * 2 + 1, none⟩ = some (.int .u64 (pX V i)) := by
  obtain ⟨e0, e1, _⟩ := h i hi
  have hb := hs.lt (by omega) rfl
  have c0 := (hu.cell (p := ⟨b, o + i * 2, none⟩) hb).trans (hs.cells b o rfl (i * 2) (by omega))
  have c1 := (hu.cell (p := ⟨b, o + (i * 2 + 1), none⟩) hb).trans (hs.cells b o rfl (i * 2 + 1) (by omega))
  rw [e0] at c0
  rw [e1, ← Nat.add_assoc] at c1
  exact ⟨c0, c1⟩

/-- the law's loop: the attempt, what stands there now (block n1), what was written (block n2) -/
structure Al (w0 : World) (X : SX) (ws : List Int) (a : Nat) (R L : List (Int × Int)) (F : List Nat) (n1 n2 : Nat) (sp1 sp2 : List Value) (N : List Int) (B : List Bool) (W : World) : Prop where
  hL : LX W X (sh0 ws) a (al R L) F
  may : May (al R L)
  out : ∀ g ∈ own X a F, w0.heap.size ≤ g
  b1 : Blk W n1 (N.map (Value.int .u64) ++ sp1) 31
  b2 : Blk W n2 (B.map Value.bool ++ sp2) 4
  x1 : n1 ∉ own X a F
  x2 : n2 ∉ own X a F
  ne : n1 ≠ n2
  o1 : w0.heap.size ≤ n1
  o2 : w0.heap.size ≤ n2
  U : Upd [] w0 W
section
variable {w0 W W' : World} {X : SX} {ws : List Int} {a : Nat} {R L R' L' : List (Int × Int)} {F F' : List Nat} {n1 n2 : Nat} {sp1 sp2 : List Value} {N : List Int} {B : List Bool}
theorem Al.next (h : Al w0 X ws a R L F n1 n2 sp1 sp2 N B W) (hL : LX W' X (sh0 ws) a (al R' L') F') (hM : May (al R' L')) (u : Upd (own X a F) W W') (hF : ∀ g ∈ F', g ∈ F ∨ W.heap.size ≤ g) : Al w0 X ws a R' L' F' n1 n2 sp1 sp2 N B W' := by
  have hs := h.U.size
  have h1 := h.b1.lt
  have h2 := h.b2.lt
  have ho := own_next (X := X) (a := a) hF
  refine ⟨hL, hM, fun g hg => ?_, h.b1.upd u h.x1, h.b2.upd u h.x2, fun hg => ?_, fun hg => ?_, h.ne, h.o1, h.o2, h.U.tr u (by simp) (fun x hx => .inr (h.out x hx))⟩
  · rcases ho g hg with k | k
    · exact h.out g k
    · omega
  · rcases ho _ hg with k | k
    · exact h.x1 k
    · omega
  · rcases ho _ hg with k | k
    · exact h.x2 k
    · omega
theorem Al.free0 (h : Al w0 X ws a R L F n1 n2 sp1 sp2 N B W) (u : Upd [] W W') : Al w0 X ws a R L F n1 n2 sp1 sp2 N B W' :=
  ⟨h.hL.upd0 u, h.may, h.out, h.b1.upd u (by simp), h.b2.upd u (by simp), h.x1, h.x2, h.ne, h.o1, h.o2, h.U.trans u⟩
theorem Al.set1 (h : Al w0 X ws a R L F n1 n2 sp1 sp2 N B W) (k : Nat) (hk : k < N.length) (v : Int) : Al w0 X ws a R L F n1 n2 sp1 sp2 (N.set k v) B (W.setCell ⟨n1, k, none⟩ (.int .u64 v)) := by
  have u : Upd [n1] W (W.setCell ⟨n1, k, none⟩ (.int .u64 v)) := (Upd.refl _ _).setCell (.inl (by simp)) _
  have hb := h.b1.set k (.int .u64 v)
  rw [List.set_append_left _ _ (by simpa using hk), ← List.map_set] at hb
  exact ⟨h.hL.updb u h.x1, h.may, h.out, hb, h.b2.other _ _ (Ne.symm h.ne), h.x1, h.x2, h.ne, h.o1, h.o2, h.U.setCell (.inr h.o1) _⟩
theorem Al.set2 (h : Al w0 X ws a R L F n1 n2 sp1 sp2 N B W) (k : Nat) (hk : k < B.length) (v : Bool) : Al w0 X ws a R L F n1 n2 sp1 sp2 N (B.set k v) (W.setCell ⟨n2, k, none⟩ (.bool v)) := by
  have u : Upd [n2] W (W.setCell ⟨n2, k, none⟩ (.bool v)) := (Upd.refl _ _).setCell (.inl (by simp)) _
  have hb := h.b2.set k (.bool v)
  rw [List.set_append_left _ _ (by simpa using hk), ← List.map_set] at hb
  exact ⟨h.hL.updb u h.x2, h.may, h.out, h.b1.other _ _ h.ne, hb, h.x1, h.x2, h.ne, h.o1, h.o2, h.U.setCell (.inr h.o2) _⟩
end

/-- n times no (a name of its own) -/
def nones (n : Nat) : Array Value := (List.replicate n (Value.bool false)).toArray
theorem nones_made (n : Nat) : madeCells (Value.bool false).cells (n * 1) = nones n := by
  have h : (madeCells #[Value.bool false] n).toList = List.replicate n (Value.bool false) := toList_madeCells_one _ _
  have h2 : madeCells (Value.bool false).cells (n * 1) = madeCells #[Value.bool false] n := by rw [Nat.mul_one]; rfl
  rw [h2]
  apply Array.ext'
  rw [h, nones]
theorem info_bool : (Try.prog.info? 4).map (fun i => (i.zero, i.size, i.bytes)) = some (some (.bool false), 1, 1) := by kernel_rfl
theorem make_bools (n : Nat) (hn : n ≤ 65536) : ∀ w, (Instr.makeSlice 51 (.int .i64 n) (.int .i64 n)).run Try.prog w = .ok (.slice (some ⟨w.heap.size, 0, none⟩) n n) (w.alloc (.cells (nones n) 4)) := by
  intro w
  obtain ⟨i0, hi, hz0, hz1, hz2⟩ := info_parts info_bool
  have h := run_make (P := Try.prog) w 51 4 i0 (.bool false) Try.underlying51 hi hz0 .i64 .i64 n n (by omega) (by omega) (by rw [hz2]; omega) (by omega)
  rw [hz1] at h
  simp only [Int.toNat_natCast] at h
  rw [h, nones_made]
/-- a new slice with these words -/
theorem append_new (W : World) (p : Option Addr) (zs : List Int) (cap : Nat) (h : SlI W .u64 p zs) (hn : 1 ≤ zs.length) (hm : zs.length ≤ 65536) :
    ∃ g c sp w', (Builtin.append_ #[48, 48] 48 #[.slice none 0 0, .slice p zs.length cap]).run Try.prog W = .ok (.slice (some ⟨g, 0, none⟩) zs.length c) w' ∧
      Blk w' g (zs.map (Value.int .u64) ++ sp) 31 ∧ W.heap.size ≤ g ∧ Upd [] W w' := by
  have hz : zs ≠ [] := fun e => by subst e; simp at hn
  obtain ⟨ad, rfl, hsrc⟩ := h.src hz
  obtain ⟨i0, hi, hz0, hz1, hz2⟩ := info_parts info_u64
  obtain ⟨v', w', hr, ho, hg, _, _⟩ := run_append_own_at (P := Try.prog) (w := W) W.heap.size 48 48 31 i0 (.int .u64 0) 1 8 Try.underlying48 hi hz0 hz1 hz2 rfl (by omega)
    (.slice none 0 0) 0 [] ⟨rfl, .inl ⟨rfl, rfl⟩⟩ ad zs.length cap (zs.map (Value.int .u64)) (by simp) hsrc (fun u hu => by simp at hu; obtain ⟨x, _, rfl⟩ := hu; rfl) (by unfold maxLen; omega) (by omega) (Nat.le_refl _)
  rw [Nat.zero_add, List.nil_append] at ho
  obtain ⟨g, c, rfl⟩ := own_some ho hn
  obtain ⟨hb, _, sp, hB, _, _⟩ := own_open ho
  exact ⟨g, c, sp, w', hr, hB, hb, Upd.of_grown hg (fun k e => by simp [Value.ownBlock] at e)⟩
end Go.Proofs.Ythfeljongackcaa
