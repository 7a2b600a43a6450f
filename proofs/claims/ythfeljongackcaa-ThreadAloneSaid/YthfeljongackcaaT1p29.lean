/- Arguments opened to what their cells hold: a slice of integers, of bools, of structs. No condition. Arguments opened with their reach: slices of structs whose fields are slices. No condition. An argument that is an attempt's state, opened. No condition. Programs among the arguments, opened. No condition. -/
import Derived.Test.YthfeljongackcaaT1p28
import Derived.Deep.Grids
import Derived.Deep.Fields
import Derived.SizedLaws
import Derived.Test.YthfeljongackcaaT1p17
import Derived.Test.YthfeljongackcaaT1p27
set_option linter.unusedSimpArgs false
set_option linter.unusedVariables false
set_option maxRecDepth 100000
namespace Go.Proofs.Ythfeljongackcaa
open Go.ChangeShapes Go.WideShapes Go.ChangeAt Go.RowKit Go.Deep

section
variable {H : Type} {enc : TypeId × Value → H} {P : Program} {w : World} {base : Nat} {held : Bool}

theorem spot_none {a : Addr} {v : Value} (h : w.cell? a = some v) : a.spot = none := by
  unfold World.cell? at h
  split at h
  · split at h
    · cases h
    · rename_i hs; simpa using hs
  · cases h

theorem addr_eta {a : Addr} (h : a.spot = none) : a = ⟨a.block, a.off, none⟩ := by cases a; simp at h; subst h; rfl

/-- a slice of integers that came in -/
theorem open_sl_ints {t e : TypeId} {k : IntKind} {r : Reach} {b0 : Nat} {v : Value} {d : DataW H} {ps : List MemPlace} (ht : P.underlying t = some (.slice e)) (he : P.underlying e = some (.int k)) (hc : P.cellsOf e = 1)
    (hval : Value.okWide P w r b0 t v) (h : DataW.Trod enc P w base (fun _ => true) held t v d ps) :
    ∃ (p : Option Addr) (cap : Nat) (zs : List Int), v = .slice p zs.length cap ∧ SlI w k p zs ∧ (∀ n ∈ zs, (Lit.int k n).wf = true) ∧ zs.length ≤ cap ∧ cap ≤ maxLen ∧ (∀ b o, p = some ⟨b, o, none⟩ → zs ≠ [] → b < w.heap.size) := by
  obtain ⟨p, len, cap, rfl⟩ := okWide_slice ht hval
  obtain ⟨fuel, hf⟩ := h
  rcases open_ints ht he hc hf with ⟨h0, _⟩ | ⟨a, l, c, zs, hcs, _, hlc, hm, hl, _, hcell, hwf⟩
  · simp [Value.cells] at h0
    obtain ⟨rfl, rfl, rfl⟩ := h0
    exact ⟨none, 0, [], rfl, SlI.nil _ _ _, by simp, by simp, by simp [maxLen], by simp⟩
  · simp [Value.cells] at hcs
    obtain ⟨rfl, rfl, rfl⟩ := hcs
    simp only [if_true] at hl
    have hlen : (zs.take len).length = len := by simp; omega
    have hget : ∀ i, i < len → wd (zs.take len) i = zs.getD i 0 := by intro i hi; simp [wd, hi]
    have hsp : 0 < len → a.spot = none := fun hp => by
      have := hcell 0 (by omega)
      rw [show a.add 0 = a from rfl] at this
      exact spot_none this
    refine ⟨some a, cap, zs.take len, by rw [hlen], ⟨fun hne => ?_, fun b o e i hi => ?_⟩, fun n hn => hwf n (List.mem_of_mem_take hn), by omega, hm, fun b o e hne => ?_⟩
    · have : 0 < len := by rcases Nat.eq_zero_or_pos len with h0 | h0; subst h0; simp at hne; exact h0
      exact ⟨a.block, a.off, by rw [← addr_eta (hsp this)]⟩
    · rw [hlen] at hi
      rw [hget i hi]
      have := hcell i (by omega)
      simp at e
      rw [e, addr_add] at this
      exact this
    · have : 0 < len := by rcases Nat.eq_zero_or_pos len with h0 | h0; subst h0; simp at hne; exact h0
      have hc0 := hcell 0 (by omega)
      simp at e
      rw [show a.add 0 = a from rfl, e] at hc0
      exact World.block_lt_of_cell? w _ hc0

/-- the reach of a slice among the arguments -/
theorem slice_reach {t e : TypeId} {ts : List TypeId} {ds : List (DataW H)} {j : Nat} {p : Option Addr} {len cap : Nat} {d : DataW H} {ps : List MemPlace} (ht : P.underlying t = some (.slice e)) {w' : World}
    (h : DataW.Trod enc P w' base (fun _ => true) held t (.slice p len cap) d ps) (hw : (DataW.weightsEach P ts ds).all (· ≤ reachBytes) = true) (hj : ts[j]? = some t) (hd : ds[j]? = some d) (n : Nat) (hn : P.bytesOf e = n) : cap * n ≤ 140737488351232 := by
  subst hn
  obtain ⟨fuel, hf⟩ := h
  rcases open_slice ht hf with ⟨h0, _⟩ | ⟨a, l, c, m, _, D, Pl, hcs, _, hlc, hm, hmm, hx, _⟩
  · simp [Value.cells] at h0
    obtain ⟨rfl, rfl, rfl⟩ := h0
    simp
  · simp [Value.cells] at hcs
    obtain ⟨rfl, rfl, rfl⟩ := hcs
    simp only [if_true] at hmm
    subst hmm
    have hd' := (Prod.mk.inj hx).1
    rw [hd'] at hd
    have := sized_slice hw hj hd ht
    simp only [List.length_map, List.length_range, reachBytes] at this
    rw [show len + (m - len) = m by omega] at this
    omega

/-- v is a slice that reads as these cells -/
structure SlV (w : World) (p : Option Addr) (n : Nat) (V : Nat → Value) : Prop where
  ne : 0 < n → ∃ b o, p = some ⟨b, o, none⟩
  cells : ∀ b o, p = some ⟨b, o, none⟩ → ∀ i, i < n → w.cell? ⟨b, o + i, none⟩ = some (V i)

theorem SlV.lt {w : World} {p : Option Addr} {n : Nat} {V : Nat → Value} (h : SlV w p n V) (hn : 0 < n) {b o : Nat} (e : p = some ⟨b, o, none⟩) : b < w.heap.size :=
  World.block_lt_of_cell? w _ (h.cells b o e 0 hn)

theorem SlV.below {w w' : World} {p : Option Addr} {n : Nat} {V : Nat → Value} (h : SlV w p n V) (hu : Below w.heap.size w w') : SlV w' p n V :=
  ⟨h.ne, fun b o e i hi => (hu.cell (p := ⟨b, o + i, none⟩) (h.lt (by omega) e)).trans (h.cells b o e i hi)⟩

theorem SlI.slv {k : IntKind} {p : Option Addr} {zs : List Int} (h : SlI w k p zs) : SlV w p zs.length (fun i => .int k (wd zs i)) :=
  ⟨fun hn => h.ne (List.length_pos_iff.1 hn), h.cells⟩

/-- a slice of bools that came in -/
theorem open_sl_bools {t e : TypeId} {r : Reach} {b0 : Nat} {v : Value} {d : DataW H} {ps : List MemPlace} (ht : P.underlying t = some (.slice e)) (he : P.underlying e = some .bool) (hc : P.cellsOf e = 1)
    (hval : Value.okWide P w r b0 t v) (h : DataW.Trod enc P w base (fun _ => true) held t v d ps) :
    ∃ (p : Option Addr) (n cap : Nat) (B : Nat → Bool), v = .slice p n cap ∧ SlV w p n (fun i => .bool (B i)) ∧ n ≤ cap ∧ cap ≤ maxLen := by
  obtain ⟨p, len, cap, rfl⟩ := okWide_slice ht hval
  obtain ⟨fuel, hf⟩ := h
  rcases open_bools ht he hc hf with ⟨h0, _⟩ | ⟨a, l, c, B, hcs, _, hlc, hm, _, hcell⟩
  · simp [Value.cells] at h0
    obtain ⟨rfl, rfl, rfl⟩ := h0
    exact ⟨none, 0, 0, fun _ => false, rfl, ⟨fun h => absurd h (by simp), fun _ _ e => by simp at e⟩, by simp, by simp [maxLen]⟩
  · simp [Value.cells] at hcs
    obtain ⟨rfl, rfl, rfl⟩ := hcs
    refine ⟨some a, len, cap, B, rfl, ⟨fun hp => ?_, fun b o e i hi => ?_⟩, hlc, hm⟩
    · have := hcell 0 (by omega)
      rw [show a.add 0 = a from rfl] at this
      exact ⟨a.block, a.off, by rw [← addr_eta (spot_none this)]⟩
    · have := hcell i (by omega)
      simp at e
      rw [e, addr_add] at this
      exact this

theorem open_slice_fields {spare : Nat → Bool} {t e : TypeId} {fs : Array Field} {fuel : Nat} {cs : List Value} {x : DataW H × List MemPlace} (ht : P.underlying t = some (.slice e)) (he : P.underlying e = some (.struct fs))
    (hone : oneCellFields P fs = true) (hC : P.cellsOf e = fs.size) (h : DataW.trod enc P w base spare held fuel t cs = some x) :
    (cs = [.slice none 0 0] ∧ x = (.nil, [])) ∨
    ∃ (a : Addr) (len cap m : Nat) (D : Nat → DataW H) (Pl : Nat → List MemPlace), cs = [.slice (some a) len cap] ∧ base ≤ a.block ∧ len ≤ cap ∧ cap ≤ maxLen ∧ m = (if spare a.block then cap else len) ∧
      x = (.slice ((List.range len).map D) ((List.range (m - len)).map fun j => D (len + j)), MemPlace.row a (m * fs.size) ++ (List.range m).flatMap Pl) ∧
      ∀ i, i < m → ∃ (ys : List (DataW H × List MemPlace)) (n : Nat), D i = .agg (ys.map (·.1)) ∧ Pl i = ys.flatMap (·.2) ∧ ys.length = fs.size ∧
        ∀ (j : Nat) (f : Field), fs[j]? = some f → ∃ (v : Value) (y : DataW H × List MemPlace), w.cell? (a.add (i * fs.size + j)) = some v ∧ ys[j]? = some y ∧ DataW.trod enc P w base spare held n f.type [v] = some y := by
  rcases open_slice ht h with h0 | ⟨a, len, cap, m, n, D, Pl, hcs, hb, hl, hm, hmm, hx, hi⟩
  · exact .inl h0
  · refine .inr ⟨a, len, cap, m, D, Pl, hcs, hb, hl, hm, hmm, by rw [hC] at hx; exact hx, fun i him => ?_⟩
    obtain ⟨cs', hc, ht'⟩ := hi i him
    rw [hC] at hc
    obtain ⟨ys, n', hn', hy, hlen, hyl, hf⟩ := DataW.trod_struct he ht'
    obtain ⟨_, hcl, hat⟩ := World.cells?_some hc
    simp only [Prod.mk.injEq] at hy
    refine ⟨ys, n', hy.1, hy.2, hyl, fun j f hj => ?_⟩
    obtain ⟨ho, hk⟩ := hone_of hone j f hj
    have hjl : j < fs.size := (Array.getElem?_eq_some_iff.1 hj).1
    have hcell := hat j hjl
    have hv : cs'[j]? = some (cs'[j]'(by omega)) := List.getElem?_eq_getElem (by omega)
    have h1 := hf j f hj
    rw [ho, hk] at h1
    have hone' : (cs'.drop j).take 1 = [cs'[j]'(by omega)] := by
      rw [List.drop_eq_getElem_cons (by omega)]
      rfl
    rw [hone'] at h1
    have hys : ys[j]? = some (ys[j]'(by omega)) := List.getElem?_eq_getElem (by omega)
    refine ⟨_, _, ?_, hys, h1.trans hys⟩
    rw [← Go.Deep.add_add, hcell, hv]

/-- a slice of structs of one-cell fields that came in: each cell's value is one of its field's type -/
theorem open_sl_structs {t e : TypeId} {fs : Array Field} {r : Reach} {b0 : Nat} {v : Value} {d : DataW H} {ps : List MemPlace} (ht : P.underlying t = some (.slice e)) (he : P.underlying e = some (.struct fs))
    (hone : oneCellFields P fs = true) (hC : P.cellsOf e = fs.size) (hpos : 0 < fs.size)
    (hval : Value.okWide P w r b0 t v) (h : DataW.Trod enc P w base (fun _ => true) held t v d ps) :
    ∃ (p : Option Addr) (n cap : Nat) (V : Nat → Value), v = .slice p n cap ∧ SlV w p (n * fs.size) V ∧ n ≤ cap ∧ cap ≤ maxLen ∧
      ∀ i, i < n → ∀ (j : Nat) (f : Field), fs[j]? = some f → ∃ (m : Nat) (y : DataW H × List MemPlace), DataW.trod enc P w base (fun _ => true) held m f.type [V (i * fs.size + j)] = some y := by
  obtain ⟨p, len, cap, rfl⟩ := okWide_slice ht hval
  obtain ⟨fuel, hf⟩ := h
  rcases open_slice_fields ht he hone hC hf with ⟨h0, _⟩ | ⟨a, l, c, m, D, Pl, hcs, _, hlc, hm, hmm, _, hcell⟩
  · simp [Value.cells] at h0
    obtain ⟨rfl, rfl, rfl⟩ := h0
    exact ⟨none, 0, 0, fun _ => undef, rfl, ⟨fun h => absurd h (by simp), fun _ _ e => by simp at e⟩, by simp, by simp [maxLen], fun i hi => by omega⟩
  · simp [Value.cells] at hcs
    obtain ⟨rfl, rfl, rfl⟩ := hcs
    simp only [if_true] at hmm
    subst hmm
    have hall : ∀ q, q < len * fs.size → ∃ v, w.cell? (a.add q) = some v := by
      intro q hq
      have h1 : q / fs.size < len := Nat.div_lt_of_lt_mul (by rw [Nat.mul_comm]; exact hq)
      have h2 : q % fs.size < fs.size := Nat.mod_lt _ hpos
      obtain ⟨ys, n', _, _, _, hj⟩ := hcell (q / fs.size) (by omega)
      obtain ⟨v, y, hv, _, _⟩ := hj (q % fs.size) fs[q % fs.size] (by simp [h2])
      have e : q / fs.size * fs.size + q % fs.size = q := by rw [Nat.mul_comm]; exact Nat.div_add_mod q fs.size
      rw [e] at hv
      exact ⟨v, hv⟩
    have hsp : ∀ q, q < len * fs.size → w.cell? (a.add q) = some ((w.cell? (a.add q)).getD undef) := by
      intro q hq
      obtain ⟨v, hv⟩ := hall q hq
      rw [hv]; rfl
    refine ⟨some a, len, m, fun q => (w.cell? (a.add q)).getD undef, rfl, ⟨fun hp => ?_, fun b o e i hi => ?_⟩, hlc, hm, fun i hi j f hj => ?_⟩
    · have := hsp 0 hp
      rw [show a.add 0 = a from rfl] at this
      exact ⟨a.block, a.off, by rw [← addr_eta (spot_none this)]⟩
    · have := hsp i hi
      simp at e
      rw [e, addr_add] at this
      simp only [e, addr_add]
      exact this
    · obtain ⟨ys, n', _, _, _, hj'⟩ := hcell i (by omega)
      obtain ⟨v, y, hv, _, hy⟩ := hj' j f hj
      exact ⟨n', y, by simp only [hv, Option.getD_some]; exact hy⟩

end
end Go.Proofs.Ythfeljongackcaa
set_option linter.unusedSimpArgs false
set_option linter.unusedVariables false
set_option maxRecDepth 100000
namespace Go.Proofs.Ythfeljongackcaa
open Go.RowKit
open Go.ChangeShapes Go.WideShapes Go.ChangeAt Go.Deep

section
variable {H : Type} {enc : TypeId × Value → H} {P : Program} {w : World} {base : Nat} {held : Bool}

/-- each string, slice and map within is within the reach -/
def Sized (P : Program) (t : TypeId) (d : DataW H) : Prop := ∀ n ∈ d.weights P t, n ≤ reachBytes

theorem weightsAll_mem {e : TypeId} {l : List (DataW H)} {d : DataW H} (hd : d ∈ l) {n : Nat} (hn : n ∈ d.weights P e) : n ∈ DataW.weightsAll P e l := by
  induction l with
  | nil => cases hd
  | cons a r ih =>
    simp only [DataW.weightsAll, List.mem_append]
    rcases List.mem_cons.1 hd with rfl | h
    · exact .inl hn
    · exact .inr (ih h)

theorem Sized.arg {ts : List TypeId} {ds : List (DataW H)} {j : Nat} {t : TypeId} {d : DataW H} (h : (DataW.weightsEach P ts ds).all (· ≤ reachBytes) = true) (ht : ts[j]? = some t) (hd : ds[j]? = some d) : Sized P t d := fun n hn => by
  have := List.all_eq_true.1 h _ (DataW.weights_mem_each ht hd n hn)
  simpa using this

/-- a slice of integers within a datum -/
theorem open_ints_in {t e : TypeId} {k : IntKind} {fuel : Nat} {v : Value} {y : DataW H × List MemPlace} (ht : P.underlying t = some (.slice e)) (he : P.underlying e = some (.int k)) (hc : P.cellsOf e = 1)
    (h : DataW.trod enc P w base (fun _ => true) held fuel t [v] = some y) (hs : Sized P t y.1) (n : Nat) (hn : P.bytesOf e = n) :
    ∃ (p : Option Addr) (cap : Nat) (zs : List Int), v = .slice p zs.length cap ∧ SlI w k p zs ∧ (∀ n ∈ zs, (Lit.int k n).wf = true) ∧ zs.length ≤ cap ∧ cap ≤ maxLen ∧ cap * n ≤ 140737488351232 ∧ (∀ b o, p = some ⟨b, o, none⟩ → zs ≠ [] → b < w.heap.size) := by
  subst hn
  rcases open_ints ht he hc h with ⟨h0, _⟩ | ⟨a, l, c, zs, hcs, _, hlc, hm, hl, hy, hcell, hwf⟩
  · simp at h0
    subst h0
    exact ⟨none, 0, [], rfl, SlI.nil _ _ _, by simp, by simp, by simp [maxLen], by simp, by simp⟩
  · simp at hcs
    subst hcs
    simp only [if_true] at hl
    have hlen : (zs.take l).length = l := by simp; omega
    have hget : ∀ i, i < l → wd (zs.take l) i = zs.getD i 0 := by intro i hi; simp [wd, hi]
    have hsp : 0 < l → a.spot = none := fun hp => by
      have := hcell 0 (by omega)
      rw [show a.add 0 = a from rfl] at this
      exact spot_none this
    have hb : c * P.bytesOf e ≤ 140737488351232 := by
      have h1 := hs ((lits (H := H) k (zs.take l)).length * P.bytesOf e + (lits (H := H) k (zs.drop l)).length * P.bytesOf e) (by rw [hy]; simp only [DataW.weights, ht, ← Nat.add_mul]; exact List.mem_cons_self)
      rw [← Nat.add_mul] at h1
      have h2 : (lits (H := H) k (zs.take l)).length + (lits (H := H) k (zs.drop l)).length = c := by simp [lits]; omega
      rw [h2] at h1
      simpa [reachBytes] using h1
    refine ⟨some a, c, zs.take l, by rw [hlen], ⟨fun hne => ?_, fun b o e i hi => ?_⟩, fun n hn => hwf n (List.mem_of_mem_take hn), by omega, hm, hb, fun b o e hne => ?_⟩
    · have : 0 < l := by rcases Nat.eq_zero_or_pos l with h0 | h0; subst h0; simp at hne; exact h0
      exact ⟨a.block, a.off, by rw [← addr_eta (hsp this)]⟩
    · rw [hlen] at hi
      rw [hget i hi]
      have := hcell i (by omega)
      simp at e
      rw [e, addr_add] at this
      exact this
    · have : 0 < l := by rcases Nat.eq_zero_or_pos l with h0 | h0; subst h0; simp at hne; exact h0
      have hc0 := hcell 0 (by omega)
      simp at e
      rw [show a.add 0 = a from rfl, e] at hc0
      exact World.block_lt_of_cell? w _ hc0

/-- a slice of structs of one-cell fields that came in: each cell's value is one of its field's type, within the reach -/
theorem open_sl_structs2 {t e : TypeId} {fs : Array Field} {fuel : Nat} {v : Value} {y0 : DataW H × List MemPlace} (ht : P.underlying t = some (.slice e)) (he : P.underlying e = some (.struct fs))
    (hone : oneCellFields P fs = true) (hC : P.cellsOf e = fs.size) (hpos : 0 < fs.size) (h : DataW.trod enc P w base (fun _ => true) held fuel t [v] = some y0) (hs : Sized P t y0.1) :
    ∃ (p : Option Addr) (n cap : Nat) (V : Nat → Value), v = .slice p n cap ∧ SlV w p (n * fs.size) V ∧ n ≤ cap ∧ cap ≤ maxLen ∧ cap * P.bytesOf e ≤ 140737488351232 ∧
      ∀ i, i < n → ∀ (j : Nat) (f : Field), fs[j]? = some f → ∃ (m : Nat) (y : DataW H × List MemPlace), DataW.trod enc P w base (fun _ => true) held m f.type [V (i * fs.size + j)] = some y ∧ Sized P f.type y.1 := by
  rcases open_slice_fields ht he hone hC h with ⟨h0, _⟩ | ⟨a, l, c, m, D, Pl, hcs, _, hlc, hm, hmm, hx, hcell⟩
  · simp at h0
    subst h0
    exact ⟨none, 0, 0, fun _ => undef, rfl, ⟨fun h => absurd h (by simp), fun _ _ e => by simp at e⟩, by simp, by simp [maxLen], by simp, fun i hi => by omega⟩
  · simp at hcs
    subst hcs
    simp only [if_true] at hmm
    subst hmm
    have hy1 : y0.1 = .slice ((List.range l).map D) ((List.range (m - l)).map fun j => D (l + j)) := by rw [hx]
    have hb : m * P.bytesOf e ≤ 140737488351232 := by
      have h1 := hs (((List.range l).map D).length * P.bytesOf e + ((List.range (m - l)).map fun j => D (l + j)).length * P.bytesOf e) (by rw [hy1]; simp only [DataW.weights, ht, ← Nat.add_mul]; exact List.mem_cons_self)
      rw [← Nat.add_mul] at h1
      simp only [List.length_map, List.length_range, reachBytes] at h1
      rw [show l + (m - l) = m by omega] at h1
      omega
    have hall : ∀ q, q < l * fs.size → ∃ v, w.cell? (a.add q) = some v := by
      intro q hq
      have h1 : q / fs.size < l := Nat.div_lt_of_lt_mul (by rw [Nat.mul_comm]; exact hq)
      have h2 : q % fs.size < fs.size := Nat.mod_lt _ hpos
      obtain ⟨ys, n', _, _, _, hj⟩ := hcell (q / fs.size) (by omega)
      obtain ⟨v, y, hv, _, _⟩ := hj (q % fs.size) fs[q % fs.size] (by simp [h2])
      have e : q / fs.size * fs.size + q % fs.size = q := by rw [Nat.mul_comm]; exact Nat.div_add_mod q fs.size
      rw [e] at hv
      exact ⟨v, hv⟩
    have hsp : ∀ q, q < l * fs.size → w.cell? (a.add q) = some ((w.cell? (a.add q)).getD undef) := by
      intro q hq
      obtain ⟨v, hv⟩ := hall q hq
      rw [hv]; rfl
    refine ⟨some a, l, m, fun q => (w.cell? (a.add q)).getD undef, rfl, ⟨fun hp => ?_, fun b o e i hi => ?_⟩, hlc, hm, hb, fun i hi j f hj => ?_⟩
    · have := hsp 0 hp
      rw [show a.add 0 = a from rfl] at this
      exact ⟨a.block, a.off, by rw [← addr_eta (spot_none this)]⟩
    · have := hsp i hi
      simp at e
      rw [e, addr_add] at this
      simp only [e, addr_add]
      exact this
    · obtain ⟨ys, n', hD, _, _, hj'⟩ := hcell i (by omega)
      obtain ⟨v, y, hv, hyj, hy⟩ := hj' j f hj
      refine ⟨n', y, by simp only [hv, Option.getD_some]; exact hy, fun n hn => hs n ?_⟩
      rw [hy1]
      simp only [DataW.weights, ht]
      refine List.mem_cons_of_mem _ (List.mem_append_left _ (weightsAll_mem (d := D i) (List.mem_map.2 ⟨i, List.mem_range.2 hi, rfl⟩) ?_))
      rw [hD]
      simp only [DataW.weights, he]
      exact DataW.weights_mem_each (j := j) (t := f.type) (d := y.1) (by simp [hj]) (by simp [hyj]) n hn

end
end Go.Proofs.Ythfeljongackcaa
set_option linter.unusedSimpArgs false
set_option linter.unusedVariables false
set_option maxRecDepth 100000
namespace Go.Proofs.Ythfeljongackcaa
open Go.RowKit
open Go.ChangeShapes Go.WideShapes Go.ChangeAt Go.Deep
section
variable {H : Type} {enc : TypeId × Value → H} {w : World} {base : Nat} {held : Bool}
/-- a struct of one-cell fields among the arguments -/
theorem open_struct {P : Program} {t : TypeId} {fs : Array Field} {r : Reach} {b0 : Nat} {v : Value} {d : DataW H} {ps : List MemPlace} (ht : P.underlying t = some (.struct fs)) (hone : oneCellFields P fs = true) (hC : P.cellsOf t = fs.size)
    (hval : Value.okWide P w r b0 t v) (h : DataW.Trod enc P w base (fun _ => true) held t v d ps) (hs : Sized P t d) :
    ∃ cs : Array Value, v = .agg cs ∧ cs.size = fs.size ∧ ∀ (j : Nat) (f : Field), fs[j]? = some f → ∃ (u : Value) (m : Nat) (y : DataW H × List MemPlace), cs[j]? = some u ∧ DataW.trod enc P w base (fun _ => true) held m f.type [u] = some y ∧ Sized P f.type y.1 := by
  obtain ⟨cs, rfl, hsz⟩ := okWide_struct ht hval
  obtain ⟨fuel, hf⟩ := h
  obtain ⟨xs, n, _, hx, hl, hlen, hj⟩ := DataW.trod_struct ht hf
  refine ⟨cs, rfl, by rw [hsz, hC], fun j f hf2 => ?_⟩
  obtain ⟨ho, hc1⟩ := hone_of hone j f hf2
  have hjl : j < fs.size := by
    by_cases h : j < fs.size
    · exact h
    · rw [Array.getElem?_eq_none (by omega)] at hf2; cases hf2
  have hjc : j < cs.size := by rw [hsz, hC]; exact hjl
  have h1 := hj j f hf2
  rw [ho, hc1] at h1
  have hcells : (Value.agg cs).cells.toList = cs.toList := rfl
  rw [hcells, take1_drop _ _ undef (by simpa using hjc)] at h1
  obtain ⟨y, hy⟩ : ∃ y, xs[j]? = some y := ⟨xs[j]'(by omega), List.getElem?_eq_getElem _⟩
  rw [hy] at h1
  have hd : d = .agg (xs.map (·.1)) := by simpa using congrArg Prod.fst hx
  refine ⟨_, n, y, by rw [Array.getElem?_eq_getElem hjc], by simpa [List.getD, hjc] using h1, fun k hk => hs k ?_⟩
  rw [hd]
  simp only [DataW.weights, ht]
  exact DataW.weights_mem_each (j := j) (t := f.type) (d := y.1) (by simp [hf2]) (by simp [hy]) k hk
def prA (V : Nat → Value) (i : Nat) : Int × Int := (intOf (V (i * 2)), intOf (V (i * 2 + 1)))
/-- a slice of cells within -/
theorem open_cells {m : Nat} {v : Value} {y : DataW H × List MemPlace} (h : DataW.trod enc Try.prog w base (fun _ => true) held m 49 [v] = some y) (hs : Sized Try.prog 49 y.1) :
    ∃ l : List (Int × Int), SlC w v l ∧ (∀ c ∈ l, (0 ≤ c.1 ∧ c.1 < 18446744073709551616) ∧ 0 ≤ c.2 ∧ c.2 < 18446744073709551616) ∧ l.length * 16 ≤ 140737488351232 := by
  obtain ⟨p, n, cap, V, rfl, hS, hnc, hm, hr, hf⟩ := open_sl_structs2 Try.underlying49 Try.underlying53 (by kernel_rfl) (by kernel_rfl) (by decide) h hs
  have hS2 : SlV w p (n * 2) V := hS
  have hP : ∀ i, i < n → V (i * 2) = .int .u64 (prA V i).1 ∧ V (i * 2 + 1) = .int .u64 (prA V i).2 ∧ ((0 ≤ (prA V i).1 ∧ (prA V i).1 < 18446744073709551616) ∧ 0 ≤ (prA V i).2 ∧ (prA V i).2 < 18446744073709551616) := by
    intro i hi
    obtain ⟨_, _, h0, _⟩ := hf i hi 0 _ rfl
    obtain ⟨_, _, h1, _⟩ := hf i hi 1 _ rfl
    obtain ⟨k0, e0, _, w0⟩ := DataW.trod_int Try.underlying31 h0
    obtain ⟨k1, e1, _, w1⟩ := DataW.trod_int Try.underlying31 h1
    have w0' : 0 ≤ k0 ∧ k0 ≤ 18446744073709551615 := by simpa [Lit.wf, IntKind.min, IntKind.max, IntKind.signed, IntKind.bits] using w0
    have w1' : 0 ≤ k1 ∧ k1 ≤ 18446744073709551615 := by simpa [Lit.wf, IntKind.min, IntKind.max, IntKind.signed, IntKind.bits] using w1
    simp only [List.cons.injEq, and_true] at e0 e1
    have p0 : (prA V i).1 = k0 := by unfold prA; rw [show V (i * 2) = _ from e0]; rfl
    have p1 : (prA V i).2 = k1 := by unfold prA; rw [show V (i * 2 + 1) = _ from e1]; rfl
    rw [p0, p1]
    exact ⟨e0, e1, by omega, by omega⟩
  have hcb : cap * 16 ≤ 140737488351232 := hr
  refine ⟨(List.range n).map (prA V), ⟨p, cap, by simp, fun j a b hj => ?_⟩, fun c hc => ?_, by simp; omega⟩
  · have hjn : j < n := by
      by_cases h : j < n
      · exact h
      · rw [List.getElem?_eq_none (by simp; omega)] at hj; cases hj
    obtain ⟨e0, e1, _⟩ := hP j hjn
    have he : prA V j = (a, b) := by simpa [hjn] using hj
    obtain ⟨pb, po, rfl⟩ := hS2.ne (by omega)
    refine ⟨pb, po, rfl, ?_, ?_⟩
    · have := hS2.cells pb po rfl (j * 2) (by omega)
      rw [this, e0, he]
    · have := hS2.cells pb po rfl (j * 2 + 1) (by omega)
      rw [Nat.add_assoc, this, e1, he]
  · obtain ⟨i, hi, rfl⟩ := List.mem_map.1 hc
    exact (hP i (by simpa using hi)).2.2
theorem agg9 {cs : Array Value} (h : cs.size = 9) {v0 v1 v2 v3 v4 v5 v6 v7 v8 : Value} (h0 : cs[0]? = some v0) (h1 : cs[1]? = some v1) (h2 : cs[2]? = some v2) (h3 : cs[3]? = some v3) (h4 : cs[4]? = some v4) (h5 : cs[5]? = some v5) (h6 : cs[6]? = some v6) (h7 : cs[7]? = some v7) (h8 : cs[8]? = some v8) : cs = #[v0, v1, v2, v3, v4, v5, v6, v7, v8] := by
  apply Array.ext'
  apply List.ext_getElem?
  intro i
  by_cases hi : i < 9
  · have : i = 0 ∨ i = 1 ∨ i = 2 ∨ i = 3 ∨ i = 4 ∨ i = 5 ∨ i = 6 ∨ i = 7 ∨ i = 8 := by omega
    rcases this with rfl | rfl | rfl | rfl | rfl | rfl | rfl | rfl | rfl <;> simpa using by assumption
  · rw [List.getElem?_eq_none (by simp; omega), List.getElem?_eq_none (by simp; omega)]
theorem open_u64 {m : Nat} {v : Value} {y : DataW H × List MemPlace} (h : DataW.trod enc Try.prog w base (fun _ => true) held m 31 [v] = some y) : ∃ k : Int, v = .int .u64 k ∧ 0 ≤ k ∧ k < 18446744073709551616 := by
  obtain ⟨k0, e0, _, w0⟩ := DataW.trod_int Try.underlying31 h
  have w0' : 0 ≤ k0 ∧ k0 ≤ 18446744073709551615 := by simpa [Lit.wf, IntKind.min, IntKind.max, IntKind.signed, IntKind.bits] using w0
  simp only [List.cons.injEq, and_true] at e0
  exact ⟨k0, e0, by omega, by omega⟩
theorem open_i64 {P : Program} {t : TypeId} {m : Nat} {v : Value} {y : DataW H × List MemPlace} (ht : P.underlying t = some (.int .i64)) (h : DataW.trod enc P w base (fun _ => true) held m t [v] = some y) : ∃ k : Int, v = .int .i64 k := by
  obtain ⟨k0, e0, _, w0⟩ := DataW.trod_int ht h
  simp only [List.cons.injEq, and_true] at e0
  exact ⟨k0, e0⟩
theorem open_attempt {r : Reach} {b0 : Nat} {v : Value} {d : DataW H} {ps : List MemPlace} (hval : Value.okWide Try.prog w r b0 60 v) (h : DataW.Trod enc Try.prog w base (fun _ => true) held 60 v d ps) (hs : Sized Try.prog 60 d) :
    ∃ (s : AS) (rv wv : Value), v = stateV s rv wv ∧ SlC w rv s.reads ∧ SlC w wv s.writes ∧ Wide s ∧ s.reads.length * 16 ≤ 140737488351232 ∧ s.writes.length * 16 ≤ 140737488351232 := by
  obtain ⟨cs, rfl, hsz, hf⟩ := open_struct Try.underlying60 (by kernel_rfl) (by kernel_rfl) hval h hs
  obtain ⟨u0, m0, y0, c0, t0, s0⟩ := hf 0 _ rfl
  obtain ⟨u1, m1, y1, c1, t1, s1⟩ := hf 1 _ rfl
  obtain ⟨u2, m2, y2, c2, t2, s2⟩ := hf 2 _ rfl
  obtain ⟨u3, m3, y3, c3, t3, s3⟩ := hf 3 _ rfl
  obtain ⟨u4, m4, y4, c4, t4, s4⟩ := hf 4 _ rfl
  obtain ⟨u5, m5, y5, c5, t5, s5⟩ := hf 5 _ rfl
  obtain ⟨u6, m6, y6, c6, t6, s6⟩ := hf 6 _ rfl
  obtain ⟨u7, m7, y7, c7, t7, s7⟩ := hf 7 _ rfl
  obtain ⟨u8, m8, y8, c8, t8, s8⟩ := hf 8 _ rfl
  obtain ⟨k0, rfl, b0⟩ := open_u64 t0
  obtain ⟨rd, hrd, wrd, lrd⟩ := open_cells t1 s1
  obtain ⟨wl, hwl, wwl, lwl⟩ := open_cells t2 s2
  obtain ⟨k3, rfl⟩ := open_i64 Try.underlying43 t3
  obtain ⟨k4, rfl⟩ := open_i64 Try.underlying43 t4
  obtain ⟨k5, rfl, b5⟩ := open_u64 t5
  obtain ⟨k6, rfl, b6⟩ := open_u64 t6
  obtain ⟨k7, rfl, b7⟩ := open_u64 t7
  obtain ⟨k8, rfl⟩ := open_i64 Try.underlying3 t8
  obtain rfl := agg9 hsz c0 c1 c2 c3 c4 c5 c6 c7 c8
  exact ⟨⟨k0, rd, wl, k3, k4, k5, k6, k7, k8⟩, u1, u2, rfl, hrd, hwl, ⟨b0, wrd, wwl, b5, b6, b7⟩, lrd, lwl⟩
end
end Go.Proofs.Ythfeljongackcaa
set_option linter.unusedSimpArgs false
set_option linter.unusedVariables false
set_option maxRecDepth 100000
namespace Go.Proofs.Ythfeljongackcaa
open Go.RowKit
open Go.ChangeShapes Go.WideShapes Go.ChangeAt Go.Deep
section
variable {H : Type} {enc : TypeId × Value → H} {w : World} {base : Nat} {held : Bool}
def insO (V : Nat → Value) (i : Nat) : Ins := ⟨intOf (V (i * 5)), intOf (V (i * 5 + 1)), intOf (V (i * 5 + 2)), intOf (V (i * 5 + 3)), intOf (V (i * 5 + 4))⟩
theorem open_i64v {t : TypeId} {m : Nat} {v : Value} {y : DataW H × List MemPlace} (ht : Try.prog.underlying t = some (.int .i64)) (h : DataW.trod enc Try.prog w base (fun _ => true) held m t [v] = some y) : v = .int .i64 (intOf v) := by
  obtain ⟨k, rfl⟩ := open_i64 ht h
  rfl
theorem open_prog {m : Nat} {v : Value} {y : DataW H × List MemPlace} (h : DataW.trod enc Try.prog w base (fun _ => true) held m 97 [v] = some y) (hs : Sized Try.prog 97 y.1) :
    ∃ d : PD, v = .slice d.po d.p.length d.cap ∧ d.At w := by
  obtain ⟨p, n, cap, V, rfl, hS, hnc, hm, hr, hf⟩ := open_sl_structs2 Try.underlying97 Try.underlying144 (by kernel_rfl) (by kernel_rfl) (by decide) h hs
  have hS2 : SlV w p (n * 5) V := hS
  have hP : ∀ i, i < n → V (i * 5) = .int .i64 (insO V i).op ∧ V (i * 5 + 1) = .int .i64 (insO V i).a ∧ V (i * 5 + 2) = .int .i64 (insO V i).b ∧ V (i * 5 + 3) = .int .i64 (insO V i).c ∧ V (i * 5 + 4) = .int .u64 (insO V i).n ∧ 0 ≤ (insO V i).n ∧ (insO V i).n < 18446744073709551616 := by
    intro i hi
    obtain ⟨_, _, h0, _⟩ := hf i hi 0 _ rfl
    obtain ⟨_, _, h1, _⟩ := hf i hi 1 _ rfl
    obtain ⟨_, _, h2, _⟩ := hf i hi 2 _ rfl
    obtain ⟨_, _, h3, _⟩ := hf i hi 3 _ rfl
    obtain ⟨_, _, h4, _⟩ := hf i hi 4 _ rfl
    obtain ⟨k4, e4, b4⟩ := open_u64 h4
    have e4' : V (i * 5 + 4) = .int .u64 k4 := e4
    have n4 : (insO V i).n = k4 := by show intOf (V (i * 5 + 4)) = k4; rw [e4']; rfl
    rw [n4]
    exact ⟨open_i64v Try.underlying142 h0, open_i64v Try.underlying3 h1, open_i64v Try.underlying3 h2, open_i64v Try.underlying3 h3, e4', b4⟩
  have hcb : cap * 40 ≤ 140737488351232 := hr
  refine ⟨⟨p, cap, (List.range n).map (insO V)⟩, by simp, ⟨fun i x hx => ?_, fun x hx => ?_, by simp; omega⟩⟩
  · have hi : i < n := by
      by_cases h : i < n
      · exact h
      · rw [List.getElem?_eq_none (by simp; omega)] at hx; cases hx
    obtain ⟨e0, e1, e2, e3, e4, _⟩ := hP i hi
    have hx' : insO V i = x := by simpa [hi] using hx
    subst hx'
    obtain ⟨pb, po, rfl⟩ := hS2.ne (by omega)
    refine ⟨pb, po, rfl, ?_, ?_, ?_, ?_, ?_⟩
    · have := hS2.cells pb po rfl (i * 5) (by omega); rw [this, e0]
    · have := hS2.cells pb po rfl (i * 5 + 1) (by omega); rw [Nat.add_assoc, this, e1]
    · have := hS2.cells pb po rfl (i * 5 + 2) (by omega); rw [Nat.add_assoc, this, e2]
    · have := hS2.cells pb po rfl (i * 5 + 3) (by omega); rw [Nat.add_assoc, this, e3]
    · have := hS2.cells pb po rfl (i * 5 + 4) (by omega); rw [Nat.add_assoc, this, e4]
  · obtain ⟨i, hi, rfl⟩ := List.mem_map.1 hx
    exact (hP i (by simpa using hi)).2.2.2.2.2
/-- the programs -/
theorem open_progs {m : Nat} {v : Value} {y : DataW H × List MemPlace} (h : DataW.trod enc Try.prog w base (fun _ => true) held m 89 [v] = some y) (hs : Sized Try.prog 89 y.1) :
    ∃ (pp : Option Addr) (cap : Nat) (l : List PD), v = .slice pp l.length cap ∧ Progs w pp l ∧ l.length ≤ maxLen := by
  rcases open_slice Try.underlying89 h with ⟨h0, _⟩ | ⟨a, len, cap, m', n, D, Pl, hcs, _, hlc, hm, hmm, hx, hi⟩
  · simp at h0
    subst h0
    exact ⟨none, 0, [], rfl, ⟨fun i d hd => by simp at hd, fun d hd => by simp at hd⟩, by simp⟩
  · simp at hcs
    subst hcs
    simp only [if_true] at hmm
    subst hmm
    have hy : y.1 = .slice ((List.range len).map D) ((List.range (m' - len)).map fun j => D (len + j)) := by rw [hx]
    have hC : Try.prog.cellsOf 97 = 1 := by kernel_rfl
    have hspot : 0 < len → a.spot = none := fun h0l => by
      obtain ⟨cs', hc, ht⟩ := hi 0 (by omega)
      rw [hC] at hc
      obtain ⟨_, hcl, hat⟩ := World.cells?_some hc
      obtain ⟨u, rfl⟩ : ∃ u, cs' = [u] := by
        match cs', hcl with
        | [u], _ => exact ⟨u, rfl⟩
      have h0 := hat 0 (by omega)
      have e2 : (a.add (0 * 1)).add 0 = a := rfl
      rw [e2] at h0
      exact spot_none (v := u) (by simpa using h0)
    have hcell : ∀ i, i < len → ∃ d : PD, (∃ b o, a = ⟨b, o, none⟩ ∧ w.cell? ⟨b, o + i, none⟩ = some (.slice d.po d.p.length d.cap)) ∧ d.At w := by
      intro i hil
      obtain ⟨cs', hc, ht⟩ := hi i (by omega)
      rw [hC] at hc
      obtain ⟨_, hcl, hat⟩ := World.cells?_some hc
      obtain ⟨u, rfl⟩ : ∃ u, cs' = [u] := by
        match cs', hcl with
        | [u], _ => exact ⟨u, rfl⟩
      have h0 := hat 0 (by omega)
      have hsz : Sized Try.prog 97 (D i) := fun k hk => hs k (by
        rw [hy]
        simp only [DataW.weights, Try.underlying89]
        exact List.mem_cons_of_mem _ (List.mem_append_left _ (weightsAll_mem (d := D i) (List.mem_map.2 ⟨i, List.mem_range.2 hil, rfl⟩) hk)))
      obtain ⟨d, e, hd⟩ := open_prog ht hsz
      have h1 : w.cell? (a.add i) = some u := by
        have e2 : (a.add (i * 1)).add 0 = a.add i := by rw [Nat.mul_one, Go.Deep.add_add, Nat.add_zero]
        rw [e2] at h0
        simpa using h0
      have hsp' : a.spot = none := hspot (by omega)
      refine ⟨d, ⟨a.block, a.off, addr_eta hsp', ?_⟩, hd⟩
      have h2 : w.cell? ((⟨a.block, a.off, none⟩ : Addr).add i) = some u := by rw [← addr_eta hsp']; exact h1
      rw [addr_add] at h2
      rw [h2, e]
    let F : Nat → PD := fun i => if h : i < len then Classical.choose (hcell i h) else ⟨none, 0, []⟩
    have hF : ∀ i, i < len → (∃ b o, a = ⟨b, o, none⟩ ∧ w.cell? ⟨b, o + i, none⟩ = some (.slice (F i).po (F i).p.length (F i).cap)) ∧ (F i).At w := by
      intro i hi
      have := Classical.choose_spec (hcell i hi)
      simp only [F, hi, dif_pos]
      exact this
    refine ⟨some a, m', (List.range len).map F, by simp, ⟨fun i d hd => ?_, fun d hd => ?_⟩, by simp; omega⟩
    · have hi : i < len := by
        by_cases h : i < len
        · exact h
        · rw [List.getElem?_eq_none (by simp; omega)] at hd; cases hd
      have hd' : F i = d := by simpa [hi] using hd
      obtain ⟨b, o, e, hc⟩ := (hF i hi).1
      rw [← hd']
      exact ⟨b, o, by rw [e], hc⟩
    · obtain ⟨i, hi, rfl⟩ := List.mem_map.1 hd
      exact (hF i (by simpa using hi)).2
end
end Go.Proofs.Ythfeljongackcaa
