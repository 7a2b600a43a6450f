/- Arguments opened with their reach: slices of structs whose fields are slices. No condition. -/
import Derived.Test.YthjiiedpplimpaaOpen
set_option linter.unusedSimpArgs false
set_option linter.unusedVariables false
set_option maxRecDepth 100000
namespace Go.Proofs.Ythjiiedpplimpaa
open Go.RowKit
open Go.ChangeShapes Go.WideShapes Go.ChangeAt Go.Deep

section
variable {H : Type} {enc : TypeId × Value → H} {P : Program} {w : World} {base : Nat} {held : Bool}

/-- each string, slice and map within is within the reach -/
def Sized (P : Program) (t : TypeId) (d : DataW H) : Prop := ∀ n ∈ d.weights P t, n ≤ reachBytes

theorem weightsAll_mem {e : TypeId} {l : List (DataW H)} {d : DataW H} (hd : d ∈ l) {n : Nat} (hn : n ∈ d.weights P e) : n ∈ DataW.weightsAll P e l := by
  induction l with
  | nil => cases hd
  | cons a r ih =>
    simp only [DataW.weightsAll, List.mem_append]
    rcases List.mem_cons.1 hd with rfl | h
    · exact .inl hn
    · exact .inr (ih h)

theorem Sized.arg {ts : List TypeId} {ds : List (DataW H)} {j : Nat} {t : TypeId} {d : DataW H} (h : (DataW.weightsEach P ts ds).all (· ≤ reachBytes) = true) (ht : ts[j]? = some t) (hd : ds[j]? = some d) : Sized P t d := fun n hn => by
  have := List.all_eq_true.1 h _ (DataW.weights_mem_each ht hd n hn)
  simpa using this

/-- a slice of integers within a datum -/
theorem open_ints_in {t e : TypeId} {k : IntKind} {fuel : Nat} {v : Value} {y : DataW H × List MemPlace} (ht : P.underlying t = some (.slice e)) (he : P.underlying e = some (.int k)) (hc : P.cellsOf e = 1)
    (h : DataW.trod enc P w base (fun _ => true) held fuel t [v] = some y) (hs : Sized P t y.1) (n : Nat) (hn : P.bytesOf e = n) :
    ∃ (p : Option Addr) (cap : Nat) (zs : List Int), v = .slice p zs.length cap ∧ SlI w k p zs ∧ (∀ n ∈ zs, (Lit.int k n).wf = true) ∧ zs.length ≤ cap ∧ cap ≤ maxLen ∧ cap * n ≤ 140737488351232 ∧ (∀ b o, p = some ⟨b, o, none⟩ → zs ≠ [] → b < w.heap.size) := by
  subst hn
  rcases open_ints ht he hc h with ⟨h0, _⟩ | ⟨a, l, c, zs, hcs, _, hlc, hm, hl, hy, hcell, hwf⟩
  · simp at h0
    subst h0
    exact ⟨none, 0, [], rfl, SlI.nil _ _ _, by simp, by simp, by simp [maxLen], by simp, by simp⟩
  · simp at hcs
    subst hcs
    simp only [if_true] at hl
    have hlen : (zs.take l).length = l := by simp; omega
    have hget : ∀ i, i < l → wd (zs.take l) i = zs.getD i 0 := by intro i hi; simp [wd, hi]
    have hsp : 0 < l → a.spot = none := fun hp => by
      have := hcell 0 (by omega)
      rw [show a.add 0 = a from rfl] at this
      exact spot_none this
    have hb : c * P.bytesOf e ≤ 140737488351232 := by
      have h1 := hs ((lits (H := H) k (zs.take l)).length * P.bytesOf e + (lits (H := H) k (zs.drop l)).length * P.bytesOf e) (by rw [hy]; simp only [DataW.weights, ht, ← Nat.add_mul]; exact List.mem_cons_self)
      rw [← Nat.add_mul] at h1
      have h2 : (lits (H := H) k (zs.take l)).length + (lits (H := H) k (zs.drop l)).length = c := by simp [lits]; omega
      rw [h2] at h1
      simpa [reachBytes] using h1
    refine ⟨some a, c, zs.take l, by rw [hlen], ⟨fun hne => ?_, fun b o e i hi => ?_⟩, fun n hn => hwf n (List.mem_of_mem_take hn), by omega, hm, hb, fun b o e hne => ?_⟩
    · have : 0 < l := by rcases Nat.eq_zero_or_pos l with h0 | h0; subst h0; simp at hne; exact h0
      exact ⟨a.block, a.off, by rw [← addr_eta (hsp this)]⟩
    · rw [hlen] at hi
      rw [hget i hi]
      have := hcell i (by omega)
      simp at e
      rw [e, addr_add] at this
      exact this
    · have : 0 < l := by rcases Nat.eq_zero_or_pos l with h0 | h0; subst h0; simp at hne; exact h0
      have hc0 := hcell 0 (by omega)
      simp at e
      rw [show a.add 0 = a from rfl, e] at hc0
      exact World.block_lt_of_cell? w _ hc0

/-- a slice of structs of one-cell fields that came in: each cell's value is one of its field's type, within the reach -/
theorem open_sl_structs2 {t e : TypeId} {fs : Array Field} {fuel : Nat} {v : Value} {y0 : DataW H × List MemPlace} (ht : P.underlying t = some (.slice e)) (he : P.underlying e = some (.struct fs))
    (hone : oneCellFields P fs = true) (hC : P.cellsOf e = fs.size) (hpos : 0 < fs.size) (h : DataW.trod enc P w base (fun _ => true) held fuel t [v] = some y0) (hs : Sized P t y0.1) :
    ∃ (p : Option Addr) (n cap : Nat) (V : Nat → Value), v = .slice p n cap ∧ SlV w p (n * fs.size) V ∧ n ≤ cap ∧ cap ≤ maxLen ∧ cap * P.bytesOf e ≤ 140737488351232 ∧
      ∀ i, i < n → ∀ (j : Nat) (f : Field), fs[j]? = some f → ∃ (m : Nat) (y : DataW H × List MemPlace), DataW.trod enc P w base (fun _ => true) held m f.type [V (i * fs.size + j)] = some y ∧ Sized P f.type y.1 := by
  rcases open_slice_fields ht he hone hC h with ⟨h0, _⟩ | ⟨a, l, c, m, D, Pl, hcs, _, hlc, hm, hmm, hx, hcell⟩
  · simp at h0
    subst h0
    exact ⟨none, 0, 0, fun _ => undef, rfl, ⟨fun h => absurd h (by simp), fun _ _ e => by simp at e⟩, by simp, by simp [maxLen], by simp, fun i hi => by omega⟩
  · simp at hcs
    subst hcs
    simp only [if_true] at hmm
    subst hmm
    have hy1 : y0.1 = .slice ((List.range l).map D) ((List.range (m - l)).map fun j => D (l + j)) := by rw [hx]
    have hb : m * P.bytesOf e ≤ 140737488351232 := by
      have h1 := hs (((List.range l).map D).length * P.bytesOf e + ((List.range (m - l)).map fun j => D (l + j)).length * P.bytesOf e) (by rw [hy1]; simp only [DataW.weights, ht, ← Nat.add_mul]; exact List.mem_cons_self)
      rw [← Nat.add_mul] at h1
      simp only [List.length_map, List.length_range, reachBytes] at h1
      rw [show l + (m - l) = m by omega] at h1
      omega
    have hall : ∀ q, q < l * fs.size → ∃ v, w.cell? (a.add q) = some v := by
      intro q hq
      have h1 : q / fs.size < l := Nat.div_lt_of_lt_mul (by rw [Nat.mul_comm]; exact hq)
      have h2 : q % fs.size < fs.size := Nat.mod_lt _ hpos
      obtain ⟨ys, n', _, _, _, hj⟩ := hcell (q / fs.size) (by omega)
      obtain ⟨v, y, hv, _, _⟩ := hj (q % fs.size) fs[q % fs.size] (by simp [h2])
      have e : q / fs.size * fs.size + q % fs.size = q := by rw [Nat.mul_comm]; exact Nat.div_add_mod q fs.size
      rw [e] at hv
      exact ⟨v, hv⟩
    have hsp : ∀ q, q < l * fs.size → w.cell? (a.add q) = some ((w.cell? (a.add q)).getD undef) := by
      intro q hq
      obtain ⟨v, hv⟩ := hall q hq
      rw [hv]; rfl
    refine ⟨some a, l, m, fun q => (w.cell? (a.add q)).getD undef, rfl, ⟨fun hp => ?_, fun b o e i hi => ?_⟩, hlc, hm, hb, fun i hi j f hj => ?_⟩
    · have := hsp 0 hp
      rw [show a.add 0 = a from rfl] at this
      exact ⟨a.block, a.off, by rw [← addr_eta (spot_none this)]⟩
    · have := hsp i hi
      simp at e
      rw [e, addr_add] at this
      simp only [e, addr_add]
      exact this
    · obtain ⟨ys, n', hD, _, _, hj'⟩ := hcell i (by omega)
      obtain ⟨v, y, hv, hyj, hy⟩ := hj' j f hj
      refine ⟨n', y, by simp only [hv, Option.getD_some]; exact hy, fun n hn => hs n ?_⟩
      rw [hy1]
      simp only [DataW.weights, ht]
      refine List.mem_cons_of_mem _ (List.mem_append_left _ (weightsAll_mem (d := D i) (List.mem_map.2 ⟨i, List.mem_range.2 hi, rfl⟩) ?_))
      rw [hD]
      simp only [DataW.weights, he]
      exact DataW.weights_mem_each (j := j) (t := f.type) (d := y.1) (by simp [hj]) (by simp [hyj]) n hn

end
end Go.Proofs.Ythjiiedpplimpaa
