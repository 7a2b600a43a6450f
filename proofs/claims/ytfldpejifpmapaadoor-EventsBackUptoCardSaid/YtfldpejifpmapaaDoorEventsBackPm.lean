/- EventsBack (layer 13): a history in form is read from its text as it was. The conditions: the row's own list of variables; the argument holds at most 1048576 values. -/
import Derived.Test.YtfldpejifpmapaaDoorBase
import Derived.ProofKit
import Derived.OpenShut
import Derived.Deep.Grids
import Derived.Deep.Fields
import Derived.SizedLaws
import Derived.Test.YtfldpejifpmapaaDoorEEv
import Derived.Test.YtfldpejifpmapaaDoorRows
import Derived.LaidLaws
import Derived.Lay
import Derived.Lib.LaidU8
import Derived.Lib.LaidTab
import Derived.MakeChecks
import Derived.Deep.DeepHandedRow
import Derived.Shelf.LaysM
import Derived.HandedShaped
import Derived.Test.YtfldpejifpmapaaDoorEHist
import Derived.Test.YtfldpejifpmapaaDoorEEv2
import Derived.Test.YtfldpejifpmapaaDoorECheck
import Derived.Lib.ItoaNum
import Derived.Test.YtfldpejifpmapaaDoorEffC
import Derived.Deep.Cut
import Derived.Deep.CutRange
import Derived.Test.YtfldpejifpmapaaDoorCards
import Derived.Test.YtfldpejifpmapaaDoorTie
import Derived.SevenTiedAt
import Derived.ChangeMaps5
set_option linter.unusedSimpArgs false
set_option linter.unusedVariables false
set_option maxRecDepth 100000
namespace Go.Proofs.YtfldpejifpmapaaDoor
open Go.ChangeShapes Go.WideShapes Go.ChangeAt Go.RowKit

theorem law_own : ownKnob Tryd.prog.godebug = none := by kernel_rfl
theorem law_laidOut : laidOutB Tryd.prog = true := by kernel_rfl

theorem trodAll_below {H : Type} {enc : TypeId × Value → H} {P : Program} (hl : laidOutB P = true) {W W' : World} (hB : Below W.heap.size W W') :
    ∀ (ts : List TypeId) (vs : List Value) (ds : List (DataW H)) (ps : List MemPlace), (∀ t ∈ ts, P.readableRec t = true ∧ t < P.types.size) →
      DataW.TrodAll enc P W 0 (fun _ => true) true ts vs ds ps → (∀ x ∈ ps, x.block < W.heap.size) →
      DataW.TrodAll enc P W' 0 (fun b => decide (b < W.heap.size)) true ts vs ds ps := by
  intro ts
  induction ts with
  | nil =>
    intro vs ds ps _ h _
    obtain ⟨rfl, rfl, rfl⟩ := trodAll_nil h
    exact trodAll_mk0
  | cons t ts ih =>
    intro vs ds ps ht h hlt
    obtain ⟨v, vs', d, ds', p, q, rfl, rfl, rfl, hd, hr⟩ := trodAll_cons h
    exact trodAll_cons_mk (Below.trod hl (ht t (by simp)).1 (ht t (by simp)).2 hd hB (fun x hx => hlt x (by simp [hx]))) (ih vs' ds' q (fun t' h' => ht t' (by simp [h'])) hr (fun x hx => hlt x (by simp [hx])))

theorem law_post {H : Type} {enc : TypeId × Value → H} {f : Func} {s : ChangeSpec} {W W' : World} {args : Array Value} {ds gs : List (DataW H)} {before : List MemPlace}
    (hres : f.resultTypes = #[4]) (hpar : ∀ t ∈ f.params.toList, Tryd.prog.readableRec t = true ∧ t < Tryd.prog.types.size) (hsv : s.vars = [])
    (hfn : s.fn H (ds ++ gs) = { results := [.lit (.bool true)], args := ds })
    (hW : DataW.Whole enc Tryd.prog f.params.toList s.vars false W args.toList ds gs before) (hB : Below W.heap.size W W') :
    s.post enc Tryd.prog f false true false false W args (.bool true) W' := by
  have hW0 := hW
  obtain ⟨p, q, hA, hV, hpq, hfz, hnd⟩ := hW
  have hlt : ∀ x ∈ p, x.block < W.heap.size := fun x hx => by simpa using hW0.lt x (by rw [hpq]; simp [hx])
  refine ⟨ds, gs, before, [], p, [], hW0, ?_, ?_, ?_, hB.frame _, fun h => by cases h⟩
  · rw [hres, hfn]
    exact trodAll_mk1 (shut_bool Tryd.underlying4 true)
  · rw [hfn]
    exact trodAll_below law_laidOut hB _ _ _ _ hpar hA hlt
  · rw [hsv, hfn]
    rfl

end Go.Proofs.YtfldpejifpmapaaDoor
set_option linter.unusedSimpArgs false
set_option linter.unusedVariables false
set_option maxRecDepth 100000
namespace Go.Proofs.YtfldpejifpmapaaDoor
open Go.ChangeShapes Go.WideShapes Go.ChangeAt Go.RowKit Go.Deep

section
variable {H : Type} {enc : TypeId × Value → H} {P : Program} {w : World} {base : Nat} {held : Bool}

theorem spot_none {a : Addr} {v : Value} (h : w.cell? a = some v) : a.spot = none := by
  unfold World.cell? at h
  split at h
  · split at h
    · cases h
    · rename_i hs; simpa using hs
  · cases h

theorem addr_eta {a : Addr} (h : a.spot = none) : a = ⟨a.block, a.off, none⟩ := by cases a; simp at h; subst h; rfl

/-- a slice of integers that came in -/
theorem open_sl_ints {t e : TypeId} {k : IntKind} {r : Reach} {b0 : Nat} {v : Value} {d : DataW H} {ps : List MemPlace} (ht : P.underlying t = some (.slice e)) (he : P.underlying e = some (.int k)) (hc : P.cellsOf e = 1)
    (hval : Value.okWide P w r b0 t v) (h : DataW.Trod enc P w base (fun _ => true) held t v d ps) :
    ∃ (p : Option Addr) (cap : Nat) (zs : List Int), v = .slice p zs.length cap ∧ SlI w k p zs ∧ (∀ n ∈ zs, (Lit.int k n).wf = true) ∧ zs.length ≤ cap ∧ cap ≤ maxLen ∧ (∀ b o, p = some ⟨b, o, none⟩ → zs ≠ [] → b < w.heap.size) := by
  obtain ⟨p, len, cap, rfl⟩ := okWide_slice ht hval
  obtain ⟨fuel, hf⟩ := h
  rcases open_ints ht he hc hf with ⟨h0, _⟩ | ⟨a, l, c, zs, hcs, _, hlc, hm, hl, _, hcell, hwf⟩
  · simp [Value.cells] at h0
    obtain ⟨rfl, rfl, rfl⟩ := h0
    exact ⟨none, 0, [], rfl, SlI.nil _ _ _, by simp, by simp, by simp [maxLen], by simp⟩
  · simp [Value.cells] at hcs
    obtain ⟨rfl, rfl, rfl⟩ := hcs
    simp only [if_true] at hl
    have hlen : (zs.take len).length = len := by simp; omega
    have hget : ∀ i, i < len → wd (zs.take len) i = zs.getD i 0 := by intro i hi; simp [wd, hi]
    have hsp : 0 < len → a.spot = none := fun hp => by
      have := hcell 0 (by omega)
      rw [show a.add 0 = a from rfl] at this
      exact spot_none this
    refine ⟨some a, cap, zs.take len, by rw [hlen], ⟨fun hne => ?_, fun b o e i hi => ?_⟩, fun n hn => hwf n (List.mem_of_mem_take hn), by omega, hm, fun b o e hne => ?_⟩
    · have : 0 < len := by rcases Nat.eq_zero_or_pos len with h0 | h0; subst h0; simp at hne; exact h0
      exact ⟨a.block, a.off, by rw [← addr_eta (hsp this)]⟩
    · rw [hlen] at hi
      rw [hget i hi]
      have := hcell i (by omega)
      simp at e
      rw [e, addr_add] at this
      exact this
    · have : 0 < len := by rcases Nat.eq_zero_or_pos len with h0 | h0; subst h0; simp at hne; exact h0
      have hc0 := hcell 0 (by omega)
      simp at e
      rw [show a.add 0 = a from rfl, e] at hc0
      exact World.block_lt_of_cell? w _ hc0

/-- the reach of a slice among the arguments -/
theorem slice_reach {t e : TypeId} {ts : List TypeId} {ds : List (DataW H)} {j : Nat} {p : Option Addr} {len cap : Nat} {d : DataW H} {ps : List MemPlace} (ht : P.underlying t = some (.slice e)) {w' : World}
    (h : DataW.Trod enc P w' base (fun _ => true) held t (.slice p len cap) d ps) (hw : (DataW.weightsEach P ts ds).all (· ≤ reachBytes) = true) (hj : ts[j]? = some t) (hd : ds[j]? = some d) (n : Nat) (hn : P.bytesOf e = n) : cap * n ≤ 140737488351232 := by
  subst hn
  obtain ⟨fuel, hf⟩ := h
  rcases open_slice ht hf with ⟨h0, _⟩ | ⟨a, l, c, m, _, D, Pl, hcs, _, hlc, hm, hmm, hx, _⟩
  · simp [Value.cells] at h0
    obtain ⟨rfl, rfl, rfl⟩ := h0
    simp
  · simp [Value.cells] at hcs
    obtain ⟨rfl, rfl, rfl⟩ := hcs
    simp only [if_true] at hmm
    subst hmm
    have hd' := (Prod.mk.inj hx).1
    rw [hd'] at hd
    have := sized_slice hw hj hd ht
    simp only [List.length_map, List.length_range, reachBytes] at this
    rw [show len + (m - len) = m by omega] at this
    omega

/-- v is a slice that reads as these cells -/
structure SlV (w : World) (p : Option Addr) (n : Nat) (V : Nat → Value) : Prop where
  ne : 0 < n → ∃ b o, p = some ⟨b, o, none⟩
  cells : ∀ b o, p = some ⟨b, o, none⟩ → ∀ i, i < n → w.cell? ⟨b, o + i, none⟩ = some (V i)

theorem SlV.lt {w : World} {p : Option Addr} {n : Nat} {V : Nat → Value} (h : SlV w p n V) (hn : 0 < n) {b o : Nat} (e : p = some ⟨b, o, none⟩) : b < w.heap.size :=
  World.block_lt_of_cell? w _ (h.cells b o e 0 hn)

theorem SlV.below {w w' : World} {p : Option Addr} {n : Nat} {V : Nat → Value} (h : SlV w p n V) (hu : Below w.heap.size w w') : SlV w' p n V :=
  ⟨h.ne, fun b o e i hi => (hu.cell (p := ⟨b, o + i, none⟩) (h.lt (by omega) e)).trans (h.cells b o e i hi)⟩

theorem SlI.slv {k : IntKind} {p : Option Addr} {zs : List Int} (h : SlI w k p zs) : SlV w p zs.length (fun i => .int k (wd zs i)) :=
  ⟨fun hn => h.ne (List.length_pos_iff.1 hn), h.cells⟩

/-- a slice of bools that came in -/
theorem open_sl_bools {t e : TypeId} {r : Reach} {b0 : Nat} {v : Value} {d : DataW H} {ps : List MemPlace} (ht : P.underlying t = some (.slice e)) (he : P.underlying e = some .bool) (hc : P.cellsOf e = 1)
    (hval : Value.okWide P w r b0 t v) (h : DataW.Trod enc P w base (fun _ => true) held t v d ps) :
    ∃ (p : Option Addr) (n cap : Nat) (B : Nat → Bool), v = .slice p n cap ∧ SlV w p n (fun i => .bool (B i)) ∧ n ≤ cap ∧ cap ≤ maxLen := by
  obtain ⟨p, len, cap, rfl⟩ := okWide_slice ht hval
  obtain ⟨fuel, hf⟩ := h
  rcases open_bools ht he hc hf with ⟨h0, _⟩ | ⟨a, l, c, B, hcs, _, hlc, hm, _, hcell⟩
  · simp [Value.cells] at h0
    obtain ⟨rfl, rfl, rfl⟩ := h0
    exact ⟨none, 0, 0, fun _ => false, rfl, ⟨fun h => absurd h (by simp), fun _ _ e => by simp at e⟩, by simp, by simp [maxLen]⟩
  · simp [Value.cells] at hcs
    obtain ⟨rfl, rfl, rfl⟩ := hcs
    refine ⟨some a, len, cap, B, rfl, ⟨fun hp => ?_, fun b o e i hi => ?_⟩, hlc, hm⟩
    · have := hcell 0 (by omega)
      rw [show a.add 0 = a from rfl] at this
      exact ⟨a.block, a.off, by rw [← addr_eta (spot_none this)]⟩
    · have := hcell i (by omega)
      simp at e
      rw [e, addr_add] at this
      exact this

theorem open_slice_fields {spare : Nat → Bool} {t e : TypeId} {fs : Array Field} {fuel : Nat} {cs : List Value} {x : DataW H × List MemPlace} (ht : P.underlying t = some (.slice e)) (he : P.underlying e = some (.struct fs))
    (hone : oneCellFields P fs = true) (hC : P.cellsOf e = fs.size) (h : DataW.trod enc P w base spare held fuel t cs = some x) :
    (cs = [.slice none 0 0] ∧ x = (.nil, [])) ∨
    ∃ (a : Addr) (len cap m : Nat) (D : Nat → DataW H) (Pl : Nat → List MemPlace), cs = [.slice (some a) len cap] ∧ base ≤ a.block ∧ len ≤ cap ∧ cap ≤ maxLen ∧ m = (if spare a.block then cap else len) ∧
      x = (.slice ((List.range len).map D) ((List.range (m - len)).map fun j => D (len + j)), MemPlace.row a (m * fs.size) ++ (List.range m).flatMap Pl) ∧
      ∀ i, i < m → ∃ (ys : List (DataW H × List MemPlace)) (n : Nat), D i = .agg (ys.map (·.1)) ∧ Pl i = ys.flatMap (·.2) ∧ ys.length = fs.size ∧
        ∀ (j : Nat) (f : Field), fs[j]? = some f → ∃ (v : Value) (y : DataW H × List MemPlace), w.cell? (a.add (i * fs.size + j)) = some v ∧ ys[j]? = some y ∧ DataW.trod enc P w base spare held n f.type [v] = some y := by
  rcases open_slice ht h with h0 | ⟨a, len, cap, m, n, D, Pl, hcs, hb, hl, hm, hmm, hx, hi⟩
  · exact .inl h0
  · refine .inr ⟨a, len, cap, m, D, Pl, hcs, hb, hl, hm, hmm, by rw [hC] at hx; exact hx, fun i him => ?_⟩
    obtain ⟨cs', hc, ht'⟩ := hi i him
    rw [hC] at hc
    obtain ⟨ys, n', hn', hy, hlen, hyl, hf⟩ := DataW.trod_struct he ht'
    obtain ⟨_, hcl, hat⟩ := World.cells?_some hc
    simp only [Prod.mk.injEq] at hy
    refine ⟨ys, n', hy.1, hy.2, hyl, fun j f hj => ?_⟩
    obtain ⟨ho, hk⟩ := hone_of hone j f hj
    have hjl : j < fs.size := (Array.getElem?_eq_some_iff.1 hj).1
    have hcell := hat j hjl
    have hv : cs'[j]? = some (cs'[j]'(by omega)) := List.getElem?_eq_getElem (by omega)
    have h1 := hf j f hj
    rw [ho, hk] at h1
    have hone' : (cs'.drop j).take 1 = [cs'[j]'(by omega)] := by
      rw [List.drop_eq_getElem_cons (by omega)]
      rfl
    rw [hone'] at h1
    have hys : ys[j]? = some (ys[j]'(by omega)) := List.getElem?_eq_getElem (by omega)
    refine ⟨_, _, ?_, hys, h1.trans hys⟩
    rw [← Go.Deep.add_add, hcell, hv]

/-- a slice of structs of one-cell fields that came in: each cell's value is one of its field's type -/
theorem open_sl_structs {t e : TypeId} {fs : Array Field} {r : Reach} {b0 : Nat} {v : Value} {d : DataW H} {ps : List MemPlace} (ht : P.underlying t = some (.slice e)) (he : P.underlying e = some (.struct fs))
    (hone : oneCellFields P fs = true) (hC : P.cellsOf e = fs.size) (hpos : 0 < fs.size)
    (hval : Value.okWide P w r b0 t v) (h : DataW.Trod enc P w base (fun _ => true) held t v d ps) :
    ∃ (p : Option Addr) (n cap : Nat) (V : Nat → Value), v = .slice p n cap ∧ SlV w p (n * fs.size) V ∧ n ≤ cap ∧ cap ≤ maxLen ∧
      ∀ i, i < n → ∀ (j : Nat) (f : Field), fs[j]? = some f → ∃ (m : Nat) (y : DataW H × List MemPlace), DataW.trod enc P w base (fun _ => true) held m f.type [V (i * fs.size + j)] = some y := by
  obtain ⟨p, len, cap, rfl⟩ := okWide_slice ht hval
  obtain ⟨fuel, hf⟩ := h
  rcases open_slice_fields ht he hone hC hf with ⟨h0, _⟩ | ⟨a, l, c, m, D, Pl, hcs, _, hlc, hm, hmm, _, hcell⟩
  · simp [Value.cells] at h0
    obtain ⟨rfl, rfl, rfl⟩ := h0
    exact ⟨none, 0, 0, fun _ => undef, rfl, ⟨fun h => absurd h (by simp), fun _ _ e => by simp at e⟩, by simp, by simp [maxLen], fun i hi => by omega⟩
  · simp [Value.cells] at hcs
    obtain ⟨rfl, rfl, rfl⟩ := hcs
    simp only [if_true] at hmm
    subst hmm
    have hall : ∀ q, q < len * fs.size → ∃ v, w.cell? (a.add q) = some v := by
      intro q hq
      have h1 : q / fs.size < len := Nat.div_lt_of_lt_mul (by rw [Nat.mul_comm]; exact hq)
      have h2 : q % fs.size < fs.size := Nat.mod_lt _ hpos
      obtain ⟨ys, n', _, _, _, hj⟩ := hcell (q / fs.size) (by omega)
      obtain ⟨v, y, hv, _, _⟩ := hj (q % fs.size) fs[q % fs.size] (by simp [h2])
      have e : q / fs.size * fs.size + q % fs.size = q := by rw [Nat.mul_comm]; exact Nat.div_add_mod q fs.size
      rw [e] at hv
      exact ⟨v, hv⟩
    have hsp : ∀ q, q < len * fs.size → w.cell? (a.add q) = some ((w.cell? (a.add q)).getD undef) := by
      intro q hq
      obtain ⟨v, hv⟩ := hall q hq
      rw [hv]; rfl
    refine ⟨some a, len, m, fun q => (w.cell? (a.add q)).getD undef, rfl, ⟨fun hp => ?_, fun b o e i hi => ?_⟩, hlc, hm, fun i hi j f hj => ?_⟩
    · have := hsp 0 hp
      rw [show a.add 0 = a from rfl] at this
      exact ⟨a.block, a.off, by rw [← addr_eta (spot_none this)]⟩
    · have := hsp i hi
      simp at e
      rw [e, addr_add] at this
      simp only [e, addr_add]
      exact this
    · obtain ⟨ys, n', _, _, _, hj'⟩ := hcell i (by omega)
      obtain ⟨v, y, hv, _, hy⟩ := hj' j f hj
      exact ⟨n', y, by simp only [hv, Option.getD_some]; exact hy⟩

end
end Go.Proofs.YtfldpejifpmapaaDoor
set_option linter.unusedSimpArgs false
set_option linter.unusedVariables false
set_option maxRecDepth 100000
namespace Go.Proofs.YtfldpejifpmapaaDoor
open Go.RowKit
open Go.ChangeShapes Go.WideShapes Go.ChangeAt

theorem tab_reads {W : World} (h : Lib.VarReads Tryd.prog W "internal/strconv.uint64pow10" Rows.laid_internal_strconv_uint64pow10) : Tab W := by
  obtain ⟨g, t, cs, fuel, p, hg, ht, hv, hd⟩ := h
  obtain rfl := Option.some.inj ((show Tryd.prog.globalNamed "internal/strconv.uint64pow10" = some 0 by kernel_rfl).symm.trans hg)
  obtain rfl := Option.some.inj ((show (Tryd.prog.globals[0]?).map (·.type) = some 145 by kernel_rfl).symm.trans ht)
  have hd' : DataW.trod (fun _ => ()) Tryd.prog W 0 (fun _ => true) false fuel 145 cs.toList = some (Lib.tabData .u64 Lib.pow10Tab, p) := hd
  unfold Tab Lib.TabIs
  rw [hv, ← Lib.cells_of_tab Tryd.underlying145 Tryd.underlying24 (by kernel_rfl) (by kernel_rfl) hd']

theorem err_reads {W : World} {n : String} {g : Nat} {d : DataW Unit} {name : String} (hg0 : Tryd.prog.globalNamed n = some g) (ht0 : (Tryd.prog.globals[g]?).map (·.type) = some 68)
    (h : Lib.VarReads Tryd.prog W n (.iface name d)) : ∃ tp p, W.var? Tryd.prog n = some #[.iface tp p] := by
  obtain ⟨g, t, cs, fuel, p, hg, ht, hv, hd⟩ := h
  obtain rfl := Option.some.inj (hg0.symm.trans hg)
  obtain rfl := Option.some.inj (ht0.symm.trans ht)
  obtain ⟨_, u, v, hcs, _⟩ := iface_of_trod (ms := _) Tryd.underlying68 hd
  refine ⟨u, v, ?_⟩
  rw [hv]
  congr 1
  apply Array.ext'
  rw [hcs]

theorem max_shaped (w : World) (h : w.ShapedOpen Tryd.prog) : ∃ m, w.cell? ⟨1, 0, none⟩ = some (.int .i64 m) :=
  cell_of_shapedOpen_int (zero := #[.int .i64 0]) (t := 3) h (of_decide_eq_true (by kernel_rfl)) (by kernel_rfl) rfl (by kernel_rfl) (by kernel_rfl) Tryd.underlying3

/-- what every row of this layer lists -/
def Lists (l : List (String × DataW Unit)) : Prop :=
  ("internal/strconv.uint64pow10", Rows.laid_internal_strconv_uint64pow10) ∈ l ∧ ("strconv.ErrRange", Rows.laid_strconv_ErrRange) ∈ l ∧ ("strconv.ErrSyntax", Rows.laid_strconv_ErrSyntax) ∈ l

theorem pre_laid {W : World} {l : List (String × DataW Unit)} (hl : Lists l) (h : laidMet Tryd.prog l W) (hsh : W.ShapedOpen Tryd.prog) : PreE W :=
  ⟨tab_reads (Lib.laidMet.reads h hl.1),
    ⟨err_reads (g := 4) (by kernel_rfl) (by kernel_rfl) (Lib.laidMet.reads h hl.2.2), err_reads (g := 5) (by kernel_rfl) (by kernel_rfl) (Lib.laidMet.reads h hl.2.1)⟩,
    max_shaped W hsh⟩

/-- 'there is an input that fits', at the world that lays all that the row lists -/
theorem witness_card {H : Type} {enc : TypeId × Value → H} {os : Os} {f : FuncId} {fn : Func} {s : OpenSpec} {conds : List PathCond} {laid : List (String × DataW Unit)} (args : Array Value)
    (hsh : ((World.laidAll Tryd.prog os laid).forCall (fun _ _ => 0) ⟨#[], args, []⟩).Shaped Tryd.prog)
    (hok : Input.okWideB Tryd.prog ((World.laidAll Tryd.prog os laid).forCall (fun _ _ => 0) ⟨#[], args, []⟩) f ⟨#[], args, []⟩ = true)
    (hrow : s.preRow enc Tryd.prog fn conds false laid ((World.laidAll Tryd.prog os laid).forCall (fun _ _ => 0) ⟨#[], args, []⟩).memory args) :
    ∃ (w : World) (tape : Tape) (i : Input), w.os = os ∧ (w.forCall tape i).Shaped Tryd.prog ∧ i.vars = [] ∧ Input.okWide Tryd.prog (w.forCall tape i) .any w.heap.size f i ∧
      s.preRow enc Tryd.prog fn conds false laid (w.forCall tape i).memory i.args ∧ ({} : Assume).holds Tryd.prog (lone (Frame.enter Tryd.prog f i.args .normal) [] (w.forCall tape i)) :=
  ⟨World.laidAll Tryd.prog os laid, fun _ _ => 0, ⟨#[], args, []⟩, World.laidAll_os _ _ _, hsh, (Input.okWide_of_okWideB (base := 0) hok).1, (Input.okWide_of_okWideB hok).2, hrow, by
    simp only [Assume.holds]
    exact ⟨by simp, by simp, fun _ => Modest.zero, by simp, by simp⟩⟩
end Go.Proofs.YtfldpejifpmapaaDoor
set_option linter.unusedSimpArgs false
set_option linter.unusedVariables false
set_option maxRecDepth 100000
namespace Go.Proofs.YtfldpejifpmapaaDoor
open Go.RowKit
open Go.ChangeShapes Go.WideShapes Go.ChangeAt
theorem sl_events {H : Type} {enc : TypeId × Value → H} {w : World} {base : Nat} {held : Bool} {p : Option Addr} {n : Nat} {V : Nat → Value} {fs : Array Field} (hfs : Tryd.prog.underlying 27 = some (.struct fs)) (h : SlV w p (n * fs.size) V)
    (hf : ∀ i, i < n → ∀ (j : Nat) (f : Field), fs[j]? = some f → ∃ (m : Nat) (y : DataW H × List MemPlace), DataW.trod enc Tryd.prog w base (fun _ => true) held m f.type [V (i * fs.size + j)] = some y) :
    ∃ L : List Ev, L.length = n ∧ HistAt w p L ∧ wideL L := by
  have he := Option.some.inj (hfs.symm.trans Tryd.underlying27)
  injection he with he
  subst he
  have key : ∀ i, i < n → ∃ x : Ev, (∀ j v, x.cells[j]? = some v → V (i * 6 + j) = v) ∧ x.wide := fun i hi => by
    obtain ⟨_, _, h0⟩ := hf i hi 0 _ rfl
    obtain ⟨_, _, h1⟩ := hf i hi 1 _ rfl
    obtain ⟨_, _, h2⟩ := hf i hi 2 _ rfl
    obtain ⟨_, _, h3⟩ := hf i hi 3 _ rfl
    obtain ⟨_, _, h4⟩ := hf i hi 4 _ rfl
    obtain ⟨_, _, h5⟩ := hf i hi 5 _ rfl
    obtain ⟨z0, g0, _, _⟩ := DataW.trod_int Tryd.underlying3 h0
    obtain ⟨z1, g1, _, _⟩ := DataW.trod_int Tryd.underlying23 h1
    obtain ⟨z2, g2, _, wf2⟩ := DataW.trod_int Tryd.underlying24 h2
    obtain ⟨z3, g3, _, wf3⟩ := DataW.trod_int Tryd.underlying24 h3
    obtain ⟨b4, g4, _⟩ := DataW.trod_bool Tryd.underlying4 h4
    obtain ⟨z5, g5, _, _⟩ := DataW.trod_int Tryd.underlying25 h5
    have hn2 : 0 ≤ z2 ∧ z2 ≤ 18446744073709551615 := by simpa [Lit.wf, IntKind.min, IntKind.max, IntKind.signed, IntKind.bits] using wf2
    have hn3 : 0 ≤ z3 ∧ z3 ≤ 18446744073709551615 := by simpa [Lit.wf, IntKind.min, IntKind.max, IntKind.signed, IntKind.bits] using wf3
    refine ⟨⟨z0, z1, z2, z3, b4, z5⟩, fun j v hj => ?_, ⟨hn2.1, by simp only; omega⟩, hn3.1, by simp only; omega⟩
    have hj6 : j < 6 := by have := (List.getElem?_eq_some_iff.1 hj).1; simpa [Ev.cells] using this
    have : j = 0 ∨ j = 1 ∨ j = 2 ∨ j = 3 ∨ j = 4 ∨ j = 5 := by omega
    rcases this with rfl | rfl | rfl | rfl | rfl | rfl
    · cases hj; exact (List.cons.inj g0).1
    · cases hj; exact (List.cons.inj g1).1
    · cases hj; exact (List.cons.inj g2).1
    · cases hj; exact (List.cons.inj g3).1
    · cases hj; exact (List.cons.inj g4).1
    · cases hj; exact (List.cons.inj g5).1
  have key2 : ∃ F : Nat → Ev, ∀ i, i < n → (∀ j v, (F i).cells[j]? = some v → V (i * 6 + j) = v) ∧ (F i).wide :=
    ⟨fun i => if hi : i < n then (key i hi).choose else zeroE, fun i hi => by simp only [hi, dif_pos]; exact (key i hi).choose_spec⟩
  obtain ⟨F, hF⟩ := key2
  refine ⟨(List.range n).map F, by simp, fun i x hx => ?_, fun x hx => ?_⟩
  · have hin : i < n := by have := (List.getElem?_eq_some_iff.1 hx).1; simpa using this
    rw [List.getElem?_map, List.getElem?_range hin] at hx
    simp only [Option.map_some, Option.some.injEq] at hx
    subst hx
    obtain ⟨b, o, rfl⟩ := h.ne (by show 0 < n * 6; omega)
    have hc : ∀ j v, (F i).cells[j]? = some v → w.cell? ⟨b, o + i * 6 + j, none⟩ = some v := fun j v hj => by
      have hj6 : j < 6 := by have := (List.getElem?_eq_some_iff.1 hj).1; simpa [Ev.cells] using this
      rw [← (hF i hin).1 j v hj, Nat.add_assoc]
      exact h.cells b o rfl (i * 6 + j) (by show i * 6 + j < n * 6; omega)
    exact ⟨b, o, rfl, hc 0 _ rfl, hc 1 _ rfl, hc 2 _ rfl, hc 3 _ rfl, hc 4 _ rfl, hc 5 _ rfl⟩
  · obtain ⟨i, hi, rfl⟩ := List.mem_map.1 hx
    exact (hF i (List.mem_range.1 hi)).2
end Go.Proofs.YtfldpejifpmapaaDoor
set_option linter.unusedSimpArgs false
set_option linter.unusedVariables false
set_option maxRecDepth 100000
namespace Go.Proofs.YtfldpejifpmapaaDoor
open Go.RowKit
open Go.ChangeShapes Go.WideShapes Go.ChangeAt Go.Deep

theorem bulk_one {H : Type} (d : DataW H) : 1 ≤ Rows.uptoBulk d := by
  cases d with
  | lit l => cases l <;> simp [Rows.uptoBulk]
  | nil => simp [Rows.uptoBulk]
  | ptr d => simp [Rows.uptoBulk]
  | slice elems spare => simp [Rows.uptoBulk]
  | agg parts => simp [Rows.uptoBulk]
  | iface t d => simp [Rows.uptoBulk]
  | map entries => simp [Rows.uptoBulk]
  | held h => simp [Rows.uptoBulk]
theorem bulk_len {H : Type} (l : List (DataW H)) : l.length ≤ Rows.uptoBulkAll l := by
  induction l with
  | nil => simp [Rows.uptoBulkAll]
  | cons x r ih => have := bulk_one x; simp only [Rows.uptoBulkAll, List.length_cons]; omega
theorem bulk_slice {H : Type} {enc : TypeId × Value → H} {P : Program} {w : World} {base : Nat} {held : Bool} {t e : TypeId} {p : Option Addr} {len cap : Nat} {d : DataW H} {ps : List MemPlace} (ht : P.underlying t = some (.slice e))
    (h : DataW.Trod enc P w base (fun _ => true) held t (.slice p len cap) d ps) : len ≤ Rows.uptoBulk d := by
  obtain ⟨fuel, hf⟩ := h
  rcases open_slice ht hf with ⟨h0, _⟩ | ⟨a, l, c, m, n, D, Pl, hcs, _, hlc, hm, hmm, hx, _⟩
  · simp [Value.cells] at h0
    omega
  · simp [Value.cells] at hcs
    obtain ⟨rfl, rfl, rfl⟩ := hcs
    rw [(Prod.mk.inj hx).1]
    have := bulk_len ((List.range len).map D)
    simp only [Rows.uptoBulk]
    simp at this
    omega
end Go.Proofs.YtfldpejifpmapaaDoor
set_option linter.unusedSimpArgs false
set_option linter.unusedVariables false
set_option maxRecDepth 100000
namespace Go.Proofs.YtfldpejifpmapaaDoor
open Go.RowKit
open Go.Maps
/-- is the line written as what it was read as? -/
def lineOk (x : Option Ev) (l : List UInt8) : Bool := x.isSome && (decide ((lineO (evO x)).2 = 0) && decide ((lineO (evO x)).1 = l))
/-- the events of a text, up to the first line that is none; is there no such line? -/
def readH : Nat → List UInt8 → List Ev × Bool
  | 0, l => ([], decide (l = []))
  | n + 1, l => if l = [] then ([], true) else if (Lib.cut l [10]).2.2 = true ∧ lineOk (eventL (Lib.cut l [10]).1) (Lib.cut l [10]).1 = true then (evO (eventL (Lib.cut l [10]).1) :: (readH n (Lib.cut l [10]).2.1).1, (readH n (Lib.cut l [10]).2.1).2) else ([], false)
theorem readH_nil (n : Nat) : readH n [] = ([], true) := by cases n <;> rfl
theorem cut_less (l : List UInt8) (h : (Lib.cut l [10]).2.2 = true) (hl : l ≠ []) : (Lib.cut l [10]).2.1.length < l.length := by
  unfold Lib.cut at h ⊢
  have h0 : 0 < l.length := List.length_pos_iff.2 hl
  split at h
  · rename_i hi
    rw [if_pos hi]
    simp only [List.length_drop, List.length_cons, List.length_nil]
    omega
  · cases h
theorem wordsF_lt : ∀ (n : Nat) (l : List UInt8) (ws : List Nat), wordsF n l = some ws → ∀ x ∈ ws, x < 18446744073709551616
  | 0, l, ws, h => by
    unfold wordsF at h
    split at h
    · cases h; simp
    · cases h
  | n + 1, l, ws, h => by
    unfold wordsF at h
    split at h
    · cases h; simp
    · split at h
      · obtain ⟨vs, hv, rfl⟩ := Option.map_eq_some_iff.1 h
        intro x hx
        rcases List.mem_cons.1 hx with rfl | hx
        · exact number_lt l
        · exact wordsF_lt n _ vs hv x hx
      · cases h
theorem wordAt_bd {ws : List Nat} (h : ∀ x ∈ ws, x < 18446744073709551616) (i : Nat) : 0 ≤ wordAt ws i ∧ wordAt ws i < 18446744073709551616 := by
  unfold wordAt
  rw [List.getD_eq_getElem?_getD]
  cases hx : (ws ++ [0, 0])[i]? with
  | none => simp
  | some x =>
    have hm := List.mem_of_getElem? hx
    have : x < 18446744073709551616 := by
      rcases List.mem_append.1 hm with hm | hm
      · exact h x hm
      · simp at hm; omega
    simp only [Option.getD_some]
    omega
theorem ite_bd {p : Prop} [Decidable p] {a b : Int} (ha : 0 ≤ a ∧ a < 18446744073709551616) (hb : 0 ≤ b ∧ b < 18446744073709551616) : 0 ≤ (if p then a else b) ∧ (if p then a else b) < 18446744073709551616 := by
  by_cases h : p
  · rw [if_pos h]; exact ha
  · rw [if_neg h]; exact hb
theorem zero_wide : zeroE.wide := by unfold zeroE Ev.wide; decide
theorem evOf_wide {t : Nat} {own : Bool} {k : Int} {ws : List Nat} (h : ∀ x ∈ ws, x < 18446744073709551616) : (evOf t own k ws).wide :=
  ⟨ite_bd (wordAt_bd h 0) (by decide), ite_bd (wordAt_bd h 1) (ite_bd (wordAt_bd h 0) (by decide))⟩
theorem ev_wide (l : List UInt8) : (evO (eventL l)).wide := by
  unfold eventL
  split
  · cases h : wordsF (Lib.cut (Lib.trimPrefix (numberL l).2.1 [32]) [32]).2.1.length (Lib.cut (Lib.trimPrefix (numberL l).2.1 [32]) [32]).2.1 with
    | none => exact zero_wide
    | some ws => exact evOf_wide (wordsF_lt _ _ _ h)
  · exact zero_wide
theorem info_ev : (Tryd.prog.info? 27).map (fun i => (i.zero, i.size, i.bytes)) = some (some (.agg #[.int .i64 0, .int .i64 0, .int .u64 0, .int .u64 0, .bool false, .int .i64 0]), 6, 48) := by kernel_rfl
/-- one more event -/
theorem app_ev {W : World} {base : Nat} {v : Value} {l : List Ev} (h : W.ownsRow base 27 6 v l.length (l.flatMap Ev.cells)) (x : Ev) (hn : l.length ≤ 1000000000000) (hb : base ≤ W.heap.size) :
    ∃ v' w', (Builtin.append_ #[22, 22] 22 #[v, .slice (some ⟨W.heap.size, 0, none⟩) 1 1]).run Tryd.prog (W.alloc (.cells x.cells.toArray 27)) = .ok v' w' ∧ w'.ownsRow base 27 6 v' (l.length + 1) ((l ++ [x]).flatMap Ev.cells) ∧ Upd v.ownBlock.toList (W.alloc (.cells x.cells.toArray 27)) w' ∧ (v'.ownBlock = v.ownBlock ∨ v'.ownBlock = some (W.heap.size + 1)) := by
  obtain ⟨i0, hi, hz0, hz1, hz2⟩ := info_parts info_ev
  have hW := own_upd h ((Upd.refl [] W).alloc (.cells x.cells.toArray 27)) (by simp)
  obtain ⟨v', w', hr, ho, hg, _, hat⟩ := run_append_own_at (P := Tryd.prog) (W.alloc (.cells x.cells.toArray 27)) base 22 22 27 i0 _ 6 48 Tryd.underlying22 hi hz0 hz1 hz2 rfl (by decide) v l.length _ hW
    ⟨W.heap.size, 0, none⟩ 1 1 x.cells rfl (news_new _ 27 rfl) (by intro u hu; simp [Ev.cells] at hu; rcases hu with rfl | rfl | rfl | rfl | rfl | rfl <;> rfl) (by unfold maxLen; omega) (by omega) (by rw [World.size_alloc]; omega)
  rw [World.size_alloc] at hat
  refine ⟨v', w', hr, ?_, Upd.own hg, hat⟩
  rw [List.flatMap_append, List.flatMap_singleton]
  exact ho
/-- what Parse answers -/
def ParseOk (w : World) (r : List Ev × Bool) (e : Ending) (w' : World) : Prop := Upd [] w w' ∧
  ((r.2 = true ∧ ∃ v, e = .returned (.tuple #[v, .int .i64 (r.1.length : Int), .int .i64 0]) ∧ w'.ownsRow w.heap.size 27 6 v r.1.length (r.1.flatMap Ev.cells)) ∨
   (r.2 = false ∧ e = .returned (.tuple #[.slice none 0 0, .int .i64 (r.1.length : Int), .int .i64 234])))
set_option maxHeartbeats 8000000 in
theorem parse_code (s : ByteArray) (hs : s.size < 4294967281) (w : World) (hP : PreE w) : Calls Tryd.prog 17 #[.string s] w (ParseOk w (readH s.data.toList.length s.data.toList)) := by
  have HP := Lib.hid hP
  obtain ⟨X, hX⟩ : ∃ X, readH s.data.toList.length s.data.toList = X := ⟨_, rfl⟩
  rw [hX]
  have HX := Lib.hid hX
  have HS := Lib.hid hs
  have HS2 := Lib.hid (show s.size = s.data.toList.length from Lib.size_eq s)
  have HSE := Lib.hid (show s = ⟨s.data.toList.toArray⟩ by cases s; simp)
  clear hX hP hs
  obtain ⟨L, hL⟩ : ∃ L, s.data.toList = L := ⟨_, rfl⟩
  rw [hL] at HX HS2 HSE
  have hsE := HSE.out
  subst hsE
  clear hL HSE
  refine calls_all fun K hK => ?_
  go_enter Tryd.func17, Tryd.ntmps17
  go_wp2_with fail
  have HO0 := Lib.hid (show World.ownsRow (w.alloc (.cells #[] 27)) w.heap.size 27 6 (.slice (some ⟨w.heap.size, 0, none⟩) 0 0) ([] : List Ev).length (([] : List Ev).flatMap Ev.cells) from
    ⟨rfl, .inr ⟨w.heap.size, 0, #[], rfl, Nat.le_refl _, heap_alloc_new w (.cells #[] 27), Nat.le_refl _, by unfold maxLen; omega, rfl, rfl⟩⟩)
  have HU0 := Lib.hid (show Upd [] w (w.alloc (.cells #[] 27)) from (Upd.refl _ _).alloc _)
  obtain ⟨v0, hv0⟩ : ∃ v, Value.slice (some ⟨w.heap.size, 0, none⟩) 0 0 = v := ⟨_, rfl⟩
  rw [hv0] at HO0 ⊢
  generalize w.alloc (.cells #[] 27) = W0 at HO0 HU0 ⊢
  clear hv0
  go_loopw [0, 5] (fun q0 q5 wr => ∃ (ρ : List UInt8) (E : List Ev) (fu : Nat), q0 = .string ⟨ρ.toArray⟩ ∧ ρ.length ≤ fu ∧ E.length + ρ.length ≤ L.length ∧ X = (E ++ (readH fu ρ).1, (readH fu ρ).2) ∧ wr.ownsRow w.heap.size 27 6 q5 E.length (E.flatMap Ev.cells) ∧ Upd [] w wr) (fun q0 _ _ => strLen q0)
  case atStart => exact ⟨L, [], L.length, rfl, Nat.le_refl _, by simp, by rw [HX.out]; rfl, HO0.out, HU0.out⟩
  case round =>
    obtain ⟨ρ, E, fu, rfl, h1, h2, h3, ho, hu⟩ := hrel
    obtain ⟨p, c, rfl⟩ := own_form ho
    have H1 := Lib.hid h1
    have H2 := Lib.hid h2
    have H3 := Lib.hid h3
    have HO := Lib.hid ho
    have HU := Lib.hid hu
    clear h1 h2 h3 ho hu HO0 HU0
    by_cases hρ : ρ = []
    · subst hρ
      have HXE := Lib.hid (show X = (E, true) by rw [H3.out, readH_nil]; simp)
      go_wp2_with fail
      rw [HXE.out]
      exact ⟨HU.out, .inl ⟨rfl, _, rfl, HO.out⟩⟩
    · have hne : (ρ == []) = false := by simpa using hρ
      have HW := Lib.hid (show readH fu ρ = if (Lib.cut ρ [10]).2.2 = true ∧ lineOk (eventL (Lib.cut ρ [10]).1) (Lib.cut ρ [10]).1 = true then (evO (eventL (Lib.cut ρ [10]).1) :: (readH (fu - 1) (Lib.cut ρ [10]).2.1).1, (readH (fu - 1) (Lib.cut ρ [10]).2.1).2) else ([], false) by
        cases fu with
        | zero => exact absurd (List.length_eq_zero_iff.1 (Nat.le_zero.1 H1.out)) hρ
        | succ f => rw [readH, if_neg hρ]; rfl)
      have HCUT := Lib.hid (by obtain ⟨m, hm⟩ := (HP.out.upd HU.out).max; exact Tryd.strings_Cut ⟨ρ.toArray⟩ ⟨#[10]⟩ m wr (by have h1 := HS.out; have h2 := HS2.out; have h3 := H2.out; rw [Lib.size_eq]; simp only [List.toList_toArray]; omega) hm)
      simp only [List.toList_toArray] at HCUT
      have HL1 := Lib.hid (cut_len ρ [10])
      have HL2 := Lib.hid (fun h => cut_less ρ h hρ)
      have HPL := Lib.hid (show 0 < ρ.length from List.length_pos_iff.2 hρ)
      generalize Lib.cut ρ [10] = c3 at *
      obtain ⟨ln, rs, fd⟩ := c3
      dsimp only at HW HCUT HL1 HL2
      have HEV := Lib.hid (fun (W : World) (u : Upd [] w W) => event_code ⟨ln.toArray⟩ (by have h1 := HS.out; have h2 := HS2.out; have h3 := H2.out; have h4 := HL1.out.1; rw [Lib.size_eq]; simp only [List.toList_toArray]; omega) W (HP.out.upd u))
      simp only [List.toList_toArray] at HEV
      have HEW := Lib.hid (ev_wide ln)
      generalize eventL ln = x at *
      obtain ⟨y, hy⟩ : ∃ y, evO x = y := ⟨_, rfl⟩
      obtain ⟨ok, hok⟩ : ∃ b, x.isSome = b := ⟨_, rfl⟩
      have HOK := Lib.hid (show lineOk x ln = (ok && (decide ((lineO y).2 = 0) && decide ((lineO y).1 = ln))) by rw [← hy, ← hok]; rfl)
      rw [hy] at HEV HW HEW
      rw [hok] at HEV
      clear hy hok
      have HLN := Lib.hid (fun (W : World) (u : Upd [] w W) => line_code W y HEW.out (HP.out.upd u).tab)
      generalize lineO y = lo at HLN HOK
      obtain ⟨lx, er⟩ := lo
      dsimp only at HLN HOK
      obtain ⟨yth, ykd, yad, ywd, yown, yer⟩ := y
      simp only [Ev.val] at HEV HLN
      go_wp2_with fail
      refine (HCUT.out).mono ?_
      rintro e W3 ⟨rfl, nq, rfl⟩
      have ud : Upd [] wr (wr.drewN nq) := (Upd.refl _ _).drewN _
      have HU4 := Lib.hid (HU.out.trans ud)
      have HO4 := Lib.hid (own_upd HO.out ud (by simp))
      generalize wr.drewN nq = W4 at HU4 HO4 ⊢
      clear ud HU HO HCUT hne hρ
      go_wp2_with fail
      refine (HEV.out _ HU4.out).mono ?_
      rintro e W5 ⟨rfl, u5⟩
      have HU5 := Lib.hid ((HU4.out.trans u5).alloc (.cells #[.int .i64 yth, .int .i64 ykd, .int .u64 yad, .int .u64 ywd, .bool yown, .int .i64 yer] 27))
      have HO5 := Lib.hid (own_upd HO4.out (u5.alloc (.cells #[.int .i64 yth, .int .i64 ykd, .int .u64 yad, .int .u64 ywd, .bool yown, .int .i64 yer] 27)) (by simp))
      have HB5 := Lib.hid (Blk.new W5 [.int .i64 yth, .int .i64 ykd, .int .u64 yad, .int .u64 ywd, .bool yown, .int .i64 yer] 27)
      clear u5 HU4 HO4 HEV
      go_wp2_with fail
      refine (HLN.out _ HU5.out).mono ?_
      rintro e W6 ⟨rfl, u6⟩
      have HU6 := Lib.hid (HU5.out.trans u6)
      have HO6 := Lib.hid (own_upd HO5.out u6 (by simp))
      have HB6 := Lib.hid (HB5.out.upd u6 (by simp))
      clear u6 HU5 HO5 HB5 HLN
      obtain ⟨xb, hxb⟩ : ∃ b, W5.heap.size = b := ⟨_, rfl⟩
      rw [hxb] at HB6 ⊢
      clear hxb
      have x0 := HB6.out.cell 0 rfl
      have x1 := HB6.out.cell 1 rfl
      have x2 := HB6.out.cell 2 rfl
      have x3 := HB6.out.cell 3 rfl
      have x4 := HB6.out.cell 4 rfl
      have x5 := HB6.out.cell 5 rfl
      cases fd with
      | false =>
        have HXB := Lib.hid (show X = (E, false) by rw [H3.out, HW.out, if_neg (fun q => by cases q.1)]; simp)
        clear H3 HW HOK HL2 HO6
        go_wp2_with fail
        rw [HXB.out]
        exact ⟨HU6.out, .inr ⟨rfl, rfl⟩⟩
      | true =>
        cases ok with
        | false =>
          have HXB := Lib.hid (show X = (E, false) by rw [H3.out, HW.out, if_neg (fun q => by have := q.2; rw [HOK.out] at this; cases this)]; simp)
          clear H3 HW HOK HL2 HO6
          go_wp2_with fail
          rw [HXB.out]
          exact ⟨HU6.out, .inr ⟨rfl, rfl⟩⟩
        | true =>
          by_cases her : er = 0
          · by_cases hlx : lx = ln
            · subst hlx
              have hlk : lineOk x lx = true := by rw [HOK.out, decide_eq_true her, decide_eq_true rfl]; rfl
              subst her
              obtain ⟨v', W10, hrun, ho', hu', _⟩ := app_ev HO6.out ⟨yth, ykd, yad, ywd, yown, yer⟩ (by have h1 := HS.out; have h2 := HS2.out; have h3 := H2.out; omega) HU6.out.size
              simp only [Ev.cells] at hrun hu'
              have ua : Upd [] W6 (W6.alloc (.cells #[.int .i64 yth, .int .i64 ykd, .int .u64 yad, .int .u64 ywd, .bool yown, .int .i64 yer] 27)) := (Upd.refl _ _).alloc _
              have HO10 := Lib.hid ho'
              have HU10 := Lib.hid (show Upd [] w W10 from (HU6.out.trans ua).tr (U := []) hu' (by simp) (fun g hg => .inr (own_blocks HO6.out g hg).1))
              have HX3 := Lib.hid (show X = ((E ++ [⟨yth, ykd, yad, ywd, yown, yer⟩]) ++ (readH (fu - 1) rs).1, (readH (fu - 1) rs).2) by rw [H3.out, HW.out, if_pos ⟨rfl, hlk⟩]; simp)
              have HR := Lib.hid (show rs.length < ρ.length from HL2.out rfl)
              obtain ⟨p', c', rfl⟩ := own_form ho'
              clear ho' hu' ua HO6 H3 HW HOK hlk HL2
              go_wp2_with (at_builtin; refine wpList_append_eq rfl _ _ _ _ rfl _ _ _ rfl rfl hrun ?_)
              go_roundw
              case rel => exact ⟨rs, E ++ [⟨yth, ykd, yad, ywd, yown, yer⟩], fu - 1, rfl, by have := HR.out; have := H1.out; omega, by have := HR.out; have := H2.out; rw [List.length_append, List.length_singleton]; omega, HX3.out, by rw [List.length_append, List.length_singleton]; exact HO10.out, HU10.out⟩
              case measure => have h := HR.out; simpa [strLen, Lib.size_eq] using h
            · have HXB := Lib.hid (show X = (E, false) by rw [H3.out, HW.out, if_neg (fun q => by have := q.2; rw [HOK.out, decide_eq_false hlx] at this; simp at this)]; simp)
              have hb1 : (lx == ln) = false := by simpa using hlx
              have hb2 : (lx != ln) = true := by simpa using hlx
              subst her
              clear hlx
              clear H3 HW HOK HL2 HO6
              go_wp2_with fail
              rw [HXB.out]
              exact ⟨HU6.out, .inr ⟨rfl, rfl⟩⟩
          · have HXB := Lib.hid (show X = (E, false) by rw [H3.out, HW.out, if_neg (fun q => by have := q.2; rw [HOK.out, decide_eq_false her] at this; simp at this)]; simp)
            have hb1 : (er == 0) = false := by simpa using her
            have hb2 : (er != 0) = true := by simpa using her
            have hb3 : decide (er = 0) = false := decide_eq_false her
            clear her
            clear H3 HW HOK HL2 HO6
            go_wp2_with fail
            rw [HXB.out]
            exact ⟨HU6.out, .inr ⟨rfl, rfl⟩⟩
end Go.Proofs.YtfldpejifpmapaaDoor
set_option linter.unusedSimpArgs false
set_option linter.unusedVariables false
set_option maxRecDepth 100000
namespace Go.Proofs.YtfldpejifpmapaaDoor
open Go.RowKit
open Go.Maps
def e0 : Ev := ⟨0, 1, 0, 0, false, 0⟩
def secL : List Ev := [e0, ⟨0, 3, 1, 5, false, 0⟩, ⟨0, 2, 1, 5, true, 0⟩, ⟨0, 5, 0, 0, false, 0⟩, ⟨0, 6, 0, 1, false, 0⟩, ⟨1, 1, 0, 2, false, 0⟩]
def secT : List Try := [⟨0, 0, 4, 0, 6, 0, 1⟩, ⟨1, 5, 5, 2, 0, 0, 0⟩]
theorem ek1 : (runE ls0 0 secL).2.2 = 0 := by rfl
theorem ek1b : (runE ls0 0 secL).1.tries = secT := by rfl
theorem ek1c : oddE secL = (-1, 0) := by unfold oddE; rw [if_pos ek1]
theorem ek2 : textO [e0] = ([48, 32, 98, 101, 103, 105, 110, 32, 48, 10], 0) := by kernel_rfl
theorem ek3 : readH 10 [48, 32, 98, 101, 103, 105, 110, 32, 48, 10] = ([e0], true) := by kernel_rfl
theorem ek4 : readH 11 [48, 32, 98, 101, 103, 105, 110, 32, 48, 48, 10] = ([], false) := by kernel_rfl
theorem ev_flat : ∀ (l : List Ev) (i : Nat) (x : Ev) (j : Nat), l[i]? = some x → j < 6 → (l.flatMap Ev.cells)[i * 6 + j]? = x.cells[j]?
  | [], i, x, j, h, _ => by simp at h
  | y :: l, 0, x, j, h, hj => by
    obtain rfl : y = x := by simpa using h
    rw [List.flatMap_cons, List.getElem?_append_left (by simp [Ev.cells]; omega)]
    congr 1
    omega
  | y :: l, i + 1, x, j, h, hj => by
    have hc : y.cells.length = 6 := rfl
    rw [List.flatMap_cons, List.getElem?_append_right (by rw [hc]; omega), hc, show (i + 1) * 6 + j - 6 = i * 6 + j by omega]
    exact ev_flat l i x j (by simpa using h) hj
theorem ev_flat_len (l : List Ev) : (l.flatMap Ev.cells).length = l.length * 6 := by
  induction l with
  | nil => rfl
  | cons a l ih => rw [List.flatMap_cons, List.length_append, ih, List.length_cons]; simp [Ev.cells]; omega
theorem hist_of_blk {w : World} {b : Nat} {l : List Ev} {sp : List Value} (h : Blk w b (l.flatMap Ev.cells ++ sp) 27) : HistAt w (some ⟨b, 0, none⟩) l := by
  intro i x hx
  have hi : i < l.length := by
    rcases Nat.lt_or_ge i l.length with h | h
    · exact h
    · rw [List.getElem?_eq_none h] at hx; cases hx
  have hc : ∀ j, j < 6 → (l.flatMap Ev.cells ++ sp)[i * 6 + j]? = x.cells[j]? := fun j hj => by
    rw [List.getElem?_append_left (by rw [ev_flat_len]; omega)]
    exact ev_flat l i x j hx hj
  have hz : ∀ k, (0 + i * 6 + k) = i * 6 + k := fun k => by omega
  refine ⟨b, 0, rfl, ?_, ?_, ?_, ?_, ?_, ?_⟩
  · have := h.cell (i * 6 + 0) ((hc 0 (by omega)).trans rfl); rwa [Nat.add_zero, ← Nat.zero_add (i * 6)] at this
  · rw [hz]; exact h.cell _ ((hc 1 (by omega)).trans rfl)
  · rw [hz]; exact h.cell _ ((hc 2 (by omega)).trans rfl)
  · rw [hz]; exact h.cell _ ((hc 3 (by omega)).trans rfl)
  · rw [hz]; exact h.cell _ ((hc 4 (by omega)).trans rfl)
  · rw [hz]; exact h.cell _ ((hc 5 (by omega)).trans rfl)
/-- an own row as a block known whole -/
theorem own_openN {w : World} {base : Nat} {e : TypeId} {size n g c : Nat} {us : List Value} (h : w.ownsRow base e size (.slice (some ⟨g, 0, none⟩) n c) n us) : base ≤ g ∧ us.length = n * size ∧ ∃ sp : List Value, Blk w g (us ++ sp) e := by
  obtain ⟨h1, h2⟩ := h
  rcases h2 with ⟨h2, _⟩ | ⟨g', cap, cur, hv, hb, hh, hn, hm, hs, ht⟩
  · cases h2
  · cases hv
    refine ⟨hb, h1, cur.toList.drop (n * size), ?_⟩
    rw [← ht, List.take_append_drop]
    unfold Blk
    simpa using hh
theorem num_code (n : Int) (w : World) : Calls Tryd.prog 15 #[.int .i64 n] w fun e w' => e = .returned (.int .i64 n) ∧ w = w' := by
  refine calls_all fun K hK => ?_
  go_enter Tryd.func15, Tryd.ntmps15
  go_wp2
  all_goals exact ⟨rfl, rfl⟩
theorem second_code (w : World) : Calls Tryd.prog 48 #[] w fun e w' => e = .returned (.slice (some ⟨w.heap.size, 0, none⟩) 6 6) ∧ w' = w.alloc (.cells (secL.flatMap Ev.cells).toArray 27) := by
  refine calls_all fun K hK => ?_
  go_enter Tryd.func48, Tryd.ntmps48
  go_wp2
  all_goals exact ⟨rfl, rfl⟩
theorem sec_wide : wideL secL := by
  intro x hx
  simp only [secL, List.mem_cons, List.not_mem_nil, or_false] at hx
  rcases hx with rfl | rfl | rfl | rfl | rfl | rfl <;> exact ⟨by decide, by decide⟩
set_option maxHeartbeats 4000000 in
theorem known_code (w : World) (hP : PreE w) : Calls Tryd.prog 16 #[] w fun e w' => e = .returned (.bool true) ∧ Upd [] w w' := by
  have HP := Lib.hid hP
  clear hP
  refine calls_all fun K hK => ?_
  go_enter Tryd.func16, Tryd.ntmps16
  go_wp2_with fail
  refine (second_code _).mono ?_
  rintro e W1 ⟨rfl, h1⟩
  have HB1 := Lib.hid (show Blk W1 w.heap.size (secL.flatMap Ev.cells ++ []) 27 by rw [h1, List.append_nil]; exact Blk.new w _ _)
  have HU1 := Lib.hid (show Upd [] w W1 by rw [h1]; exact (Upd.refl _ _).alloc _)
  clear h1
  go_wp2_with fail
  refine (tries_code W1 (some ⟨w.heap.size, 0, none⟩) 6 secL (hist_of_blk HB1.out) (by decide) sec_wide).mono ?_
  rintro e W2 ⟨u2, v, rfl, ho, _⟩
  replace ho := (ho ek1).1
  rw [ek1b, show secT.length = 2 from rfl] at ho
  rw [ek1c]
  obtain ⟨g, c, rfl⟩ := own_some ho (by decide)
  obtain ⟨_, _, sp, hB⟩ := own_openN ho
  have HB2 := Lib.hid hB
  have HU2 := Lib.hid (HU1.out.trans u2)
  clear ho hB u2 HB1 HU1
  go_wp2_with fail
  have HO3 := Lib.hid (Blk.new W2 [.int .i64 (-1), .int .i64 0] 46)
  have HB3 := Lib.hid (HB2.out.alloc (.cells #[.int .i64 (-1), .int .i64 0] 46))
  have HU3 := Lib.hid (HU2.out.alloc (.cells #[.int .i64 (-1), .int .i64 0] 46))
  obtain ⟨ob, hob⟩ : ∃ b, W2.heap.size = b := ⟨_, rfl⟩
  obtain ⟨W3, hW3⟩ : ∃ W, W2.alloc (.cells #[.int .i64 (-1), .int .i64 0] 46) = W := ⟨_, rfl⟩
  rw [hW3] at HB3 HU3 ⊢
  rw [show W2.alloc (.cells [.int .i64 (-1), .int .i64 0].toArray 46) = W3 from hW3, hob] at HO3
  try rw [hob]
  clear hW3 HB2 HU2
  refine (second_code _).mono ?_
  rintro e W4 ⟨rfl, h4⟩
  obtain ⟨sb, hsb⟩ : ∃ b, W3.heap.size = b := ⟨_, rfl⟩
  rw [hsb]
  have HS4 := Lib.hid (show Blk W4 sb ([e0].flatMap Ev.cells ++ (secL.tail.flatMap Ev.cells)) 27 by rw [h4, ← hsb]; exact Blk.new W3 _ _)
  have u4 : Upd [] W3 W4 := by rw [h4]; exact (Upd.refl _ _).alloc _
  have HO4 := Lib.hid (HO3.out.upd u4 (by simp))
  have HB4 := Lib.hid (HB3.out.upd u4 (by simp))
  have HU4 := Lib.hid (HU3.out.trans u4)
  clear h4 hsb u4 HO3 HB3 HU3
  have HTX : Calls Tryd.prog 10 #[.slice (some ⟨sb, 0, none⟩) 1 6] W4 _ := text_code W4 (some ⟨sb, 0, none⟩) 6 [e0] (hist_of_blk HS4.out) (by decide) (fun x hx => sec_wide x (by simp at hx; subst hx; simp [secL])) (HP.out.upd HU4.out).tab
  rw [ek2] at HTX
  go_wp2_with fail
  refine HTX.mono ?_
  rintro e W5 ⟨rfl, u5⟩
  have HO5 := Lib.hid (HO4.out.upd u5 (by simp))
  have HB5 := Lib.hid (HB4.out.upd u5 (by simp))
  have HU5 := Lib.hid (HU4.out.trans u5)
  clear u5 HO4 HB4 HU4 HS4 HTX
  have HP5 := parse_code ⟨#[48, 32, 98, 101, 103, 105, 110, 32, 48, 10]⟩ (by decide) W5 (HP.out.upd HU5.out)
  rw [show readH (⟨#[48, 32, 98, 101, 103, 105, 110, 32, 48, 10]⟩ : ByteArray).data.toList.length (⟨#[48, 32, 98, 101, 103, 105, 110, 32, 48, 10]⟩ : ByteArray).data.toList = ([e0], true) from ek3] at HP5
  go_wp2_with fail
  refine HP5.mono ?_
  rintro e W6 ⟨u6, ⟨_, v6, rfl, ho6⟩ | ⟨h6, _⟩⟩
  case inr => cases h6
  have HO6 := Lib.hid (HO5.out.upd u6 (by simp))
  have HB6 := Lib.hid (HB5.out.upd u6 (by simp))
  have HU6 := Lib.hid (HU5.out.trans u6)
  rw [show ([e0] : List Ev).length = 1 from rfl] at ho6 ⊢
  obtain ⟨g6, c6, rfl⟩ := own_some ho6 (by decide)
  clear u6 ho6 HO5 HB5 HU5 HP5
  have HP6 := parse_code ⟨#[48, 32, 98, 101, 103, 105, 110, 32, 48, 48, 10]⟩ (by decide) W6 (HP.out.upd HU6.out)
  rw [show readH (⟨#[48, 32, 98, 101, 103, 105, 110, 32, 48, 48, 10]⟩ : ByteArray).data.toList.length (⟨#[48, 32, 98, 101, 103, 105, 110, 32, 48, 48, 10]⟩ : ByteArray).data.toList = ([], false) from ek4] at HP6
  go_wp2_with fail
  refine HP6.mono ?_
  rintro e W7 ⟨u7, ⟨h7, _⟩ | ⟨_, rfl⟩⟩
  case inl => cases h7
  have HO7 := Lib.hid (HO6.out.upd u7 (by simp))
  have HB7 := Lib.hid (HB6.out.upd u7 (by simp))
  have HU7 := Lib.hid (HU6.out.trans u7)
  rw [show ([] : List Ev).length = 0 from rfl]
  clear u7 HO6 HB6 HU6 HP6
  have o0 := HO7.out.cell 0 rfl
  have o1 := HO7.out.cell 1 rfl
  have t0 := HB7.out.cell 0 rfl
  have t1 := HB7.out.cell 1 rfl
  have t2 := HB7.out.cell 2 rfl
  have t3 := HB7.out.cell 3 rfl
  have t4 := HB7.out.cell 4 rfl
  have t5 := HB7.out.cell 5 rfl
  have t6 := HB7.out.cell 6 rfl
  have t7 := HB7.out.cell 7 rfl
  have t8 := HB7.out.cell 8 rfl
  have t9 := HB7.out.cell 9 rfl
  have t10 := HB7.out.cell 10 rfl
  have t11 := HB7.out.cell 11 rfl
  have t12 := HB7.out.cell 12 rfl
  have t13 := HB7.out.cell 13 rfl
  go_wp2_with fail
  refine (num_code 0 _).mono ?_
  rintro e W8 ⟨rfl, rfl⟩
  go_wp2_with fail
  refine (num_code 0 _).mono ?_
  rintro e W8 ⟨rfl, rfl⟩
  go_wp2_with fail
  refine (num_code 234 _).mono ?_
  rintro e W8 ⟨rfl, rfl⟩
  go_wp2_with fail
  exact ⟨rfl, HU7.out⟩
end Go.Proofs.YtfldpejifpmapaaDoor
set_option linter.unusedSimpArgs false
set_option linter.unusedVariables false
set_option maxRecDepth 100000
namespace Go.Proofs.YtfldpejifpmapaaDoor
open Go.RowKit
theorem dec_small {u : Nat} (h : u < 10) : Lib.decDigits u = [UInt8.ofNat (48 + u)] := Lib.decDigits_one h
theorem dec_big {u : Nat} (h : ¬ u < 10) : Lib.decDigits u = Lib.decDigits (u / 10) ++ [UInt8.ofNat (48 + u % 10)] := by rw [Lib.decDigits, dif_neg h]

theorem isDig_ofNat {d : Nat} (h : d < 10) : isDig (UInt8.ofNat (48 + d)) = true := by
  unfold isDig
  have : (UInt8.ofNat (48 + d)).toNat = 48 + d := by simp; omega
  rw [this]
  exact decide_eq_true (by omega)
theorem toNat_dig {d : Nat} (h : d < 10) : (UInt8.ofNat (48 + d)).toNat = 48 + d := by simp; omega

theorem dec_all (u : Nat) : (Lib.decDigits u).all isDig = true := by
  induction u using Nat.strongRecOn with
  | ind u ih =>
    by_cases h : u < 10
    · rw [dec_small h, List.all_cons, isDig_ofNat h]; rfl
    · rw [dec_big h, List.all_append, ih (u / 10) (by omega)]
      rw [List.all_cons, isDig_ofNat (Nat.mod_lt u (by omega))]; rfl
theorem dec_ne (u : Nat) : Lib.decDigits u ≠ [] := by
  by_cases h : u < 10
  · rw [dec_small h]; simp
  · rw [dec_big h]; simp
theorem parseM_snoc (M : Nat) : ∀ (l : List UInt8) (acc : Nat) (c : UInt8) (u : Nat), Lib.parseUintM M acc (l ++ [c]) = .ok u ↔ ∃ v, Lib.parseUintM M acc l = .ok v ∧ Lib.parseUintM M v [c] = .ok u
  | [], acc, c, u => by
    constructor
    · intro h; exact ⟨acc, rfl, h⟩
    · rintro ⟨v, h1, h2⟩; cases h1; exact h2
  | x :: l, acc, c, u => by
    rw [List.cons_append, Lib.parseUintM, Lib.parseUintM]
    split
    · split
      · simp
      · split
        · simp
        · exact parseM_snoc M l _ c u
    · simp

theorem parseM_one (v : Nat) (c : UInt8) (u : Nat) : Lib.parseUintM 18446744073709551615 v [c] = .ok u ↔ isDig c = true ∧ u = v * 10 + (c.toNat - 48) ∧ u ≤ 18446744073709551615 := by
  rw [Lib.parseUintM]
  unfold isDig
  split
  · rename_i hd
    rw [decide_eq_true hd]
    split
    · rename_i h1
      constructor
      · intro h; cases h
      · rintro ⟨_, rfl, h⟩; omega
    · split
      · rename_i h1 h2
        constructor
        · intro h; cases h
        · rintro ⟨_, rfl, h⟩; omega
      · rename_i h1 h2
        rw [Lib.parseUintM]
        constructor
        · intro h; cases h; exact ⟨rfl, rfl, by omega⟩
        · rintro ⟨_, rfl, h⟩; rfl
  · rename_i hd
    rw [decide_eq_false hd]
    constructor
    · intro h; cases h
    · rintro ⟨h, _⟩; cases h

theorem parseM_dec (u : Nat) (h : u ≤ 18446744073709551615) : Lib.parseUintM 18446744073709551615 0 (Lib.decDigits u) = .ok u := by
  induction u using Nat.strongRecOn with
  | ind u ih =>
    by_cases h1 : u < 10
    · rw [dec_small h1, parseM_one]
      exact ⟨isDig_ofNat h1, by rw [toNat_dig h1]; omega, h⟩
    · rw [dec_big h1, parseM_snoc]
      refine ⟨u / 10, ih (u / 10) (by omega) (by omega), ?_⟩
      rw [parseM_one]
      have hm := Nat.mod_lt u (show 10 > 0 by omega)
      exact ⟨isDig_ofNat hm, by rw [toNat_dig hm]; omega, h⟩

theorem parse_dec (u : Nat) (h : u < 18446744073709551616) : Lib.parseUintB 64 (Lib.decDigits u) = .ok u := by
  unfold Lib.parseUintB
  rw [if_neg (dec_ne u)]
  rw [show 2 ^ 64 - 1 = 18446744073709551615 from rfl, parseM_dec u (by omega)]
theorem take_all {p : UInt8 → Bool} : ∀ (a l : List UInt8), a.all p = true → (a ++ l).takeWhile p = a ++ l.takeWhile p ∧ (a ++ l).dropWhile p = l.dropWhile p
  | [], l, _ => ⟨rfl, rfl⟩
  | x :: a, l, h => by
    simp only [List.all_cons, Bool.and_eq_true] at h
    obtain ⟨h1, h2⟩ := take_all a l h.2
    rw [List.cons_append, List.takeWhile_cons, List.dropWhile_cons, h.1, if_pos rfl, if_pos rfl, h1, h2]
    exact ⟨rfl, rfl⟩
/-- a number, written ahead of what is no digit, is read -/
theorem number_dec (u : Nat) (h : u < 18446744073709551616) (l : List UInt8) (hl : l.takeWhile isDig = []) (hd : l.dropWhile isDig = l) : numberL (Lib.decDigits u ++ l) = (u, l, true) := by
  obtain ⟨h1, h2⟩ := take_all (Lib.decDigits u) l (dec_all u)
  unfold numberL
  rw [h1, h2, hl, hd, List.append_nil, parse_dec u h]
  rfl
theorem number_sp (u : Nat) (h : u < 18446744073709551616) (l : List UInt8) : numberL (Lib.decDigits u ++ 32 :: l) = (u, 32 :: l, true) := number_dec u h (32 :: l) rfl rfl
theorem number_end (u : Nat) (h : u < 18446744073709551616) : numberL (Lib.decDigits u) = (u, [], true) := by
  have := number_dec u h [] rfl rfl
  rwa [List.append_nil] at this
theorem cut_at (a r : List UInt8) (c : UInt8) (h : c ∉ a) : Lib.cut (a ++ c :: r) [c] = (a, r, true) := by
  have hi : Lib.index (a ++ c :: r) [c] = a.length := by
    refine Lib.index_first (by simp) ?_ fun j hj => ?_
    · unfold Lib.occAt
      rw [List.drop_left' rfl]
      simp [List.isPrefixOf]
    · unfold Lib.occAt
      rw [List.drop_append_of_le_length (by omega), List.drop_eq_getElem_cons hj]
      simp only [List.cons_append, List.isPrefixOf, Bool.and_true, beq_eq_false_iff_ne]
      exact fun e => h (by rw [e]; exact List.getElem_mem hj)
  unfold Lib.cut
  rw [hi, if_pos (by omega), Int.toNat_natCast, List.take_left' rfl]
  simp
theorem cut_no (a : List UInt8) (c : UInt8) (h : c ∉ a) : Lib.cut a [c] = (a, [], false) := by
  have hi : Lib.index a [c] = -1 := by
    refine Lib.index_none fun j hj => ?_
    unfold Lib.occAt
    rcases Nat.lt_or_ge j a.length with k | k
    · rw [List.drop_eq_getElem_cons k]
      simp only [List.isPrefixOf, Bool.and_true, beq_eq_false_iff_ne]
      exact fun e => h (by rw [e]; exact List.getElem_mem k)
    · rw [List.drop_eq_nil_of_le k]; rfl
  unfold Lib.cut
  rw [hi, if_neg (by decide)]
theorem trim_sp (l : List UInt8) : Lib.trimPrefix (32 :: l) [32] = l := by simp [Lib.trimPrefix, Lib.hasPrefix, List.isPrefixOf]
theorem trim_nil : Lib.trimPrefix [] [32] = [] := rfl
theorem words_one (n u : Nat) (h : u < 18446744073709551616) : wordsF (n + 1) (Lib.decDigits u) = some [u] := by
  rw [wordsF, if_neg (dec_ne u), number_end u h, if_pos rfl]
  dsimp only
  rw [trim_nil, wordsF_nil]
  rfl
theorem words_two (n u v : Nat) (h : u < 18446744073709551616) (k : v < 18446744073709551616) : wordsF (n + 2) (Lib.decDigits u ++ 32 :: Lib.decDigits v) = some [u, v] := by
  rw [wordsF, if_neg (by intro e; exact dec_ne u (List.append_eq_nil_iff.1 e).1), number_sp u h, if_pos rfl]
  dsimp only
  rw [trim_sp, words_one n v k]
  rfl
theorem names_sp : ∀ k, k < 13 → (32 : UInt8) ∉ nameBsE.getD k [] := by decide
theorem own_sp : (32 : UInt8) ∉ ([111, 119, 110] : List UInt8) := by decide
theorem names_kind : ∀ k, k < 13 → k ≠ 0 → nameBsE.getD k [] ≠ [111, 119, 110] := by decide
theorem kind_1 : kindL (nameBsE.getD 1 []) = 1 := by kernel_rfl
theorem kind_2 : kindL (nameBsE.getD 2 []) = 2 := by kernel_rfl
theorem kind_3 : kindL (nameBsE.getD 3 []) = 3 := by kernel_rfl
theorem kind_4 : kindL (nameBsE.getD 4 []) = 4 := by kernel_rfl
theorem kind_5 : kindL (nameBsE.getD 5 []) = 5 := by kernel_rfl
theorem kind_6 : kindL (nameBsE.getD 6 []) = 6 := by kernel_rfl
theorem kind_7 : kindL (nameBsE.getD 7 []) = 7 := by kernel_rfl
theorem kind_8 : kindL (nameBsE.getD 8 []) = 8 := by kernel_rfl
theorem kind_9 : kindL (nameBsE.getD 9 []) = 9 := by kernel_rfl
theorem kind_10 : kindL (nameBsE.getD 10 []) = 10 := by kernel_rfl
theorem kind_11 : kindL (nameBsE.getD 11 []) = 11 := by kernel_rfl
theorem kind_12 : kindL (nameBsE.getD 12 []) = 12 := by kernel_rfl
theorem kind_own : kindL [114, 101, 97, 100] = 2 := by kernel_rfl
theorem kind_name (k : Nat) (h1 : 1 ≤ k) (h2 : k ≤ 12) : kindL (nameBsE.getD k []) = (k : Int) := by
  have hc : k = 1 ∨ k = 2 ∨ k = 3 ∨ k = 4 ∨ k = 5 ∨ k = 6 ∨ k = 7 ∨ k = 8 ∨ k = 9 ∨ k = 10 ∨ k = 11 ∨ k = 12 := by omega
  rcases hc with rfl | rfl | rfl | rfl | rfl | rfl | rfl | rfl | rfl | rfl | rfl | rfl
  · exact kind_1
  · exact kind_2
  · exact kind_3
  · exact kind_4
  · exact kind_5
  · exact kind_6
  · exact kind_7
  · exact kind_8
  · exact kind_9
  · exact kind_10
  · exact kind_11
  · exact kind_12
/-- what stands behind the name, and its words -/
theorem tail_cut (nm : List UInt8) (e : Ev) (hn : (32 : UInt8) ∉ nm) : ∃ rs fd, Lib.cut (nm ++ tailE e) [32] = (nm, rs, fd) ∧ ((pairK e.kd = true ∧ rs = Lib.decDigits e.ad.toNat ++ 32 :: Lib.decDigits e.wd.toNat) ∨ (pairK e.kd = false ∧ singK e.kd = true ∧ rs = Lib.decDigits e.wd.toNat) ∨ (pairK e.kd = false ∧ singK e.kd = false ∧ e.kd = 9 ∧ rs = Lib.decDigits e.er.toNat) ∨ (pairK e.kd = false ∧ singK e.kd = false ∧ e.kd ≠ 9 ∧ rs = [])) := by
  unfold tailE
  cases hp : pairK e.kd with
  | true => exact ⟨_, _, by rw [if_pos rfl, List.cons_append]; exact cut_at _ _ _ hn, .inl ⟨rfl, rfl⟩⟩
  | false =>
    rw [if_neg (by decide)]
    cases hs : singK e.kd with
    | true => exact ⟨_, _, by rw [if_pos rfl]; exact cut_at _ _ _ hn, .inr (.inl ⟨rfl, rfl, rfl⟩)⟩
    | false =>
      rw [if_neg (by decide)]
      by_cases h9 : e.kd = 9
      · exact ⟨_, _, by rw [if_pos h9]; exact cut_at _ _ _ hn, .inr (.inr (.inl ⟨rfl, rfl, h9, rfl⟩))⟩
      · exact ⟨_, _, by rw [if_neg h9, List.append_nil]; exact cut_no _ _ hn, .inr (.inr (.inr ⟨rfl, rfl, h9, rfl⟩))⟩
theorem ev_eq {x e : Ev} (h1 : x.th = e.th) (h2 : x.kd = e.kd) (h3 : x.ad = e.ad) (h4 : x.wd = e.wd) (h5 : x.own = e.own) (h6 : x.er = e.er) : x = e := by
  cases x; cases e; simp_all
/-- what is written is read -/
theorem line_back (e : Ev) (hf : formE e = true) (hw : e.wide) : eventL (lineE e) = some e := by
  obtain ⟨f1, f2, f3, f4, f5, f6, f7⟩ := formE_c hf
  obtain ⟨w1, w2⟩ := hw
  have hth : e.th.toNat < 18446744073709551616 := by omega
  have hnum : numberL (lineE e) = (e.th.toNat, 32 :: (nameE e ++ tailE e), true) := by
    unfold lineE
    rw [List.append_assoc, List.cons_append]
    exact number_sp _ hth _
  have hns : (32 : UInt8) ∉ nameE e := by
    unfold nameE
    split
    · exact own_sp
    · exact names_sp _ (by omega)
  obtain ⟨rs, fd, hcut, hrs⟩ := tail_cut (nameE e) e hns
  unfold eventL
  rw [hnum]
  dsimp only
  rw [trim_sp, hcut, if_pos ⟨rfl, rfl, by omega⟩]
  dsimp only
  have hkind : decide (nameE e = [111, 119, 110]) = e.own ∧ kindL (if nameE e = [111, 119, 110] then [114, 101, 97, 100] else nameE e) = e.kd := by
    unfold nameE
    cases ho : e.own with
    | true =>
      rw [if_pos rfl, if_pos rfl]
      refine ⟨by decide, ?_⟩
      rw [kind_own]
      by_cases h2 : e.kd = 2
      · exact h2.symm
      · rw [f5 h2] at ho; cases ho
    | false =>
      rw [if_neg (by decide)]
      have hne := names_kind e.kd.toNat (by omega) (by omega)
      rw [if_neg hne]
      exact ⟨decide_eq_false hne, by rw [kind_name _ (by omega) (by omega)]; omega⟩
  rw [hkind.1, hkind.2]
  have hN : ∀ u, u < 18446744073709551616 → wordsF (Lib.decDigits u).length (Lib.decDigits u) = some [u] := fun u hu => by
    have : 0 < (Lib.decDigits u).length := List.length_pos_iff.2 (dec_ne u)
    obtain ⟨n, hn⟩ : ∃ n, (Lib.decDigits u).length = n + 1 := ⟨(Lib.decDigits u).length - 1, by omega⟩
    rw [hn, words_one n u hu]
  have hthc : ((e.th.toNat : Nat) : Int) = e.th := by omega
  rcases hrs with ⟨hp, rfl⟩ | ⟨hp, hs, rfl⟩ | ⟨hp, hs, h9, rfl⟩ | ⟨hp, hs, h9, rfl⟩
  · have hlen : ∃ n, (Lib.decDigits e.ad.toNat ++ 32 :: Lib.decDigits e.wd.toNat).length = n + 2 := by
      have h0 : 0 < (Lib.decDigits e.ad.toNat).length := List.length_pos_iff.2 (dec_ne _)
      exact ⟨(Lib.decDigits e.ad.toNat ++ 32 :: Lib.decDigits e.wd.toNat).length - 2, by rw [List.length_append, List.length_cons]; omega⟩
    obtain ⟨n, hn⟩ := hlen
    rw [hn, words_two n _ _ (by omega) (by omega)]
    have h9 : e.kd ≠ 9 := by intro q; rw [q] at hp; cases hp
    rw [if_neg h9] at f7
    exact congrArg some (ev_eq hthc rfl ((if_pos hp).trans (Int.toNat_of_nonneg w1.1)) ((if_pos hp).trans (Int.toNat_of_nonneg w2.1)) rfl ((if_neg h9).trans f7.symm))
  · have hE := hN e.wd.toNat (by omega)
    rw [hE]
    have h9 : e.kd ≠ 9 := by intro q; rw [q] at hs; cases hs
    rw [if_neg h9] at f7
    exact congrArg some (ev_eq hthc rfl ((if_neg (by rw [hp]; decide)).trans (f3 hp).symm) ((if_neg (by rw [hp]; decide)).trans ((if_pos hs).trans (Int.toNat_of_nonneg w2.1))) rfl ((if_neg h9).trans f7.symm))
  · rw [if_pos h9] at f7
    rw [hN _ (by omega)]
    have h3 : IntKind.i64.wrap ((e.er.toNat : Nat) : Int) = e.er := by rw [Int.toNat_of_nonneg (by omega), IntKind.wrap_i64]; omega
    exact congrArg some (ev_eq hthc rfl ((if_neg (by rw [hp]; decide)).trans (f3 hp).symm) ((if_neg (by rw [hp]; decide)).trans ((if_neg (by rw [hs]; decide)).trans (f4 hp hs).symm)) rfl ((if_pos h9).trans h3))
  · rw [show wordsF ([] : List UInt8).length [] = some [] from rfl]
    rw [if_neg h9] at f7
    exact congrArg some (ev_eq hthc rfl ((if_neg (by rw [hp]; decide)).trans (f3 hp).symm) ((if_neg (by rw [hp]; decide)).trans ((if_neg (by rw [hs]; decide)).trans (f4 hp hs).symm)) rfl ((if_neg h9).trans f7.symm))
theorem dec_no (u : Nat) : (10 : UInt8) ∉ Lib.decDigits u := fun h => by
  have := List.all_eq_true.1 (dec_all u) 10 h
  revert this
  decide
theorem names_no : ∀ k, k < 13 → (10 : UInt8) ∉ nameBsE.getD k [] := by decide
theorem line_no10 (e : Ev) (hf : formE e = true) : (10 : UInt8) ∉ lineE e := by
  obtain ⟨f1, f2, _⟩ := formE_c hf
  have h1 : (10 : UInt8) ∉ nameE e := by
    unfold nameE
    split
    · decide
    · exact names_no _ (by omega)
  have h2 : (10 : UInt8) ∉ tailE e := by
    unfold tailE
    split
    · simp [dec_no]
    · split
      · simp [dec_no]
      · split
        · simp [dec_no]
        · simp
  unfold lineE
  simp [dec_no, h1, h2]
theorem text_back : ∀ (l : List Ev) (n : Nat), l.all formE = true → wideL l → (textL l).length ≤ n → readH n (textL l) = (l, true)
  | [], n, _, _, _ => readH_nil n
  | e :: l, n, hf, hw, hn => by
    simp only [List.all_cons, Bool.and_eq_true] at hf
    have ht : textL (e :: l) = lineE e ++ 10 :: textL l := by unfold textL; simp
    rw [ht] at hn ⊢
    rw [List.length_append, List.length_cons] at hn
    obtain ⟨m, rfl⟩ : ∃ m, n = m + 1 := ⟨n - 1, by omega⟩
    have ih := text_back l m hf.2 (fun x hx => hw x (by simp [hx])) (by omega)
    rw [readH, if_neg (by simp), cut_at _ _ _ (line_no10 e hf.1)]
    have hb := line_back e hf.1 (hw e (by simp))
    have hlo : lineO e = (lineE e, 0) := by unfold lineO; rw [if_pos hf.1]
    have hk : lineOk (eventL (lineE e)) (lineE e) = true := by rw [hb]; unfold lineOk evO; rw [hlo]; simp
    rw [if_pos ⟨rfl, hk⟩]
    dsimp only
    rw [hb, ih]
    rfl
end Go.Proofs.YtfldpejifpmapaaDoor
set_option linter.unusedSimpArgs false
set_option linter.unusedVariables false
set_option maxRecDepth 100000
namespace Go.Proofs.YtfldpejifpmapaaDoor
open Go.RowKit
open Go.Maps
/-- an own row of events reads as these -/
theorem own_hist {w : World} {base : Nat} {v : Value} {l : List Ev} (h : w.ownsRow base 27 6 v l.length (l.flatMap Ev.cells)) : ∃ p c, v = .slice p l.length c ∧ HistAt w p l := by
  obtain ⟨p, c, rfl⟩ := own_form h
  refine ⟨p, c, rfl, ?_⟩
  cases l with
  | nil => intro i x hx; simp at hx
  | cons a l =>
    obtain ⟨g, c', e⟩ := own_some h (by simp)
    cases e
    obtain ⟨_, _, sp, hB⟩ := own_openN h
    exact hist_of_blk hB
set_option maxHeartbeats 4000000 in
theorem rsame_code (w : World) (p q : Option Addr) (c d : Nat) (l : List Ev) (hp : HistAt w p l) (hq : HistAt w q l) (hl : l.length ≤ 1000000000000) : Calls Tryd.prog 19 #[.slice p l.length c, .slice q l.length d] w fun e w' => e = .returned (.bool true) ∧ Upd [] w w' := by
  have HPP := Lib.hid hp
  have HQQ := Lib.hid hq
  clear hp hq
  refine calls_all fun K hK => ?_
  go_enter Tryd.func19, Tryd.ntmps19
  go_wp2_with fail
  go_loopw [5] (fun v5 wr => ∃ k : Nat, k ≤ l.length ∧ v5 = .int .i64 k ∧ Upd [] w wr) (fun v5 _ => l.length - (intOf v5).toNat)
  case atStart => exact ⟨0, by omega, rfl, Upd.refl _ _⟩
  case round =>
    obtain ⟨k, hk, rfl, hu⟩ := hrel
    have HU := Lib.hid hu
    clear hu
    by_cases hlt : k < l.length
    · have hlt' : (k : Int) < (l.length : Int) := by omega
      have hk0 : 0 ≤ (k : Int) := by omega
      obtain ⟨x, hx⟩ : ∃ x, l[k]? = some x := ⟨_, List.getElem?_eq_getElem hlt⟩
      obtain ⟨b, o, hpo, h0, h1, h2, h3, h4, h5⟩ := (HPP.out.upd0 HU.out) k x hx
      obtain ⟨b', o', hpo', g0, g1, g2, g3, g4, g5⟩ := (HQQ.out.upd0 HU.out) k x hx
      subst hpo
      subst hpo'
      clear hx
      obtain ⟨th, kd, ad, wd, own, er⟩ := x
      dsimp only at h0 h1 h2 h3 h4 h5 g0 g1 g2 g3 g4 g5
      go_wp2_with fail
      go_quiet (fail)
      go_wp2_with fail
      go_roundw
      case rel => exact ⟨k + 1, by omega, by go_num, HU.out.trans ((Upd.refl _ _).drewN _)⟩
      case measure => simp [intOf]; omega
    · obtain rfl : k = l.length := by omega
      go_wp2_with fail
      exact ⟨rfl, HU.out⟩
set_option maxHeartbeats 4000000 in
theorem equal_code (w : World) (p q : Option Addr) (c d : Nat) (l : List Ev) (hp : HistAt w p l) (hq : HistAt w q l) (hl : l.length ≤ 1000000000000) : Calls Tryd.prog 53 #[.slice p l.length c, .slice q l.length d] w fun e w' => e = .returned (.bool true) ∧ Upd [] w w' := by
  have HPP := Lib.hid hp
  have HQQ := Lib.hid hq
  clear hp hq
  refine calls_all fun K hK => ?_
  go_enter Tryd.func53, Tryd.ntmps53
  go_wp2_with fail
  go_loopw [13] (fun v13 wr => ∃ k : Nat, k ≤ l.length ∧ v13 = .int .i64 k ∧ Upd [] w wr) (fun v13 _ => l.length - (intOf v13).toNat)
  case atStart => exact ⟨0, by omega, rfl, Upd.refl _ _⟩
  case round =>
    obtain ⟨k, hk, rfl, hu⟩ := hrel
    have HU := Lib.hid hu
    clear hu
    by_cases hlt : k < l.length
    · have hlt' : (k : Int) < (l.length : Int) := by omega
      have hk0 : 0 ≤ (k : Int) := by omega
      obtain ⟨x, hx⟩ : ∃ x, l[k]? = some x := ⟨_, List.getElem?_eq_getElem hlt⟩
      obtain ⟨b, o, hpo, h0, h1, h2, h3, h4, h5⟩ := (HPP.out.upd0 HU.out) k x hx
      obtain ⟨b', o', hpo', g0, g1, g2, g3, g4, g5⟩ := (HQQ.out.upd0 HU.out) k x hx
      subst hpo
      subst hpo'
      clear hx
      obtain ⟨th, kd, ad, wd, own, er⟩ := x
      dsimp only at h0 h1 h2 h3 h4 h5 g0 g1 g2 g3 g4 g5
      go_wp2_with fail
      go_quiet (fail)
      go_wp2_with fail
      go_roundw
      case rel => exact ⟨k + 1, by omega, by go_num, HU.out.trans ((Upd.refl _ _).drewN _)⟩
      case measure => simp [intOf]; omega
    · obtain rfl : k = l.length := by omega
      go_wp2_with fail
      exact ⟨rfl, HU.out⟩
theorem esame_code (w : World) (p q : Option Addr) (c d : Nat) (l : List Ev) (hp : HistAt w p l) (hq : HistAt w q l) (hl : l.length ≤ 1000000000000) : Calls Tryd.prog 23 #[.slice p l.length c, .slice q l.length d] w fun e w' => e = .returned (.bool true) ∧ Upd [] w w' := by
  refine calls_all fun K hK => ?_
  go_enter Tryd.func23, Tryd.ntmps23
  go_wp2_with fail
  refine (equal_code w p q c d l hp hq hl).mono ?_
  rintro e w' ⟨rfl, u⟩
  go_wp2_with fail
  exact ⟨rfl, u⟩
end Go.Proofs.YtfldpejifpmapaaDoor
set_option linter.unusedSimpArgs false
set_option linter.unusedVariables false
set_option maxRecDepth 100000
namespace Go.Proofs.YtfldpejifpmapaaDoor
open Go.RowKit
open Go.Maps
set_option maxHeartbeats 4000000 in
theorem eventsBack_walk (w : World) (po : Option Addr) (cap : Nat) (l : List Ev) (hH : HistAt w po l) (hl : l.length ≤ 2000000) (hw : wideL l) (hP : PreE w) : Calls Tryd.prog 8 #[.slice po l.length cap] w fun e w' => e = .returned (.bool true) ∧ Upd [] w w' := by
  have HP := Lib.hid hP
  have HW := Lib.hid hw
  have HH := Lib.hid hH
  have HTB := Lib.hid (text_back l)
  have HTL := Lib.hid (textL_len l hw)
  have HTX := Lib.hid (fun (W : World) (u : Upd [] w W) => text_code W po cap l (hH.upd0 u) (by omega) hw (hP.upd u).tab)
  clear hP hw hH
  refine calls_all fun K hK => ?_
  go_enter Tryd.func8, Tryd.ntmps8
  go_wp2_with fail
  refine (known_code _ HP.out).mono ?_
  rintro e W1 ⟨rfl, u1⟩
  have HU1 := Lib.hid u1
  clear u1
  go_wp2_with fail
  refine (HTX.out W1 HU1.out).mono ?_
  rintro e W2 ⟨rfl, u2⟩
  have HU2 := Lib.hid (HU1.out.trans u2)
  clear u2 HU1 HTX
  cases hf : l.all formE with
  | false =>
    have hO : textO l = ([], 201) := by unfold textO; rw [if_neg (by rw [hf]; decide)]
    rw [hO]
    dsimp only
    go_wp2_with fail
    refine (num_code 201 _).mono ?_
    rintro e W3 ⟨rfl, rfl⟩
    go_wp2_with fail
    refine (num_code 201 _).mono ?_
    rintro e W3 ⟨rfl, rfl⟩
    go_wp2_with fail
    exact ⟨rfl, HU2.out⟩
  | true =>
    have hO : textO l = (textL l, 0) := by unfold textO; rw [if_pos hf]
    rw [hO]
    have HN := Lib.hid (HTL.out hf)
    have hR := HTB.out (textL l).length hf HW.out (Nat.le_refl _)
    generalize textL l = s at hR HN ⊢
    have HPA := Lib.hid (fun (W : World) (u : Upd [] w W) => parse_code ⟨s.toArray⟩ (by have := HN.out; rw [Lib.size_eq]; simp only [List.toList_toArray]; omega) W (HP.out.upd u))
    simp only [List.toList_toArray] at HPA
    rw [hR] at HPA
    clear hR hO hf HTL HTB HN
    dsimp only
    go_wp2_with fail
    refine (num_code 0 _).mono ?_
    rintro e W3 ⟨rfl, rfl⟩
    go_wp2_with fail
    refine (HPA.out _ HU2.out).mono ?_
    rintro e W4 ⟨u4, ⟨_, v, rfl, ho⟩ | ⟨h, _⟩⟩
    case inr => cases h
    have HU4 := Lib.hid (HU2.out.trans u4)
    dsimp only at ho ⊢
    obtain ⟨p, c, rfl, hh⟩ := own_hist ho
    have HL := Lib.hid hh
    clear ho hh u4 HPA HU2
    go_wp2_with fail
    refine (num_code 0 _).mono ?_
    rintro e W5 ⟨rfl, rfl⟩
    go_wp2_with fail
    refine (rsame_code W4 p po c cap l HL.out (HH.out.upd0 HU4.out) (by omega)).mono ?_
    rintro e W6 ⟨rfl, u6⟩
    go_wp2_with fail
    refine (esame_code W6 p po c cap l (HL.out.upd0 u6) ((HH.out.upd0 HU4.out).upd0 u6) (by omega)).mono ?_
    rintro e W7 ⟨rfl, u7⟩
    go_wp2_with fail
    exact ⟨rfl, (HU4.out.trans u6).trans u7⟩
end Go.Proofs.YtfldpejifpmapaaDoor
set_option linter.unusedSimpArgs false
set_option linter.unusedVariables false
set_option maxRecDepth 100000
namespace Go.Proofs.YtfldpejifpmapaaDoor.eventsBack
open Go.ChangeShapes Go.WideShapes Go.ChangeAt Go.RowKit

theorem listed : Lists Rows.eventsBackUptoRow.laid := by
  unfold Lists Rows.eventsBackUptoRow
  exact ⟨by repeat (first | exact List.mem_cons_self | refine List.mem_cons_of_mem _ ?_), by repeat (first | exact List.mem_cons_self | refine List.mem_cons_of_mem _ ?_), by repeat (first | exact List.mem_cons_self | refine List.mem_cons_of_mem _ ?_)⟩

theorem plainH (w : World) : laidMetH Tryd.prog Rows.eventsBackUptoRow.laid w = laidMet Tryd.prog Rows.eventsBackUptoRow.laid w := MakeChecks.laidMetH_plain _ _ _ (by kernel_rfl)

theorem lifted (os : Os) (started : os.Started) (H : Type) (enc : TypeId × Value → H) (F : Stop.Interp) :
    ReturnsInHanded {} Tryd.checked os 8 .any ((Rows.OpenSpec.upto Rows.eventsBackSpec).preRow enc Tryd.prog Tryd.f8 Rows.eventsBackUptoRow.domain false Rows.eventsBackUptoRow.laid) (((Rows.OpenSpec.upto Rows.eventsBackSpec).at F).post enc Tryd.prog Tryd.f8 false true false false) := by
  have hx0 : (DataW.whole enc Tryd.prog ((World.laidAll Tryd.prog os Rows.eventsBackUptoRow.laid).forCall (fun _ _ => 0) ⟨#[], #[.slice none 0 0], []⟩).memory Tryd.f8.params.toList Rows.eventsBackSpec.vars false (#[.slice none 0 0] : Array Value).toList 8).map (fun x => (x.1, x.2.1)) = some ([.nil], []) := by kernel_rfl
  obtain ⟨⟨x1, x2, x3⟩, hx, hx1⟩ := Option.map_eq_some_iff.1 hx0
  simp only [Prod.mk.injEq] at hx1
  obtain ⟨rfl, rfl⟩ := hx1
  refine returnsInHanded_of_row (C := Tryd.checked) (s := (Rows.OpenSpec.upto Rows.eventsBackSpec)) law_own started (by kernel_rfl) Tryd.func8
    (witness_card (enc := enc) (s := (Rows.OpenSpec.upto Rows.eventsBackSpec)) (conds := Rows.eventsBackUptoRow.domain) (laid := Rows.eventsBackUptoRow.laid) #[.slice none 0 0] (World.shaped_of_ZipB (by kernel_rfl) (by kernel_rfl)) (by kernel_rfl)
      (OpenSpec.preRow_of_cond 8 hx (by kernel_rfl) (fun k hk => by cases hk; kernel_rfl) (by kernel_rfl) (by rw [plainH]; exact laidMet_laidAll _ (by kernel_rfl) (by kernel_rfl)))) ?_
  intro W base args ds gs before hval0 hW hcnd hcond hsz0 hL hsh _
  have hL0 : laidMetH Tryd.prog Rows.eventsBackUptoRow.laid W := hL
  rw [plainH] at hL0
  have hPre : PreE W := pre_laid listed hL0 hsh
  have hbulk : Rows.uptoSmall H (ds ++ gs) = true := hcond _ rfl
  have hsz : (DataW.weightsEach Tryd.prog (Tryd.f8.params.toList ++ Rows.eventsBackSpec.plain.varTypes Tryd.prog) (ds ++ gs)).all (· ≤ reachBytes) = true := hsz0
  clear hcond hsz0
  have hval : ∀ (j : Nat) t v, Tryd.f8.params[j]? = some t → args[j]? = some v → Value.okWide Tryd.prog W .any base t v := hval0
  have hW' := hW
  obtain ⟨p, q, hA0, hV, rfl, hfz, hnd⟩ := hW
  have hA : DataW.TrodAll enc Tryd.prog W 0 (fun _ => true) true Tryd.f8.params.toList args.toList ds p := hA0
  rw [Tryd.params8] at hA hval
  obtain ⟨v0, vs0, d0, ds0, p0, q0, hargs, rfl, rfl, h0, r0⟩ := trodAll_cons hA
  obtain ⟨rfl, rfl, rfl⟩ := trodAll_nil r0
  obtain rfl : args = #[v0] := by cases args; simp_all
  obtain ⟨pa0, n0, cap0, V0, rfl, hs0, hc0, hm0, hf0⟩ := open_sl_structs Tryd.underlying22 Tryd.underlying27 (by kernel_rfl) (by kernel_rfl) (by decide) (hval 0 22 v0 rfl rfl) h0
  have hr0 := slice_reach (j := 0) Tryd.underlying22 h0 hsz (by rw [Tryd.params8]; rfl) rfl 48 (by kernel_rfl)
  have k0 := bulk_slice Tryd.underlying22 h0
  have h22 := hbulk
  unfold Rows.uptoSmall at h22
  have h11 := of_decide_eq_true h22
  simp only [List.cons_append, List.nil_append, Rows.uptoBulkAll] at h11
  obtain ⟨L0, rfl, hh0, wd0⟩ := sl_events Tryd.underlying27 hs0 hf0
  refine (eventsBack_walk W pa0 cap0 L0 hh0 (by omega) wd0 hPre).mono fun e W' ⟨he, hu⟩ => ?_
  subst he
  exact ⟨_, rfl, law_post (s := Rows.eventsBackSpec) rfl (by rw [Tryd.params8]; decide +kernel) rfl (by obtain ⟨rfl, _⟩ := trodVars_none hV; rfl) hW' (hu.below (Nat.le_refl _) (by simp))⟩

theorem said : Rows.eventsBackUptoRow.holds Tryd.pinned (Rows.OpenSpec.upto Rows.eventsBackSpec) :=
  OpenClaim.holds_of_cond 8 Tryd.f8 rfl rfl rfl rfl rfl rfl rfl ⟨rfl, rfl, rfl, rfl, rfl⟩ rfl rfl rfl rfl rfl (by kernel_rfl) Tryd.func8 (by kernel_rfl)
    (of_decide_eq_true (by kernel_rfl)) (by unfold Func.isWrapper; first | (rw [if_pos (by decide +kernel)]; kernel_rfl) | (rw [if_neg (by decide +kernel)]; exact ⟨rfl, rfl⟩))
    (fun os started H enc _ F => by rw [OpenClaim.pre_eq_preRow]; exact lifted os started H enc F)

theorem plain (f : FuncId) (fn : Func) (hf : Tryd.pinned.checked.prog.funcNamed "parley/parleylaw13.EventsBack" = some f) (hfn : Tryd.pinned.checked.prog.funcs[f]? = some fn) :
    true = Tryd.pinned.checked.prog.looks [] ∧ ∀ (j : Nat) t, fn.params[j]? = some t → Tryd.pinned.checked.prog.wantsStandIn t = false := by
  obtain rfl : f = 8 := Option.some.inj ((show Tryd.prog.funcNamed "parley/parleylaw13.EventsBack" = some 8 by kernel_rfl).symm.trans hf) |>.symm
  obtain rfl : fn = Tryd.f8 := (Option.some.inj (Tryd.func8.symm.trans hfn)).symm
  refine ⟨by kernel_rfl, fun j t ht => ?_⟩
  have hall : ((Tryd.f8).params.toList.all fun u => !Tryd.prog.wantsStandIn u) = true := by kernel_rfl
  have hm : t ∈ (Tryd.f8).params.toList := by simpa using Array.mem_of_getElem? ht
  exact (show Tryd.prog.wantsStandIn t = false by simpa using List.all_eq_true.1 hall t hm)

theorem proved : Rows.EventsBackUptoCardSaid :=
  Claim7.holds_tied_plain_at .later [] _ _ _ _ said (fun _ h => by cases h) (by kernel_rfl) (fun _ h => by cases h) eventsBackUpto_row_tie rfl ⟨rfl, rfl⟩ (by kernel_rfl) rfl plain (by kernel_rfl)

end Go.Proofs.YtfldpejifpmapaaDoor.eventsBack
