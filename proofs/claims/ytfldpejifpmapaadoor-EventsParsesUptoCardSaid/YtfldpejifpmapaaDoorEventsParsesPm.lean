/- EventsParses (layer 13): any text: the history, or the first line that is none; two answers are the caller's; what is read is written as the text. The conditions: the row's own list of variables; the text is of at most 1048576 letters. -/
import Derived.Test.YtfldpejifpmapaaDoorBase
import Derived.ProofKit
import Derived.OpenShut
import Derived.Deep.Grids
import Derived.Deep.Fields
import Derived.SizedLaws
import Derived.Test.YtfldpejifpmapaaDoorEEv
import Derived.Test.YtfldpejifpmapaaDoorRows
import Derived.LaidLaws
import Derived.Lay
import Derived.Lib.LaidU8
import Derived.Lib.LaidTab
import Derived.MakeChecks
import Derived.Deep.DeepHandedRow
import Derived.Shelf.LaysM
import Derived.HandedShaped
import Derived.Test.YtfldpejifpmapaaDoorEEv2
import Derived.Test.YtfldpejifpmapaaDoorECheck
import Derived.Lib.ItoaNum
import Derived.Test.YtfldpejifpmapaaDoorEffC
import Derived.Deep.Cut
import Derived.Deep.CutRange
import Derived.Test.YtfldpejifpmapaaDoorEPure
import Derived.Test.YtfldpejifpmapaaDoorELine2
import Derived.Deep.CutBlock
import Derived.Test.YtfldpejifpmapaaDoorCards
import Derived.Test.YtfldpejifpmapaaDoorTie
import Derived.SevenTiedAt
import Derived.ChangeMaps5
set_option linter.unusedSimpArgs false
set_option linter.unusedVariables false
set_option maxRecDepth 100000
namespace Go.Proofs.YtfldpejifpmapaaDoor
open Go.ChangeShapes Go.WideShapes Go.ChangeAt Go.RowKit

theorem law_own : ownKnob Tryd.prog.godebug = none := by kernel_rfl
theorem law_laidOut : laidOutB Tryd.prog = true := by kernel_rfl

theorem trodAll_below {H : Type} {enc : TypeId × Value → H} {P : Program} (hl : laidOutB P = true) {W W' : World} (hB : Below W.heap.size W W') :
    ∀ (ts : List TypeId) (vs : List Value) (ds : List (DataW H)) (ps : List MemPlace), (∀ t ∈ ts, P.readableRec t = true ∧ t < P.types.size) →
      DataW.TrodAll enc P W 0 (fun _ => true) true ts vs ds ps → (∀ x ∈ ps, x.block < W.heap.size) →
      DataW.TrodAll enc P W' 0 (fun b => decide (b < W.heap.size)) true ts vs ds ps := by
  intro ts
  induction ts with
  | nil =>
    intro vs ds ps _ h _
    obtain ⟨rfl, rfl, rfl⟩ := trodAll_nil h
    exact trodAll_mk0
  | cons t ts ih =>
    intro vs ds ps ht h hlt
    obtain ⟨v, vs', d, ds', p, q, rfl, rfl, rfl, hd, hr⟩ := trodAll_cons h
    exact trodAll_cons_mk (Below.trod hl (ht t (by simp)).1 (ht t (by simp)).2 hd hB (fun x hx => hlt x (by simp [hx]))) (ih vs' ds' q (fun t' h' => ht t' (by simp [h'])) hr (fun x hx => hlt x (by simp [hx])))

theorem law_post {H : Type} {enc : TypeId × Value → H} {f : Func} {s : ChangeSpec} {W W' : World} {args : Array Value} {ds gs : List (DataW H)} {before : List MemPlace}
    (hres : f.resultTypes = #[4]) (hpar : ∀ t ∈ f.params.toList, Tryd.prog.readableRec t = true ∧ t < Tryd.prog.types.size) (hsv : s.vars = [])
    (hfn : s.fn H (ds ++ gs) = { results := [.lit (.bool true)], args := ds })
    (hW : DataW.Whole enc Tryd.prog f.params.toList s.vars false W args.toList ds gs before) (hB : Below W.heap.size W W') :
    s.post enc Tryd.prog f false true false false W args (.bool true) W' := by
  have hW0 := hW
  obtain ⟨p, q, hA, hV, hpq, hfz, hnd⟩ := hW
  have hlt : ∀ x ∈ p, x.block < W.heap.size := fun x hx => by simpa using hW0.lt x (by rw [hpq]; simp [hx])
  refine ⟨ds, gs, before, [], p, [], hW0, ?_, ?_, ?_, hB.frame _, fun h => by cases h⟩
  · rw [hres, hfn]
    exact trodAll_mk1 (shut_bool Tryd.underlying4 true)
  · rw [hfn]
    exact trodAll_below law_laidOut hB _ _ _ _ hpar hA hlt
  · rw [hsv, hfn]
    rfl

end Go.Proofs.YtfldpejifpmapaaDoor
set_option linter.unusedSimpArgs false
set_option linter.unusedVariables false
set_option maxRecDepth 100000
namespace Go.Proofs.YtfldpejifpmapaaDoor
open Go.ChangeShapes Go.WideShapes Go.ChangeAt Go.RowKit Go.Deep

section
variable {H : Type} {enc : TypeId × Value → H} {P : Program} {w : World} {base : Nat} {held : Bool}

theorem spot_none {a : Addr} {v : Value} (h : w.cell? a = some v) : a.spot = none := by
  unfold World.cell? at h
  split at h
  · split at h
    · cases h
    · rename_i hs; simpa using hs
  · cases h

theorem addr_eta {a : Addr} (h : a.spot = none) : a = ⟨a.block, a.off, none⟩ := by cases a; simp at h; subst h; rfl

/-- a slice of integers that came in -/
theorem open_sl_ints {t e : TypeId} {k : IntKind} {r : Reach} {b0 : Nat} {v : Value} {d : DataW H} {ps : List MemPlace} (ht : P.underlying t = some (.slice e)) (he : P.underlying e = some (.int k)) (hc : P.cellsOf e = 1)
    (hval : Value.okWide P w r b0 t v) (h : DataW.Trod enc P w base (fun _ => true) held t v d ps) :
    ∃ (p : Option Addr) (cap : Nat) (zs : List Int), v = .slice p zs.length cap ∧ SlI w k p zs ∧ (∀ n ∈ zs, (Lit.int k n).wf = true) ∧ zs.length ≤ cap ∧ cap ≤ maxLen ∧ (∀ b o, p = some ⟨b, o, none⟩ → zs ≠ [] → b < w.heap.size) := by
  obtain ⟨p, len, cap, rfl⟩ := okWide_slice ht hval
  obtain ⟨fuel, hf⟩ := h
  rcases open_ints ht he hc hf with ⟨h0, _⟩ | ⟨a, l, c, zs, hcs, _, hlc, hm, hl, _, hcell, hwf⟩
  · simp [Value.cells] at h0
    obtain ⟨rfl, rfl, rfl⟩ := h0
    exact ⟨none, 0, [], rfl, SlI.nil _ _ _, by simp, by simp, by simp [maxLen], by simp⟩
  · simp [Value.cells] at hcs
    obtain ⟨rfl, rfl, rfl⟩ := hcs
    simp only [if_true] at hl
    have hlen : (zs.take len).length = len := by simp; omega
    have hget : ∀ i, i < len → wd (zs.take len) i = zs.getD i 0 := by intro i hi; simp [wd, hi]
    have hsp : 0 < len → a.spot = none := fun hp => by
      have := hcell 0 (by omega)
      rw [show a.add 0 = a from rfl] at this
      exact spot_none this
    refine ⟨some a, cap, zs.take len, by rw [hlen], ⟨fun hne => ?_, fun b o e i hi => ?_⟩, fun n hn => hwf n (List.mem_of_mem_take hn), by omega, hm, fun b o e hne => ?_⟩
    · have : 0 < len := by rcases Nat.eq_zero_or_pos len with h0 | h0; subst h0; simp at hne; exact h0
      exact ⟨a.block, a.off, by rw [← addr_eta (hsp this)]⟩
    · rw [hlen] at hi
      rw [hget i hi]
      have := hcell i (by omega)
      simp at e
      rw [e, addr_add] at this
      exact this
    · have : 0 < len := by rcases Nat.eq_zero_or_pos len with h0 | h0; subst h0; simp at hne; exact h0
      have hc0 := hcell 0 (by omega)
      simp at e
      rw [show a.add 0 = a from rfl, e] at hc0
      exact World.block_lt_of_cell? w _ hc0

/-- the reach of a slice among the arguments -/
theorem slice_reach {t e : TypeId} {ts : List TypeId} {ds : List (DataW H)} {j : Nat} {p : Option Addr} {len cap : Nat} {d : DataW H} {ps : List MemPlace} (ht : P.underlying t = some (.slice e)) {w' : World}
    (h : DataW.Trod enc P w' base (fun _ => true) held t (.slice p len cap) d ps) (hw : (DataW.weightsEach P ts ds).all (· ≤ reachBytes) = true) (hj : ts[j]? = some t) (hd : ds[j]? = some d) (n : Nat) (hn : P.bytesOf e = n) : cap * n ≤ 140737488351232 := by
  subst hn
  obtain ⟨fuel, hf⟩ := h
  rcases open_slice ht hf with ⟨h0, _⟩ | ⟨a, l, c, m, _, D, Pl, hcs, _, hlc, hm, hmm, hx, _⟩
  · simp [Value.cells] at h0
    obtain ⟨rfl, rfl, rfl⟩ := h0
    simp
  · simp [Value.cells] at hcs
    obtain ⟨rfl, rfl, rfl⟩ := hcs
    simp only [if_true] at hmm
    subst hmm
    have hd' := (Prod.mk.inj hx).1
    rw [hd'] at hd
    have := sized_slice hw hj hd ht
    simp only [List.length_map, List.length_range, reachBytes] at this
    rw [show len + (m - len) = m by omega] at this
    omega

/-- v is a slice that reads as these cells -/
structure SlV (w : World) (p : Option Addr) (n : Nat) (V : Nat → Value) : Prop where
  ne : 0 < n → ∃ b o, p = some ⟨b, o, none⟩
  cells : ∀ b o, p = some ⟨b, o, none⟩ → ∀ i, i < n → w.cell? ⟨b, o + i, none⟩ = some (V i)

theorem SlV.lt {w : World} {p : Option Addr} {n : Nat} {V : Nat → Value} (h : SlV w p n V) (hn : 0 < n) {b o : Nat} (e : p = some ⟨b, o, none⟩) : b < w.heap.size :=
  World.block_lt_of_cell? w _ (h.cells b o e 0 hn)

theorem SlV.below {w w' : World} {p : Option Addr} {n : Nat} {V : Nat → Value} (h : SlV w p n V) (hu : Below w.heap.size w w') : SlV w' p n V :=
  ⟨h.ne, fun b o e i hi => (hu.cell (p := ⟨b, o + i, none⟩) (h.lt (by omega) e)).trans (h.cells b o e i hi)⟩

theorem SlI.slv {k : IntKind} {p : Option Addr} {zs : List Int} (h : SlI w k p zs) : SlV w p zs.length (fun i => .int k (wd zs i)) :=
  ⟨fun hn => h.ne (List.length_pos_iff.1 hn), h.cells⟩

/-- a slice of bools that came in -/
theorem open_sl_bools {t e : TypeId} {r : Reach} {b0 : Nat} {v : Value} {d : DataW H} {ps : List MemPlace} (ht : P.underlying t = some (.slice e)) (he : P.underlying e = some .bool) (hc : P.cellsOf e = 1)
    (hval : Value.okWide P w r b0 t v) (h : DataW.Trod enc P w base (fun _ => true) held t v d ps) :
    ∃ (p : Option Addr) (n cap : Nat) (B : Nat → Bool), v = .slice p n cap ∧ SlV w p n (fun i => .bool (B i)) ∧ n ≤ cap ∧ cap ≤ maxLen := by
  obtain ⟨p, len, cap, rfl⟩ := okWide_slice ht hval
  obtain ⟨fuel, hf⟩ := h
  rcases open_bools ht he hc hf with ⟨h0, _⟩ | ⟨a, l, c, B, hcs, _, hlc, hm, _, hcell⟩
  · simp [Value.cells] at h0
    obtain ⟨rfl, rfl, rfl⟩ := h0
    exact ⟨none, 0, 0, fun _ => false, rfl, ⟨fun h => absurd h (by simp), fun _ _ e => by simp at e⟩, by simp, by simp [maxLen]⟩
  · simp [Value.cells] at hcs
    obtain ⟨rfl, rfl, rfl⟩ := hcs
    refine ⟨some a, len, cap, B, rfl, ⟨fun hp => ?_, fun b o e i hi => ?_⟩, hlc, hm⟩
    · have := hcell 0 (by omega)
      rw [show a.add 0 = a from rfl] at this
      exact ⟨a.block, a.off, by rw [← addr_eta (spot_none this)]⟩
    · have := hcell i (by omega)
      simp at e
      rw [e, addr_add] at this
      exact this

theorem open_slice_fields {spare : Nat → Bool} {t e : TypeId} {fs : Array Field} {fuel : Nat} {cs : List Value} {x : DataW H × List MemPlace} (ht : P.underlying t = some (.slice e)) (he : P.underlying e = some (.struct fs))
    (hone : oneCellFields P fs = true) (hC : P.cellsOf e = fs.size) (h : DataW.trod enc P w base spare held fuel t cs = some x) :
    (cs = [.slice none 0 0] ∧ x = (.nil, [])) ∨
    ∃ (a : Addr) (len cap m : Nat) (D : Nat → DataW H) (Pl : Nat → List MemPlace), cs = [.slice (some a) len cap] ∧ base ≤ a.block ∧ len ≤ cap ∧ cap ≤ maxLen ∧ m = (if spare a.block then cap else len) ∧
      x = (.slice ((List.range len).map D) ((List.range (m - len)).map fun j => D (len + j)), MemPlace.row a (m * fs.size) ++ (List.range m).flatMap Pl) ∧
      ∀ i, i < m → ∃ (ys : List (DataW H × List MemPlace)) (n : Nat), D i = .agg (ys.map (·.1)) ∧ Pl i = ys.flatMap (·.2) ∧ ys.length = fs.size ∧
        ∀ (j : Nat) (f : Field), fs[j]? = some f → ∃ (v : Value) (y : DataW H × List MemPlace), w.cell? (a.add (i * fs.size + j)) = some v ∧ ys[j]? = some y ∧ DataW.trod enc P w base spare held n f.type [v] = some y := by
  rcases open_slice ht h with h0 | ⟨a, len, cap, m, n, D, Pl, hcs, hb, hl, hm, hmm, hx, hi⟩
  · exact .inl h0
  · refine .inr ⟨a, len, cap, m, D, Pl, hcs, hb, hl, hm, hmm, by rw [hC] at hx; exact hx, fun i him => ?_⟩
    obtain ⟨cs', hc, ht'⟩ := hi i him
    rw [hC] at hc
    obtain ⟨ys, n', hn', hy, hlen, hyl, hf⟩ := DataW.trod_struct he ht'
    obtain ⟨_, hcl, hat⟩ := World.cells?_some hc
    simp only [Prod.mk.injEq] at hy
    refine ⟨ys, n', hy.1, hy.2, hyl, fun j f hj => ?_⟩
    obtain ⟨ho, hk⟩ := hone_of hone j f hj
    have hjl : j < fs.size := (Array.getElem?_eq_some_iff.1 hj).1
    have hcell := hat j hjl
    have hv : cs'[j]? = some (cs'[j]'(by omega)) := List.getElem?_eq_getElem (by omega)
    have h1 := hf j f hj
    rw [ho, hk] at h1
    have hone' : (cs'.drop j).take 1 = [cs'[j]'(by omega)] := by
      rw [List.drop_eq_getElem_cons (by omega)]
      rfl
    rw [hone'] at h1
    have hys : ys[j]? = some (ys[j]'(by omega)) := List.getElem?_eq_getElem (by omega)
    refine ⟨_, _, ?_, hys, h1.trans hys⟩
    rw [← Go.Deep.add_add, hcell, hv]

/-- a slice of structs of one-cell fields that came in: each cell's value is one of its field's type -/
theorem open_sl_structs {t e : TypeId} {fs : Array Field} {r : Reach} {b0 : Nat} {v : Value} {d : DataW H} {ps : List MemPlace} (ht : P.underlying t = some (.slice e)) (he : P.underlying e = some (.struct fs))
    (hone : oneCellFields P fs = true) (hC : P.cellsOf e = fs.size) (hpos : 0 < fs.size)
    (hval : Value.okWide P w r b0 t v) (h : DataW.Trod enc P w base (fun _ => true) held t v d ps) :
    ∃ (p : Option Addr) (n cap : Nat) (V : Nat → Value), v = .slice p n cap ∧ SlV w p (n * fs.size) V ∧ n ≤ cap ∧ cap ≤ maxLen ∧
      ∀ i, i < n → ∀ (j : Nat) (f : Field), fs[j]? = some f → ∃ (m : Nat) (y : DataW H × List MemPlace), DataW.trod enc P w base (fun _ => true) held m f.type [V (i * fs.size + j)] = some y := by
  obtain ⟨p, len, cap, rfl⟩ := okWide_slice ht hval
  obtain ⟨fuel, hf⟩ := h
  rcases open_slice_fields ht he hone hC hf with ⟨h0, _⟩ | ⟨a, l, c, m, D, Pl, hcs, _, hlc, hm, hmm, _, hcell⟩
  · simp [Value.cells] at h0
    obtain ⟨rfl, rfl, rfl⟩ := h0
    exact ⟨none, 0, 0, fun _ => undef, rfl, ⟨fun h => absurd h (by simp), fun _ _ e => by simp at e⟩, by simp, by simp [maxLen], fun i hi => by omega⟩
  · simp [Value.cells] at hcs
    obtain ⟨rfl, rfl, rfl⟩ := hcs
    simp only [if_true] at hmm
    subst hmm
    have hall : ∀ q, q < len * fs.size → ∃ v, w.cell? (a.add q) = some v := by
      intro q hq
      have h1 : q / fs.size < len := Nat.div_lt_of_lt_mul (by rw [Nat.mul_comm]; exact hq)
      have h2 : q % fs.size < fs.size := Nat.mod_lt _ hpos
      obtain ⟨ys, n', _, _, _, hj⟩ := hcell (q / fs.size) (by omega)
      obtain ⟨v, y, hv, _, _⟩ := hj (q % fs.size) fs[q % fs.size] (by simp [h2])
      have e : q / fs.size * fs.size + q % fs.size = q := by rw [Nat.mul_comm]; exact Nat.div_add_mod q fs.size
      rw [e] at hv
      exact ⟨v, hv⟩
    have hsp : ∀ q, q < len * fs.size → w.cell? (a.add q) = some ((w.cell? (a.add q)).getD undef) := by
      intro q hq
      obtain ⟨v, hv⟩ := hall q hq
      rw [hv]; rfl
    refine ⟨some a, len, m, fun q => (w.cell? (a.add q)).getD undef, rfl, ⟨fun hp => ?_, fun b o e i hi => ?_⟩, hlc, hm, fun i hi j f hj => ?_⟩
    · have := hsp 0 hp
      rw [show a.add 0 = a from rfl] at this
      exact ⟨a.block, a.off, by rw [← addr_eta (spot_none this)]⟩
    · have := hsp i hi
      simp at e
      rw [e, addr_add] at this
      simp only [e, addr_add]
      exact this
    · obtain ⟨ys, n', _, _, _, hj'⟩ := hcell i (by omega)
      obtain ⟨v, y, hv, _, hy⟩ := hj' j f hj
      exact ⟨n', y, by simp only [hv, Option.getD_some]; exact hy⟩

end
end Go.Proofs.YtfldpejifpmapaaDoor
set_option linter.unusedSimpArgs false
set_option linter.unusedVariables false
set_option maxRecDepth 100000
namespace Go.Proofs.YtfldpejifpmapaaDoor
open Go.RowKit
open Go.ChangeShapes Go.WideShapes Go.ChangeAt

theorem tab_reads {W : World} (h : Lib.VarReads Tryd.prog W "internal/strconv.uint64pow10" Rows.laid_internal_strconv_uint64pow10) : Tab W := by
  obtain ⟨g, t, cs, fuel, p, hg, ht, hv, hd⟩ := h
  obtain rfl := Option.some.inj ((show Tryd.prog.globalNamed "internal/strconv.uint64pow10" = some 0 by kernel_rfl).symm.trans hg)
  obtain rfl := Option.some.inj ((show (Tryd.prog.globals[0]?).map (·.type) = some 145 by kernel_rfl).symm.trans ht)
  have hd' : DataW.trod (fun _ => ()) Tryd.prog W 0 (fun _ => true) false fuel 145 cs.toList = some (Lib.tabData .u64 Lib.pow10Tab, p) := hd
  unfold Tab Lib.TabIs
  rw [hv, ← Lib.cells_of_tab Tryd.underlying145 Tryd.underlying24 (by kernel_rfl) (by kernel_rfl) hd']

theorem err_reads {W : World} {n : String} {g : Nat} {d : DataW Unit} {name : String} (hg0 : Tryd.prog.globalNamed n = some g) (ht0 : (Tryd.prog.globals[g]?).map (·.type) = some 68)
    (h : Lib.VarReads Tryd.prog W n (.iface name d)) : ∃ tp p, W.var? Tryd.prog n = some #[.iface tp p] := by
  obtain ⟨g, t, cs, fuel, p, hg, ht, hv, hd⟩ := h
  obtain rfl := Option.some.inj (hg0.symm.trans hg)
  obtain rfl := Option.some.inj (ht0.symm.trans ht)
  obtain ⟨_, u, v, hcs, _⟩ := iface_of_trod (ms := _) Tryd.underlying68 hd
  refine ⟨u, v, ?_⟩
  rw [hv]
  congr 1
  apply Array.ext'
  rw [hcs]

theorem max_shaped (w : World) (h : w.ShapedOpen Tryd.prog) : ∃ m, w.cell? ⟨1, 0, none⟩ = some (.int .i64 m) :=
  cell_of_shapedOpen_int (zero := #[.int .i64 0]) (t := 3) h (of_decide_eq_true (by kernel_rfl)) (by kernel_rfl) rfl (by kernel_rfl) (by kernel_rfl) Tryd.underlying3

/-- what every row of this layer lists -/
def Lists (l : List (String × DataW Unit)) : Prop :=
  ("internal/strconv.uint64pow10", Rows.laid_internal_strconv_uint64pow10) ∈ l ∧ ("strconv.ErrRange", Rows.laid_strconv_ErrRange) ∈ l ∧ ("strconv.ErrSyntax", Rows.laid_strconv_ErrSyntax) ∈ l

theorem pre_laid {W : World} {l : List (String × DataW Unit)} (hl : Lists l) (h : laidMet Tryd.prog l W) (hsh : W.ShapedOpen Tryd.prog) : PreE W :=
  ⟨tab_reads (Lib.laidMet.reads h hl.1),
    ⟨err_reads (g := 4) (by kernel_rfl) (by kernel_rfl) (Lib.laidMet.reads h hl.2.2), err_reads (g := 5) (by kernel_rfl) (by kernel_rfl) (Lib.laidMet.reads h hl.2.1)⟩,
    max_shaped W hsh⟩

/-- 'there is an input that fits', at the world that lays all that the row lists -/
theorem witness_card {H : Type} {enc : TypeId × Value → H} {os : Os} {f : FuncId} {fn : Func} {s : OpenSpec} {conds : List PathCond} {laid : List (String × DataW Unit)} (args : Array Value)
    (hsh : ((World.laidAll Tryd.prog os laid).forCall (fun _ _ => 0) ⟨#[], args, []⟩).Shaped Tryd.prog)
    (hok : Input.okWideB Tryd.prog ((World.laidAll Tryd.prog os laid).forCall (fun _ _ => 0) ⟨#[], args, []⟩) f ⟨#[], args, []⟩ = true)
    (hrow : s.preRow enc Tryd.prog fn conds false laid ((World.laidAll Tryd.prog os laid).forCall (fun _ _ => 0) ⟨#[], args, []⟩).memory args) :
    ∃ (w : World) (tape : Tape) (i : Input), w.os = os ∧ (w.forCall tape i).Shaped Tryd.prog ∧ i.vars = [] ∧ Input.okWide Tryd.prog (w.forCall tape i) .any w.heap.size f i ∧
      s.preRow enc Tryd.prog fn conds false laid (w.forCall tape i).memory i.args ∧ ({} : Assume).holds Tryd.prog (lone (Frame.enter Tryd.prog f i.args .normal) [] (w.forCall tape i)) :=
  ⟨World.laidAll Tryd.prog os laid, fun _ _ => 0, ⟨#[], args, []⟩, World.laidAll_os _ _ _, hsh, (Input.okWide_of_okWideB (base := 0) hok).1, (Input.okWide_of_okWideB hok).2, hrow, by
    simp only [Assume.holds]
    exact ⟨by simp, by simp, fun _ => Modest.zero, by simp, by simp⟩⟩
end Go.Proofs.YtfldpejifpmapaaDoor
set_option linter.unusedSimpArgs false
set_option linter.unusedVariables false
set_option maxRecDepth 100000
namespace Go.Proofs.YtfldpejifpmapaaDoor
open Go.RowKit
open Go.Maps
/-- is the line written as what it was read as? -/
def lineOk (x : Option Ev) (l : List UInt8) : Bool := x.isSome && (decide ((lineO (evO x)).2 = 0) && decide ((lineO (evO x)).1 = l))
/-- the events of a text, up to the first line that is none; is there no such line? -/
def readH : Nat → List UInt8 → List Ev × Bool
  | 0, l => ([], decide (l = []))
  | n + 1, l => if l = [] then ([], true) else if (Lib.cut l [10]).2.2 = true ∧ lineOk (eventL (Lib.cut l [10]).1) (Lib.cut l [10]).1 = true then (evO (eventL (Lib.cut l [10]).1) :: (readH n (Lib.cut l [10]).2.1).1, (readH n (Lib.cut l [10]).2.1).2) else ([], false)
theorem readH_nil (n : Nat) : readH n [] = ([], true) := by cases n <;> rfl
theorem cut_less (l : List UInt8) (h : (Lib.cut l [10]).2.2 = true) (hl : l ≠ []) : (Lib.cut l [10]).2.1.length < l.length := by
  unfold Lib.cut at h ⊢
  have h0 : 0 < l.length := List.length_pos_iff.2 hl
  split at h
  · rename_i hi
    rw [if_pos hi]
    simp only [List.length_drop, List.length_cons, List.length_nil]
    omega
  · cases h
theorem wordsF_lt : ∀ (n : Nat) (l : List UInt8) (ws : List Nat), wordsF n l = some ws → ∀ x ∈ ws, x < 18446744073709551616
  | 0, l, ws, h => by
    unfold wordsF at h
    split at h
    · cases h; simp
    · cases h
  | n + 1, l, ws, h => by
    unfold wordsF at h
    split at h
    · cases h; simp
    · split at h
      · obtain ⟨vs, hv, rfl⟩ := Option.map_eq_some_iff.1 h
        intro x hx
        rcases List.mem_cons.1 hx with rfl | hx
        · exact number_lt l
        · exact wordsF_lt n _ vs hv x hx
      · cases h
theorem wordAt_bd {ws : List Nat} (h : ∀ x ∈ ws, x < 18446744073709551616) (i : Nat) : 0 ≤ wordAt ws i ∧ wordAt ws i < 18446744073709551616 := by
  unfold wordAt
  rw [List.getD_eq_getElem?_getD]
  cases hx : (ws ++ [0, 0])[i]? with
  | none => simp
  | some x =>
    have hm := List.mem_of_getElem? hx
    have : x < 18446744073709551616 := by
      rcases List.mem_append.1 hm with hm | hm
      · exact h x hm
      · simp at hm; omega
    simp only [Option.getD_some]
    omega
theorem ite_bd {p : Prop} [Decidable p] {a b : Int} (ha : 0 ≤ a ∧ a < 18446744073709551616) (hb : 0 ≤ b ∧ b < 18446744073709551616) : 0 ≤ (if p then a else b) ∧ (if p then a else b) < 18446744073709551616 := by
  by_cases h : p
  · rw [if_pos h]; exact ha
  · rw [if_neg h]; exact hb
theorem zero_wide : zeroE.wide := by unfold zeroE Ev.wide; decide
theorem evOf_wide {t : Nat} {own : Bool} {k : Int} {ws : List Nat} (h : ∀ x ∈ ws, x < 18446744073709551616) : (evOf t own k ws).wide :=
  ⟨ite_bd (wordAt_bd h 0) (by decide), ite_bd (wordAt_bd h 1) (ite_bd (wordAt_bd h 0) (by decide))⟩
theorem ev_wide (l : List UInt8) : (evO (eventL l)).wide := by
  unfold eventL
  split
  · cases h : wordsF (Lib.cut (Lib.trimPrefix (numberL l).2.1 [32]) [32]).2.1.length (Lib.cut (Lib.trimPrefix (numberL l).2.1 [32]) [32]).2.1 with
    | none => exact zero_wide
    | some ws => exact evOf_wide (wordsF_lt _ _ _ h)
  · exact zero_wide
theorem info_ev : (Tryd.prog.info? 27).map (fun i => (i.zero, i.size, i.bytes)) = some (some (.agg #[.int .i64 0, .int .i64 0, .int .u64 0, .int .u64 0, .bool false, .int .i64 0]), 6, 48) := by kernel_rfl
/-- one more event -/
theorem app_ev {W : World} {base : Nat} {v : Value} {l : List Ev} (h : W.ownsRow base 27 6 v l.length (l.flatMap Ev.cells)) (x : Ev) (hn : l.length ≤ 1000000000000) (hb : base ≤ W.heap.size) :
    ∃ v' w', (Builtin.append_ #[22, 22] 22 #[v, .slice (some ⟨W.heap.size, 0, none⟩) 1 1]).run Tryd.prog (W.alloc (.cells x.cells.toArray 27)) = .ok v' w' ∧ w'.ownsRow base 27 6 v' (l.length + 1) ((l ++ [x]).flatMap Ev.cells) ∧ Upd v.ownBlock.toList (W.alloc (.cells x.cells.toArray 27)) w' ∧ (v'.ownBlock = v.ownBlock ∨ v'.ownBlock = some (W.heap.size + 1)) := by
  obtain ⟨i0, hi, hz0, hz1, hz2⟩ := info_parts info_ev
  have hW := own_upd h ((Upd.refl [] W).alloc (.cells x.cells.toArray 27)) (by simp)
  obtain ⟨v', w', hr, ho, hg, _, hat⟩ := run_append_own_at (P := Tryd.prog) (W.alloc (.cells x.cells.toArray 27)) base 22 22 27 i0 _ 6 48 Tryd.underlying22 hi hz0 hz1 hz2 rfl (by decide) v l.length _ hW
    ⟨W.heap.size, 0, none⟩ 1 1 x.cells rfl (news_new _ 27 rfl) (by intro u hu; simp [Ev.cells] at hu; rcases hu with rfl | rfl | rfl | rfl | rfl | rfl <;> rfl) (by unfold maxLen; omega) (by omega) (by rw [World.size_alloc]; omega)
  rw [World.size_alloc] at hat
  refine ⟨v', w', hr, ?_, Upd.own hg, hat⟩
  rw [List.flatMap_append, List.flatMap_singleton]
  exact ho
/-- what Parse answers -/
def ParseOk (w : World) (r : List Ev × Bool) (e : Ending) (w' : World) : Prop := Upd [] w w' ∧
  ((r.2 = true ∧ ∃ v, e = .returned (.tuple #[v, .int .i64 (r.1.length : Int), .int .i64 0]) ∧ w'.ownsRow w.heap.size 27 6 v r.1.length (r.1.flatMap Ev.cells)) ∨
   (r.2 = false ∧ e = .returned (.tuple #[.slice none 0 0, .int .i64 (r.1.length : Int), .int .i64 234])))
set_option maxHeartbeats 8000000 in
theorem parse_code (s : ByteArray) (hs : s.size < 4294967281) (w : World) (hP : PreE w) : Calls Tryd.prog 17 #[.string s] w (ParseOk w (readH s.data.toList.length s.data.toList)) := by
  have HP := Lib.hid hP
  obtain ⟨X, hX⟩ : ∃ X, readH s.data.toList.length s.data.toList = X := ⟨_, rfl⟩
  rw [hX]
  have HX := Lib.hid hX
  have HS := Lib.hid hs
  have HS2 := Lib.hid (show s.size = s.data.toList.length from Lib.size_eq s)
  have HSE := Lib.hid (show s = ⟨s.data.toList.toArray⟩ by cases s; simp)
  clear hX hP hs
  obtain ⟨L, hL⟩ : ∃ L, s.data.toList = L := ⟨_, rfl⟩
  rw [hL] at HX HS2 HSE
  have hsE := HSE.out
  subst hsE
  clear hL HSE
  refine calls_all fun K hK => ?_
  go_enter Tryd.func17, Tryd.ntmps17
  go_wp2_with fail
  have HO0 := Lib.hid (show World.ownsRow (w.alloc (.cells #[] 27)) w.heap.size 27 6 (.slice (some ⟨w.heap.size, 0, none⟩) 0 0) ([] : List Ev).length (([] : List Ev).flatMap Ev.cells) from
    ⟨rfl, .inr ⟨w.heap.size, 0, #[], rfl, Nat.le_refl _, heap_alloc_new w (.cells #[] 27), Nat.le_refl _, by unfold maxLen; omega, rfl, rfl⟩⟩)
  have HU0 := Lib.hid (show Upd [] w (w.alloc (.cells #[] 27)) from (Upd.refl _ _).alloc _)
  obtain ⟨v0, hv0⟩ : ∃ v, Value.slice (some ⟨w.heap.size, 0, none⟩) 0 0 = v := ⟨_, rfl⟩
  rw [hv0] at HO0 ⊢
  generalize w.alloc (.cells #[] 27) = W0 at HO0 HU0 ⊢
  clear hv0
  go_loopw [0, 5] (fun q0 q5 wr => ∃ (ρ : List UInt8) (E : List Ev) (fu : Nat), q0 = .string ⟨ρ.toArray⟩ ∧ ρ.length ≤ fu ∧ E.length + ρ.length ≤ L.length ∧ X = (E ++ (readH fu ρ).1, (readH fu ρ).2) ∧ wr.ownsRow w.heap.size 27 6 q5 E.length (E.flatMap Ev.cells) ∧ Upd [] w wr) (fun q0 _ _ => strLen q0)
  case atStart => exact ⟨L, [], L.length, rfl, Nat.le_refl _, by simp, by rw [HX.out]; rfl, HO0.out, HU0.out⟩
  case round =>
    obtain ⟨ρ, E, fu, rfl, h1, h2, h3, ho, hu⟩ := hrel
    obtain ⟨p, c, rfl⟩ := own_form ho
    have H1 := Lib.hid h1
    have H2 := Lib.hid h2
    have H3 := Lib.hid h3
    have HO := Lib.hid ho
    have HU := Lib.hid hu
    clear h1 h2 h3 ho hu HO0 HU0
    by_cases hρ : ρ = []
    · subst hρ
      have HXE := Lib.hid (show X = (E, true) by rw [H3.out, readH_nil]; simp)
      go_wp2_with fail
      rw [HXE.out]
      exact ⟨HU.out, .inl ⟨rfl, _, rfl, HO.out⟩⟩
    · have hne : (ρ == []) = false := by simpa using hρ
      have HW := Lib.hid (show readH fu ρ = if (Lib.cut ρ [10]).2.2 = true ∧ lineOk (eventL (Lib.cut ρ [10]).1) (Lib.cut ρ [10]).1 = true then (evO (eventL (Lib.cut ρ [10]).1) :: (readH (fu - 1) (Lib.cut ρ [10]).2.1).1, (readH (fu - 1) (Lib.cut ρ [10]).2.1).2) else ([], false) by
        cases fu with
        | zero => exact absurd (List.length_eq_zero_iff.1 (Nat.le_zero.1 H1.out)) hρ
        | succ f => rw [readH, if_neg hρ]; rfl)
      have HCUT := Lib.hid (by obtain ⟨m, hm⟩ := (HP.out.upd HU.out).max; exact Tryd.strings_Cut ⟨ρ.toArray⟩ ⟨#[10]⟩ m wr (by have h1 := HS.out; have h2 := HS2.out; have h3 := H2.out; rw [Lib.size_eq]; simp only [List.toList_toArray]; omega) hm)
      simp only [List.toList_toArray] at HCUT
      have HL1 := Lib.hid (cut_len ρ [10])
      have HL2 := Lib.hid (fun h => cut_less ρ h hρ)
      have HPL := Lib.hid (show 0 < ρ.length from List.length_pos_iff.2 hρ)
      generalize Lib.cut ρ [10] = c3 at *
      obtain ⟨ln, rs, fd⟩ := c3
      dsimp only at HW HCUT HL1 HL2
      have HEV := Lib.hid (fun (W : World) (u : Upd [] w W) => event_code ⟨ln.toArray⟩ (by have h1 := HS.out; have h2 := HS2.out; have h3 := H2.out; have h4 := HL1.out.1; rw [Lib.size_eq]; simp only [List.toList_toArray]; omega) W (HP.out.upd u))
      simp only [List.toList_toArray] at HEV
      have HEW := Lib.hid (ev_wide ln)
      generalize eventL ln = x at *
      obtain ⟨y, hy⟩ : ∃ y, evO x = y := ⟨_, rfl⟩
      obtain ⟨ok, hok⟩ : ∃ b, x.isSome = b := ⟨_, rfl⟩
      have HOK := Lib.hid (show lineOk x ln = (ok && (decide ((lineO y).2 = 0) && decide ((lineO y).1 = ln))) by rw [← hy, ← hok]; rfl)
      rw [hy] at HEV HW HEW
      rw [hok] at HEV
      clear hy hok
      have HLN := Lib.hid (fun (W : World) (u : Upd [] w W) => line_code W y HEW.out (HP.out.upd u).tab)
      generalize lineO y = lo at HLN HOK
      obtain ⟨lx, er⟩ := lo
      dsimp only at HLN HOK
      obtain ⟨yth, ykd, yad, ywd, yown, yer⟩ := y
      simp only [Ev.val] at HEV HLN
      go_wp2_with fail
      refine (HCUT.out).mono ?_
      rintro e W3 ⟨rfl, nq, rfl⟩
      have ud : Upd [] wr (wr.drewN nq) := (Upd.refl _ _).drewN _
      have HU4 := Lib.hid (HU.out.trans ud)
      have HO4 := Lib.hid (own_upd HO.out ud (by simp))
      generalize wr.drewN nq = W4 at HU4 HO4 ⊢
      clear ud HU HO HCUT hne hρ
      go_wp2_with fail
      refine (HEV.out _ HU4.out).mono ?_
      rintro e W5 ⟨rfl, u5⟩
      have HU5 := Lib.hid ((HU4.out.trans u5).alloc (.cells #[.int .i64 yth, .int .i64 ykd, .int .u64 yad, .int .u64 ywd, .bool yown, .int .i64 yer] 27))
      have HO5 := Lib.hid (own_upd HO4.out (u5.alloc (.cells #[.int .i64 yth, .int .i64 ykd, .int .u64 yad, .int .u64 ywd, .bool yown, .int .i64 yer] 27)) (by simp))
      have HB5 := Lib.hid (Blk.new W5 [.int .i64 yth, .int .i64 ykd, .int .u64 yad, .int .u64 ywd, .bool yown, .int .i64 yer] 27)
      clear u5 HU4 HO4 HEV
      go_wp2_with fail
      refine (HLN.out _ HU5.out).mono ?_
      rintro e W6 ⟨rfl, u6⟩
      have HU6 := Lib.hid (HU5.out.trans u6)
      have HO6 := Lib.hid (own_upd HO5.out u6 (by simp))
      have HB6 := Lib.hid (HB5.out.upd u6 (by simp))
      clear u6 HU5 HO5 HB5 HLN
      obtain ⟨xb, hxb⟩ : ∃ b, W5.heap.size = b := ⟨_, rfl⟩
      rw [hxb] at HB6 ⊢
      clear hxb
      have x0 := HB6.out.cell 0 rfl
      have x1 := HB6.out.cell 1 rfl
      have x2 := HB6.out.cell 2 rfl
      have x3 := HB6.out.cell 3 rfl
      have x4 := HB6.out.cell 4 rfl
      have x5 := HB6.out.cell 5 rfl
      cases fd with
      | false =>
        have HXB := Lib.hid (show X = (E, false) by rw [H3.out, HW.out, if_neg (fun q => by cases q.1)]; simp)
        clear H3 HW HOK HL2 HO6
        go_wp2_with fail
        rw [HXB.out]
        exact ⟨HU6.out, .inr ⟨rfl, rfl⟩⟩
      | true =>
        cases ok with
        | false =>
          have HXB := Lib.hid (show X = (E, false) by rw [H3.out, HW.out, if_neg (fun q => by have := q.2; rw [HOK.out] at this; cases this)]; simp)
          clear H3 HW HOK HL2 HO6
          go_wp2_with fail
          rw [HXB.out]
          exact ⟨HU6.out, .inr ⟨rfl, rfl⟩⟩
        | true =>
          by_cases her : er = 0
          · by_cases hlx : lx = ln
            · subst hlx
              have hlk : lineOk x lx = true := by rw [HOK.out, decide_eq_true her, decide_eq_true rfl]; rfl
              subst her
              obtain ⟨v', W10, hrun, ho', hu', _⟩ := app_ev HO6.out ⟨yth, ykd, yad, ywd, yown, yer⟩ (by have h1 := HS.out; have h2 := HS2.out; have h3 := H2.out; omega) HU6.out.size
              simp only [Ev.cells] at hrun hu'
              have ua : Upd [] W6 (W6.alloc (.cells #[.int .i64 yth, .int .i64 ykd, .int .u64 yad, .int .u64 ywd, .bool yown, .int .i64 yer] 27)) := (Upd.refl _ _).alloc _
              have HO10 := Lib.hid ho'
              have HU10 := Lib.hid (show Upd [] w W10 from (HU6.out.trans ua).tr (U := []) hu' (by simp) (fun g hg => .inr (own_blocks HO6.out g hg).1))
              have HX3 := Lib.hid (show X = ((E ++ [⟨yth, ykd, yad, ywd, yown, yer⟩]) ++ (readH (fu - 1) rs).1, (readH (fu - 1) rs).2) by rw [H3.out, HW.out, if_pos ⟨rfl, hlk⟩]; simp)
              have HR := Lib.hid (show rs.length < ρ.length from HL2.out rfl)
              obtain ⟨p', c', rfl⟩ := own_form ho'
              clear ho' hu' ua HO6 H3 HW HOK hlk HL2
              go_wp2_with (at_builtin; refine wpList_append_eq rfl _ _ _ _ rfl _ _ _ rfl rfl hrun ?_)
              go_roundw
              case rel => exact ⟨rs, E ++ [⟨yth, ykd, yad, ywd, yown, yer⟩], fu - 1, rfl, by have := HR.out; have := H1.out; omega, by have := HR.out; have := H2.out; rw [List.length_append, List.length_singleton]; omega, HX3.out, by rw [List.length_append, List.length_singleton]; exact HO10.out, HU10.out⟩
              case measure => have h := HR.out; simpa [strLen, Lib.size_eq] using h
            · have HXB := Lib.hid (show X = (E, false) by rw [H3.out, HW.out, if_neg (fun q => by have := q.2; rw [HOK.out, decide_eq_false hlx] at this; simp at this)]; simp)
              have hb1 : (lx == ln) = false := by simpa using hlx
              have hb2 : (lx != ln) = true := by simpa using hlx
              subst her
              clear hlx
              clear H3 HW HOK HL2 HO6
              go_wp2_with fail
              rw [HXB.out]
              exact ⟨HU6.out, .inr ⟨rfl, rfl⟩⟩
          · have HXB := Lib.hid (show X = (E, false) by rw [H3.out, HW.out, if_neg (fun q => by have := q.2; rw [HOK.out, decide_eq_false her] at this; simp at this)]; simp)
            have hb1 : (er == 0) = false := by simpa using her
            have hb2 : (er != 0) = true := by simpa using her
            have hb3 : decide (er = 0) = false := decide_eq_false her
            clear her
            clear H3 HW HOK HL2 HO6
            go_wp2_with fail
            rw [HXB.out]
            exact ⟨HU6.out, .inr ⟨rfl, rfl⟩⟩
end Go.Proofs.YtfldpejifpmapaaDoor
set_option linter.unusedSimpArgs false
set_option linter.unusedVariables false
set_option maxRecDepth 100000
namespace Go.Proofs.YtfldpejifpmapaaDoor
open Go.RowKit
open Go.Maps
def e0 : Ev := ⟨0, 1, 0, 0, false, 0⟩
def secL : List Ev := [e0, ⟨0, 3, 1, 5, false, 0⟩, ⟨0, 2, 1, 5, true, 0⟩, ⟨0, 5, 0, 0, false, 0⟩, ⟨0, 6, 0, 1, false, 0⟩, ⟨1, 1, 0, 2, false, 0⟩]
def secT : List Try := [⟨0, 0, 4, 0, 6, 0, 1⟩, ⟨1, 5, 5, 2, 0, 0, 0⟩]
theorem ek1 : (runE ls0 0 secL).2.2 = 0 := by rfl
theorem ek1b : (runE ls0 0 secL).1.tries = secT := by rfl
theorem ek1c : oddE secL = (-1, 0) := by unfold oddE; rw [if_pos ek1]
theorem ek2 : textO [e0] = ([48, 32, 98, 101, 103, 105, 110, 32, 48, 10], 0) := by kernel_rfl
theorem ek3 : readH 10 [48, 32, 98, 101, 103, 105, 110, 32, 48, 10] = ([e0], true) := by kernel_rfl
theorem ek4 : readH 11 [48, 32, 98, 101, 103, 105, 110, 32, 48, 48, 10] = ([], false) := by kernel_rfl
theorem ev_flat : ∀ (l : List Ev) (i : Nat) (x : Ev) (j : Nat), l[i]? = some x → j < 6 → (l.flatMap Ev.cells)[i * 6 + j]? = x.cells[j]?
  | [], i, x, j, h, _ => by simp at h
  | y :: l, 0, x, j, h, hj => by
    obtain rfl : y = x := by simpa using h
    rw [List.flatMap_cons, List.getElem?_append_left (by simp [Ev.cells]; omega)]
    congr 1
    omega
  | y :: l, i + 1, x, j, h, hj => by
    have hc : y.cells.length = 6 := rfl
    rw [List.flatMap_cons, List.getElem?_append_right (by rw [hc]; omega), hc, show (i + 1) * 6 + j - 6 = i * 6 + j by omega]
    exact ev_flat l i x j (by simpa using h) hj
theorem ev_flat_len (l : List Ev) : (l.flatMap Ev.cells).length = l.length * 6 := by
  induction l with
  | nil => rfl
  | cons a l ih => rw [List.flatMap_cons, List.length_append, ih, List.length_cons]; simp [Ev.cells]; omega
theorem hist_of_blk {w : World} {b : Nat} {l : List Ev} {sp : List Value} (h : Blk w b (l.flatMap Ev.cells ++ sp) 27) : HistAt w (some ⟨b, 0, none⟩) l := by
  intro i x hx
  have hi : i < l.length := by
    rcases Nat.lt_or_ge i l.length with h | h
    · exact h
    · rw [List.getElem?_eq_none h] at hx; cases hx
  have hc : ∀ j, j < 6 → (l.flatMap Ev.cells ++ sp)[i * 6 + j]? = x.cells[j]? := fun j hj => by
    rw [List.getElem?_append_left (by rw [ev_flat_len]; omega)]
    exact ev_flat l i x j hx hj
  have hz : ∀ k, (0 + i * 6 + k) = i * 6 + k := fun k => by omega
  refine ⟨b, 0, rfl, ?_, ?_, ?_, ?_, ?_, ?_⟩
  · have := h.cell (i * 6 + 0) ((hc 0 (by omega)).trans rfl); rwa [Nat.add_zero, ← Nat.zero_add (i * 6)] at this
  · rw [hz]; exact h.cell _ ((hc 1 (by omega)).trans rfl)
  · rw [hz]; exact h.cell _ ((hc 2 (by omega)).trans rfl)
  · rw [hz]; exact h.cell _ ((hc 3 (by omega)).trans rfl)
  · rw [hz]; exact h.cell _ ((hc 4 (by omega)).trans rfl)
  · rw [hz]; exact h.cell _ ((hc 5 (by omega)).trans rfl)
/-- an own row as a block known whole -/
theorem own_openN {w : World} {base : Nat} {e : TypeId} {size n g c : Nat} {us : List Value} (h : w.ownsRow base e size (.slice (some ⟨g, 0, none⟩) n c) n us) : base ≤ g ∧ us.length = n * size ∧ ∃ sp : List Value, Blk w g (us ++ sp) e := by
  obtain ⟨h1, h2⟩ := h
  rcases h2 with ⟨h2, _⟩ | ⟨g', cap, cur, hv, hb, hh, hn, hm, hs, ht⟩
  · cases h2
  · cases hv
    refine ⟨hb, h1, cur.toList.drop (n * size), ?_⟩
    rw [← ht, List.take_append_drop]
    unfold Blk
    simpa using hh
theorem num_code (n : Int) (w : World) : Calls Tryd.prog 15 #[.int .i64 n] w fun e w' => e = .returned (.int .i64 n) ∧ w = w' := by
  refine calls_all fun K hK => ?_
  go_enter Tryd.func15, Tryd.ntmps15
  go_wp2
  all_goals exact ⟨rfl, rfl⟩
theorem second_code (w : World) : Calls Tryd.prog 48 #[] w fun e w' => e = .returned (.slice (some ⟨w.heap.size, 0, none⟩) 6 6) ∧ w' = w.alloc (.cells (secL.flatMap Ev.cells).toArray 27) := by
  refine calls_all fun K hK => ?_
  go_enter Tryd.func48, Tryd.ntmps48
  go_wp2
  all_goals exact ⟨rfl, rfl⟩
theorem sec_wide : wideL secL := by
  intro x hx
  simp only [secL, List.mem_cons, List.not_mem_nil, or_false] at hx
  rcases hx with rfl | rfl | rfl | rfl | rfl | rfl <;> exact ⟨by decide, by decide⟩
set_option maxHeartbeats 4000000 in
theorem known_code (w : World) (hP : PreE w) : Calls Tryd.prog 16 #[] w fun e w' => e = .returned (.bool true) ∧ Upd [] w w' := by
  have HP := Lib.hid hP
  clear hP
  refine calls_all fun K hK => ?_
  go_enter Tryd.func16, Tryd.ntmps16
  go_wp2_with fail
  refine (second_code _).mono ?_
  rintro e W1 ⟨rfl, h1⟩
  have HB1 := Lib.hid (show Blk W1 w.heap.size (secL.flatMap Ev.cells ++ []) 27 by rw [h1, List.append_nil]; exact Blk.new w _ _)
  have HU1 := Lib.hid (show Upd [] w W1 by rw [h1]; exact (Upd.refl _ _).alloc _)
  clear h1
  go_wp2_with fail
  refine (tries_code W1 (some ⟨w.heap.size, 0, none⟩) 6 secL (hist_of_blk HB1.out) (by decide) sec_wide).mono ?_
  rintro e W2 ⟨u2, v, rfl, ho, _⟩
  replace ho := (ho ek1).1
  rw [ek1b, show secT.length = 2 from rfl] at ho
  rw [ek1c]
  obtain ⟨g, c, rfl⟩ := own_some ho (by decide)
  obtain ⟨_, _, sp, hB⟩ := own_openN ho
  have HB2 := Lib.hid hB
  have HU2 := Lib.hid (HU1.out.trans u2)
  clear ho hB u2 HB1 HU1
  go_wp2_with fail
  have HO3 := Lib.hid (Blk.new W2 [.int .i64 (-1), .int .i64 0] 46)
  have HB3 := Lib.hid (HB2.out.alloc (.cells #[.int .i64 (-1), .int .i64 0] 46))
  have HU3 := Lib.hid (HU2.out.alloc (.cells #[.int .i64 (-1), .int .i64 0] 46))
  obtain ⟨ob, hob⟩ : ∃ b, W2.heap.size = b := ⟨_, rfl⟩
  obtain ⟨W3, hW3⟩ : ∃ W, W2.alloc (.cells #[.int .i64 (-1), .int .i64 0] 46) = W := ⟨_, rfl⟩
  rw [hW3] at HB3 HU3 ⊢
  rw [show W2.alloc (.cells [.int .i64 (-1), .int .i64 0].toArray 46) = W3 from hW3, hob] at HO3
  try rw [hob]
  clear hW3 HB2 HU2
  refine (second_code _).mono ?_
  rintro e W4 ⟨rfl, h4⟩
  obtain ⟨sb, hsb⟩ : ∃ b, W3.heap.size = b := ⟨_, rfl⟩
  rw [hsb]
  have HS4 := Lib.hid (show Blk W4 sb ([e0].flatMap Ev.cells ++ (secL.tail.flatMap Ev.cells)) 27 by rw [h4, ← hsb]; exact Blk.new W3 _ _)
  have u4 : Upd [] W3 W4 := by rw [h4]; exact (Upd.refl _ _).alloc _
  have HO4 := Lib.hid (HO3.out.upd u4 (by simp))
  have HB4 := Lib.hid (HB3.out.upd u4 (by simp))
  have HU4 := Lib.hid (HU3.out.trans u4)
  clear h4 hsb u4 HO3 HB3 HU3
  have HTX : Calls Tryd.prog 10 #[.slice (some ⟨sb, 0, none⟩) 1 6] W4 _ := text_code W4 (some ⟨sb, 0, none⟩) 6 [e0] (hist_of_blk HS4.out) (by decide) (fun x hx => sec_wide x (by simp at hx; subst hx; simp [secL])) (HP.out.upd HU4.out).tab
  rw [ek2] at HTX
  go_wp2_with fail
  refine HTX.mono ?_
  rintro e W5 ⟨rfl, u5⟩
  have HO5 := Lib.hid (HO4.out.upd u5 (by simp))
  have HB5 := Lib.hid (HB4.out.upd u5 (by simp))
  have HU5 := Lib.hid (HU4.out.trans u5)
  clear u5 HO4 HB4 HU4 HS4 HTX
  have HP5 := parse_code ⟨#[48, 32, 98, 101, 103, 105, 110, 32, 48, 10]⟩ (by decide) W5 (HP.out.upd HU5.out)
  rw [show readH (⟨#[48, 32, 98, 101, 103, 105, 110, 32, 48, 10]⟩ : ByteArray).data.toList.length (⟨#[48, 32, 98, 101, 103, 105, 110, 32, 48, 10]⟩ : ByteArray).data.toList = ([e0], true) from ek3] at HP5
  go_wp2_with fail
  refine HP5.mono ?_
  rintro e W6 ⟨u6, ⟨_, v6, rfl, ho6⟩ | ⟨h6, _⟩⟩
  case inr => cases h6
  have HO6 := Lib.hid (HO5.out.upd u6 (by simp))
  have HB6 := Lib.hid (HB5.out.upd u6 (by simp))
  have HU6 := Lib.hid (HU5.out.trans u6)
  rw [show ([e0] : List Ev).length = 1 from rfl] at ho6 ⊢
  obtain ⟨g6, c6, rfl⟩ := own_some ho6 (by decide)
  clear u6 ho6 HO5 HB5 HU5 HP5
  have HP6 := parse_code ⟨#[48, 32, 98, 101, 103, 105, 110, 32, 48, 48, 10]⟩ (by decide) W6 (HP.out.upd HU6.out)
  rw [show readH (⟨#[48, 32, 98, 101, 103, 105, 110, 32, 48, 48, 10]⟩ : ByteArray).data.toList.length (⟨#[48, 32, 98, 101, 103, 105, 110, 32, 48, 48, 10]⟩ : ByteArray).data.toList = ([], false) from ek4] at HP6
  go_wp2_with fail
  refine HP6.mono ?_
  rintro e W7 ⟨u7, ⟨h7, _⟩ | ⟨_, rfl⟩⟩
  case inl => cases h7
  have HO7 := Lib.hid (HO6.out.upd u7 (by simp))
  have HB7 := Lib.hid (HB6.out.upd u7 (by simp))
  have HU7 := Lib.hid (HU6.out.trans u7)
  rw [show ([] : List Ev).length = 0 from rfl]
  clear u7 HO6 HB6 HU6 HP6
  have o0 := HO7.out.cell 0 rfl
  have o1 := HO7.out.cell 1 rfl
  have t0 := HB7.out.cell 0 rfl
  have t1 := HB7.out.cell 1 rfl
  have t2 := HB7.out.cell 2 rfl
  have t3 := HB7.out.cell 3 rfl
  have t4 := HB7.out.cell 4 rfl
  have t5 := HB7.out.cell 5 rfl
  have t6 := HB7.out.cell 6 rfl
  have t7 := HB7.out.cell 7 rfl
  have t8 := HB7.out.cell 8 rfl
  have t9 := HB7.out.cell 9 rfl
  have t10 := HB7.out.cell 10 rfl
  have t11 := HB7.out.cell 11 rfl
  have t12 := HB7.out.cell 12 rfl
  have t13 := HB7.out.cell 13 rfl
  go_wp2_with fail
  refine (num_code 0 _).mono ?_
  rintro e W8 ⟨rfl, rfl⟩
  go_wp2_with fail
  refine (num_code 0 _).mono ?_
  rintro e W8 ⟨rfl, rfl⟩
  go_wp2_with fail
  refine (num_code 234 _).mono ?_
  rintro e W8 ⟨rfl, rfl⟩
  go_wp2_with fail
  exact ⟨rfl, HU7.out⟩
end Go.Proofs.YtfldpejifpmapaaDoor
set_option linter.unusedSimpArgs false
set_option linter.unusedVariables false
set_option maxRecDepth 100000
namespace Go.Proofs.YtfldpejifpmapaaDoor
open Go.RowKit
theorem dec_small {u : Nat} (h : u < 10) : Lib.decDigits u = [UInt8.ofNat (48 + u)] := Lib.decDigits_one h
theorem dec_big {u : Nat} (h : ¬ u < 10) : Lib.decDigits u = Lib.decDigits (u / 10) ++ [UInt8.ofNat (48 + u % 10)] := by rw [Lib.decDigits, dif_neg h]

theorem isDig_ofNat {d : Nat} (h : d < 10) : isDig (UInt8.ofNat (48 + d)) = true := by
  unfold isDig
  have : (UInt8.ofNat (48 + d)).toNat = 48 + d := by simp; omega
  rw [this]
  exact decide_eq_true (by omega)
theorem toNat_dig {d : Nat} (h : d < 10) : (UInt8.ofNat (48 + d)).toNat = 48 + d := by simp; omega

theorem dec_all (u : Nat) : (Lib.decDigits u).all isDig = true := by
  induction u using Nat.strongRecOn with
  | ind u ih =>
    by_cases h : u < 10
    · rw [dec_small h, List.all_cons, isDig_ofNat h]; rfl
    · rw [dec_big h, List.all_append, ih (u / 10) (by omega)]
      rw [List.all_cons, isDig_ofNat (Nat.mod_lt u (by omega))]; rfl
theorem dec_ne (u : Nat) : Lib.decDigits u ≠ [] := by
  by_cases h : u < 10
  · rw [dec_small h]; simp
  · rw [dec_big h]; simp
theorem parseM_snoc (M : Nat) : ∀ (l : List UInt8) (acc : Nat) (c : UInt8) (u : Nat), Lib.parseUintM M acc (l ++ [c]) = .ok u ↔ ∃ v, Lib.parseUintM M acc l = .ok v ∧ Lib.parseUintM M v [c] = .ok u
  | [], acc, c, u => by
    constructor
    · intro h; exact ⟨acc, rfl, h⟩
    · rintro ⟨v, h1, h2⟩; cases h1; exact h2
  | x :: l, acc, c, u => by
    rw [List.cons_append, Lib.parseUintM, Lib.parseUintM]
    split
    · split
      · simp
      · split
        · simp
        · exact parseM_snoc M l _ c u
    · simp

theorem parseM_one (v : Nat) (c : UInt8) (u : Nat) : Lib.parseUintM 18446744073709551615 v [c] = .ok u ↔ isDig c = true ∧ u = v * 10 + (c.toNat - 48) ∧ u ≤ 18446744073709551615 := by
  rw [Lib.parseUintM]
  unfold isDig
  split
  · rename_i hd
    rw [decide_eq_true hd]
    split
    · rename_i h1
      constructor
      · intro h; cases h
      · rintro ⟨_, rfl, h⟩; omega
    · split
      · rename_i h1 h2
        constructor
        · intro h; cases h
        · rintro ⟨_, rfl, h⟩; omega
      · rename_i h1 h2
        rw [Lib.parseUintM]
        constructor
        · intro h; cases h; exact ⟨rfl, rfl, by omega⟩
        · rintro ⟨_, rfl, h⟩; rfl
  · rename_i hd
    rw [decide_eq_false hd]
    constructor
    · intro h; cases h
    · rintro ⟨h, _⟩; cases h

theorem parseM_dec (u : Nat) (h : u ≤ 18446744073709551615) : Lib.parseUintM 18446744073709551615 0 (Lib.decDigits u) = .ok u := by
  induction u using Nat.strongRecOn with
  | ind u ih =>
    by_cases h1 : u < 10
    · rw [dec_small h1, parseM_one]
      exact ⟨isDig_ofNat h1, by rw [toNat_dig h1]; omega, h⟩
    · rw [dec_big h1, parseM_snoc]
      refine ⟨u / 10, ih (u / 10) (by omega) (by omega), ?_⟩
      rw [parseM_one]
      have hm := Nat.mod_lt u (show 10 > 0 by omega)
      exact ⟨isDig_ofNat hm, by rw [toNat_dig hm]; omega, h⟩

theorem parse_dec (u : Nat) (h : u < 18446744073709551616) : Lib.parseUintB 64 (Lib.decDigits u) = .ok u := by
  unfold Lib.parseUintB
  rw [if_neg (dec_ne u)]
  rw [show 2 ^ 64 - 1 = 18446744073709551615 from rfl, parseM_dec u (by omega)]
theorem take_all {p : UInt8 → Bool} : ∀ (a l : List UInt8), a.all p = true → (a ++ l).takeWhile p = a ++ l.takeWhile p ∧ (a ++ l).dropWhile p = l.dropWhile p
  | [], l, _ => ⟨rfl, rfl⟩
  | x :: a, l, h => by
    simp only [List.all_cons, Bool.and_eq_true] at h
    obtain ⟨h1, h2⟩ := take_all a l h.2
    rw [List.cons_append, List.takeWhile_cons, List.dropWhile_cons, h.1, if_pos rfl, if_pos rfl, h1, h2]
    exact ⟨rfl, rfl⟩
/-- a number, written ahead of what is no digit, is read -/
theorem number_dec (u : Nat) (h : u < 18446744073709551616) (l : List UInt8) (hl : l.takeWhile isDig = []) (hd : l.dropWhile isDig = l) : numberL (Lib.decDigits u ++ l) = (u, l, true) := by
  obtain ⟨h1, h2⟩ := take_all (Lib.decDigits u) l (dec_all u)
  unfold numberL
  rw [h1, h2, hl, hd, List.append_nil, parse_dec u h]
  rfl
theorem number_sp (u : Nat) (h : u < 18446744073709551616) (l : List UInt8) : numberL (Lib.decDigits u ++ 32 :: l) = (u, 32 :: l, true) := number_dec u h (32 :: l) rfl rfl
theorem number_end (u : Nat) (h : u < 18446744073709551616) : numberL (Lib.decDigits u) = (u, [], true) := by
  have := number_dec u h [] rfl rfl
  rwa [List.append_nil] at this
theorem cut_at (a r : List UInt8) (c : UInt8) (h : c ∉ a) : Lib.cut (a ++ c :: r) [c] = (a, r, true) := by
  have hi : Lib.index (a ++ c :: r) [c] = a.length := by
    refine Lib.index_first (by simp) ?_ fun j hj => ?_
    · unfold Lib.occAt
      rw [List.drop_left' rfl]
      simp [List.isPrefixOf]
    · unfold Lib.occAt
      rw [List.drop_append_of_le_length (by omega), List.drop_eq_getElem_cons hj]
      simp only [List.cons_append, List.isPrefixOf, Bool.and_true, beq_eq_false_iff_ne]
      exact fun e => h (by rw [e]; exact List.getElem_mem hj)
  unfold Lib.cut
  rw [hi, if_pos (by omega), Int.toNat_natCast, List.take_left' rfl]
  simp
theorem cut_no (a : List UInt8) (c : UInt8) (h : c ∉ a) : Lib.cut a [c] = (a, [], false) := by
  have hi : Lib.index a [c] = -1 := by
    refine Lib.index_none fun j hj => ?_
    unfold Lib.occAt
    rcases Nat.lt_or_ge j a.length with k | k
    · rw [List.drop_eq_getElem_cons k]
      simp only [List.isPrefixOf, Bool.and_true, beq_eq_false_iff_ne]
      exact fun e => h (by rw [e]; exact List.getElem_mem k)
    · rw [List.drop_eq_nil_of_le k]; rfl
  unfold Lib.cut
  rw [hi, if_neg (by decide)]
theorem trim_sp (l : List UInt8) : Lib.trimPrefix (32 :: l) [32] = l := by simp [Lib.trimPrefix, Lib.hasPrefix, List.isPrefixOf]
theorem trim_nil : Lib.trimPrefix [] [32] = [] := rfl
theorem words_one (n u : Nat) (h : u < 18446744073709551616) : wordsF (n + 1) (Lib.decDigits u) = some [u] := by
  rw [wordsF, if_neg (dec_ne u), number_end u h, if_pos rfl]
  dsimp only
  rw [trim_nil, wordsF_nil]
  rfl
theorem words_two (n u v : Nat) (h : u < 18446744073709551616) (k : v < 18446744073709551616) : wordsF (n + 2) (Lib.decDigits u ++ 32 :: Lib.decDigits v) = some [u, v] := by
  rw [wordsF, if_neg (by intro e; exact dec_ne u (List.append_eq_nil_iff.1 e).1), number_sp u h, if_pos rfl]
  dsimp only
  rw [trim_sp, words_one n v k]
  rfl
theorem names_sp : ∀ k, k < 13 → (32 : UInt8) ∉ nameBsE.getD k [] := by decide
theorem own_sp : (32 : UInt8) ∉ ([111, 119, 110] : List UInt8) := by decide
theorem names_kind : ∀ k, k < 13 → k ≠ 0 → nameBsE.getD k [] ≠ [111, 119, 110] := by decide
theorem kind_1 : kindL (nameBsE.getD 1 []) = 1 := by kernel_rfl
theorem kind_2 : kindL (nameBsE.getD 2 []) = 2 := by kernel_rfl
theorem kind_3 : kindL (nameBsE.getD 3 []) = 3 := by kernel_rfl
theorem kind_4 : kindL (nameBsE.getD 4 []) = 4 := by kernel_rfl
theorem kind_5 : kindL (nameBsE.getD 5 []) = 5 := by kernel_rfl
theorem kind_6 : kindL (nameBsE.getD 6 []) = 6 := by kernel_rfl
theorem kind_7 : kindL (nameBsE.getD 7 []) = 7 := by kernel_rfl
theorem kind_8 : kindL (nameBsE.getD 8 []) = 8 := by kernel_rfl
theorem kind_9 : kindL (nameBsE.getD 9 []) = 9 := by kernel_rfl
theorem kind_10 : kindL (nameBsE.getD 10 []) = 10 := by kernel_rfl
theorem kind_11 : kindL (nameBsE.getD 11 []) = 11 := by kernel_rfl
theorem kind_12 : kindL (nameBsE.getD 12 []) = 12 := by kernel_rfl
theorem kind_own : kindL [114, 101, 97, 100] = 2 := by kernel_rfl
theorem kind_name (k : Nat) (h1 : 1 ≤ k) (h2 : k ≤ 12) : kindL (nameBsE.getD k []) = (k : Int) := by
  have hc : k = 1 ∨ k = 2 ∨ k = 3 ∨ k = 4 ∨ k = 5 ∨ k = 6 ∨ k = 7 ∨ k = 8 ∨ k = 9 ∨ k = 10 ∨ k = 11 ∨ k = 12 := by omega
  rcases hc with rfl | rfl | rfl | rfl | rfl | rfl | rfl | rfl | rfl | rfl | rfl | rfl
  · exact kind_1
  · exact kind_2
  · exact kind_3
  · exact kind_4
  · exact kind_5
  · exact kind_6
  · exact kind_7
  · exact kind_8
  · exact kind_9
  · exact kind_10
  · exact kind_11
  · exact kind_12
/-- what stands behind the name, and its words -/
theorem tail_cut (nm : List UInt8) (e : Ev) (hn : (32 : UInt8) ∉ nm) : ∃ rs fd, Lib.cut (nm ++ tailE e) [32] = (nm, rs, fd) ∧ ((pairK e.kd = true ∧ rs = Lib.decDigits e.ad.toNat ++ 32 :: Lib.decDigits e.wd.toNat) ∨ (pairK e.kd = false ∧ singK e.kd = true ∧ rs = Lib.decDigits e.wd.toNat) ∨ (pairK e.kd = false ∧ singK e.kd = false ∧ e.kd = 9 ∧ rs = Lib.decDigits e.er.toNat) ∨ (pairK e.kd = false ∧ singK e.kd = false ∧ e.kd ≠ 9 ∧ rs = [])) := by
  unfold tailE
  cases hp : pairK e.kd with
  | true => exact ⟨_, _, by rw [if_pos rfl, List.cons_append]; exact cut_at _ _ _ hn, .inl ⟨rfl, rfl⟩⟩
  | false =>
    rw [if_neg (by decide)]
    cases hs : singK e.kd with
    | true => exact ⟨_, _, by rw [if_pos rfl]; exact cut_at _ _ _ hn, .inr (.inl ⟨rfl, rfl, rfl⟩)⟩
    | false =>
      rw [if_neg (by decide)]
      by_cases h9 : e.kd = 9
      · exact ⟨_, _, by rw [if_pos h9]; exact cut_at _ _ _ hn, .inr (.inr (.inl ⟨rfl, rfl, h9, rfl⟩))⟩
      · exact ⟨_, _, by rw [if_neg h9, List.append_nil]; exact cut_no _ _ hn, .inr (.inr (.inr ⟨rfl, rfl, h9, rfl⟩))⟩
theorem ev_eq {x e : Ev} (h1 : x.th = e.th) (h2 : x.kd = e.kd) (h3 : x.ad = e.ad) (h4 : x.wd = e.wd) (h5 : x.own = e.own) (h6 : x.er = e.er) : x = e := by
  cases x; cases e; simp_all
/-- what is written is read -/
theorem line_back (e : Ev) (hf : formE e = true) (hw : e.wide) : eventL (lineE e) = some e := by
  obtain ⟨f1, f2, f3, f4, f5, f6, f7⟩ := formE_c hf
  obtain ⟨w1, w2⟩ := hw
  have hth : e.th.toNat < 18446744073709551616 := by omega
  have hnum : numberL (lineE e) = (e.th.toNat, 32 :: (nameE e ++ tailE e), true) := by
    unfold lineE
    rw [List.append_assoc, List.cons_append]
    exact number_sp _ hth _
  have hns : (32 : UInt8) ∉ nameE e := by
    unfold nameE
    split
    · exact own_sp
    · exact names_sp _ (by omega)
  obtain ⟨rs, fd, hcut, hrs⟩ := tail_cut (nameE e) e hns
  unfold eventL
  rw [hnum]
  dsimp only
  rw [trim_sp, hcut, if_pos ⟨rfl, rfl, by omega⟩]
  dsimp only
  have hkind : decide (nameE e = [111, 119, 110]) = e.own ∧ kindL (if nameE e = [111, 119, 110] then [114, 101, 97, 100] else nameE e) = e.kd := by
    unfold nameE
    cases ho : e.own with
    | true =>
      rw [if_pos rfl, if_pos rfl]
      refine ⟨by decide, ?_⟩
      rw [kind_own]
      by_cases h2 : e.kd = 2
      · exact h2.symm
      · rw [f5 h2] at ho; cases ho
    | false =>
      rw [if_neg (by decide)]
      have hne := names_kind e.kd.toNat (by omega) (by omega)
      rw [if_neg hne]
      exact ⟨decide_eq_false hne, by rw [kind_name _ (by omega) (by omega)]; omega⟩
  rw [hkind.1, hkind.2]
  have hN : ∀ u, u < 18446744073709551616 → wordsF (Lib.decDigits u).length (Lib.decDigits u) = some [u] := fun u hu => by
    have : 0 < (Lib.decDigits u).length := List.length_pos_iff.2 (dec_ne u)
    obtain ⟨n, hn⟩ : ∃ n, (Lib.decDigits u).length = n + 1 := ⟨(Lib.decDigits u).length - 1, by omega⟩
    rw [hn, words_one n u hu]
  have hthc : ((e.th.toNat : Nat) : Int) = e.th := by omega
  rcases hrs with ⟨hp, rfl⟩ | ⟨hp, hs, rfl⟩ | ⟨hp, hs, h9, rfl⟩ | ⟨hp, hs, h9, rfl⟩
  · have hlen : ∃ n, (Lib.decDigits e.ad.toNat ++ 32 :: Lib.decDigits e.wd.toNat).length = n + 2 := by
      have h0 : 0 < (Lib.decDigits e.ad.toNat).length := List.length_pos_iff.2 (dec_ne _)
      exact ⟨(Lib.decDigits e.ad.toNat ++ 32 :: Lib.decDigits e.wd.toNat).length - 2, by rw [List.length_append, List.length_cons]; omega⟩
    obtain ⟨n, hn⟩ := hlen
    rw [hn, words_two n _ _ (by omega) (by omega)]
    have h9 : e.kd ≠ 9 := by intro q; rw [q] at hp; cases hp
    rw [if_neg h9] at f7
    exact congrArg some (ev_eq hthc rfl ((if_pos hp).trans (Int.toNat_of_nonneg w1.1)) ((if_pos hp).trans (Int.toNat_of_nonneg w2.1)) rfl ((if_neg h9).trans f7.symm))
  · have hE := hN e.wd.toNat (by omega)
    rw [hE]
    have h9 : e.kd ≠ 9 := by intro q; rw [q] at hs; cases hs
    rw [if_neg h9] at f7
    exact congrArg some (ev_eq hthc rfl ((if_neg (by rw [hp]; decide)).trans (f3 hp).symm) ((if_neg (by rw [hp]; decide)).trans ((if_pos hs).trans (Int.toNat_of_nonneg w2.1))) rfl ((if_neg h9).trans f7.symm))
  · rw [if_pos h9] at f7
    rw [hN _ (by omega)]
    have h3 : IntKind.i64.wrap ((e.er.toNat : Nat) : Int) = e.er := by rw [Int.toNat_of_nonneg (by omega), IntKind.wrap_i64]; omega
    exact congrArg some (ev_eq hthc rfl ((if_neg (by rw [hp]; decide)).trans (f3 hp).symm) ((if_neg (by rw [hp]; decide)).trans ((if_neg (by rw [hs]; decide)).trans (f4 hp hs).symm)) rfl ((if_pos h9).trans h3))
  · rw [show wordsF ([] : List UInt8).length [] = some [] from rfl]
    rw [if_neg h9] at f7
    exact congrArg some (ev_eq hthc rfl ((if_neg (by rw [hp]; decide)).trans (f3 hp).symm) ((if_neg (by rw [hp]; decide)).trans ((if_neg (by rw [hs]; decide)).trans (f4 hp hs).symm)) rfl ((if_neg h9).trans f7.symm))
theorem dec_no (u : Nat) : (10 : UInt8) ∉ Lib.decDigits u := fun h => by
  have := List.all_eq_true.1 (dec_all u) 10 h
  revert this
  decide
theorem names_no : ∀ k, k < 13 → (10 : UInt8) ∉ nameBsE.getD k [] := by decide
theorem line_no10 (e : Ev) (hf : formE e = true) : (10 : UInt8) ∉ lineE e := by
  obtain ⟨f1, f2, _⟩ := formE_c hf
  have h1 : (10 : UInt8) ∉ nameE e := by
    unfold nameE
    split
    · decide
    · exact names_no _ (by omega)
  have h2 : (10 : UInt8) ∉ tailE e := by
    unfold tailE
    split
    · simp [dec_no]
    · split
      · simp [dec_no]
      · split
        · simp [dec_no]
        · simp
  unfold lineE
  simp [dec_no, h1, h2]
theorem text_back : ∀ (l : List Ev) (n : Nat), l.all formE = true → wideL l → (textL l).length ≤ n → readH n (textL l) = (l, true)
  | [], n, _, _, _ => readH_nil n
  | e :: l, n, hf, hw, hn => by
    simp only [List.all_cons, Bool.and_eq_true] at hf
    have ht : textL (e :: l) = lineE e ++ 10 :: textL l := by unfold textL; simp
    rw [ht] at hn ⊢
    rw [List.length_append, List.length_cons] at hn
    obtain ⟨m, rfl⟩ : ∃ m, n = m + 1 := ⟨n - 1, by omega⟩
    have ih := text_back l m hf.2 (fun x hx => hw x (by simp [hx])) (by omega)
    rw [readH, if_neg (by simp), cut_at _ _ _ (line_no10 e hf.1)]
    have hb := line_back e hf.1 (hw e (by simp))
    have hlo : lineO e = (lineE e, 0) := by unfold lineO; rw [if_pos hf.1]
    have hk : lineOk (eventL (lineE e)) (lineE e) = true := by rw [hb]; unfold lineOk evO; rw [hlo]; simp
    rw [if_pos ⟨rfl, hk⟩]
    dsimp only
    rw [hb, ih]
    rfl
end Go.Proofs.YtfldpejifpmapaaDoor
set_option linter.unusedSimpArgs false
set_option linter.unusedVariables false
set_option maxRecDepth 100000
namespace Go.Proofs.YtfldpejifpmapaaDoor
open Go.RowKit
open Go.Maps
/-- an own row of events reads as these -/
theorem own_hist {w : World} {base : Nat} {v : Value} {l : List Ev} (h : w.ownsRow base 27 6 v l.length (l.flatMap Ev.cells)) : ∃ p c, v = .slice p l.length c ∧ HistAt w p l := by
  obtain ⟨p, c, rfl⟩ := own_form h
  refine ⟨p, c, rfl, ?_⟩
  cases l with
  | nil => intro i x hx; simp at hx
  | cons a l =>
    obtain ⟨g, c', e⟩ := own_some h (by simp)
    cases e
    obtain ⟨_, _, sp, hB⟩ := own_openN h
    exact hist_of_blk hB
set_option maxHeartbeats 4000000 in
theorem rsame_code (w : World) (p q : Option Addr) (c d : Nat) (l : List Ev) (hp : HistAt w p l) (hq : HistAt w q l) (hl : l.length ≤ 1000000000000) : Calls Tryd.prog 19 #[.slice p l.length c, .slice q l.length d] w fun e w' => e = .returned (.bool true) ∧ Upd [] w w' := by
  have HPP := Lib.hid hp
  have HQQ := Lib.hid hq
  clear hp hq
  refine calls_all fun K hK => ?_
  go_enter Tryd.func19, Tryd.ntmps19
  go_wp2_with fail
  go_loopw [5] (fun v5 wr => ∃ k : Nat, k ≤ l.length ∧ v5 = .int .i64 k ∧ Upd [] w wr) (fun v5 _ => l.length - (intOf v5).toNat)
  case atStart => exact ⟨0, by omega, rfl, Upd.refl _ _⟩
  case round =>
    obtain ⟨k, hk, rfl, hu⟩ := hrel
    have HU := Lib.hid hu
    clear hu
    by_cases hlt : k < l.length
    · have hlt' : (k : Int) < (l.length : Int) := by omega
      have hk0 : 0 ≤ (k : Int) := by omega
      obtain ⟨x, hx⟩ : ∃ x, l[k]? = some x := ⟨_, List.getElem?_eq_getElem hlt⟩
      obtain ⟨b, o, hpo, h0, h1, h2, h3, h4, h5⟩ := (HPP.out.upd0 HU.out) k x hx
      obtain ⟨b', o', hpo', g0, g1, g2, g3, g4, g5⟩ := (HQQ.out.upd0 HU.out) k x hx
      subst hpo
      subst hpo'
      clear hx
      obtain ⟨th, kd, ad, wd, own, er⟩ := x
      dsimp only at h0 h1 h2 h3 h4 h5 g0 g1 g2 g3 g4 g5
      go_wp2_with fail
      go_quiet (fail)
      go_wp2_with fail
      go_roundw
      case rel => exact ⟨k + 1, by omega, by go_num, HU.out.trans ((Upd.refl _ _).drewN _)⟩
      case measure => simp [intOf]; omega
    · obtain rfl : k = l.length := by omega
      go_wp2_with fail
      exact ⟨rfl, HU.out⟩
set_option maxHeartbeats 4000000 in
theorem equal_code (w : World) (p q : Option Addr) (c d : Nat) (l : List Ev) (hp : HistAt w p l) (hq : HistAt w q l) (hl : l.length ≤ 1000000000000) : Calls Tryd.prog 53 #[.slice p l.length c, .slice q l.length d] w fun e w' => e = .returned (.bool true) ∧ Upd [] w w' := by
  have HPP := Lib.hid hp
  have HQQ := Lib.hid hq
  clear hp hq
  refine calls_all fun K hK => ?_
  go_enter Tryd.func53, Tryd.ntmps53
  go_wp2_with fail
  go_loopw [13] (fun v13 wr => ∃ k : Nat, k ≤ l.length ∧ v13 = .int .i64 k ∧ Upd [] w wr) (fun v13 _ => l.length - (intOf v13).toNat)
  case atStart => exact ⟨0, by omega, rfl, Upd.refl _ _⟩
  case round =>
    obtain ⟨k, hk, rfl, hu⟩ := hrel
    have HU := Lib.hid hu
    clear hu
    by_cases hlt : k < l.length
    · have hlt' : (k : Int) < (l.length : Int) := by omega
      have hk0 : 0 ≤ (k : Int) := by omega
      obtain ⟨x, hx⟩ : ∃ x, l[k]? = some x := ⟨_, List.getElem?_eq_getElem hlt⟩
      obtain ⟨b, o, hpo, h0, h1, h2, h3, h4, h5⟩ := (HPP.out.upd0 HU.out) k x hx
      obtain ⟨b', o', hpo', g0, g1, g2, g3, g4, g5⟩ := (HQQ.out.upd0 HU.out) k x hx
      subst hpo
      subst hpo'
      clear hx
      obtain ⟨th, kd, ad, wd, own, er⟩ := x
      dsimp only at h0 h1 h2 h3 h4 h5 g0 g1 g2 g3 g4 g5
      go_wp2_with fail
      go_quiet (fail)
      go_wp2_with fail
      go_roundw
      case rel => exact ⟨k + 1, by omega, by go_num, HU.out.trans ((Upd.refl _ _).drewN _)⟩
      case measure => simp [intOf]; omega
    · obtain rfl : k = l.length := by omega
      go_wp2_with fail
      exact ⟨rfl, HU.out⟩
theorem esame_code (w : World) (p q : Option Addr) (c d : Nat) (l : List Ev) (hp : HistAt w p l) (hq : HistAt w q l) (hl : l.length ≤ 1000000000000) : Calls Tryd.prog 23 #[.slice p l.length c, .slice q l.length d] w fun e w' => e = .returned (.bool true) ∧ Upd [] w w' := by
  refine calls_all fun K hK => ?_
  go_enter Tryd.func23, Tryd.ntmps23
  go_wp2_with fail
  refine (equal_code w p q c d l hp hq hl).mono ?_
  rintro e w' ⟨rfl, u⟩
  go_wp2_with fail
  exact ⟨rfl, u⟩
end Go.Proofs.YtfldpejifpmapaaDoor
set_option linter.unusedSimpArgs false
set_option linter.unusedVariables false
set_option maxRecDepth 100000
namespace Go.Proofs.YtfldpejifpmapaaDoor
open Go.RowKit
/-- what stands between single blanks -/
def con1 (c : UInt8) : List (List UInt8) → List (List UInt8)
  | [] => [[c]]
  | h :: t => (c :: h) :: t
def spl : List UInt8 → List (List UInt8)
  | [] => [[]]
  | c :: l => if c = 32 then [] :: spl l else con1 c (spl l)
theorem spl_ne : ∀ l, ∃ h t, spl l = h :: t
  | [] => ⟨[], [], rfl⟩
  | c :: l => by
    obtain ⟨h, t, e⟩ := spl_ne l
    rw [spl, e]
    split
    · exact ⟨_, _, rfl⟩
    · exact ⟨_, _, rfl⟩
theorem spl_none : ∀ a : List UInt8, (32 : UInt8) ∉ a → spl a = [a]
  | [], _ => rfl
  | c :: a, h => by
    simp only [List.mem_cons, not_or] at h
    rw [spl, if_neg (fun e => h.1 e.symm), spl_none a h.2]
    rfl
theorem spl_at : ∀ (a r : List UInt8), (32 : UInt8) ∉ a → spl (a ++ 32 :: r) = a :: spl r
  | [], r, _ => by rw [List.nil_append, spl, if_pos rfl]
  | c :: a, r, h => by
    simp only [List.mem_cons, not_or] at h
    rw [List.cons_append, spl, if_neg (fun e => h.1 e.symm), spl_at a r h.2]
    rfl
/-- the number that a text says -/
def rnumL (l : List UInt8) : Nat := (numEnd (Lib.parseUintB 64 l)).1
theorem rnum_dec (u : Nat) (h : u < 18446744073709551616) : rnumL (Lib.decDigits u) = u := by
  unfold rnumL
  rw [parse_dec u h]
  rfl
theorem parseM_lt (M : Nat) : ∀ (l : List UInt8) (acc u : Nat), acc ≤ M → Lib.parseUintM M acc l = .ok u → u ≤ M
  | [], acc, u, h, e => by cases e; exact h
  | c :: l, acc, u, h, e => by
    rw [Lib.parseUintM] at e
    split at e
    · split at e
      · cases e
      · split at e
        · cases e
        · exact parseM_lt M l _ u (by omega) e
    · cases e
theorem rnum_lt (l : List UInt8) : rnumL l < 18446744073709551616 := by
  unfold rnumL Lib.parseUintB
  split
  · simp [numEnd]
  · have := parseM_lt (2 ^ 64 - 1) l 0
    generalize Lib.parseUintM (2 ^ 64 - 1) 0 l = x at this ⊢
    rcases x with u | _ | _
    · have := this u (by omega) rfl
      simp only [numEnd]
      omega
    · simp [numEnd]
    · simp [numEnd]
/-- the event that the reference tries of a line's words -/
def candE (ws : List (List UInt8)) (k : Nat) (own : Bool) : Ev :=
  ⟨((rnumL (ws.getD 0 []) % 1000 : Nat) : Int), (k : Int), if ws.length = 4 then ((rnumL (ws.getD 2 []) : Nat) : Int) else 0,
   if ws.length = 4 then ((rnumL (ws.getD 3 []) : Nat) : Int) else if ws.length = 3 ∧ k ≠ 9 then ((rnumL (ws.getD 2 []) : Nat) : Int) else 0, own,
   if ws.length = 3 ∧ k = 9 then ((rnumL (ws.getD 2 []) % 100000 : Nat) : Int) else 0⟩
theorem cand_wide (ws : List (List UInt8)) (k : Nat) (own : Bool) : (candE ws k own).wide := by
  have h2 := rnum_lt (ws.getD 2 [])
  have h3 := rnum_lt (ws.getD 3 [])
  constructor
  · unfold candE; dsimp only
    split <;> omega
  · unfold candE; dsimp only
    split
    · omega
    · split <;> omega
theorem dec_sp (u : Nat) : (32 : UInt8) ∉ Lib.decDigits u := fun h => by
  have := List.all_eq_true.1 (dec_all u) 32 h
  revert this
  decide
theorem name_sp (e : Ev) (hf : formE e = true) : (32 : UInt8) ∉ nameE e := by
  obtain ⟨f1, f2, _⟩ := formE_c hf
  unfold nameE
  split
  · exact own_sp
  · exact names_sp _ (by omega)
/-- a line's words -/
theorem line_words (e : Ev) (hf : formE e = true) : spl (lineE e) = Lib.decDigits e.th.toNat :: nameE e :: (if pairK e.kd = true then [Lib.decDigits e.ad.toNat, Lib.decDigits e.wd.toNat] else if singK e.kd = true then [Lib.decDigits e.wd.toNat] else if e.kd = 9 then [Lib.decDigits e.er.toNat] else []) := by
  have hn := name_sp e hf
  unfold lineE
  rw [List.append_assoc, List.cons_append, spl_at _ _ (dec_sp _)]
  unfold tailE
  congr 1
  split
  · rw [List.cons_append, spl_at _ _ hn, spl_at _ _ (dec_sp _), spl_none _ (dec_sp _)]
  · split
    · rw [spl_at _ _ hn, spl_none _ (dec_sp _)]
    · split
      · rw [spl_at _ _ hn, spl_none _ (dec_sp _)]
      · rw [List.append_nil, spl_none _ hn]
theorem cand2 (a b : List UInt8) (k : Nat) (own : Bool) : candE [a, b] k own = ⟨((rnumL a % 1000 : Nat) : Int), k, 0, 0, own, 0⟩ := by unfold candE; simp
theorem cand3 (a b c : List UInt8) (k : Nat) (own : Bool) : candE [a, b, c] k own = ⟨((rnumL a % 1000 : Nat) : Int), k, 0, if k ≠ 9 then ((rnumL c : Nat) : Int) else 0, own, if k = 9 then ((rnumL c % 100000 : Nat) : Int) else 0⟩ := by unfold candE; simp
theorem cand4 (a b c d : List UInt8) (k : Nat) (own : Bool) : candE [a, b, c, d] k own = ⟨((rnumL a % 1000 : Nat) : Int), k, ((rnumL c : Nat) : Int), ((rnumL d : Nat) : Int), own, 0⟩ := by unfold candE; simp
theorem cand_of (e : Ev) (hf : formE e = true) (hw : e.wide) : candE (spl (lineE e)) e.kd.toNat e.own = e ∧ 2 ≤ (spl (lineE e)).length ∧ (spl (lineE e)).length ≤ 4 := by
  obtain ⟨f1, f2, f3, f4, f5, f6, f7⟩ := formE_c hf
  obtain ⟨w1, w2⟩ := hw
  have hL := line_words e hf
  have ht : ((rnumL (Lib.decDigits e.th.toNat) % 1000 : Nat) : Int) = e.th := by rw [rnum_dec _ (by omega)]; omega
  have ha : ((rnumL (Lib.decDigits e.ad.toNat) : Nat) : Int) = e.ad := by rw [rnum_dec _ (by omega)]; omega
  have hd : ((rnumL (Lib.decDigits e.wd.toNat) : Nat) : Int) = e.wd := by rw [rnum_dec _ (by omega)]; omega
  have hk : ((e.kd.toNat : Nat) : Int) = e.kd := by omega
  cases hp : pairK e.kd with
  | true =>
    have h9 : e.kd ≠ 9 := by intro q; rw [q] at hp; cases hp
    rw [if_neg h9] at f7
    rw [if_pos hp] at hL
    rw [hL, cand4]
    exact ⟨ev_eq ht hk ha hd rfl f7.symm, by simp, by simp⟩
  | false =>
    rw [if_neg (by rw [hp]; decide)] at hL
    cases hs : singK e.kd with
    | true =>
      have h9 : e.kd ≠ 9 := by intro q; rw [q] at hs; cases hs
      have h9' : e.kd.toNat ≠ 9 := by omega
      rw [if_neg h9] at f7
      rw [if_pos hs] at hL
      rw [hL, cand3, if_pos h9', if_neg h9']
      exact ⟨ev_eq ht hk (f3 hp).symm hd rfl f7.symm, by simp, by simp⟩
    | false =>
      rw [if_neg (by rw [hs]; decide)] at hL
      by_cases h9 : e.kd = 9
      · have h9' : e.kd.toNat = 9 := by omega
        rw [if_pos h9] at f7 hL
        have he : ((rnumL (Lib.decDigits e.er.toNat) % 100000 : Nat) : Int) = e.er := by rw [rnum_dec _ (by omega)]; omega
        rw [hL, cand3, if_neg (fun q => q h9'), if_pos h9']
        exact ⟨ev_eq ht hk (f3 hp).symm (f4 hp hs).symm rfl he, by simp, by simp⟩
      · rw [if_neg h9] at f7 hL
        rw [hL, cand2]
        exact ⟨ev_eq ht hk (f3 hp).symm (f4 hp hs).symm rfl f7.symm, by simp, by simp⟩
/-- what the program accepts is what the reference tries -/
theorem line_acc {s : List UInt8} (h : lineOk (eventL s) s = true) : ∃ x, eventL s = some x ∧ formE x = true ∧ x.wide ∧ lineE x = s := by
  have hw := ev_wide s
  unfold lineOk at h
  simp only [Bool.and_eq_true, decide_eq_true_eq] at h
  obtain ⟨h1, h2, h3⟩ := h
  obtain ⟨x, hx⟩ := Option.isSome_iff_exists.1 h1
  rw [hx] at h2 h3 hw
  refine ⟨x, hx, ?_, hw, ?_⟩
  · cases hf : formE x with
    | true => rfl
    | false => unfold evO lineO at h2; rw [hf] at h2; simp at h2
  · unfold evO lineO at h2 h3
    dsimp only [Option.getD_some] at h2 h3
    split at h2
    · rename_i hf; rw [if_pos hf] at h3; exact h3
    · simp at h2
/-- what the reference finds is what the program reads -/
theorem line_found {s : List UInt8} {e : Ev} (hf : formE e = true) (hw : e.wide) (h : lineE e = s) : lineOk (eventL s) s = true ∧ evO (eventL s) = e := by
  have hb := line_back e hf hw
  rw [h] at hb
  rw [hb]
  refine ⟨?_, rfl⟩
  unfold lineOk evO lineO
  simp only [Option.isSome_some, Option.getD_some, Bool.true_and]
  rw [if_pos hf]
  simp [h]
/-- does a candidate have the line? -/
def tryL (s : List UInt8) (k : Nat) (own : Bool) : Bool := formE (candE (spl s) k own) && decide (lineE (candE (spl s) k own) = s)
theorem try_yes {s : List UInt8} {k : Nat} {own : Bool} (h : tryL s k own = true) : lineOk (eventL s) s = true ∧ evO (eventL s) = candE (spl s) k own := by
  unfold tryL at h
  rw [Bool.and_eq_true, decide_eq_true_eq] at h
  exact line_found h.1 (cand_wide _ _ _) h.2
theorem try_none {s : List UInt8} (h : ∀ k own, 1 ≤ k → k ≤ 12 → tryL s k own = false) : lineOk (eventL s) s = false := by
  cases hc : lineOk (eventL s) s with
  | false => rfl
  | true =>
    obtain ⟨x, hx, hf, hw, hl⟩ := line_acc hc
    obtain ⟨f1, f2, _⟩ := formE_c hf
    have := h x.kd.toNat x.own (by omega) (by omega)
    unfold tryL at this
    have hcd := (cand_of x hf hw).1
    rw [hl] at hcd
    rw [hcd, hf, hl] at this
    simp at this
theorem try_short {s : List UInt8} (h : (spl s).length < 2 ∨ 4 < (spl s).length) : lineOk (eventL s) s = false := by
  cases hc : lineOk (eventL s) s with
  | false => rfl
  | true =>
    obtain ⟨x, hx, hf, hw, hl⟩ := line_acc hc
    have hcd := (cand_of x hf hw).2
    rw [hl] at hcd
    omega
/-- the reference's reader: what is read, the line begun, what is left -/
def refP : List Ev → List UInt8 → List UInt8 → List Ev × Bool
  | out, line, [] => (out, decide (line = []))
  | out, line, c :: r => if c = 10 then (if lineOk (eventL line) line = true then refP (out ++ [evO (eventL line)]) [] r else (out, false)) else refP out (line ++ [c]) r
theorem ref_read : ∀ (r line : List UInt8) (out : List Ev) (n : Nat), (10 : UInt8) ∉ line → line.length + r.length ≤ n → refP out line r = (out ++ (readH n (line ++ r)).1, (readH n (line ++ r)).2)
  | [], line, out, n, hl, hn => by
    rw [refP, List.append_nil]
    cases line with
    | nil => rw [readH_nil]; simp
    | cons c line =>
      obtain ⟨m, rfl⟩ : ∃ m, n = m + 1 := ⟨n - 1, by simp only [List.length_cons] at hn; omega⟩
      rw [readH, if_neg (by simp), cut_no _ _ hl, if_neg (fun q => by cases q.1)]
      simp
  | c :: r, line, out, n, hl, hn => by
    rw [refP]
    simp only [List.length_cons] at hn
    split
    · rename_i hc
      subst hc
      obtain ⟨m, rfl⟩ : ∃ m, n = m + 1 := ⟨n - 1, by omega⟩
      by_cases hk : lineOk (eventL line) line = true
      · rw [if_pos hk, readH, if_neg (by simp), cut_at _ _ _ hl, if_pos ⟨rfl, hk⟩, ref_read r [] _ m (by simp) (by simp; omega), List.nil_append]
        simp
      · rw [if_neg hk, readH, if_neg (by simp), cut_at _ _ _ hl, if_neg (fun q => hk q.2)]
        simp
    · rename_i hc
      rw [ref_read r (line ++ [c]) out n (by simp [hl]; exact fun e => hc e.symm) (by rw [List.length_append, List.length_singleton]; omega), List.append_assoc, List.singleton_append]
theorem cut_join {l : List UInt8} (h : (Lib.cut l [10]).2.2 = true) : (Lib.cut l [10]).1 ++ 10 :: (Lib.cut l [10]).2.1 = l := by
  by_cases hm : (10 : UInt8) ∈ l
  · obtain ⟨a, r, rfl, ha⟩ := List.eq_append_cons_of_mem hm
    rw [cut_at _ _ _ ha]
  · rw [cut_no _ _ hm] at h
    cases h
theorem read_wide : ∀ (n : Nat) (l : List UInt8), wideL (readH n l).1
  | 0, l => by rw [readH]; intro x hx; cases hx
  | n + 1, l => by
    rw [readH]
    split
    · intro x hx; cases hx
    · split
      · intro x hx
        rcases List.mem_cons.1 hx with rfl | hx
        · exact ev_wide _
        · exact read_wide n _ x hx
      · intro x hx; cases hx
/-- what is read whole is written as the text -/
theorem read_text : ∀ (n : Nat) (l : List UInt8), (readH n l).2 = true → (readH n l).1.all formE = true ∧ textL (readH n l).1 = l
  | 0, l, h => by
    rw [readH] at h ⊢
    have : l = [] := of_decide_eq_true h
    subst this
    exact ⟨rfl, rfl⟩
  | n + 1, l, h => by
    rw [readH] at h ⊢
    split at h
    · rename_i hl
      subst hl
      rw [if_pos rfl]
      exact ⟨rfl, rfl⟩
    · rename_i hl
      rw [if_neg hl]
      split at h
      · rename_i hk
        rw [if_pos hk]
        obtain ⟨x, hx, hf, hw, hle⟩ := line_acc hk.2
        obtain ⟨i1, i2⟩ := read_text n _ h
        have hcut := cut_join hk.1
        dsimp only
        rw [hx]
        refine ⟨?_, ?_⟩
        · rw [List.all_cons, i1]; exact Bool.and_eq_true_iff.2 ⟨hf, rfl⟩
        · show textL (x :: _) = l
          have : ∀ t, textL (x :: t) = lineE x ++ 10 :: textL t := fun t => by unfold textL; simp
          rw [this, i2, hle]
          exact hcut
      · cases h
end Go.Proofs.YtfldpejifpmapaaDoor
set_option linter.unusedSimpArgs false
set_option linter.unusedVariables false
set_option maxRecDepth 100000
namespace Go.Proofs.YtfldpejifpmapaaDoor
open Go.RowKit
theorem rpair_code (k : Int) (w : World) : Calls Tryd.prog 45 #[.int .i64 k] w fun e w' => e = .returned (.bool (pairK k)) ∧ w = w' := by
  unfold pairK
  generalize h2 : (k == 2) = b2
  generalize h3 : (k == 3) = b3
  generalize h10 : (k == 10) = b10
  generalize h11 : (k == 11) = b11
  refine calls_all fun K hK => ?_
  go_enter Tryd.func45, Tryd.ntmps45
  cases b2
  · cases b3
    · cases b10
      · go_wp2
        all_goals exact ⟨rfl, rfl⟩
      · go_wp2
        all_goals exact ⟨rfl, rfl⟩
    · go_wp2
      all_goals exact ⟨rfl, rfl⟩
  · go_wp2
    all_goals exact ⟨rfl, rfl⟩
theorem rsingle_code (k : Int) (w : World) : Calls Tryd.prog 47 #[.int .i64 k] w fun e w' => e = .returned (.bool (singK k)) ∧ w = w' := by
  unfold singK
  generalize h2 : (k == 1) = b2
  generalize h3 : (k == 4) = b3
  generalize h10 : (k == 6) = b10
  refine calls_all fun K hK => ?_
  go_enter Tryd.func47, Tryd.ntmps47
  cases b2
  · cases b3
    · go_wp2
      all_goals exact ⟨rfl, rfl⟩
    · go_wp2
      all_goals exact ⟨rfl, rfl⟩
  · go_wp2
    all_goals exact ⟨rfl, rfl⟩
theorem form_bool (th kd ad wd : Int) (own : Bool) (er : Int) : formE ⟨th, kd, ad, wd, own, er⟩ =
    (if (decide (th < 0) || decide (8 ≤ th) || decide (kd < 1) || decide (12 < kd)) = true then false
     else if (!pairK kd && (ad != 0) || !pairK kd && !singK kd && (wd != 0) || (kd != 2) && own) = true then false
     else if ((kd == 1 || kd == 4) && (wd % 2 != 0)) = true then false
     else if (kd == 9) = true then (er == 4 || er == 5 || er == 6) else er == 0) := by
  unfold formE
  by_cases h : formC ⟨th, kd, ad, wd, own, er⟩
  · rw [decide_eq_true h]
    obtain ⟨h1, h2, h3, h4, h5, h6, h7⟩ := h
    dsimp only at h1 h2 h3 h4 h5 h6 h7
    symm
    rw [if_neg (by simp only [Bool.or_eq_true, decide_eq_true_eq]; omega)]
    rw [if_neg (by
      simp only [Bool.or_eq_true, Bool.and_eq_true, Bool.not_eq_true', bne_iff_ne, ne_eq]
      rintro ((⟨a, b⟩ | ⟨⟨a, b⟩, c⟩) | ⟨a, b⟩)
      · exact b (h3 a)
      · exact c (h4 a b)
      · have := h5 a; rw [b] at this; cases this)]
    rw [if_neg (by
      simp only [Bool.and_eq_true, Bool.or_eq_true, beq_iff_eq, bne_iff_ne, ne_eq]
      rintro ⟨a, b⟩
      exact b (h6 a))]
    split
    · rename_i h9
      rw [if_pos (by simpa using h9)] at h7
      simp only [Bool.or_eq_true, beq_iff_eq]
      omega
    · rename_i h9
      rw [if_neg (by simpa using h9)] at h7
      simpa using h7
  · rw [decide_eq_false h]
    symm
    split
    · rfl
    · rename_i c1
      split
      · rfl
      · rename_i c2
        split
        · rfl
        · rename_i c3
          simp only [Bool.or_eq_true, decide_eq_true_eq] at c1
          simp only [Bool.or_eq_true, Bool.and_eq_true, Bool.not_eq_true', bne_iff_ne, ne_eq, not_or, not_and] at c2
          simp only [Bool.and_eq_true, Bool.or_eq_true, beq_iff_eq, bne_iff_ne, ne_eq, not_and] at c3
          have key : ¬ (if kd = 9 then 4 ≤ er ∧ er ≤ 6 else er = 0) := fun h7 => h ⟨⟨by show 0 ≤ th; omega, by show th < 8; omega⟩, ⟨by show 1 ≤ kd; omega, by show kd ≤ 12; omega⟩, fun a => Classical.byContradiction (c2.1.1 a), fun a b => Classical.byContradiction (c2.1.2 ⟨a, b⟩), fun a => by have := c2.2 a; simpa using this, fun a => by have := c3 a; rcases a with rfl | rfl <;> simpa using this, h7⟩
          split
          · rename_i h9
            rw [if_pos (by simpa using h9)] at key
            simp only [Bool.or_eq_false_iff, beq_eq_false_iff_ne]
            omega
          · rename_i h9
            rw [if_neg (by simpa using h9)] at key
            simpa using key
-- a way's end
set_option maxHeartbeats 8000000 in
theorem rformed_code (e : Ev) (w : World) : Calls Tryd.prog 43 #[e.val] w fun r w' => r = .returned (.bool (formE e)) ∧ Upd [] w w' := by
  obtain ⟨th, kd, ad, wd, own, er⟩ := e
  have hF := form_bool th kd ad wd own er
  simp only [Ev.val]
  generalize formE ⟨th, kd, ad, wd, own, er⟩ = F at hF ⊢
  have HPR := Lib.hid (fun w => rpair_code kd w)
  have HSR := Lib.hid (fun w => rsingle_code kd w)
  generalize pairK kd = p at hF HPR
  generalize singK kd = s at hF HSR
  generalize t0 : decide (th < 0) = b0 at hF
  generalize t8 : decide (8 ≤ th) = b8 at hF
  generalize k0 : decide (kd < 1) = c0 at hF
  generalize k12 : decide (12 < kd) = c12 at hF
  generalize an : (ad != 0) = a0 at hF
  generalize wn : (wd != 0) = w0 at hF
  generalize k2 : (kd != 2) = c2 at hF
  generalize k1 : (kd == 1) = c1 at hF
  generalize k4 : (kd == 4) = c4 at hF
  generalize wm : (wd % 2 != 0) = w2 at hF
  have wm2 : (wd.tmod 2 != 0) = w2 := by
    rw [← wm, Bool.eq_iff_iff, bne_iff_ne, bne_iff_ne, ne_eq, ne_eq, ← Int.dvd_iff_tmod_eq_zero, Int.dvd_iff_emod_eq_zero]
  clear wm
  generalize k9 : (kd == 9) = c9 at hF
  generalize e4 : (er == 4) = d4 at hF
  generalize e5 : (er == 5) = d5 at hF
  generalize e6 : (er == 6) = d6 at hF
  generalize e0 : (er == 0) = d0 at hF
  have HF := Lib.hid hF
  clear hF
  refine calls_all fun K hK => ?_
  go_enter Tryd.func43, Tryd.ntmps43
  cases b0
  case true =>
    go_wp2_with (first | (go_at_call 45; refine (HPR.out _).mono ?_; rintro e W2 ⟨rfl, rfl⟩) | (go_at_call 47; refine (HSR.out _).mono ?_; rintro e W2 ⟨rfl, rfl⟩))
    all_goals exact ⟨by rw [HF.out]; rfl, (Upd.refl _ _).alloc _⟩
  cases b8
  case true =>
    go_wp2_with (first | (go_at_call 45; refine (HPR.out _).mono ?_; rintro e W2 ⟨rfl, rfl⟩) | (go_at_call 47; refine (HSR.out _).mono ?_; rintro e W2 ⟨rfl, rfl⟩))
    all_goals exact ⟨by rw [HF.out]; rfl, (Upd.refl _ _).alloc _⟩
  cases c0
  case true =>
    go_wp2_with (first | (go_at_call 45; refine (HPR.out _).mono ?_; rintro e W2 ⟨rfl, rfl⟩) | (go_at_call 47; refine (HSR.out _).mono ?_; rintro e W2 ⟨rfl, rfl⟩))
    all_goals exact ⟨by rw [HF.out]; rfl, (Upd.refl _ _).alloc _⟩
  cases c12
  case true =>
    go_wp2_with (first | (go_at_call 45; refine (HPR.out _).mono ?_; rintro e W2 ⟨rfl, rfl⟩) | (go_at_call 47; refine (HSR.out _).mono ?_; rintro e W2 ⟨rfl, rfl⟩))
    all_goals exact ⟨by rw [HF.out]; rfl, (Upd.refl _ _).alloc _⟩
  go_upto_region 3 with fail
  obtain ⟨W1, hW1⟩ : ∃ W, w.alloc (.cells #[.int .i64 th, .int .i64 kd, .int .u64 ad, .int .u64 wd, .bool own, .int .i64 er] 27) = W := ⟨_, rfl⟩
  have HB := Lib.hid (show Blk W1 w.heap.size [.int .i64 th, .int .i64 kd, .int .u64 ad, .int .u64 wd, .bool own, .int .i64 er] 27 by rw [← hW1]; exact Blk.new w _ _)
  have HU := Lib.hid (show Upd [] w W1 by rw [← hW1]; exact (Upd.refl _ _).alloc _)
  rw [hW1]
  clear hW1
  have m0 := HB.out.cell 0 rfl
  have m1 := HB.out.cell 1 rfl
  have m2 := HB.out.cell 2 rfl
  have m3 := HB.out.cell 3 rfl
  have m4 := HB.out.cell 4 rfl
  have m5 := HB.out.cell 5 rfl
  have HF1 := Lib.hid (show F = _ from HF.out.trans (if_neg (by decide)))
  clear HF
  go_cut [55] from 21 to 55 (fun v55 wx => v55 = .bool (!p && a0 || !p && !s && w0 || c2 && own) ∧ wx = W1)
  case first =>
    cases p
    case false =>
      cases a0
      case true =>
        go_wp2_with (first | (go_at_call 45; refine (HPR.out _).mono ?_; rintro e W2 ⟨rfl, rfl⟩) | (go_at_call 47; refine (HSR.out _).mono ?_; rintro e W2 ⟨rfl, rfl⟩))
        go_meet
        exact ⟨rfl, rfl⟩
      cases s
      case false =>
        cases w0
        case true =>
          go_wp2_with (first | (go_at_call 45; refine (HPR.out _).mono ?_; rintro e W2 ⟨rfl, rfl⟩) | (go_at_call 47; refine (HSR.out _).mono ?_; rintro e W2 ⟨rfl, rfl⟩))
          go_meet
          exact ⟨rfl, rfl⟩
        cases c2
        case false =>
          go_wp2_with (first | (go_at_call 45; refine (HPR.out _).mono ?_; rintro e W2 ⟨rfl, rfl⟩) | (go_at_call 47; refine (HSR.out _).mono ?_; rintro e W2 ⟨rfl, rfl⟩))
          go_meet
          exact ⟨rfl, rfl⟩
        case true =>
          cases own
          case false =>
            go_wp2_with (first | (go_at_call 45; refine (HPR.out _).mono ?_; rintro e W2 ⟨rfl, rfl⟩) | (go_at_call 47; refine (HSR.out _).mono ?_; rintro e W2 ⟨rfl, rfl⟩))
            go_meet
            exact ⟨rfl, rfl⟩
          case true =>
            go_wp2_with (first | (go_at_call 45; refine (HPR.out _).mono ?_; rintro e W2 ⟨rfl, rfl⟩) | (go_at_call 47; refine (HSR.out _).mono ?_; rintro e W2 ⟨rfl, rfl⟩))
            go_meet
            exact ⟨rfl, rfl⟩
      case true =>
        cases c2
        case false =>
          go_wp2_with (first | (go_at_call 45; refine (HPR.out _).mono ?_; rintro e W2 ⟨rfl, rfl⟩) | (go_at_call 47; refine (HSR.out _).mono ?_; rintro e W2 ⟨rfl, rfl⟩))
          go_meet
          exact ⟨rfl, rfl⟩
        case true =>
          cases own
          case false =>
            go_wp2_with (first | (go_at_call 45; refine (HPR.out _).mono ?_; rintro e W2 ⟨rfl, rfl⟩) | (go_at_call 47; refine (HSR.out _).mono ?_; rintro e W2 ⟨rfl, rfl⟩))
            go_meet
            exact ⟨rfl, rfl⟩
          case true =>
            go_wp2_with (first | (go_at_call 45; refine (HPR.out _).mono ?_; rintro e W2 ⟨rfl, rfl⟩) | (go_at_call 47; refine (HSR.out _).mono ?_; rintro e W2 ⟨rfl, rfl⟩))
            go_meet
            exact ⟨rfl, rfl⟩
    case true =>
      cases c2
      case false =>
        go_wp2_with (first | (go_at_call 45; refine (HPR.out _).mono ?_; rintro e W2 ⟨rfl, rfl⟩) | (go_at_call 47; refine (HSR.out _).mono ?_; rintro e W2 ⟨rfl, rfl⟩))
        go_meet
        exact ⟨rfl, rfl⟩
      case true =>
        cases own
        case false =>
          go_wp2_with (first | (go_at_call 45; refine (HPR.out _).mono ?_; rintro e W2 ⟨rfl, rfl⟩) | (go_at_call 47; refine (HSR.out _).mono ?_; rintro e W2 ⟨rfl, rfl⟩))
          go_meet
          exact ⟨rfl, rfl⟩
        case true =>
          go_wp2_with (first | (go_at_call 45; refine (HPR.out _).mono ?_; rintro e W2 ⟨rfl, rfl⟩) | (go_at_call 47; refine (HSR.out _).mono ?_; rintro e W2 ⟨rfl, rfl⟩))
          go_meet
          exact ⟨rfl, rfl⟩
  case rest =>
    obtain ⟨rfl, rfl⟩ := hcut
    obtain ⟨W1, rfl⟩ : ∃ W, W = wc := ⟨wc, rfl⟩
    cases hf1 : (!p && a0 || !p && !s && w0 || c2 && own)
    case true =>
      have HF2 := Lib.hid (show F = false from HF1.out.trans (if_pos hf1))
      go_wp2_with fail
      all_goals exact ⟨by rw [HF2.out]; rfl, HU.out⟩
    have HF2 := Lib.hid (show F = _ from HF1.out.trans (if_neg (by rw [hf1]; decide)))
    clear HF1 hf1
    go_upto_region 5 with fail
    go_cut [69] from 56 to 69 (fun v69 wx => v69 = .bool ((c1 || c4) && w2) ∧ wx = W1)
    case first =>
      cases c1
      case true =>
        go_wp2_with (first | (go_at_call 45; refine (HPR.out _).mono ?_; rintro e W2 ⟨rfl, rfl⟩) | (go_at_call 47; refine (HSR.out _).mono ?_; rintro e W2 ⟨rfl, rfl⟩))
        go_meet
        exact ⟨rfl, rfl⟩
      cases c4
      case true =>
        go_wp2_with (first | (go_at_call 45; refine (HPR.out _).mono ?_; rintro e W2 ⟨rfl, rfl⟩) | (go_at_call 47; refine (HSR.out _).mono ?_; rintro e W2 ⟨rfl, rfl⟩))
        go_meet
        exact ⟨rfl, rfl⟩
      go_wp2_with (first | (go_at_call 45; refine (HPR.out _).mono ?_; rintro e W2 ⟨rfl, rfl⟩) | (go_at_call 47; refine (HSR.out _).mono ?_; rintro e W2 ⟨rfl, rfl⟩))
      go_meet
      exact ⟨rfl, rfl⟩
    case rest =>
      obtain ⟨rfl, rfl⟩ := hcut
      obtain ⟨W1, rfl⟩ : ∃ W, W = wc := ⟨wc, rfl⟩
      cases hf1 : ((c1 || c4) && w2)
      case true =>
        have HF3 := Lib.hid (show F = false from HF2.out.trans (if_pos hf1))
        go_wp2_with fail
        all_goals exact ⟨by rw [HF3.out]; rfl, HU.out⟩
      have HF3 := Lib.hid (show F = _ from HF2.out.trans (if_neg (by rw [hf1]; decide)))
      clear HF2 hf1
      cases c9
      case false =>
        go_wp2_with fail
        all_goals exact ⟨by rw [HF3.out]; rfl, HU.out⟩
      case true =>
        cases d4
        case true =>
          go_wp2_with fail
          all_goals exact ⟨by rw [HF3.out]; rfl, HU.out⟩
        cases d5
        case true =>
          go_wp2_with fail
          all_goals exact ⟨by rw [HF3.out]; rfl, HU.out⟩
        go_wp2_with fail
        all_goals exact ⟨by rw [HF3.out]; rfl, HU.out⟩
end Go.Proofs.YtfldpejifpmapaaDoor
set_option linter.unusedSimpArgs false
set_option linter.unusedVariables false
set_option maxRecDepth 100000
namespace Go.Proofs.YtfldpejifpmapaaDoor
open Go.RowKit
open Go.Maps
set_option maxHeartbeats 4000000 in
theorem rname_code (e : Ev) (h : 1 ≤ e.kd ∧ e.kd ≤ 12) (w : World) : Calls Tryd.prog 44 #[e.val] w fun r w' => r = .returned (.string ⟨(nameE e).toArray⟩) ∧ Upd [] w w' := by
  obtain ⟨th, kd, ad, wd, own, er⟩ := e
  simp only [Ev.val]
  unfold nameE
  dsimp only at h ⊢
  cases own with
  | true =>
    refine calls_all fun K hK => ?_
    go_enter Tryd.func44, Tryd.ntmps44
    go_wp2
    all_goals first | exact ⟨rfl, (Upd.refl _ _).alloc _⟩ | exact (Upd.refl _ _).alloc _
  | false =>
    have hc : kd = 1 ∨ kd = 2 ∨ kd = 3 ∨ kd = 4 ∨ kd = 5 ∨ kd = 6 ∨ kd = 7 ∨ kd = 8 ∨ kd = 9 ∨ kd = 10 ∨ kd = 11 ∨ kd = 12 := by omega
    clear h
    refine calls_all fun K hK => ?_
    go_enter Tryd.func44, Tryd.ntmps44
    rcases hc with rfl | rfl | rfl | rfl | rfl | rfl | rfl | rfl | rfl | rfl | rfl | rfl
    all_goals
      go_wp2
      exact ⟨rfl, ((Upd.refl _ _).alloc _).alloc _⟩
theorem rdigits_code (u : Nat) (hu : u < 18446744073709551616) (w : World) (hT : Tab w) : Calls Tryd.prog 46 #[.int .u64 u] w fun e w' => e = .returned (.string ⟨(Lib.decDigits u).toArray⟩) ∧ Upd [] w w' := by
  refine calls_all fun K hK => ?_
  go_enter Tryd.func46, Tryd.ntmps46
  go_wp2_with fail
  refine (fmtu u hu _ hT).mono ?_
  rintro e w1 ⟨rfl, u1⟩
  go_wp2
  all_goals first | exact ⟨rfl, u1⟩ | exact u1
-- a drawn region of calls that are quiet
-- the head of Line
set_option maxHeartbeats 8000000 in
theorem rline_ok (w : World) (t k a d : Nat) (own : Bool) (er : Int) (he : Ev.wide ⟨t, k, a, d, own, er⟩) (hf : formE ⟨t, k, a, d, own, er⟩ = true) (ht : t < 8) (hk : 1 ≤ k ∧ k ≤ 12) (ha : a < 18446744073709551616) (hd : d < 18446744073709551616) (her : k = 9 → 4 ≤ er ∧ er ≤ 6) (hT : Tab w) :
    Calls Tryd.prog 14 #[(⟨t, k, a, d, own, er⟩ : Ev).val] w fun r w' => r = .returned (.tuple #[.string ⟨(lineE ⟨t, k, a, d, own, er⟩).toArray⟩, .int .i64 0]) ∧ Upd [] w w' := by
  have HIT := Lib.hid (fun W => Tryd.strconv_Itoa_small t (by omega) W)
  have hdt : (Lib.decDigits t).length = 1 := by rw [Lib.decDigits_one (by omega)]; rfl
  have hfc := Lib.hid (fun W => rformed_code ⟨t, k, a, d, own, er⟩ W)
  rw [hf] at hfc
  have HNM := Lib.hid (fun W => rname_code ⟨t, k, a, d, own, er⟩ (by dsimp only; omega) W)
  have hnl : (nameE ⟨t, k, a, d, own, er⟩).length ≤ 9 := by
    unfold nameE
    split
    · decide
    · exact names_len _
  have hX : lineE ⟨t, k, a, d, own, er⟩ = (Lib.decDigits t ++ 32 :: nameE ⟨t, k, a, d, own, er⟩) ++ tailE ⟨t, k, a, d, own, er⟩ := by unfold lineE; rfl
  have HPR := Lib.hid (fun W => rpair_code k W)
  have HSR := Lib.hid (fun W => rsingle_code k W)
  generalize nameE ⟨t, k, a, d, own, er⟩ = nm at hnl HNM hX
  simp only [Ev.val] at hfc HNM ⊢
  have HX := Lib.hid hX
  have HTB := Lib.hid hT
  clear hX hT he hf
  refine calls_all fun K hK => ?_
  go_enter Tryd.func14, Tryd.ntmps14
  go_wp2_with fail
  refine (hfc.out _).mono ?_
  rintro e W2 ⟨rfl, u2⟩
  have HB2 := Lib.hid (Blk.upd (Blk.new w [.int .i64 (t : Int), .int .i64 (k : Int), .int .u64 (a : Int), .int .u64 (d : Int), .bool own, .int .i64 er] 27) u2 (by simp))
  have HU2 := Lib.hid (((Upd.refl [] w).alloc (.cells #[.int .i64 (t : Int), .int .i64 (k : Int), .int .u64 (a : Int), .int .u64 (d : Int), .bool own, .int .i64 er] 27)).trans u2)
  obtain ⟨eb, heb⟩ : ∃ b, w.heap.size = b := ⟨_, rfl⟩
  rw [heb] at HB2 ⊢
  clear u2 hfc
  go_wp2_with fail
  obtain ⟨Tf, hTf, g, hg, hg2⟩ := fam [] W2
  have m0 := fun n => (HB2.out.upd (hg n) (by simp)).cell 0 rfl
  have m1 := fun n => (HB2.out.upd (hg n) (by simp)).cell 1 rfl
  have m2 := fun n => (HB2.out.upd (hg n) (by simp)).cell 2 rfl
  have m3 := fun n => (HB2.out.upd (hg n) (by simp)).cell 3 rfl
  have m4 := fun n => (HB2.out.upd (hg n) (by simp)).cell 4 rfl
  have m5 := fun n => (HB2.out.upd (hg n) (by simp)).cell 5 rfl
  have hb1 : ¬ 9223372036854775807 < (Lib.decDigits t).length + 1 := by omega
  have hb2 : ¬ 9223372036854775807 < (Lib.decDigits t).length + 1 + nm.length := by omega
  refine wp_region_fam g (by kernel_rfl) (by kernel_rfl) (hg2 _ ((Upd.refl [] _).drew)) ?_
  repeat (go_big_quiet_step (first | (go_at_call 40; exact Calls.fam_of0 hg hg2 ((HIT.out _).mono fun _ _ h9 => ⟨h9.1, by rw [h9.2]; exact Upd.refl _ _⟩)) | (go_at_call 44; exact Calls.fam_of0 hg hg2 (HNM.out _))))
  refine wpQuiet_nil ?_
  intro w9 hw9
  obtain ⟨n9, rfl⟩ := hw9
  rw [str3]
  have hL1 : (Lib.decDigits t ++ 32 :: nm).length ≤ 20 := by rw [List.length_append, List.length_cons]; omega
  have HX1 := Lib.hid HX.out
  generalize Lib.decDigits t ++ 32 :: nm = L1 at hL1 HX1 ⊢
  have HB3 := Lib.hid (HB2.out.upd (hg n9) (by simp))
  have HU3 := Lib.hid (HU2.out.trans (hg n9))
  clear m0 m1 m2 m3 m4 m5 hg2 HX HNM hnl hb1 hb2
  generalize g n9 = W3 at HB3 HU3 ⊢
  clear hg hTf g n9 HB2 HU2 hdt
  have m1 := HB3.out.cell 1 rfl
  have m3 := HB3.out.cell 3 rfl
  have m5 := HB3.out.cell 5 rfl
  unfold tailE at HX1
  dsimp only at HX1
  have hla := dec_le a ha
  have hld := dec_le d hd
  cases hp : pairK k with
  | true =>
    rw [hp] at HPR
    have HE := Lib.hid (show lineE ⟨t, k, a, d, own, er⟩ = (L1 ++ 32 :: Lib.decDigits a) ++ 32 :: Lib.decDigits d by rw [HX1.out, if_pos hp, Int.toNat_natCast, Int.toNat_natCast, List.append_assoc])
    go_wp2_with (first | (go_at_call 45; refine (HPR.out _).mono ?_; rintro e W4 ⟨rfl, rfl⟩))
    obtain ⟨Tf, hTf, g, hg, hg2⟩ := fam [] W3
    have m2 := fun n => (HB3.out.upd (hg n) (by simp)).cell 2 rfl
    have m3 := fun n => (HB3.out.upd (hg n) (by simp)).cell 3 rfl
    have hb1 : ¬ 9223372036854775807 < L1.length + 1 := by omega
    have hb2 : ¬ 9223372036854775807 < L1.length + 1 + (Lib.decDigits a).length := by omega
    have hb3 : ¬ 9223372036854775807 < L1.length + 1 + (Lib.decDigits a).length + 1 := by omega
    have hb4 : ¬ 9223372036854775807 < L1.length + 1 + (Lib.decDigits a).length + 1 + (Lib.decDigits d).length := by omega
    refine wp_region_fam g (by kernel_rfl) (by kernel_rfl) (hg2 _ ((Upd.refl [] _).drew)) ?_
    repeat (go_big_quiet_step (first | (go_at_call 46; exact Calls.fam_of0 hg hg2 (rdigits_code a ha _ (HTB.out.upd (HU3.out.trans (hg _))))) | (go_at_call 46; exact Calls.fam_of0 hg hg2 (rdigits_code d hd _ (HTB.out.upd (HU3.out.trans (hg _)))))))
    refine wpQuiet_nil ?_
    intro w9 hw9
    obtain ⟨n9, rfl⟩ := hw9
    have HU4 := Lib.hid (HU3.out.trans (hg n9))
    clear m1 m2 m3 m5
    go_wp2_with fail
    exact ⟨by rw [HE.out, ← str3, ← str3]; rfl, HU4.out⟩
  | false =>
    rw [hp] at HPR
    cases hs : singK k with
    | true =>
      rw [hs] at HSR
      have HE := Lib.hid (show lineE ⟨t, k, a, d, own, er⟩ = L1 ++ 32 :: Lib.decDigits d by rw [HX1.out, if_neg (by rw [hp]; decide), if_pos hs, Int.toNat_natCast])
      have hb1 : ¬ 9223372036854775807 < L1.length + 1 := by omega
      have hb2 : ¬ 9223372036854775807 < L1.length + 1 + (Lib.decDigits d).length := by omega
      go_wp2_with (first | (go_at_call 45; refine (HPR.out _).mono ?_; rintro e W4 ⟨rfl, rfl⟩) | (go_at_call 47; refine (HSR.out _).mono ?_; rintro e W4 ⟨rfl, rfl⟩))
      refine (rdigits_code d hd _ (HTB.out.upd HU3.out)).mono ?_
      rintro e W5 ⟨rfl, u5⟩
      have HU5 := Lib.hid (HU3.out.trans u5)
      go_wp2_with fail
      exact ⟨by rw [HE.out, ← str3]; rfl, HU5.out⟩
    | false =>
      rw [hs] at HSR
      by_cases h9 : k = 9
      · obtain ⟨x, rfl⟩ : ∃ x : Nat, er = x := ⟨er.toNat, by have := her h9; omega⟩
        have hx : x < 10 := by have := her h9; omega
        have HE := Lib.hid (show lineE ⟨t, k, a, d, own, (x : Int)⟩ = L1 ++ 32 :: Lib.decDigits x by rw [HX1.out, if_neg (by rw [hp]; decide), if_neg (by rw [hs]; decide), if_pos (by omega), Int.toNat_natCast])
        subst h9
        have hld2 : (Lib.decDigits x).length = 1 := by rw [Lib.decDigits_one hx]; rfl
        have hb1 : ¬ 9223372036854775807 < L1.length + 1 := by omega
        have hb2 : ¬ 9223372036854775807 < L1.length + 1 + (Lib.decDigits x).length := by omega
        have HIX := Lib.hid (fun W => Tryd.strconv_Itoa_small x (by omega) W)
        go_wp2_with (first | (go_at_call 45; refine (HPR.out _).mono ?_; rintro e W4 ⟨rfl, rfl⟩) | (go_at_call 47; refine (HSR.out _).mono ?_; rintro e W4 ⟨rfl, rfl⟩))
        refine (HIX.out _).mono ?_
        rintro e W5 ⟨rfl, rfl⟩
        go_wp2_with fail
        exact ⟨by rw [HE.out, ← str3]; rfl, HU3.out⟩
      · have HE := Lib.hid (show lineE ⟨t, k, a, d, own, er⟩ = L1 by rw [HX1.out, if_neg (by rw [hp]; decide), if_neg (by rw [hs]; decide), if_neg (by omega), List.append_nil])
        have h91 : ((k : Int) == 9) = false := by rw [beq_eq_false_iff_ne]; omega
        go_wp2_with (first | (go_at_call 45; refine (HPR.out _).mono ?_; rintro e W4 ⟨rfl, rfl⟩) | (go_at_call 47; refine (HSR.out _).mono ?_; rintro e W4 ⟨rfl, rfl⟩))
        exact ⟨by rw [HE.out]; rfl, HU3.out⟩
theorem rline_no (w : World) (e : Ev) (hf : formE e = false) : Calls Tryd.prog 14 #[e.val] w fun r w' => r = .returned (.tuple #[.string ⟨#[]⟩, .int .i64 201]) ∧ Upd [] w w' := by
  have HFC := Lib.hid (fun W => rformed_code e W)
  rw [hf] at HFC
  obtain ⟨th, kd, ad, wd, own, er⟩ := e
  simp only [Ev.val] at HFC ⊢
  refine calls_all fun K hK => ?_
  go_enter Tryd.func14, Tryd.ntmps14
  go_wp2_with fail
  refine (HFC.out _).mono ?_
  rintro e W2 ⟨rfl, u2⟩
  have HU2 := Lib.hid (((Upd.refl [] w).alloc (.cells #[.int .i64 th, .int .i64 kd, .int .u64 ad, .int .u64 wd, .bool own, .int .i64 er] 27)).trans u2)
  go_wp2_with fail
  exact ⟨rfl, HU2.out⟩
theorem rline_code (w : World) (e : Ev) (he : e.wide) (hT : Tab w) : Calls Tryd.prog 14 #[e.val] w fun r w' => r = .returned (.tuple #[.string ⟨(lineO e).1.toArray⟩, .int .i64 (lineO e).2]) ∧ Upd [] w w' := by
  by_cases hf : formE e = true
  · obtain ⟨th, kd, ad, wd, own, er⟩ := e
    obtain ⟨h1, h2, h3, h4, h5, h6, h7⟩ := formE_c hf
    dsimp only at h1 h2 h7
    obtain ⟨t, rfl⟩ : ∃ i : Nat, th = i := ⟨th.toNat, by omega⟩
    obtain ⟨k, rfl⟩ : ∃ k : Nat, kd = k := ⟨kd.toNat, by omega⟩
    obtain ⟨a, rfl⟩ : ∃ k : Nat, ad = k := ⟨ad.toNat, by have := he.1; dsimp only at this; omega⟩
    obtain ⟨d, rfl⟩ : ∃ k : Nat, wd = k := ⟨wd.toNat, by have := he.2; dsimp only at this; omega⟩
    have ha : a < 18446744073709551616 := by have := he.1; dsimp only at this; omega
    have hd : d < 18446744073709551616 := by have := he.2; dsimp only at this; omega
    have hO : lineO ⟨t, k, a, d, own, er⟩ = (lineE ⟨t, k, a, d, own, er⟩, 0) := by unfold lineO; rw [if_pos hf]
    rw [hO]
    exact rline_ok w t k a d own er he hf (by omega) (by omega) ha hd (fun h => by rw [if_pos (by omega)] at h7; exact h7) hT
  · have hf : formE e = false := by simpa using hf
    have hO : lineO e = ([], 201) := by unfold lineO; rw [if_neg (by rw [hf]; simp)]
    rw [hO]
    exact rline_no w e hf
end Go.Proofs.YtfldpejifpmapaaDoor
set_option linter.unusedSimpArgs false
set_option linter.unusedVariables false
set_option maxRecDepth 100000
namespace Go.Proofs.YtfldpejifpmapaaDoor
open Go.RowKit
open Go.Maps
theorem info_strs : (Tryd.prog.info? 9).map (fun i => (i.zero, i.size, i.bytes)) = some (some (.string ⟨#[]⟩), 1, 16) := by kernel_rfl
/-- a cell of an own row is stored -/
theorem own_set {w : World} {base : Nat} {e : TypeId} {size g n c : Nat} {us : List Value} (h : w.ownsRow base e size (.slice (some ⟨g, 0, none⟩) n c) n us) (k : Nat) (v : Value) : (w.setCell ⟨g, k, none⟩ v).ownsRow base e size (.slice (some ⟨g, 0, none⟩) n c) n (us.set k v) := by
  obtain ⟨h1, h2⟩ := h
  refine ⟨by rw [List.length_set]; exact h1, ?_⟩
  rcases h2 with ⟨h2, _⟩ | ⟨g', cap, cur, hv, hb, hh, hn, hm, hs, ht⟩
  · cases h2
  · cases hv
    have hB : Blk w g cur.toList e := by unfold Blk; simpa using hh
    have hB2 := hB.set k v
    refine .inr ⟨g, c, (cur.toList.set k v).toArray, rfl, hb, hB2, hn, hm, by simp [hs], ?_⟩
    rw [← ht, List.take_set]
theorem rnumber_code (s : ByteArray) (hs : s.size ≤ 281474976710656) (w : World) (he : Errs w) : Calls Tryd.prog 65 #[.string s] w fun e w' => e = .returned (.int .u64 (rnumL s.data.toList : Nat)) ∧ Upd [] w w' := by
  unfold rnumL
  refine calls_all fun K hK => ?_
  go_enter Tryd.func65, Tryd.ntmps65
  go_wp2_with fail
  refine (parse_uint s hs _ he).mono ?_
  rintro e w1 ⟨er, rfl, _, u1⟩
  go_wp2
  all_goals first | exact ⟨rfl, u1⟩ | exact u1
theorem con_cons (p h : List UInt8) (t : List (List UInt8)) : p.foldr con1 (h :: t) = (p ++ h) :: t := by
  induction p with
  | nil => rfl
  | cons c p ih => rw [List.foldr_cons, ih]; rfl
theorem byte_at (s : ByteArray) (k : Nat) (h : k < s.size) : s[k]'h = s.get! k := by
  cases s with
  | mk d =>
    have h3 : k < d.size := h
    show d[k]'h3 = _
    simp [ByteArray.get!, h3]
theorem drop_get (s : ByteArray) (k : Nat) (h : k < s.size) : s.data.toList.drop k = s.get! k :: s.data.toList.drop (k + 1) := by
  have h2 : k < s.data.toList.length := by rw [← Lib.size_eq]; exact h
  rw [List.drop_eq_getElem_cons h2]
  congr 1
  have := getb s k h
  rw [List.getElem?_eq_getElem h2, Option.some.injEq] at this
  exact this
theorem ex_one (s : ByteArray) (k : Nat) (h : k < s.size) : (s.extract k (k + 1)).data.toList = [s.get! k] := by
  rw [Lib.extract_data, drop_get s k h]
  rw [show k + 1 - k = 1 by omega]
  rfl
/-- the words so far: all but the last, the last -/
def WordsAt (L : List (List UInt8)) (X : List ByteArray) (rest : List UInt8) : Prop := ∃ (X0 : List ByteArray) (z : ByteArray), X = X0 ++ [z] ∧ X0.map (·.data.toList) ++ z.data.toList.foldr con1 (spl rest) = L
theorem words_blank {L : List (List UInt8)} {X : List ByteArray} {r : List UInt8} (h : WordsAt L X (32 :: r)) : WordsAt L (X ++ [⟨#[]⟩]) r := by
  obtain ⟨X0, z, rfl, h⟩ := h
  refine ⟨X0 ++ [z], ⟨#[]⟩, rfl, ?_⟩
  rw [← h, spl, if_pos rfl, con_cons]
  simp
theorem words_more {L : List (List UInt8)} {X0 : List ByteArray} {z y : ByteArray} {c : UInt8} {r : List UInt8} (h : WordsAt L (X0 ++ [z]) (c :: r)) (hc : c ≠ 32) (hy : y.data.toList = z.data.toList ++ [c]) : WordsAt L (X0 ++ [y]) r := by
  obtain ⟨X1, z1, e, h⟩ := h
  obtain ⟨rfl, rfl⟩ : X0 = X1 ∧ z = z1 := by
    have := List.append_inj' e rfl
    exact ⟨this.1, by simpa using this.2⟩
  refine ⟨X0, y, rfl, ?_⟩
  rw [← h, spl, if_neg hc, hy, List.foldr_append]
  rfl
set_option maxHeartbeats 4000000 in
theorem rwords_code (s : ByteArray) (hs : s.size < 4294967281) (w : World) : Calls Tryd.prog 64 #[.string s] w fun e w' => ∃ (v : Value) (X : List ByteArray), e = .returned v ∧ X.map (·.data.toList) = spl s.data.toList ∧ w'.ownsRow w.heap.size 9 1 v X.length (X.map .string) ∧ Upd [] w w' ∧ ∀ x ∈ X, x.size ≤ s.size := by
  obtain ⟨i5, hi5, hz5, hs5, hy5⟩ := info_parts info_strs
  refine calls_all fun K hK => ?_
  go_enter Tryd.func64, Tryd.ntmps64
  go_wp2_with fail
  have HO0 := Lib.hid (show World.ownsRow (w.alloc (.cells #[.string ⟨#[]⟩] 9)) w.heap.size 9 1 (.slice (some ⟨w.heap.size, 0, none⟩) 1 1) ([⟨#[]⟩] : List ByteArray).length (([⟨#[]⟩] : List ByteArray).map .string) from
    ⟨rfl, .inr ⟨w.heap.size, 1, #[.string ⟨#[]⟩], rfl, Nat.le_refl _, heap_alloc_new w (.cells #[.string ⟨#[]⟩] 9), Nat.le_refl _, by unfold maxLen; omega, rfl, rfl⟩⟩)
  have HU0 := Lib.hid (show Upd [] w (w.alloc (.cells #[.string ⟨#[]⟩] 9)) from (Upd.refl _ _).alloc _)
  go_loopw [3, 4] (fun v3 v4 wr => ∃ (k : Nat) (X : List ByteArray), k ≤ s.size ∧ v4 = .int .i64 k ∧ X.length ≤ k + 1 ∧ wr.ownsRow w.heap.size 9 1 v3 X.length (X.map .string) ∧ Upd [] w wr ∧ WordsAt (spl s.data.toList) X (s.data.toList.drop k) ∧ ∀ x ∈ X, x.size ≤ k) (fun _ v4 _ => s.size - (intOf v4).toNat)
  case atStart => exact ⟨0, [⟨#[]⟩], by omega, rfl, by simp, HO0.out, HU0.out, ⟨[], ⟨#[]⟩, rfl, by rw [List.drop_zero]; rfl⟩, fun x hx => by rw [List.mem_singleton] at hx; subst hx; exact Nat.le_refl _⟩
  case round =>
    obtain ⟨k, X, hk, rfl, hXk, ho, hu, hW, hsz⟩ := hrel
    have HO := Lib.hid ho
    have HU := Lib.hid hu
    have HW := Lib.hid hW
    have HZ := Lib.hid hsz
    have hws := hu.size
    clear ho hu hW hsz HO0 HU0
    by_cases hlt : k < s.size
    · have hkl : (k : Int) < (s.size : Int) := by omega
      have hdr := drop_get s k hlt
      obtain ⟨X0, z, hX, _⟩ := HW.out
      have HX := Lib.hid hX
      have hXl : X.length = X0.length + 1 := by rw [hX]; simp
      by_cases hc : s.get! k = 32
      · have hc1 : (((s[k]'hlt).toNat : Int) == 32) = true := by rw [byte_at s k hlt, hc]; rfl
        have HN : Hid (WordsAt (spl s.data.toList) (X ++ [⟨#[]⟩]) (s.data.toList.drop (k + 1))) := Lib.hid (by
          have := HW.out
          rw [hdr, hc] at this
          exact words_blank this)
        clear HW hdr hX HX
        go_wp2_with (at_builtin; refine wpList_append_own _ rfl (.tmp 16) (.tmp 17) 108 rfl w.heap.size 9 i5 (.string ⟨#[]⟩) 1 16 Tryd.underlying108 hi5 hz5 hs5 hy5 rfl (by decide) _ _ _ rfl (World.ownsRow.alloc HO.out _) ⟨_, 0, none⟩ 1 1 _ rfl rfl (news_new _ 9 (by simp)) (by simp [Value.oneCell']) (by unfold maxLen; omega) (by omega) (by simp; omega) ?_; intro v6 w6 ho6 hg6 _)
        have HU6 := Lib.hid ((HU.out.alloc _).tr (U := []) (Upd.own hg6) (by simp) (fun g hg => .inr (own_blocks HO.out g hg).1))
        have HO6 := Lib.hid ho6
        clear ho6 hg6
        go_roundw
        case rel => exact ⟨k + 1, X ++ [⟨#[]⟩], by omega, by go_num, by simp; omega, by rw [List.length_append, List.map_append]; exact HO6.out, HU6.out, HN.out, fun x hx => by rcases List.mem_append.1 hx with h | h; exact Nat.le_succ_of_le (HZ.out x h); simp at h; subst h; exact Nat.zero_le _⟩
        case measure => simp [intOf]; omega
      · have hc1 : (((s[k]'hlt).toNat : Int) == 32) = false := by
          rw [byte_at s k hlt, beq_eq_false_iff_ne]; intro e; exact hc (UInt8.toNat_inj.1 (show (s.get! k).toNat = 32 by omega))
        obtain ⟨g, c, rfl⟩ := own_some HO.out (by omega)
        obtain ⟨_, _, sp, hB⟩ := own_openN HO.out
        have hcell : wr.cell? ⟨g, X0.length, none⟩ = some (.string z) := hB.cell _ (by
          rw [hX, List.map_append, List.append_assoc, List.getElem?_append_right (by rw [List.length_map]; exact Nat.le_refl _), List.length_map, Nat.sub_self]
          rfl)
        have HBK := Lib.hid hB
        have HY : Hid ((z ++ s.extract k (k + 1)).data.toList = z.data.toList ++ [s.get! k]) := Lib.hid (by rw [ByteArray.data_append, Array.toList_append, ex_one s k hlt])
        have HN : Hid (WordsAt (spl s.data.toList) (X0 ++ [z ++ s.extract k (k + 1)]) (s.data.toList.drop (k + 1))) := Lib.hid (by
          have h := HW.out
          rw [hdr, hX] at h
          exact words_more h hc HY.out)
        have HNL := Lib.hid (show X0.length + 1 = X.length by omega)
        have hzs := HZ.out z (by rw [hX]; simp)
        obtain ⟨n, hn⟩ : ∃ n, X.length = n := ⟨_, rfl⟩
        obtain ⟨m, hm⟩ : ∃ m, X0.length = m := ⟨_, rfl⟩
        rw [hm] at hcell
        rw [hn]
        have hw1 : IntKind.i64.wrap ((n : Int) - 1) = (m : Int) := by rw [IntKind.wrap_i64]; omega
        have hm0 : 0 ≤ (m : Int) := by omega
        have hm1 : (m : Int) < (n : Int) := by omega
        have hm2 : m < n := by omega
        have hk1 : (k : Int) + 1 ≤ (s.size : Int) := by omega
        have HFREE := Lib.hid (hB.free m)
        have HMN := Lib.hid hm
        have HNN := Lib.hid hn
        clear hm hn hX hXl hdr hB HW hc hkl
        have hb1 : ¬ 9223372036854775807 < z.size + (s.extract k (k + 1)).size := by
          have h1 : (s.extract k (k + 1)).size = 1 := by rw [Lib.size_eq, ex_one s k hlt]; rfl
          omega
        have HZS := Lib.hid hzs
        obtain ⟨k1, hk1e⟩ : ∃ j, k + 1 = j := ⟨_, rfl⟩
        have hwk : IntKind.i64.wrap ((k : Int) + 1) = (k1 : Int) := by rw [IntKind.wrap_i64]; omega
        have hkk : (k : Int) ≤ (k1 : Int) := by omega
        have hks : (k1 : Int) ≤ (s.size : Int) := by omega
        have hkk2 : k ≤ k1 := by omega
        have hks2 : k1 ≤ s.size := by omega
        have hk0 : 0 ≤ (k : Int) := by omega
        have hk10 : 0 ≤ (k1 : Int) := by omega
        rw [hk1e] at HY HN hb1
        have HK1 := Lib.hid hk1e
        have hb2 : ¬ 9223372036854775807 < z.size + (k1 - k) := by omega
        clear hzs hk1 hk1e
        go_wp2_with fail
        have ud : Upd [] wr wr.drew := (Upd.refl _ _).drew
        have HB2 := Lib.hid (HBK.out.upd ud (by simp))
        have HO2 := Lib.hid (own_upd HO.out ud (by simp))
        have HU2 := Lib.hid (HU.out.trans ud)
        obtain ⟨W4, hW4⟩ : ∃ W, wr.drew = W := ⟨_, rfl⟩
        refine wp_region_brT (fun w' => w' = wr.drew) [0, 1, 2, 3, 4, 5, 6, 7, 8, 9, 10, 11, 12, 13, 14, 15, 16, 17] 17 (by kernel_rfl) (by kernel_rfl) (by kernel_rfl) ?_
        have hc4 := ud.cell (by simp) hcell
        have hf4 := HB2.out.free m
        rw [hW4] at HB2 HO2 HU2 hc4 hf4 ⊢
        clear ud hW4 hcell HO HU HBK
        repeat ((refine wpC_take (v := ?_) rfl (by decide) rfl (by kernel_rfl) (by rfl) rfl ?_ ?_); rotate_left 1; (· ((intro w hSw; (try dsimp only at hSw); go_simp); try with_reducible rfl)); try simp only [Act.put, List.setIfInBounds_toArray, List.set_cons_zero, List.set_cons_succ])
        refine wpC_eff rfl (by kernel_rfl) (by rfl) (fun K2 hK2 => ?_)
        go_simp
        refine hK2.out _ _ (.inl (by decide)) ?_
        refine wpC_end (by kernel_rfl) (NoPanic.normal ?_)
        have us : Upd [g] W4 (W4.setCell ⟨g, m, none⟩ (.string (z ++ s.extract k k1))) := (Upd.refl _ _).setCell (.inl (by simp)) _
        have HU6 := Lib.hid (HU2.out.tr (U := []) us (by simp) (fun y hy => by simp at hy; subst hy; exact .inr (own_blocks HO2.out _ (by simp [Value.ownBlock])).1))
        have HO6 := Lib.hid (own_set HO2.out m (.string (z ++ s.extract k k1)))
        have HXS := Lib.hid (show (X.map Value.string).set m (.string (z ++ s.extract k k1)) = (X0 ++ [z ++ s.extract k k1]).map Value.string by
          rw [HX.out, ← HMN.out, List.map_append, List.map_append, List.set_append_right _ _ (by rw [List.length_map]; exact Nat.le_refl _), List.length_map, Nat.sub_self]
          rfl)
        clear hK2 K2 hc4 hf4 us hb2 hb1
        go_wp2_with fail
        go_roundw
        case rel => exact ⟨k1, X0 ++ [z ++ s.extract k k1], hks2, rfl, by have := HNL.out; have := HK1.out; simp; omega, by rw [← HXS.out, show (X0 ++ [z ++ s.extract k k1]).length = n by rw [← HNN.out, ← HNL.out]; simp]; have h := HO6.out; rw [HNN.out] at h; exact h, HU6.out, HN.out, fun x hx => by
          rcases List.mem_append.1 hx with h | h
          · have := HZ.out x (by rw [HX.out]; simp [h]); have := HK1.out; omega
          · rw [List.mem_singleton] at h
            subst h
            have h1 := HZS.out
            have h2 := HK1.out
            have h3 := HY.out
            rw [Lib.size_eq, h3, List.length_append, List.length_singleton, ← Lib.size_eq]
            omega⟩
        case measure => have := HK1.out; simp [intOf, hwk]; omega
    · obtain rfl : k = s.size := by omega
      have HN : Hid (X.map (·.data.toList) = spl s.data.toList) := Lib.hid (by
        obtain ⟨X0, z, rfl, h⟩ := HW.out
        rw [List.drop_eq_nil_of_le (by rw [← Lib.size_eq]; omega), show spl [] = [[]] from rfl, con_cons] at h
        rw [← h]
        simp)
      go_wp2_with fail
      exact ⟨_, X, rfl, HN.out, HO.out, HU.out, HZ.out⟩
end Go.Proofs.YtfldpejifpmapaaDoor
set_option linter.unusedSimpArgs false
set_option linter.unusedVariables false
set_option maxRecDepth 100000
namespace Go.Proofs.YtfldpejifpmapaaDoor
open Go.RowKit
open Go.Maps
/-- what the reference's event answers -/
def REvOk (w : World) (L : List UInt8) (e : Ending) (w' : World) : Prop := Upd [] w w' ∧ ((lineOk (eventL L) L = true ∧ e = .returned (.tuple #[(evO (eventL L)).val, .bool true])) ∨ (lineOk (eventL L) L = false ∧ e = .returned (.tuple #[zeroE.val, .bool false])))
/-- a candidate, by the words' numbers -/
def candN (n u0 u2 u3 k : Nat) (own : Bool) : Ev := ⟨((u0 % 1000 : Nat) : Int), (k : Int), if n = 4 then (u2 : Int) else 0, if n = 4 then (u3 : Int) else if n = 3 ∧ k ≠ 9 then (u2 : Int) else 0, own, if n = 3 ∧ k = 9 then ((u2 % 100000 : Nat) : Int) else 0⟩
theorem ev6_upd {S : List Nat} {w0 w : World} {rb : Nat} (u : Upd S w0 w) (h : w0.heap.size ≤ rb) (x0 x1 x2 x3 : Int) (x4 : Bool) (x5 : Int) : Upd S w0 ((((((w.setCell ⟨rb, 0, none⟩ (.int .i64 x0)).setCell ⟨rb, 1, none⟩ (.int .i64 x1)).setCell ⟨rb, 2, none⟩ (.int .u64 x2)).setCell ⟨rb, 3, none⟩ (.int .u64 x3)).setCell ⟨rb, 4, none⟩ (.bool x4)).setCell ⟨rb, 5, none⟩ (.int .i64 x5)) :=
  (((((u.setCell (.inr h) _).setCell (.inr h) _).setCell (.inr h) _).setCell (.inr h) _).setCell (.inr h) _).setCell (.inr h) _
theorem ev6_results {fn : Func} {k m : Nat} (hr : fn.results = #[.cell k 27, .tmp m]) (t : Array Value) (w : World) (rb : Nat) (x0 x1 x2 x3 : Int) (x4 : Bool) (x5 : Int) {y : Ev} (v : Value) (h2 : t.getD k undef = .pointer (some ⟨rb, 0, none⟩)) (h3 : t.getD m undef = v) (hb : Blk w rb y.cells 27) :
    (results fn t).run Tryd.prog ((((((w.setCell ⟨rb, 0, none⟩ (.int .i64 x0)).setCell ⟨rb, 1, none⟩ (.int .i64 x1)).setCell ⟨rb, 2, none⟩ (.int .u64 x2)).setCell ⟨rb, 3, none⟩ (.int .u64 x3)).setCell ⟨rb, 4, none⟩ (.bool x4)).setCell ⟨rb, 5, none⟩ (.int .i64 x5)) = .ok (.tuple #[.agg #[.int .i64 x0, .int .i64 x1, .int .u64 x2, .int .u64 x3, .bool x4, .int .i64 x5], v]) ((((((w.setCell ⟨rb, 0, none⟩ (.int .i64 x0)).setCell ⟨rb, 1, none⟩ (.int .i64 x1)).setCell ⟨rb, 2, none⟩ (.int .u64 x2)).setCell ⟨rb, 3, none⟩ (.int .u64 x3)).setCell ⟨rb, 4, none⟩ (.bool x4)).setCell ⟨rb, 5, none⟩ (.int .i64 x5)) :=
  ev_results hr t _ rb ⟨x0, x1, x2, x3, x4, x5⟩ v h2 h3 ((((((hb.set 0 _).set 1 _).set 2 _).set 3 _).set 4 _).set 5 _)
-- the end: no event
set_option maxHeartbeats 8000000 in
theorem revent_code (s : ByteArray) (hs : s.size < 4294967281) (w : World) (hP : PreE w) : Calls Tryd.prog 51 #[.string s] w (REvOk w s.data.toList) := by
  have HP := Lib.hid hP
  have HWD := Lib.hid (fun W => rwords_code s hs W)
  have HSE : s = ⟨s.data.toList.toArray⟩ := by cases s; simp
  obtain ⟨L, hL⟩ : ∃ L, s.data.toList = L := ⟨_, rfl⟩
  rw [hL] at HSE ⊢
  have hsl : L.length < 4294967281 := by rw [← hL, ← Lib.size_eq]; exact hs
  subst HSE
  simp only [List.toList_toArray] at HWD
  clear hP hL hs
  obtain ⟨W1, hW1⟩ : ∃ W, w.alloc (.cells zeroE.cells.toArray 27) = W := ⟨_, rfl⟩
  have HR1 := Lib.hid (show Blk W1 w.heap.size zeroE.cells 27 by rw [← hW1]; exact Blk.new w _ _)
  have HU1 := Lib.hid (show Upd [] w W1 by rw [← hW1]; exact (Upd.refl _ _).alloc _)
  obtain ⟨rb, hrb⟩ : ∃ b, w.heap.size = b := ⟨_, rfl⟩
  have HWR := Lib.hid (Nat.le_of_eq hrb)
  rw [hrb] at HR1
  simp only [zeroE, Ev.cells] at hW1
  refine calls_all fun K hK => ?_
  go_enter Tryd.func51, Tryd.ntmps51
  go_wp2_with fail
  try rw [hrb]
  try rw [hW1]
  clear hrb hW1
  refine (HWD.out _).mono ?_
  rintro e W2 ⟨v, X, rfl, hX, ho, u2, hz⟩
  obtain ⟨p, c, rfl⟩ := own_form ho
  have HX := Lib.hid hX
  have HO2 := Lib.hid ho
  have HU2 := Lib.hid (HU1.out.trans u2)
  have HR2 := Lib.hid (HR1.out.upd u2 (by simp))
  have HZ := Lib.hid hz
  have hlen : (spl L).length = X.length := by rw [← hX, List.length_map]
  have HLEN := Lib.hid hlen
  clear hX ho u2 hz HWD HU1 HR1 hlen
  obtain ⟨n, hn⟩ : ∃ n, X.length = n := ⟨_, rfl⟩
  have HN := Lib.hid hn
  rw [hn]
  clear hn
  by_cases hsh : n < 2 ∨ 4 < n
  · have HNO := Lib.hid (try_short (s := L) (by rw [HLEN.out, HN.out]; exact hsh))
    have HRX := HR2
    have HUX := HU2
    rcases hsh with h | h
    · have h1 : decide ((n : Int) < 2) = true := decide_eq_true (by omega)
      clear h
      have f0 := HRX.out.free 0
      have f1 := HRX.out.free 1
      have f2 := HRX.out.free 2
      have f3 := HRX.out.free 3
      have f4 := HRX.out.free 4
      have f5 := HRX.out.free 5
      have c0 := HRX.out.cell 0 rfl
      have c1 := HRX.out.cell 1 rfl
      have c2 := HRX.out.cell 2 rfl
      have c3 := HRX.out.cell 3 rfl
      have c4 := HRX.out.cell 4 rfl
      have c5 := HRX.out.cell 5 rfl
      go_wp2_with fail
      exact bodyPost_ret (ev6_results rfl _ _ rb 0 0 0 0 false 0 (.bool false) rfl rfl HRX.out) rfl (hK _ _ ⟨ev6_upd HUX.out HWR.out 0 0 0 0 false 0, .inr ⟨HNO.out, rfl⟩⟩)
    · have h1 : decide ((n : Int) < 2) = false := decide_eq_false (by omega)
      have h2 : decide (4 < (n : Int)) = true := decide_eq_true (by omega)
      clear h
      have f0 := HRX.out.free 0
      have f1 := HRX.out.free 1
      have f2 := HRX.out.free 2
      have f3 := HRX.out.free 3
      have f4 := HRX.out.free 4
      have f5 := HRX.out.free 5
      have c0 := HRX.out.cell 0 rfl
      have c1 := HRX.out.cell 1 rfl
      have c2 := HRX.out.cell 2 rfl
      have c3 := HRX.out.cell 3 rfl
      have c4 := HRX.out.cell 4 rfl
      have c5 := HRX.out.cell 5 rfl
      go_wp2_with fail
      exact bodyPost_ret (ev6_results rfl _ _ rb 0 0 0 0 false 0 (.bool false) rfl rfl HRX.out) rfl (hK _ _ ⟨ev6_upd HUX.out HWR.out 0 0 0 0 false 0, .inr ⟨HNO.out, rfl⟩⟩)
  · have hn2 : 2 ≤ n ∧ n ≤ 4 := by omega
    have h1 : decide ((n : Int) < 2) = false := decide_eq_false (by omega)
    have h2 : decide (4 < (n : Int)) = false := decide_eq_false (by omega)
    have hcells : ∃ g A0 A2 A3, p = some ⟨g, 0, none⟩ ∧ g < W2.heap.size ∧ (A0.size ≤ L.length ∧ A2.size ≤ L.length ∧ A3.size ≤ L.length) ∧ W2.cell? ⟨g, 0, none⟩ = some (.string A0) ∧ (3 ≤ n → W2.cell? ⟨g, 2, none⟩ = some (.string A2)) ∧ (n = 4 → W2.cell? ⟨g, 3, none⟩ = some (.string A3)) ∧ ∀ k own, candE (spl L) k own = candN n (rnumL A0.data.toList) (rnumL A2.data.toList) (rnumL A3.data.toList) k own := by
      have hX := HX.out
      have hZ := HZ.out
      have hO := HO2.out
      have hN := HN.out
      obtain ⟨g, c', e⟩ := own_some hO (by omega)
      cases e
      obtain ⟨_, _, sp, hB⟩ := own_openN hO
      have hsz : ∀ x ∈ X, x.size ≤ L.length := fun x hx => by have h1 := hZ x hx; have h2 : (⟨L.toArray⟩ : ByteArray).size = L.length := by { rw [Lib.size_eq, List.toList_toArray] }; omega
      have hn : n = 2 ∨ n = 3 ∨ n = 4 := by omega
      rcases hn with rfl | rfl | rfl
      · match X, hN with
        | [a, b], _ =>
          refine ⟨g, a, a, a, rfl, hB.lt, ⟨hsz a (by simp), hsz a (by simp), hsz a (by simp)⟩, hB.cell 0 rfl, fun h => by omega, fun h => by omega, fun k own => ?_⟩
          rw [← hX]
          exact (cand2 _ _ _ _).trans (by unfold candN; simp)
      · match X, hN with
        | [a, b, d], _ =>
          refine ⟨g, a, d, a, rfl, hB.lt, ⟨hsz a (by simp), hsz d (by simp), hsz a (by simp)⟩, hB.cell 0 rfl, fun h => hB.cell 2 rfl, fun h => by omega, fun k own => ?_⟩
          rw [← hX]
          exact (cand3 _ _ _ _ _).trans (by unfold candN; simp)
      · match X, hN with
        | [a, b, d, e], _ =>
          refine ⟨g, a, d, e, rfl, hB.lt, ⟨hsz a (by simp), hsz d (by simp), hsz e (by simp)⟩, hB.cell 0 rfl, fun h => hB.cell 2 rfl, fun h => hB.cell 3 rfl, fun k own => ?_⟩
          rw [← hX]
          exact (cand4 _ _ _ _ _ _).trans (by unfold candN; simp)
    obtain ⟨g, A0, A2, A3, rfl, hgl, ⟨z0, z2, z3⟩, hc0, hc2, hc3, hcand⟩ := hcells
    have HN0 := Lib.hid (fun W (u : Upd [] w W) => rnumber_code A0 (by omega) W (HP.out.upd u).errs)
    have HN2 := Lib.hid (fun W (u : Upd [] w W) => rnumber_code A2 (by omega) W (HP.out.upd u).errs)
    have HN3 := Lib.hid (fun W (u : Upd [] w W) => rnumber_code A3 (by omega) W (HP.out.upd u).errs)
    have hu0 := rnum_lt A0.data.toList
    have hu2 := rnum_lt A2.data.toList
    have hu3 := rnum_lt A3.data.toList
    generalize rnumL A0.data.toList = v0 at HN0 hcand hu0
    generalize rnumL A2.data.toList = v2 at HN2 hcand hu2
    generalize rnumL A3.data.toList = v3 at HN3 hcand hu3
    have HC := Lib.hid (show ∀ k own, tryL L k own = (formE (candN n v0 v2 v3 k own) && decide (lineE (candN n v0 v2 v3 k own) = L)) ∧ candE (spl L) k own = candN n v0 v2 v3 k own ∧ (candN n v0 v2 v3 k own).wide from fun k own => ⟨by unfold tryL; rw [hcand], hcand k own, by rw [← hcand]; exact cand_wide _ _ _⟩)
    have HC0 := Lib.hid hc0
    have HC2 := Lib.hid hc2
    have HC3 := Lib.hid hc3
    clear hsh z0 z2 z3 hc0 hc2 hc3 hcand HX HO2 HZ HLEN HN
    go_wp2_with fail
    have HR2L := Lib.hid HR2.out.lt
    go_loopw [5] (fun v5 wr => ∃ k : Nat, 1 ≤ k ∧ k ≤ 13 ∧ v5 = .int .i64 k ∧ (∀ j own, 1 ≤ j → j < k → tryL L j own = false) ∧ Upd [] W2 wr) (fun v5 _ => 13 - (intOf v5).toNat)
    case atStart => exact ⟨1, by omega, by omega, rfl, fun j own h1 h2 => by omega, Upd.refl _ _⟩
    case round =>
      obtain ⟨k, hk1, hk13, rfl, hno, hu⟩ := hrel
      have HNO5 := Lib.hid hno
      have HU5 := Lib.hid hu
      clear hno hu
      by_cases hlt : k ≤ 12
      · have hlt' : (k : Int) ≤ 12 := by omega
        go_wp2_with fail
        go_loopw [6] (fun v6 wi => ∃ i : Nat, i ≤ 2 ∧ v6 = .int .i64 i ∧ (1 ≤ i → tryL L k false = false) ∧ (i = 2 → tryL L k true = false) ∧ Upd [] W2 wi) (fun v6 _ => 2 - (intOf v6).toNat)
        case atStart => exact ⟨0, by omega, rfl, fun h => by omega, fun h => by omega, HU5.out⟩
        case round =>
          obtain ⟨i, hi, rfl, hf, ht, hu⟩ := hrel
          have HF := Lib.hid hf
          have HT := Lib.hid ht
          have HU6 := Lib.hid hu
          clear hf ht hu
          by_cases hilt : i < 2
          · have hilt' : (i : Int) < 2 := by omega
            obtain ⟨own, hown⟩ : ∃ b, ((i : Int) == 1) = b := ⟨_, rfl⟩
            have HOWN := Lib.hid hown
            have c0 := HU6.out.cell (by simp) HC0.out
            go_wp2_with fail
            refine (HN0.out _ (HU2.out.trans HU6.out)).mono ?_
            rintro e W7 ⟨rfl, u7⟩
            have HU7 := Lib.hid (HU6.out.trans u7)
            clear u7 c0
            obtain ⟨t0, ht0⟩ : ∃ t : Nat, v0 % 1000 = t := ⟨_, rfl⟩
            have ht0i : (v0 : Int) % 1000 = (t0 : Int) := by omega
            have HT0 := Lib.hid ht0
            clear ht0
            go_upto_if 41 with fail
            have HB8 := Lib.hid (Blk.new W7 [.int .i64 (t0 : Int), .int .i64 (k : Int), .int .u64 0, .int .u64 0, .bool own, .int .i64 0] 27)
            obtain ⟨eb, heb⟩ : ∃ b, W7.heap.size = b := ⟨_, rfl⟩
            have HEB := Lib.hid (Nat.le_of_eq heb)
            rw [heb] at HB8 ⊢
            have u8 : Upd [] W7 (W7.alloc (.cells #[.int .i64 (t0 : Int), .int .i64 (k : Int), .int .u64 0, .int .u64 0, .bool own, .int .i64 0] 27)) := (Upd.refl _ _).alloc _
            obtain ⟨W8, hW8⟩ : ∃ W, W7.alloc (.cells #[.int .i64 (t0 : Int), .int .i64 (k : Int), .int .u64 0, .int .u64 0, .bool own, .int .i64 0] 27) = W := ⟨_, rfl⟩
            rw [hW8] at u8 ⊢
            rw [show W7.alloc (.cells [.int .i64 (t0 : Int), .int .i64 (k : Int), .int .u64 0, .int .u64 0, .bool own, .int .i64 0].toArray 27) = W8 from hW8] at HB8
            have HU8 := Lib.hid u8
            have HGE := Lib.hid (show g ≠ eb by have := HU7.out.size; omega)
            clear hW8 heb u8 ht0i
            obtain ⟨a, ha⟩ : ∃ a : Nat, (if n = 4 then v2 else 0) = a := ⟨_, rfl⟩
            obtain ⟨d1, hd1⟩ : ∃ a : Nat, (if n = 4 then v3 else 0) = a := ⟨_, rfl⟩
            obtain ⟨d2, hd2⟩ : ∃ a : Nat, (if n = 4 then v3 else if n = 3 ∧ k ≠ 9 then v2 else 0) = a := ⟨_, rfl⟩
            obtain ⟨er, her⟩ : ∃ a : Nat, (if n = 3 ∧ k = 9 then v2 % 100000 else 0) = a := ⟨_, rfl⟩
            have HCD := Lib.hid (show candN n v0 v2 v3 k own = ⟨t0, k, a, d2, own, er⟩ by
              unfold candN
              rw [← ha, ← hd2, ← her, ← HT0.out]
              congr 1
              · split <;> rfl
              · split
                · rfl
                · split <;> rfl
              · split <;> rfl)
            have HA := Lib.hid ha
            have HD1 := Lib.hid hd1
            have HD2 := Lib.hid hd2
            have HER := Lib.hid her
            clear ha hd1 hd2 her
            have U27 := Lib.hid (HU2.out.trans HU7.out)
            have e2 : ∀ W, Upd [] W7 W → 3 ≤ n → W.cell? ⟨g, 2, none⟩ = some (.string A2) := fun W u h => (HU7.out.trans u).cell (by simp) (HC2.out h)
            have e3 : ∀ W, Upd [] W7 W → n = 4 → W.cell? ⟨g, 3, none⟩ = some (.string A3) := fun W u h => (HU7.out.trans u).cell (by simp) (HC3.out h)
            have E2 := Lib.hid e2
            have E3 := Lib.hid e3
            clear e2 e3
            go_cut [7] from 25 to 86 (fun v7 wx => v7 = .pointer (some ⟨eb, 0, none⟩) ∧ Blk wx eb [.int .i64 (t0 : Int), .int .i64 (k : Int), .int .u64 (a : Int), .int .u64 (d1 : Int), .bool own, .int .i64 0] 27 ∧ Upd [] W7 wx)
            case first =>
              by_cases h4 : n = 4
              · subst h4
                have hA := HA.out
                have hD := HD1.out
                rw [if_pos rfl] at hA hD
                subst hA
                subst hD
                go_wp2_with fail
                have ud : Upd [] W8 W8.drew := (Upd.refl _ _).drew
                have HU9 := Lib.hid (HU8.out.trans ud)
                have HB9 := Lib.hid (HB8.out.upd ud (by simp))
                refine wp_region_br (fun w' => w'.cell? ⟨g, 2, none⟩ = some (.string A2) ∧ w'.cell? ⟨g, 3, none⟩ = some (.string A3)) [0, 1, 2, 4, 5, 6, 3, 8, 7, 9, 10, 11] (by kernel_rfl) (by kernel_rfl) ⟨E2.out _ HU9.out (by omega), E3.out _ HU9.out (by trivial)⟩ ?_
                generalize W8.drew = W9 at ud HU9 HB9 ⊢
                clear ud HB8 HU8
                have hq2 : (0 : Int) ≤ 2 := by decide
                repeat
                  first
                    | (refine wpB_skip rfl (by kernel_rfl) (by rfl) ?_)
                    | ((refine wpB_take (v := ?_) rfl rfl (by kernel_rfl) (by rfl) ?_ ?_); rotate_left 1; (· ((intro w hSw; (try dsimp only at hSw); go_simp); try with_reducible rfl)))
                  try simp only [Act.put, List.setIfInBounds_toArray, List.set_cons_zero, List.set_cons_succ]
                refine wpB_eff rfl (by kernel_rfl) (by rfl) (fun K2 hK2 => ?_)
                go_simp
                refine (HN2.out _ (U27.out.trans HU9.out)).mono ?_
                rintro e W10 ⟨rfl, u10⟩
                have HU10 := Lib.hid (HU9.out.trans u10)
                have HB10 := Lib.hid (HB9.out.upd u10 (by simp))
                refine hK2.out _ _ ⟨E2.out _ HU10.out (by omega), E3.out _ HU10.out (by trivial)⟩ ?_
                clear hK2 K2 u10 HU9 HB9
                repeat
                  first
                    | (refine wpB_skip rfl (by kernel_rfl) (by rfl) ?_)
                    | ((refine wpB_take (v := ?_) rfl rfl (by kernel_rfl) (by rfl) ?_ ?_); rotate_left 1; (· ((intro w hSw; (try dsimp only at hSw); go_simp); try with_reducible rfl)))
                  try simp only [Act.put, List.setIfInBounds_toArray, List.set_cons_zero, List.set_cons_succ]
                refine wpB_eff rfl (by kernel_rfl) (by rfl) (fun K2 hK2 => ?_)
                go_simp
                refine (HN3.out _ (U27.out.trans HU10.out)).mono ?_
                rintro e W11 ⟨rfl, u11⟩
                have HU11 := Lib.hid (HU10.out.trans u11)
                have HB11 := Lib.hid (HB10.out.upd u11 (by simp))
                refine hK2.out _ _ ⟨E2.out _ HU11.out (by omega), E3.out _ HU11.out (by trivial)⟩ ?_
                clear hK2 K2 u11 HU10 HB10
                have b2 := HB11.out.cell 2 rfl
                have b3 := HB11.out.cell 3 rfl
                have f2 := HB11.out.free 2
                have f3 := HB11.out.free 3
                refine wpB_eff rfl (by kernel_rfl) (by rfl) (fun K2 hK2 => ?_)
                go_simp
                have us : Upd [eb] W11 (W11.setCell ⟨eb, 2, none⟩ (.int .u64 (v2 : Int))) := (Upd.refl _ _).setCell (.inl (by simp)) _
                have HU12 := Lib.hid (HU11.out.tr (U := []) us (by simp) (fun y hy => by simp at hy; subst hy; exact .inr HEB.out))
                have HB12 := Lib.hid (HB11.out.set 2 (.int .u64 (v2 : Int)))
                refine hK2.out _ _ ⟨E2.out _ HU12.out (by omega), E3.out _ HU12.out (by trivial)⟩ ?_
                clear hK2 K2 us b2 b3 f2 f3
                generalize W11.setCell ⟨eb, 2, none⟩ (.int .u64 (v2 : Int)) = W12 at HU12 HB12 ⊢
                clear HU11 HB11
                have b3 := HB12.out.cell 3 rfl
                have f3 := HB12.out.free 3
                repeat
                  first
                    | (refine wpB_skip rfl (by kernel_rfl) (by rfl) ?_)
                    | ((refine wpB_take (v := ?_) rfl rfl (by kernel_rfl) (by rfl) ?_ ?_); rotate_left 1; (· ((intro w hSw; (try dsimp only at hSw); go_simp); try with_reducible rfl)))
                  try simp only [Act.put, List.setIfInBounds_toArray, List.set_cons_zero, List.set_cons_succ]
                refine wpB_eff rfl (by kernel_rfl) (by rfl) (fun K2 hK2 => ?_)
                go_simp
                have us : Upd [eb] W12 (W12.setCell ⟨eb, 3, none⟩ (.int .u64 (v3 : Int))) := (Upd.refl _ _).setCell (.inl (by simp)) _
                have HU13 := Lib.hid (HU12.out.tr (U := []) us (by simp) (fun y hy => by simp at hy; subst hy; exact .inr HEB.out))
                have HB13 := Lib.hid (HB12.out.set 3 (.int .u64 (v3 : Int)))
                refine hK2.out _ _ ⟨E2.out _ HU13.out (by omega), E3.out _ HU13.out (by trivial)⟩ ?_
                refine wpB_end (by kernel_rfl) (NoPanic.normal ?_)
                clear hK2 K2 us b3 f3
                go_wp2_with fail
                go_meet
                exact ⟨rfl, HB13.out, HU13.out⟩
              · have h41 : ((n : Int) == 4) = false := by rw [beq_eq_false_iff_ne]; omega
                have hA := HA.out
                have hD := HD1.out
                rw [if_neg h4] at hA hD
                subst hA
                subst hD
                clear h4
                go_wp2_with fail
                go_meet
                exact ⟨rfl, HB8.out, HU8.out⟩
            case rest =>
              obtain ⟨rfl, hb, hu⟩ := hcut
              obtain ⟨W9, rfl⟩ : ∃ W, W = wc := ⟨wc, rfl⟩
              have HB9 := Lib.hid hb
              have HU9 := Lib.hid hu
              clear hb hu HB8 HU8 W8
              go_upto_region 13 with fail
              go_cut [58] from 25 to 86 (fun v58 wx => ∃ b, v58 = .bool b ∧ b = (decide (n = 3) && decide (k = 9)) ∧ wx = W9)
              case first =>
                by_cases h3 : n = 3
                · subst h3
                  by_cases h9 : k = 9
                  · subst h9
                    go_wp2_with fail
                    go_meet
                    exact ⟨_, rfl, rfl, rfl⟩
                  · have h91 : ((k : Int) == 9) = false := by rw [beq_eq_false_iff_ne]; omega
                    have H92 := Lib.hid (show decide (k = 9) = false from decide_eq_false h9)
                    clear h9
                    go_wp2_with fail
                    go_meet
                    exact ⟨_, rfl, by rw [H92.out]; rfl, rfl⟩
                · have h31 : ((n : Int) == 3) = false := by rw [beq_eq_false_iff_ne]; omega
                  have H32 := Lib.hid (show decide (n = 3) = false from decide_eq_false h3)
                  clear h3
                  go_wp2_with fail
                  go_meet
                  exact ⟨_, rfl, by rw [H32.out]; rfl, rfl⟩
              case rest =>
                obtain ⟨b58, rfl, hb58, rfl⟩ := hcut
                obtain ⟨W9, rfl⟩ : ∃ W, W = wc := ⟨wc, rfl⟩
                have H58 := Lib.hid hb58
                clear hb58
                go_upto_if 58 with fail
                go_cut [7] from 25 to 86 (fun v7 wx => v7 = .pointer (some ⟨eb, 0, none⟩) ∧ Blk wx eb [.int .i64 (t0 : Int), .int .i64 (k : Int), .int .u64 (a : Int), .int .u64 (d2 : Int), .bool own, .int .i64 (er : Int)] 27 ∧ Upd [] W7 wx)
                case first =>
                  have b3 := HB9.out.cell 3 rfl
                  have f3 := HB9.out.free 3
                  have b5 := HB9.out.cell 5 rfl
                  have f5 := HB9.out.free 5
                  by_cases h3 : n = 3
                  · subst h3
                    have hc2 := E2.out _ HU9.out (by omega)
                    have hD1 := HD1.out
                    rw [if_neg (by decide)] at hD1
                    subst hD1
                    by_cases h9 : k = 9
                    · subst h9
                      obtain rfl : b58 = true := H58.out
                      have hD2 := HD2.out
                      rw [if_neg (by decide), if_neg (by decide)] at hD2
                      subst hD2
                      have hE := HER.out
                      rw [if_pos ⟨rfl, rfl⟩] at hE
                      have hEi : (v2 : Int) % 100000 = (er : Int) := by omega
                      clear hE
                      have hwE : IntKind.i64.wrap (er : Int) = (er : Int) := by rw [IntKind.wrap_i64]; omega
                      go_wp2_with fail
                      refine (HN2.out _ (U27.out.trans HU9.out)).mono ?_
                      rintro e W10 ⟨rfl, u10⟩
                      have HB10 := Lib.hid (HB9.out.upd u10 (by simp))
                      have HU10 := Lib.hid (HU9.out.trans u10)
                      clear b3 f3 b5 f5 hc2 u10
                      have b5 := HB10.out.cell 5 rfl
                      have f5 := HB10.out.free 5
                      go_wp2_with fail
                      go_meet
                      exact ⟨rfl, HB10.out.set 5 _, HU10.out.setCell (.inr HEB.out) _⟩
                    · obtain rfl : b58 = false := by rw [H58.out, decide_eq_false h9]; rfl
                      have hD2 := HD2.out
                      rw [if_neg (by decide), if_pos ⟨rfl, h9⟩] at hD2
                      subst hD2
                      have hE := HER.out
                      rw [if_neg (fun q => h9 q.2)] at hE
                      subst hE
                      clear h9
                      go_wp2_with fail
                      refine (HN2.out _ (U27.out.trans HU9.out)).mono ?_
                      rintro e W10 ⟨rfl, u10⟩
                      have HB10 := Lib.hid (HB9.out.upd u10 (by simp))
                      have HU10 := Lib.hid (HU9.out.trans u10)
                      clear b3 f3 b5 f5 hc2 u10
                      have b3 := HB10.out.cell 3 rfl
                      have f3 := HB10.out.free 3
                      go_wp2_with fail
                      go_meet
                      exact ⟨rfl, HB10.out.set 3 _, HU10.out.setCell (.inr HEB.out) _⟩
                  · have h31 : ((n : Int) == 3) = false := by rw [beq_eq_false_iff_ne]; omega
                    obtain rfl : b58 = false := by rw [H58.out, decide_eq_false h3]; rfl
                    have hD2 := HD2.out
                    have hD1 := HD1.out
                    have hE := HER.out
                    rw [if_neg (fun q => h3 q.1)] at hE
                    have hDD : d1 = d2 := by
                      rw [← hD1, ← hD2]
                      split
                      · rfl
                      · rw [if_neg (fun q => h3 q.1)]
                    clear hD1 hD2 h3
                    subst hDD
                    subst hE
                    go_wp2_with fail
                    go_meet
                    exact ⟨rfl, HB9.out, HU9.out⟩
                case rest =>
                  obtain ⟨rfl, hb, hu⟩ := hcut
                  obtain ⟨W10, rfl⟩ : ∃ W, W = wc := ⟨wc, rfl⟩
                  have HB10 := Lib.hid hb
                  have HU10 := Lib.hid hu
                  clear hb hu HB9 HU9
                  have HTRY := Lib.hid (HC.out k own)
                  rw [HCD.out] at HTRY
                  have U210 := Lib.hid (HU2.out.trans (HU7.out.trans HU10.out))
                  have HLX := Lib.hid (rline_code W10 ⟨t0, k, a, d2, own, er⟩ HTRY.out.2.2 (HP.out.upd U210.out).tab)
                  have hO : lineO ⟨t0, k, a, d2, own, er⟩ = if formE ⟨t0, k, a, d2, own, er⟩ = true then (lineE ⟨t0, k, a, d2, own, er⟩, 0) else ([], 201) := rfl
                  generalize lineO ⟨t0, k, a, d2, own, er⟩ = lo at hO HLX
                  have hTR := HTRY.out.1
                  generalize formE ⟨t0, k, a, d2, own, er⟩ = fo at hO hTR
                  obtain ⟨lx, hlx⟩ : ∃ x, lineE ⟨t0, k, a, d2, own, er⟩ = x := ⟨_, rfl⟩
                  rw [hlx] at hO hTR
                  simp only [Ev.val] at HLX
                  have m0 := HB10.out.cell 0 rfl
                  have m1 := HB10.out.cell 1 rfl
                  have m2 := HB10.out.cell 2 rfl
                  have m3 := HB10.out.cell 3 rfl
                  have m4 := HB10.out.cell 4 rfl
                  have m5 := HB10.out.cell 5 rfl
                  clear hlx
                  cases fo with
                  | false =>
                    obtain rfl : lo = ([], 201) := by rw [hO]; rfl
                    have HTF := Lib.hid (show tryL L k own = false by rw [hTR]; rfl)
                    clear hO hTR
                    dsimp only at HLX
                    go_wp2_with fail
                    refine (HLX.out).mono ?_
                    rintro e W11 ⟨rfl, u11⟩
                    have HU11 := Lib.hid ((HU7.out.trans HU10.out).trans u11)
                    clear u11 m0 m1 m2 m3 m4 m5
                    have HF2 := Lib.hid (show tryL L k false = false by
                      rcases Nat.lt_or_ge i 1 with h | h
                      · obtain rfl : i = 0 := by omega
                        have : own = false := by rw [← HOWN.out]; rfl
                        have e := HTF.out
                        rw [this] at e
                        exact e
                      · exact HF.out h)
                    have HT2 := Lib.hid (show i + 1 = 2 → tryL L k true = false from fun h => by
                      obtain rfl : i = 1 := by omega
                      have : own = true := by rw [← HOWN.out]; rfl
                      have e := HTF.out
                      rw [this] at e
                      exact e)
                    dsimp only
                    go_wp2_with fail
                    go_roundw
                    case rel => exact ⟨i + 1, by omega, by go_num, fun _ => HF2.out, HT2.out, HU11.out⟩
                    case measure => simp [intOf]; omega
                  | true =>
                    obtain rfl : lo = (lx, 0) := by rw [hO]; rfl
                    dsimp only at HLX
                    by_cases hll : lx = L
                    · have HY := Lib.hid (try_yes (s := L) (k := k) (own := own) (by rw [hTR, decide_eq_true hll]; rfl))
                      have HCE := Lib.hid HTRY.out.2.1
                      subst hll
                      clear hO hTR HTRY
                      go_wp2_with fail
                      refine (HLX.out).mono ?_
                      rintro e W11 ⟨rfl, u11⟩
                      have HUX := Lib.hid (U210.out.trans u11)
                      have HBX := Lib.hid (HB10.out.upd u11 (by simp))
                      have HRX := Lib.hid (HR2.out.upd ((HU7.out.trans HU10.out).trans u11) (by simp))
                      clear u11 m0 m1 m2 m3 m4 m5
                      have m0 := HBX.out.cell 0 rfl
                      have m1 := HBX.out.cell 1 rfl
                      have m2 := HBX.out.cell 2 rfl
                      have m3 := HBX.out.cell 3 rfl
                      have m4 := HBX.out.cell 4 rfl
                      have m5 := HBX.out.cell 5 rfl
                      have f0 := HRX.out.free 0
                      have f1 := HRX.out.free 1
                      have f2 := HRX.out.free 2
                      have f3 := HRX.out.free 3
                      have f4 := HRX.out.free 4
                      have f5 := HRX.out.free 5
                      have c0 := HRX.out.cell 0 rfl
                      have c1 := HRX.out.cell 1 rfl
                      have c2 := HRX.out.cell 2 rfl
                      have c3 := HRX.out.cell 3 rfl
                      have c4 := HRX.out.cell 4 rfl
                      have c5 := HRX.out.cell 5 rfl
                      dsimp only
                      go_wp2_with fail
                      exact bodyPost_ret (ev6_results rfl _ _ rb t0 k a d2 own er (.bool true) rfl rfl HRX.out) rfl (hK _ _ ⟨ev6_upd HUX.out HWR.out t0 k a d2 own er, .inl ⟨HY.out.1, by rw [HY.out.2, HCE.out]; rfl⟩⟩)
                    · have HTF := Lib.hid (show tryL L k own = false by rw [hTR, decide_eq_false hll]; rfl)
                      have hb1 : (lx == L) = false := by simpa using hll
                      clear hO hTR hll
                      go_wp2_with fail
                      refine (HLX.out).mono ?_
                      rintro e W11 ⟨rfl, u11⟩
                      have HU11 := Lib.hid ((HU7.out.trans HU10.out).trans u11)
                      clear u11 m0 m1 m2 m3 m4 m5
                      have HF2 := Lib.hid (show tryL L k false = false by
                        rcases Nat.lt_or_ge i 1 with h | h
                        · obtain rfl : i = 0 := by omega
                          have : own = false := by rw [← HOWN.out]; rfl
                          have e := HTF.out
                          rw [this] at e
                          exact e
                        · exact HF.out h)
                      have HT2 := Lib.hid (show i + 1 = 2 → tryL L k true = false from fun h => by
                        obtain rfl : i = 1 := by omega
                        have : own = true := by rw [← HOWN.out]; rfl
                        have e := HTF.out
                        rw [this] at e
                        exact e)
                      dsimp only
                      go_wp2_with fail
                      go_roundw
                      case rel => exact ⟨i + 1, by omega, by go_num, fun _ => HF2.out, HT2.out, HU11.out⟩
                      case measure => simp [intOf]; omega
          · obtain rfl : i = 2 := by omega
            have HK := Lib.hid (show ∀ j own, 1 ≤ j → j < k + 1 → tryL L j own = false from fun j own h1 h2 => by
              rcases Nat.lt_or_ge j k with h | h
              · exact HNO5.out j own h1 h
              · obtain rfl : j = k := by omega
                cases own with
                | false => exact HF.out (by omega)
                | true => exact HT.out rfl)
            go_wp2_with fail
            go_roundw
            case rel => exact ⟨k + 1, by omega, by omega, by go_num, HK.out, HU6.out⟩
            case measure => simp [intOf]; omega
      · obtain rfl : k = 13 := by omega
        have HNO := Lib.hid (try_none (s := L) fun j own h1 h2 => HNO5.out j own h1 (by omega))
        have HRX := Lib.hid (HR2.out.upd HU5.out (by simp))
        have HUX := Lib.hid (HU2.out.trans HU5.out)
        have f0 := HRX.out.free 0
        have f1 := HRX.out.free 1
        have f2 := HRX.out.free 2
        have f3 := HRX.out.free 3
        have f4 := HRX.out.free 4
        have f5 := HRX.out.free 5
        have c0 := HRX.out.cell 0 rfl
        have c1 := HRX.out.cell 1 rfl
        have c2 := HRX.out.cell 2 rfl
        have c3 := HRX.out.cell 3 rfl
        have c4 := HRX.out.cell 4 rfl
        have c5 := HRX.out.cell 5 rfl
        go_wp2_with fail
        exact bodyPost_ret (ev6_results rfl _ _ rb 0 0 0 0 false 0 (.bool false) rfl rfl HRX.out) rfl (hK _ _ ⟨ev6_upd HUX.out HWR.out 0 0 0 0 false 0, .inr ⟨HNO.out, rfl⟩⟩)
end Go.Proofs.YtfldpejifpmapaaDoor
set_option linter.unusedSimpArgs false
set_option linter.unusedVariables false
set_option maxRecDepth 100000
namespace Go.Proofs.YtfldpejifpmapaaDoor
open Go.RowKit
open Go.Maps
theorem str_add (a : List UInt8) (s : ByteArray) (k : Nat) (h : k < s.size) : (⟨a.toArray⟩ : ByteArray) ++ s.extract k (k + 1) = ⟨(a ++ [s.get! k]).toArray⟩ := by
  have h1 : s.extract k (k + 1) = ⟨[s.get! k].toArray⟩ := by
    have := ex_one s k h
    cases hs : s.extract k (k + 1) with
    | mk d =>
      rw [hs] at this
      rw [← this]
  rw [h1]
  simp [ByteArray.ext_iff]
set_option maxHeartbeats 8000000 in
theorem rparse_code (s : ByteArray) (hs : s.size < 4294967281) (w : World) (hP : PreE w) : Calls Tryd.prog 18 #[.string s] w (ParseOk w (readH s.data.toList.length s.data.toList)) := by
  have HP := Lib.hid hP
  have hX : refP [] [] s.data.toList = readH s.data.toList.length s.data.toList := by
    rw [ref_read s.data.toList [] [] s.data.toList.length (by simp) (by simp)]
    simp
  rw [← hX]
  obtain ⟨X, hXX⟩ : ∃ X, refP [] [] s.data.toList = X := ⟨_, rfl⟩
  rw [hXX]
  have HX := Lib.hid hXX
  clear hX hP hXX
  refine calls_all fun K hK => ?_
  go_enter Tryd.func18, Tryd.ntmps18
  go_wp2_with fail
  go_loopw [5, 6, 7] (fun v5 v6 v7 wr => ∃ (k : Nat) (E : List Ev) (ln : List UInt8), k ≤ s.size ∧ v7 = .int .i64 k ∧ v6 = .string ⟨ln.toArray⟩ ∧ E.length ≤ k ∧ ln.length ≤ k ∧ wr.ownsRow w.heap.size 27 6 v5 E.length (E.flatMap Ev.cells) ∧ Upd [] w wr ∧ refP E ln (s.data.toList.drop k) = X) (fun _ _ v7 _ => s.size - (intOf v7).toNat)
  case atStart => exact ⟨0, [], [], by omega, rfl, rfl, by simp, by simp, ⟨rfl, .inl ⟨rfl, rfl⟩⟩, Upd.refl _ _, by rw [List.drop_zero]; exact HX.out⟩
  case round =>
    obtain ⟨k, E, ln, hk, rfl, rfl, hE, hln, ho, hu, hr⟩ := hrel
    have HO := Lib.hid ho
    have HU := Lib.hid hu
    have HR := Lib.hid hr
    obtain ⟨p5, c5, rfl⟩ := own_form ho
    clear ho hu hr
    by_cases hlt : k < s.size
    · have hkl : (k : Int) < (s.size : Int) := by omega
      have hdr := drop_get s k hlt
      have hk0 : 0 ≤ (k : Int) := by omega
      by_cases hc : s.get! k = 10
      · have hc1 : (((s[k]'hlt).toNat : Int) == 10) = true := by rw [byte_at s k hlt, hc]; rfl
        have hc2 : (((s[k]'hlt).toNat : Int) != 10) = false := by rw [bne, hc1]; rfl
        have hR2 := HR.out
        rw [hdr, hc, refP, if_pos rfl] at hR2
        have HR2 := Lib.hid hR2
        have HEV := Lib.hid (revent_code ⟨ln.toArray⟩ (by rw [Lib.size_eq]; simp only [List.toList_toArray]; omega) wr (HP.out.upd HU.out))
        simp only [List.toList_toArray] at HEV
        clear hdr hc hR2 HR
        go_wp2_with fail
        refine (HEV.out).mono ?_
        rintro e W2 ⟨u2, ⟨hok, rfl⟩ | ⟨hno, rfl⟩⟩
        · have hR3 := HR2.out
          rw [if_pos hok] at hR3
          have HR3 := Lib.hid hR3
          generalize evO (eventL ln) = x at HR3 ⊢
          obtain ⟨yth, ykd, yad, ywd, yown, yer⟩ := x
          simp only [Ev.val]
          have ua : Upd [] W2 (W2.alloc (.cells #[.int .i64 yth, .int .i64 ykd, .int .u64 yad, .int .u64 ywd, .bool yown, .int .i64 yer] 27)) := (Upd.refl _ _).alloc _
          have HU3 := Lib.hid ((HU.out.trans u2).trans ua)
          have HO3 := Lib.hid (own_upd (own_upd HO.out u2 (by simp)) ua (by simp))
          have HB3 := Lib.hid (Blk.new W2 [.int .i64 yth, .int .i64 ykd, .int .u64 yad, .int .u64 ywd, .bool yown, .int .i64 yer] 27)
          clear hok hR3 HR2 HO HU u2 ua HEV
          go_upto_region 11 with fail
          obtain ⟨xb, hxb⟩ : ∃ b, W2.heap.size = b := ⟨_, rfl⟩
          rw [hxb] at HB3 ⊢
          clear hxb
          obtain ⟨W3, hW3⟩ : ∃ W, W2.alloc (.cells #[.int .i64 yth, .int .i64 ykd, .int .u64 yad, .int .u64 ywd, .bool yown, .int .i64 yer] 27) = W := ⟨_, rfl⟩
          rw [hW3] at HU3 HO3 ⊢
          rw [show W2.alloc (.cells [.int .i64 yth, .int .i64 ykd, .int .u64 yad, .int .u64 ywd, .bool yown, .int .i64 yer].toArray 27) = W3 from hW3] at HB3
          clear hW3
          have m0 := HB3.out.cell 0 rfl
          have m1 := HB3.out.cell 1 rfl
          have m2 := HB3.out.cell 2 rfl
          have m3 := HB3.out.cell 3 rfl
          have m4 := HB3.out.cell 4 rfl
          have m5 := HB3.out.cell 5 rfl
          obtain ⟨v', W10, hrun, ho', hu', _⟩ := app_ev HO3.out ⟨yth, ykd, yad, ywd, yown, yer⟩ (by omega) HU3.out.size
          simp only [Ev.cells] at hrun hu'
          have ub : Upd [] W3 (W3.alloc (.cells #[.int .i64 yth, .int .i64 ykd, .int .u64 yad, .int .u64 ywd, .bool yown, .int .i64 yer] 27)) := (Upd.refl _ _).alloc _
          have HO10 := Lib.hid ho'
          have HU10 := Lib.hid (show Upd [] w W10 from (HU3.out.trans ub).tr (U := []) hu' (by simp) (fun g hg => .inr (own_blocks HO3.out g hg).1))
          obtain ⟨p', c', rfl⟩ := own_form ho'
          clear ho' hu' ub HO3
          go_wp2_with (at_builtin; refine wpList_append_eq rfl _ _ _ _ rfl _ _ _ rfl rfl hrun ?_)
          go_roundw
          case rel => exact ⟨k + 1, E ++ [⟨yth, ykd, yad, ywd, yown, yer⟩], [], by omega, by go_num, rfl, by rw [List.length_append, List.length_singleton]; omega, by simp, by rw [List.length_append, List.length_singleton]; exact HO10.out, HU10.out, HR3.out⟩
          case measure => simp [intOf]; omega
        · have hR3 := HR2.out
          rw [if_neg (by rw [hno]; decide)] at hR3
          have HXB := Lib.hid hR3.symm
          have HUX := Lib.hid ((HU.out.trans u2).alloc (.cells #[.int .i64 0, .int .i64 0, .int .u64 0, .int .u64 0, .bool false, .int .i64 0] 27))
          clear hno hR3 HR2 u2 HEV
          simp only [zeroE, Ev.val]
          go_wp2_with fail
          exact ⟨HUX.out, .inr ⟨by rw [HXB.out], by rw [HXB.out]; rfl⟩⟩
      · have hc1 : (((s[k]'hlt).toNat : Int) == 10) = false := by
          rw [byte_at s k hlt, beq_eq_false_iff_ne]; intro e; exact hc (UInt8.toNat_inj.1 (show (s.get! k).toNat = 10 by omega))
        have hc2 : (((s[k]'hlt).toNat : Int) != 10) = true := by rw [bne, hc1]; rfl
        have hR2 := HR.out
        rw [hdr, refP, if_neg hc] at hR2
        have hsa := str_add ln s k hlt
        obtain ⟨k1, hk1e⟩ : ∃ j, k + 1 = j := ⟨_, rfl⟩
        rw [hk1e] at hR2 hsa
        have HR2 := Lib.hid hR2
        have HSA := Lib.hid hsa
        have hwk : IntKind.i64.wrap ((k : Int) + 1) = (k1 : Int) := by rw [IntKind.wrap_i64]; omega
        have hkk : (k : Int) ≤ (k1 : Int) := by omega
        have hks : (k1 : Int) ≤ (s.size : Int) := by omega
        have hkk2 : k ≤ k1 := by omega
        have hks2 : k1 ≤ s.size := by omega
        have hk10 : 0 ≤ (k1 : Int) := by omega
        have hb1 : ¬ 9223372036854775807 < ln.length + (k1 - k) := by omega
        have HK1 := Lib.hid hk1e
        clear hc hdr hR2 hsa hk1e HR
        go_wp2_with fail
        go_roundw
        case rel => exact ⟨k1, E, ln ++ [s.get! k], hks2, rfl, by rw [HSA.out], by have := HK1.out; omega, by have := HK1.out; simp; omega, HO.out, HU.out, HR2.out⟩
        case measure => have := HK1.out; simp [intOf]; omega
    · obtain rfl : k = s.size := by omega
      have hR2 := HR.out
      rw [List.drop_eq_nil_of_le (by rw [← Lib.size_eq]; omega), refP] at hR2
      by_cases hl : ln = []
      · subst hl
        have HXB := Lib.hid (show X = (E, true) from hR2.symm)
        clear hR2 HR
        go_wp2_with fail
        exact ⟨HU.out, .inl ⟨by rw [HXB.out], _, by rw [HXB.out]; rfl, by rw [HXB.out]; exact HO.out⟩⟩
      · have HXB := Lib.hid (show X = (E, false) by rw [← hR2, decide_eq_false hl])
        have hb1 : (ln == []) = false := by simpa using hl
        have HUX := HU
        clear hR2 HR hl
        go_wp2_with fail
        exact ⟨HUX.out, .inr ⟨by rw [HXB.out], by rw [HXB.out]; rfl⟩⟩
end Go.Proofs.YtfldpejifpmapaaDoor
set_option linter.unusedSimpArgs false
set_option linter.unusedVariables false
set_option maxRecDepth 100000
namespace Go.Proofs.YtfldpejifpmapaaDoor
open Go.RowKit
open Go.Maps
/-- a row that may be written over: its blocks S -/
def SpoilAt (w : World) (S : List Nat) (p : Option Addr) (N : Nat) (z : Nat) (t : TypeId) : Prop := N = 0 ∨ ∃ g C, p = some ⟨g, 0, none⟩ ∧ g ∈ S ∧ Blk w g C t ∧ N * z ≤ C.length
theorem SpoilAt.upd0 {w w' : World} {S : List Nat} {p : Option Addr} {N z : Nat} {t : TypeId} (h : SpoilAt w S p N z t) (u : Upd [] w w') : SpoilAt w' S p N z t := h.imp id fun ⟨g, C, e, hg, hB, hl⟩ => ⟨g, C, e, hg, hB.upd u (by simp), hl⟩
theorem own_spoil {w : World} {base N c z : Nat} {p : Option Addr} {t : TypeId} {us : List Value} (h : w.ownsRow base t z (.slice p N c) N us) : ∃ S : List Nat, (∀ x ∈ S, base ≤ x ∧ x < w.heap.size) ∧ SpoilAt w S p N z t := by
  by_cases hN : N = 0
  · exact ⟨[], by simp, .inl hN⟩
  · obtain ⟨g, c', e⟩ := own_some h (by omega)
    cases e
    obtain ⟨hb, hl, sp, hB⟩ := own_openN h
    exact ⟨[g], fun x hx => by rw [List.mem_singleton] at hx; subst hx; exact ⟨hb, hB.lt⟩, .inr ⟨g, _, rfl, by simp, hB, by rw [List.length_append]; omega⟩⟩
theorem text_lines : ∀ l : List Ev, l.length ≤ (textL l).length
  | [] => by simp [textL]
  | e :: l => by
    have h := text_lines l
    have ht : textL (e :: l) = lineE e ++ 10 :: textL l := by unfold textL; simp
    rw [ht, List.length_append, List.length_cons, List.length_cons]
    omega
/-- an own row of a later world lies apart from blocks of an earlier one -/
theorem own_upd_lt {w w' : World} {base n size : Nat} {e : TypeId} {v : Value} {us : List Value} {S : List Nat} (h : w.ownsRow base e size v n us) (u : Upd S w w') (hS : ∀ x ∈ S, x < base) : w'.ownsRow base e size v n us :=
  own_upd h u (fun g hg e => by have := (own_blocks h g (by rw [e]; simp)).1; have := hS g hg; omega)
set_option maxHeartbeats 8000000 in
theorem eventsParses_walk (s : ByteArray) (hs : s.size ≤ 2000000) (w : World) (hP : PreE w) : Calls Tryd.prog 4 #[.string s] w fun e w' => e = .returned (.bool true) ∧ Upd [] w w' := by
  have HP := Lib.hid hP
  have HRT := Lib.hid (read_text s.data.toList.length s.data.toList)
  have hwd := read_wide s.data.toList.length s.data.toList
  have HPA := Lib.hid (fun W (u : Upd [] w W) => parse_code s (by omega) W (hP.upd u))
  have HPR := Lib.hid (fun W (u : Upd [] w W) => rparse_code s (by omega) W (hP.upd u))
  have hsl : s.data.toList.length ≤ 2000000 := by rw [← Lib.size_eq]; exact hs
  have HSE := Lib.hid (show s = ⟨s.data.toList.toArray⟩ by cases s; simp)
  generalize readH s.data.toList.length s.data.toList = X at HRT hwd HPA HPR
  generalize s.data.toList = L at HRT HSE hsl
  obtain ⟨l, ok⟩ := X
  dsimp only at HRT hwd
  have HW := Lib.hid hwd
  clear hP hwd
  refine calls_all fun K hK => ?_
  go_enter Tryd.func4, Tryd.ntmps4
  go_wp2_with fail
  refine (HPA.out _ (Upd.refl _ _)).mono ?_
  rintro e W1 ⟨u1, h1⟩
  cases ok with
  | false =>
    have he1 : e = .returned (.tuple #[.slice none 0 0, .int .i64 (l.length : Int), .int .i64 234]) := by rcases h1 with ⟨h, _⟩ | ⟨_, h⟩; cases h; exact h
    subst he1
    clear h1
    go_wp2_with fail
    refine (HPA.out _ u1).mono ?_
    rintro e W2 ⟨u2, h2⟩
    have he2 : e = .returned (.tuple #[.slice none 0 0, .int .i64 (l.length : Int), .int .i64 234]) := by rcases h2 with ⟨h, _⟩ | ⟨_, h⟩; cases h; exact h
    subst he2
    clear h2
    go_wp2_with fail
    refine (HPR.out _ (u1.trans u2)).mono ?_
    rintro e W3 ⟨u3, h3⟩
    have he3 : e = .returned (.tuple #[.slice none 0 0, .int .i64 (l.length : Int), .int .i64 234]) := by rcases h3 with ⟨h, _⟩ | ⟨_, h⟩; cases h; exact h
    subst he3
    clear h3
    have HU3 := Lib.hid ((u1.trans u2).trans u3)
    clear u1 u2 u3
    have HSM := Lib.hid (fun W => rsame_code W none none 0 0 [] (fun i x h => by simp at h) (fun i x h => by simp at h) (by simp))
    simp only [List.length_nil] at HSM
    go_wp2_with fail
    refine (HSM.out _).mono ?_
    rintro e W4 ⟨rfl, u4⟩
    have HU4 := Lib.hid (HU3.out.trans u4)
    clear u4 HU3
    go_wp2_with fail
    refine (HSM.out _).mono ?_
    rintro e W5 ⟨rfl, u5⟩
    have HU5 := Lib.hid (HU4.out.trans u5)
    clear u5 HU4
    go_wp2_with (go_at_call 15; refine (num_code _ _).mono ?_; rintro e W9 ⟨rfl, rfl⟩)
    go_loopw [12] (fun v12 wr => v12 = .int .i64 0 ∧ wr = W5) (fun _ _ => 0)
    case atStart => exact ⟨rfl, rfl⟩
    case round =>
      obtain ⟨rfl, rfl⟩ := hrel
      go_wp2_with fail
      refine (HSM.out _).mono ?_
      rintro e W6 ⟨rfl, u6⟩
      have HU6 := Lib.hid (HU5.out.trans u6)
      go_wp2_with fail
      refine (known_code _ (HP.out.upd HU6.out)).mono ?_
      rintro e W7 ⟨rfl, u7⟩
      go_wp2_with fail
      exact ⟨rfl, HU6.out.trans u7⟩
  | true =>
    obtain ⟨hall, htx⟩ := HRT.out rfl
    have hlen : l.length ≤ 2000000 := by have := text_lines l; rw [htx] at this; omega
    have hTX : textO l = (L, 0) := by unfold textO; rw [if_pos hall, htx]
    have HTX := Lib.hid hTX
    obtain ⟨v1, rfl, ho1⟩ : ∃ v, e = .returned (.tuple #[v, .int .i64 (l.length : Int), .int .i64 0]) ∧ W1.ownsRow w.heap.size 27 6 v l.length (l.flatMap Ev.cells) := by rcases h1 with ⟨_, h⟩ | ⟨h, _⟩; exact h; cases h
    clear h1 hTX hall htx HRT
    go_wp2_with fail
    refine (HPA.out _ u1).mono ?_
    rintro e W2 ⟨u2, h2⟩
    obtain ⟨v2, rfl, ho2⟩ : ∃ v, e = .returned (.tuple #[v, .int .i64 (l.length : Int), .int .i64 0]) ∧ W2.ownsRow W1.heap.size 27 6 v l.length (l.flatMap Ev.cells) := by rcases h2 with ⟨_, h⟩ | ⟨h, _⟩; exact h; cases h
    clear h2
    go_wp2_with fail
    refine (HPR.out _ (u1.trans u2)).mono ?_
    rintro e W3 ⟨u3, h3⟩
    obtain ⟨v3, rfl, ho3⟩ : ∃ v, e = .returned (.tuple #[v, .int .i64 (l.length : Int), .int .i64 0]) ∧ W3.ownsRow W2.heap.size 27 6 v l.length (l.flatMap Ev.cells) := by rcases h3 with ⟨_, h⟩ | ⟨h, _⟩; exact h; cases h
    clear h3
    obtain ⟨p1, c1, rfl, hh1⟩ := own_hist ho1
    obtain ⟨p2, c2, rfl, hh2⟩ := own_hist ho2
    obtain ⟨p3, c3, rfl, hh3⟩ := own_hist ho3
    obtain ⟨S, hS, hsp⟩ := own_spoil ho1
    have HS := Lib.hid (show ∀ x ∈ S, x ∉ ([] : List Nat) ∧ w.heap.size ≤ x ∧ x < W1.heap.size from fun x hx => ⟨by simp, hS x hx⟩)
    have HO2 := Lib.hid (own_upd ho2 u3 (by simp))
    have HO3 := Lib.hid ho3
    have H1 := Lib.hid ((hh1.upd0 u2).upd0 u3)
    have H2 := Lib.hid (hh2.upd0 u3)
    have H3 := Lib.hid hh3
    have HSP := Lib.hid ((hsp.upd0 u2).upd0 u3)
    have HU3 := Lib.hid ((u1.trans u2).trans u3)
    have HL12 := Lib.hid (show W1.heap.size ≤ W2.heap.size from u2.size)
    clear ho1 ho2 ho3 hh1 hh2 hh3 hS hsp u1 u2 u3
    have HSM := Lib.hid (fun W p q c d hp hq => rsame_code W p q c d l hp hq (by omega))
    have HTE := Lib.hid (fun W p c hp hw hT => text_code W p c l hp (by omega) hw hT)
    rw [HTX.out] at HTE
    clear HTX
    obtain ⟨N, hN⟩ : ∃ N, l.length = N := ⟨_, rfl⟩
    have HN := Lib.hid hN
    rw [hN] at HSM HSP HTE hlen ⊢
    clear hN
    go_wp2_with fail
    refine (HSM.out _ p1 p3 c1 c3 H1.out H3.out).mono ?_
    rintro e W4 ⟨rfl, u4⟩
    go_wp2_with fail
    refine (HSM.out _ p2 p3 c2 c3 (H2.out.upd0 u4) (H3.out.upd0 u4)).mono ?_
    rintro e W5 ⟨rfl, u5⟩
    have HU35 := Lib.hid (u4.trans u5)
    have HU5 := Lib.hid (HU3.out.trans HU35.out)
    have HSP5 := Lib.hid (HSP.out.upd0 HU35.out)
    clear u4 u5 HSP
    go_wp2_with (go_at_call 15; refine (num_code _ _).mono ?_; rintro e W9 ⟨rfl, rfl⟩)
    go_loopw [12] (fun v12 wr => ∃ i : Nat, i ≤ N ∧ v12 = .int .i64 i ∧ Upd S W5 wr ∧ SpoilAt wr S p1 N 6 27) (fun v12 _ => N - (intOf v12).toNat)
    case atStart => exact ⟨0, by omega, rfl, Upd.refl _ _, HSP5.out⟩
    case round =>
      obtain ⟨i, hi, rfl, hu, hsp⟩ := hrel
      by_cases hlt : i < N
      · obtain h0 | ⟨g, C, rfl, hg, hB, hl⟩ := hsp
        · omega
        have hlt' : (i : Int) < (N : Int) := by omega
        have hi0 : 0 ≤ (i : Int) := by omega
        obtain ⟨cv, hcv⟩ : ∃ v, C[i * 6]? = some v := ⟨_, List.getElem?_eq_getElem (show i * 6 < C.length by omega)⟩
        have hcell := hB.cell (i * 6) hcv
        have hfree := hB.free (i * 6)
        have HU6 := Lib.hid (hu.setCell (.inl hg) (p := ⟨g, i * 6, none⟩) (.int .i64 (-9)))
        have HSP6 := Lib.hid (show SpoilAt (wr.setCell ⟨g, i * 6, none⟩ (.int .i64 (-9))) S (some ⟨g, 0, none⟩) N 6 27 from .inr ⟨g, _, rfl, hg, hB.set (i * 6) _, by rw [List.length_set]; exact hl⟩)
        clear hu hB hl hg hcv
        go_wp2_with fail
        go_roundw
        case rel => exact ⟨i + 1, by omega, by go_num, HU6.out, HSP6.out⟩
        case measure => simp [intOf]; omega
      · have HUR := Lib.hid hu
        have HUW := Lib.hid (HU5.out.tr (U := []) hu (by simp) (fun x hx => .inr (HS.out x hx).2.1))
        have HO2' := Lib.hid (own_upd_lt (own_upd HO2.out HU35.out (by simp)) hu (fun x hx => (HS.out x hx).2.2))
        have HO3' := Lib.hid (own_upd_lt (own_upd HO3.out HU35.out (by simp)) hu (fun x hx => by have := (HS.out x hx).2.2; have := HL12.out; omega))
        obtain ⟨p2', c2', e2, hh2⟩ := own_hist HO2'.out
        obtain ⟨p3', c3', e3, hh3⟩ := own_hist HO3'.out
        cases e2
        cases e3
        have H2' := Lib.hid hh2
        have H3' := Lib.hid hh3
        clear hh2 hh3 hu hsp
        obtain rfl : i = N := by omega
        go_wp2_with fail
        refine (HTE.out wr p2 c2 H2'.out HW.out (HP.out.upd HUW.out).tab).mono ?_
        rintro e W6 ⟨rfl, u6⟩
        have HU6 := Lib.hid (HUW.out.trans u6)
        have H26 := Lib.hid (H2'.out.upd0 u6)
        have H36 := Lib.hid (H3'.out.upd0 u6)
        clear u6
        rw [← HSE.out]
        go_wp2_with (go_at_call 15; refine (num_code _ _).mono ?_; rintro e W9 ⟨rfl, rfl⟩)
        refine (HSM.out _ p2 p3 c2 c3 H26.out H36.out).mono ?_
        rintro e W7 ⟨rfl, u7⟩
        have HU7 := Lib.hid (HU6.out.trans u7)
        go_wp2_with fail
        refine (known_code _ (HP.out.upd HU7.out)).mono ?_
        rintro e W8 ⟨rfl, u8⟩
        go_wp2_with fail
        exact ⟨rfl, HU7.out.trans u8⟩
end Go.Proofs.YtfldpejifpmapaaDoor
set_option linter.unusedSimpArgs false
set_option linter.unusedVariables false
set_option maxRecDepth 100000
namespace Go.Proofs.YtfldpejifpmapaaDoor.eventsParses
open Go.ChangeShapes Go.WideShapes Go.ChangeAt Go.RowKit

theorem listed : Lists Rows.eventsParsesUptoRow.laid := by
  unfold Lists Rows.eventsParsesUptoRow
  exact ⟨by repeat (first | exact List.mem_cons_self | refine List.mem_cons_of_mem _ ?_), by repeat (first | exact List.mem_cons_self | refine List.mem_cons_of_mem _ ?_), by repeat (first | exact List.mem_cons_self | refine List.mem_cons_of_mem _ ?_)⟩

theorem plainH (w : World) : laidMetH Tryd.prog Rows.eventsParsesUptoRow.laid w = laidMet Tryd.prog Rows.eventsParsesUptoRow.laid w := MakeChecks.laidMetH_plain _ _ _ (by kernel_rfl)

theorem lifted (os : Os) (started : os.Started) (H : Type) (enc : TypeId × Value → H) (F : Stop.Interp) :
    ReturnsInHanded {} Tryd.checked os 4 .any ((Rows.OpenSpec.upto Rows.eventsParsesSpec).preRow enc Tryd.prog Tryd.f4 Rows.eventsParsesUptoRow.domain false Rows.eventsParsesUptoRow.laid) (((Rows.OpenSpec.upto Rows.eventsParsesSpec).at F).post enc Tryd.prog Tryd.f4 false true false false) := by
  have hx0 : (DataW.whole enc Tryd.prog ((World.laidAll Tryd.prog os Rows.eventsParsesUptoRow.laid).forCall (fun _ _ => 0) ⟨#[], #[.string ⟨#[]⟩], []⟩).memory Tryd.f4.params.toList Rows.eventsParsesSpec.vars false (#[.string ⟨#[]⟩] : Array Value).toList 8).map (fun x => (x.1, x.2.1)) = some ([.lit (.string [])], []) := by kernel_rfl
  obtain ⟨⟨x1, x2, x3⟩, hx, hx1⟩ := Option.map_eq_some_iff.1 hx0
  simp only [Prod.mk.injEq] at hx1
  obtain ⟨rfl, rfl⟩ := hx1
  refine returnsInHanded_of_row (C := Tryd.checked) (s := (Rows.OpenSpec.upto Rows.eventsParsesSpec)) law_own started (by kernel_rfl) Tryd.func4
    (witness_card (enc := enc) (s := (Rows.OpenSpec.upto Rows.eventsParsesSpec)) (conds := Rows.eventsParsesUptoRow.domain) (laid := Rows.eventsParsesUptoRow.laid) #[.string ⟨#[]⟩] (World.shaped_of_ZipB (by kernel_rfl) (by kernel_rfl)) (by kernel_rfl)
      (OpenSpec.preRow_of_cond 8 hx (by kernel_rfl) (fun k hk => by cases hk; kernel_rfl) (by kernel_rfl) (by rw [plainH]; exact laidMet_laidAll _ (by kernel_rfl) (by kernel_rfl)))) ?_
  intro W base args ds gs before hval0 hW hcnd hcond hsz0 hL hsh _
  have hL0 : laidMetH Tryd.prog Rows.eventsParsesUptoRow.laid W := hL
  rw [plainH] at hL0
  have hPre : PreE W := pre_laid listed hL0 hsh
  have hbulk : Rows.uptoSmall H (ds ++ gs) = true := hcond _ rfl
  have hsz : (DataW.weightsEach Tryd.prog (Tryd.f4.params.toList ++ Rows.eventsParsesSpec.plain.varTypes Tryd.prog) (ds ++ gs)).all (· ≤ reachBytes) = true := hsz0
  clear hcond hsz0
  have hval : ∀ (j : Nat) t v, Tryd.f4.params[j]? = some t → args[j]? = some v → Value.okWide Tryd.prog W .any base t v := hval0
  have hW' := hW
  obtain ⟨p, q, hA0, hV, rfl, hfz, hnd⟩ := hW
  have hA : DataW.TrodAll enc Tryd.prog W 0 (fun _ => true) true Tryd.f4.params.toList args.toList ds p := hA0
  rw [Tryd.params4] at hA hval
  obtain ⟨v0, vs0, d0, ds0, p0, q0, hargs, rfl, rfl, h0, r0⟩ := trodAll_cons hA
  obtain ⟨rfl, rfl, rfl⟩ := trodAll_nil r0
  obtain rfl : args = #[v0] := by cases args; simp_all
  obtain ⟨s0, rfl, rfl, rfl, w0⟩ := Go.ChangeMaps.open_string Tryd.underlying9 (hval 0 9 v0 rfl rfl) h0
  have hs0 : s0.size ≤ 140737488351232 := by
    have := sized_string hsz (j := 0) (t := 9) (bytes := s0.data.toList) (by rw [Tryd.params4]; rfl) rfl
    rw [Lib.size_eq]; simpa [reachBytes] using this
  have hlen : s0.size ≤ 2000000 := by
    have h2 := hbulk
    unfold Rows.uptoSmall at h2
    have h1 := of_decide_eq_true h2
    simp only [List.cons_append, List.nil_append, Rows.uptoBulkAll, Rows.uptoBulk] at h1
    rw [Lib.size_eq]
    omega
  refine (eventsParses_walk s0 hlen W hPre).mono fun e W' ⟨he, hu⟩ => ?_
  subst he
  exact ⟨_, rfl, law_post (s := Rows.eventsParsesSpec) rfl (by rw [Tryd.params4]; decide +kernel) rfl (by obtain ⟨rfl, _⟩ := trodVars_none hV; rfl) hW' (hu.below (Nat.le_refl _) (by simp))⟩

theorem said : Rows.eventsParsesUptoRow.holds Tryd.pinned (Rows.OpenSpec.upto Rows.eventsParsesSpec) :=
  OpenClaim.holds_of_cond 4 Tryd.f4 rfl rfl rfl rfl rfl rfl rfl ⟨rfl, rfl, rfl, rfl, rfl⟩ rfl rfl rfl rfl rfl (by kernel_rfl) Tryd.func4 (by kernel_rfl)
    (of_decide_eq_true (by kernel_rfl)) (by unfold Func.isWrapper; first | (rw [if_pos (by decide +kernel)]; kernel_rfl) | (rw [if_neg (by decide +kernel)]; exact ⟨rfl, rfl⟩))
    (fun os started H enc _ F => by rw [OpenClaim.pre_eq_preRow]; exact lifted os started H enc F)

theorem plain (f : FuncId) (fn : Func) (hf : Tryd.pinned.checked.prog.funcNamed "parley/parleylaw13.EventsParses" = some f) (hfn : Tryd.pinned.checked.prog.funcs[f]? = some fn) :
    true = Tryd.pinned.checked.prog.looks [] ∧ ∀ (j : Nat) t, fn.params[j]? = some t → Tryd.pinned.checked.prog.wantsStandIn t = false := by
  obtain rfl : f = 4 := Option.some.inj ((show Tryd.prog.funcNamed "parley/parleylaw13.EventsParses" = some 4 by kernel_rfl).symm.trans hf) |>.symm
  obtain rfl : fn = Tryd.f4 := (Option.some.inj (Tryd.func4.symm.trans hfn)).symm
  refine ⟨by kernel_rfl, fun j t ht => ?_⟩
  have hall : ((Tryd.f4).params.toList.all fun u => !Tryd.prog.wantsStandIn u) = true := by kernel_rfl
  have hm : t ∈ (Tryd.f4).params.toList := by simpa using Array.mem_of_getElem? ht
  exact (show Tryd.prog.wantsStandIn t = false by simpa using List.all_eq_true.1 hall t hm)

theorem proved : Rows.EventsParsesUptoCardSaid :=
  Claim7.holds_tied_plain_at .later [] _ _ _ _ said (fun _ h => by cases h) (by kernel_rfl) (fun _ h => by cases h) eventsParsesUpto_row_tie rfl ⟨rfl, rfl⟩ (by kernel_rfl) rfl plain (by kernel_rfl)

end Go.Proofs.YtfldpejifpmapaaDoor.eventsParses
