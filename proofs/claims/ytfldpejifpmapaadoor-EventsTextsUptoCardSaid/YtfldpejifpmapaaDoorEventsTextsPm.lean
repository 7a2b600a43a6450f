/- EventsTexts (layer 13): any history as a text, any event as a line, or the refusal. The conditions: the row's own list of variables; the arguments hold at most 1048576 values. -/
import Derived.Test.YtfldpejifpmapaaDoorBase
import Derived.ProofKit
import Derived.OpenShut
import Derived.Deep.Grids
import Derived.Deep.Fields
import Derived.SizedLaws
import Derived.Test.YtfldpejifpmapaaDoorEEv
import Derived.Test.YtfldpejifpmapaaDoorRows
import Derived.LaidLaws
import Derived.Lay
import Derived.Lib.LaidU8
import Derived.Lib.LaidTab
import Derived.MakeChecks
import Derived.Deep.DeepHandedRow
import Derived.Shelf.LaysM
import Derived.HandedShaped
import Derived.Test.YtfldpejifpmapaaDoorEHist
import Derived.Test.YtfldpejifpmapaaDoorEEv2
import Derived.Test.YtfldpejifpmapaaDoorECheck
import Derived.Test.YtfldpejifpmapaaDoorEPure
import Derived.Test.YtfldpejifpmapaaDoorEffC
import Derived.Deep.Cut
import Derived.Deep.CutRange
import Derived.Deep.CutBlock
import Derived.Test.YtfldpejifpmapaaDoorELine2
import Derived.Test.YtfldpejifpmapaaDoorEText
import Derived.Test.YtfldpejifpmapaaDoorCards
import Derived.Test.YtfldpejifpmapaaDoorTie
import Derived.SevenTiedAt
import Derived.ChangeMaps5
set_option linter.unusedSimpArgs false
set_option linter.unusedVariables false
set_option maxRecDepth 100000
namespace Go.Proofs.YtfldpejifpmapaaDoor
open Go.ChangeShapes Go.WideShapes Go.ChangeAt Go.RowKit

theorem law_own : ownKnob Tryd.prog.godebug = none := by kernel_rfl
theorem law_laidOut : laidOutB Tryd.prog = true := by kernel_rfl

theorem trodAll_below {H : Type} {enc : TypeId × Value → H} {P : Program} (hl : laidOutB P = true) {W W' : World} (hB : Below W.heap.size W W') :
    ∀ (ts : List TypeId) (vs : List Value) (ds : List (DataW H)) (ps : List MemPlace), (∀ t ∈ ts, P.readableRec t = true ∧ t < P.types.size) →
      DataW.TrodAll enc P W 0 (fun _ => true) true ts vs ds ps → (∀ x ∈ ps, x.block < W.heap.size) →
      DataW.TrodAll enc P W' 0 (fun b => decide (b < W.heap.size)) true ts vs ds ps := by
  intro ts
  induction ts with
  | nil =>
    intro vs ds ps _ h _
    obtain ⟨rfl, rfl, rfl⟩ := trodAll_nil h
    exact trodAll_mk0
  | cons t ts ih =>
    intro vs ds ps ht h hlt
    obtain ⟨v, vs', d, ds', p, q, rfl, rfl, rfl, hd, hr⟩ := trodAll_cons h
    exact trodAll_cons_mk (Below.trod hl (ht t (by simp)).1 (ht t (by simp)).2 hd hB (fun x hx => hlt x (by simp [hx]))) (ih vs' ds' q (fun t' h' => ht t' (by simp [h'])) hr (fun x hx => hlt x (by simp [hx])))

theorem law_post {H : Type} {enc : TypeId × Value → H} {f : Func} {s : ChangeSpec} {W W' : World} {args : Array Value} {ds gs : List (DataW H)} {before : List MemPlace}
    (hres : f.resultTypes = #[4]) (hpar : ∀ t ∈ f.params.toList, Tryd.prog.readableRec t = true ∧ t < Tryd.prog.types.size) (hsv : s.vars = [])
    (hfn : s.fn H (ds ++ gs) = { results := [.lit (.bool true)], args := ds })
    (hW : DataW.Whole enc Tryd.prog f.params.toList s.vars false W args.toList ds gs before) (hB : Below W.heap.size W W') :
    s.post enc Tryd.prog f false true false false W args (.bool true) W' := by
  have hW0 := hW
  obtain ⟨p, q, hA, hV, hpq, hfz, hnd⟩ := hW
  have hlt : ∀ x ∈ p, x.block < W.heap.size := fun x hx => by simpa using hW0.lt x (by rw [hpq]; simp [hx])
  refine ⟨ds, gs, before, [], p, [], hW0, ?_, ?_, ?_, hB.frame _, fun h => by cases h⟩
  · rw [hres, hfn]
    exact trodAll_mk1 (shut_bool Tryd.underlying4 true)
  · rw [hfn]
    exact trodAll_below law_laidOut hB _ _ _ _ hpar hA hlt
  · rw [hsv, hfn]
    rfl

end Go.Proofs.YtfldpejifpmapaaDoor
set_option linter.unusedSimpArgs false
set_option linter.unusedVariables false
set_option maxRecDepth 100000
namespace Go.Proofs.YtfldpejifpmapaaDoor
open Go.ChangeShapes Go.WideShapes Go.ChangeAt Go.RowKit Go.Deep

section
variable {H : Type} {enc : TypeId × Value → H} {P : Program} {w : World} {base : Nat} {held : Bool}

theorem spot_none {a : Addr} {v : Value} (h : w.cell? a = some v) : a.spot = none := by
  unfold World.cell? at h
  split at h
  · split at h
    · cases h
    · rename_i hs; simpa using hs
  · cases h

theorem addr_eta {a : Addr} (h : a.spot = none) : a = ⟨a.block, a.off, none⟩ := by cases a; simp at h; subst h; rfl

/-- a slice of integers that came in -/
theorem open_sl_ints {t e : TypeId} {k : IntKind} {r : Reach} {b0 : Nat} {v : Value} {d : DataW H} {ps : List MemPlace} (ht : P.underlying t = some (.slice e)) (he : P.underlying e = some (.int k)) (hc : P.cellsOf e = 1)
    (hval : Value.okWide P w r b0 t v) (h : DataW.Trod enc P w base (fun _ => true) held t v d ps) :
    ∃ (p : Option Addr) (cap : Nat) (zs : List Int), v = .slice p zs.length cap ∧ SlI w k p zs ∧ (∀ n ∈ zs, (Lit.int k n).wf = true) ∧ zs.length ≤ cap ∧ cap ≤ maxLen ∧ (∀ b o, p = some ⟨b, o, none⟩ → zs ≠ [] → b < w.heap.size) := by
  obtain ⟨p, len, cap, rfl⟩ := okWide_slice ht hval
  obtain ⟨fuel, hf⟩ := h
  rcases open_ints ht he hc hf with ⟨h0, _⟩ | ⟨a, l, c, zs, hcs, _, hlc, hm, hl, _, hcell, hwf⟩
  · simp [Value.cells] at h0
    obtain ⟨rfl, rfl, rfl⟩ := h0
    exact ⟨none, 0, [], rfl, SlI.nil _ _ _, by simp, by simp, by simp [maxLen], by simp⟩
  · simp [Value.cells] at hcs
    obtain ⟨rfl, rfl, rfl⟩ := hcs
    simp only [if_true] at hl
    have hlen : (zs.take len).length = len := by simp; omega
    have hget : ∀ i, i < len → wd (zs.take len) i = zs.getD i 0 := by intro i hi; simp [wd, hi]
    have hsp : 0 < len → a.spot = none := fun hp => by
      have := hcell 0 (by omega)
      rw [show a.add 0 = a from rfl] at this
      exact spot_none this
    refine ⟨some a, cap, zs.take len, by rw [hlen], ⟨fun hne => ?_, fun b o e i hi => ?_⟩, fun n hn => hwf n (List.mem_of_mem_take hn), by omega, hm, fun b o e hne => ?_⟩
    · have : 0 < len := by rcases Nat.eq_zero_or_pos len with h0 | h0; subst h0; simp at hne; exact h0
      exact ⟨a.block, a.off, by rw [← addr_eta (hsp this)]⟩
    · rw [hlen] at hi
      rw [hget i hi]
      have := hcell i (by omega)
      simp at e
      rw [e, addr_add] at this
      exact this
    · have : 0 < len := by rcases Nat.eq_zero_or_pos len with h0 | h0; subst h0; simp at hne; exact h0
      have hc0 := hcell 0 (by omega)
      simp at e
      rw [show a.add 0 = a from rfl, e] at hc0
      exact World.block_lt_of_cell? w _ hc0

/-- the reach of a slice among the arguments -/
theorem slice_reach {t e : TypeId} {ts : List TypeId} {ds : List (DataW H)} {j : Nat} {p : Option Addr} {len cap : Nat} {d : DataW H} {ps : List MemPlace} (ht : P.underlying t = some (.slice e)) {w' : World}
    (h : DataW.Trod enc P w' base (fun _ => true) held t (.slice p len cap) d ps) (hw : (DataW.weightsEach P ts ds).all (· ≤ reachBytes) = true) (hj : ts[j]? = some t) (hd : ds[j]? = some d) (n : Nat) (hn : P.bytesOf e = n) : cap * n ≤ 140737488351232 := by
  subst hn
  obtain ⟨fuel, hf⟩ := h
  rcases open_slice ht hf with ⟨h0, _⟩ | ⟨a, l, c, m, _, D, Pl, hcs, _, hlc, hm, hmm, hx, _⟩
  · simp [Value.cells] at h0
    obtain ⟨rfl, rfl, rfl⟩ := h0
    simp
  · simp [Value.cells] at hcs
    obtain ⟨rfl, rfl, rfl⟩ := hcs
    simp only [if_true] at hmm
    subst hmm
    have hd' := (Prod.mk.inj hx).1
    rw [hd'] at hd
    have := sized_slice hw hj hd ht
    simp only [List.length_map, List.length_range, reachBytes] at this
    rw [show len + (m - len) = m by omega] at this
    omega

/-- v is a slice that reads as these cells -/
structure SlV (w : World) (p : Option Addr) (n : Nat) (V : Nat → Value) : Prop where
  ne : 0 < n → ∃ b o, p = some ⟨b, o, none⟩
  cells : ∀ b o, p = some ⟨b, o, none⟩ → ∀ i, i < n → w.cell? ⟨b, o + i, none⟩ = some (V i)

theorem SlV.lt {w : World} {p : Option Addr} {n : Nat} {V : Nat → Value} (h : SlV w p n V) (hn : 0 < n) {b o : Nat} (e : p = some ⟨b, o, none⟩) : b < w.heap.size :=
  World.block_lt_of_cell? w _ (h.cells b o e 0 hn)

theorem SlV.below {w w' : World} {p : Option Addr} {n : Nat} {V : Nat → Value} (h : SlV w p n V) (hu : Below w.heap.size w w') : SlV w' p n V :=
  ⟨h.ne, fun b o e i hi => (hu.cell (p := ⟨b, o + i, none⟩) (h.lt (by omega) e)).trans (h.cells b o e i hi)⟩

theorem SlI.slv {k : IntKind} {p : Option Addr} {zs : List Int} (h : SlI w k p zs) : SlV w p zs.length (fun i => .int k (wd zs i)) :=
  ⟨fun hn => h.ne (List.length_pos_iff.1 hn), h.cells⟩

/-- a slice of bools that came in -/
theorem open_sl_bools {t e : TypeId} {r : Reach} {b0 : Nat} {v : Value} {d : DataW H} {ps : List MemPlace} (ht : P.underlying t = some (.slice e)) (he : P.underlying e = some .bool) (hc : P.cellsOf e = 1)
    (hval : Value.okWide P w r b0 t v) (h : DataW.Trod enc P w base (fun _ => true) held t v d ps) :
    ∃ (p : Option Addr) (n cap : Nat) (B : Nat → Bool), v = .slice p n cap ∧ SlV w p n (fun i => .bool (B i)) ∧ n ≤ cap ∧ cap ≤ maxLen := by
  obtain ⟨p, len, cap, rfl⟩ := okWide_slice ht hval
  obtain ⟨fuel, hf⟩ := h
  rcases open_bools ht he hc hf with ⟨h0, _⟩ | ⟨a, l, c, B, hcs, _, hlc, hm, _, hcell⟩
  · simp [Value.cells] at h0
    obtain ⟨rfl, rfl, rfl⟩ := h0
    exact ⟨none, 0, 0, fun _ => false, rfl, ⟨fun h => absurd h (by simp), fun _ _ e => by simp at e⟩, by simp, by simp [maxLen]⟩
  · simp [Value.cells] at hcs
    obtain ⟨rfl, rfl, rfl⟩ := hcs
    refine ⟨some a, len, cap, B, rfl, ⟨fun hp => ?_, fun b o e i hi => ?_⟩, hlc, hm⟩
    · have := hcell 0 (by omega)
      rw [show a.add 0 = a from rfl] at this
      exact ⟨a.block, a.off, by rw [← addr_eta (spot_none this)]⟩
    · have := hcell i (by omega)
      simp at e
      rw [e, addr_add] at this
      exact this

theorem open_slice_fields {spare : Nat → Bool} {t e : TypeId} {fs : Array Field} {fuel : Nat} {cs : List Value} {x : DataW H × List MemPlace} (ht : P.underlying t = some (.slice e)) (he : P.underlying e = some (.struct fs))
    (hone : oneCellFields P fs = true) (hC : P.cellsOf e = fs.size) (h : DataW.trod enc P w base spare held fuel t cs = some x) :
    (cs = [.slice none 0 0] ∧ x = (.nil, [])) ∨
    ∃ (a : Addr) (len cap m : Nat) (D : Nat → DataW H) (Pl : Nat → List MemPlace), cs = [.slice (some a) len cap] ∧ base ≤ a.block ∧ len ≤ cap ∧ cap ≤ maxLen ∧ m = (if spare a.block then cap else len) ∧
      x = (.slice ((List.range len).map D) ((List.range (m - len)).map fun j => D (len + j)), MemPlace.row a (m * fs.size) ++ (List.range m).flatMap Pl) ∧
      ∀ i, i < m → ∃ (ys : List (DataW H × List MemPlace)) (n : Nat), D i = .agg (ys.map (·.1)) ∧ Pl i = ys.flatMap (·.2) ∧ ys.length = fs.size ∧
        ∀ (j : Nat) (f : Field), fs[j]? = some f → ∃ (v : Value) (y : DataW H × List MemPlace), w.cell? (a.add (i * fs.size + j)) = some v ∧ ys[j]? = some y ∧ DataW.trod enc P w base spare held n f.type [v] = some y := by
  rcases open_slice ht h with h0 | ⟨a, len, cap, m, n, D, Pl, hcs, hb, hl, hm, hmm, hx, hi⟩
  · exact .inl h0
  · refine .inr ⟨a, len, cap, m, D, Pl, hcs, hb, hl, hm, hmm, by rw [hC] at hx; exact hx, fun i him => ?_⟩
    obtain ⟨cs', hc, ht'⟩ := hi i him
    rw [hC] at hc
    obtain ⟨ys, n', hn', hy, hlen, hyl, hf⟩ := DataW.trod_struct he ht'
    obtain ⟨_, hcl, hat⟩ := World.cells?_some hc
    simp only [Prod.mk.injEq] at hy
    refine ⟨ys, n', hy.1, hy.2, hyl, fun j f hj => ?_⟩
    obtain ⟨ho, hk⟩ := hone_of hone j f hj
    have hjl : j < fs.size := (Array.getElem?_eq_some_iff.1 hj).1
    have hcell := hat j hjl
    have hv : cs'[j]? = some (cs'[j]'(by omega)) := List.getElem?_eq_getElem (by omega)
    have h1 := hf j f hj
    rw [ho, hk] at h1
    have hone' : (cs'.drop j).take 1 = [cs'[j]'(by omega)] := by
      rw [List.drop_eq_getElem_cons (by omega)]
      rfl
    rw [hone'] at h1
    have hys : ys[j]? = some (ys[j]'(by omega)) := List.getElem?_eq_getElem (by omega)
    refine ⟨_, _, ?_, hys, h1.trans hys⟩
    rw [← Go.Deep.add_add, hcell, hv]

/-- a slice of structs of one-cell fields that came in: each cell's value is one of its field's type -/
theorem open_sl_structs {t e : TypeId} {fs : Array Field} {r : Reach} {b0 : Nat} {v : Value} {d : DataW H} {ps : List MemPlace} (ht : P.underlying t = some (.slice e)) (he : P.underlying e = some (.struct fs))
    (hone : oneCellFields P fs = true) (hC : P.cellsOf e = fs.size) (hpos : 0 < fs.size)
    (hval : Value.okWide P w r b0 t v) (h : DataW.Trod enc P w base (fun _ => true) held t v d ps) :
    ∃ (p : Option Addr) (n cap : Nat) (V : Nat → Value), v = .slice p n cap ∧ SlV w p (n * fs.size) V ∧ n ≤ cap ∧ cap ≤ maxLen ∧
      ∀ i, i < n → ∀ (j : Nat) (f : Field), fs[j]? = some f → ∃ (m : Nat) (y : DataW H × List MemPlace), DataW.trod enc P w base (fun _ => true) held m f.type [V (i * fs.size + j)] = some y := by
  obtain ⟨p, len, cap, rfl⟩ := okWide_slice ht hval
  obtain ⟨fuel, hf⟩ := h
  rcases open_slice_fields ht he hone hC hf with ⟨h0, _⟩ | ⟨a, l, c, m, D, Pl, hcs, _, hlc, hm, hmm, _, hcell⟩
  · simp [Value.cells] at h0
    obtain ⟨rfl, rfl, rfl⟩ := h0
    exact ⟨none, 0, 0, fun _ => undef, rfl, ⟨fun h => absurd h (by simp), fun _ _ e => by simp at e⟩, by simp, by simp [maxLen], fun i hi => by omega⟩
  · simp [Value.cells] at hcs
    obtain ⟨rfl, rfl, rfl⟩ := hcs
    simp only [if_true] at hmm
    subst hmm
    have hall : ∀ q, q < len * fs.size → ∃ v, w.cell? (a.add q) = some v := by
      intro q hq
      have h1 : q / fs.size < len := Nat.div_lt_of_lt_mul (by rw [Nat.mul_comm]; exact hq)
      have h2 : q % fs.size < fs.size := Nat.mod_lt _ hpos
      obtain ⟨ys, n', _, _, _, hj⟩ := hcell (q / fs.size) (by omega)
      obtain ⟨v, y, hv, _, _⟩ := hj (q % fs.size) fs[q % fs.size] (by simp [h2])
      have e : q / fs.size * fs.size + q % fs.size = q := by rw [Nat.mul_comm]; exact Nat.div_add_mod q fs.size
      rw [e] at hv
      exact ⟨v, hv⟩
    have hsp : ∀ q, q < len * fs.size → w.cell? (a.add q) = some ((w.cell? (a.add q)).getD undef) := by
      intro q hq
      obtain ⟨v, hv⟩ := hall q hq
      rw [hv]; rfl
    refine ⟨some a, len, m, fun q => (w.cell? (a.add q)).getD undef, rfl, ⟨fun hp => ?_, fun b o e i hi => ?_⟩, hlc, hm, fun i hi j f hj => ?_⟩
    · have := hsp 0 hp
      rw [show a.add 0 = a from rfl] at this
      exact ⟨a.block, a.off, by rw [← addr_eta (spot_none this)]⟩
    · have := hsp i hi
      simp at e
      rw [e, addr_add] at this
      simp only [e, addr_add]
      exact this
    · obtain ⟨ys, n', _, _, _, hj'⟩ := hcell i (by omega)
      obtain ⟨v, y, hv, _, hy⟩ := hj' j f hj
      exact ⟨n', y, by simp only [hv, Option.getD_some]; exact hy⟩

end
end Go.Proofs.YtfldpejifpmapaaDoor
set_option linter.unusedSimpArgs false
set_option linter.unusedVariables false
set_option maxRecDepth 100000
namespace Go.Proofs.YtfldpejifpmapaaDoor
open Go.RowKit
open Go.ChangeShapes Go.WideShapes Go.ChangeAt

theorem tab_reads {W : World} (h : Lib.VarReads Tryd.prog W "internal/strconv.uint64pow10" Rows.laid_internal_strconv_uint64pow10) : Tab W := by
  obtain ⟨g, t, cs, fuel, p, hg, ht, hv, hd⟩ := h
  obtain rfl := Option.some.inj ((show Tryd.prog.globalNamed "internal/strconv.uint64pow10" = some 0 by kernel_rfl).symm.trans hg)
  obtain rfl := Option.some.inj ((show (Tryd.prog.globals[0]?).map (·.type) = some 145 by kernel_rfl).symm.trans ht)
  have hd' : DataW.trod (fun _ => ()) Tryd.prog W 0 (fun _ => true) false fuel 145 cs.toList = some (Lib.tabData .u64 Lib.pow10Tab, p) := hd
  unfold Tab Lib.TabIs
  rw [hv, ← Lib.cells_of_tab Tryd.underlying145 Tryd.underlying24 (by kernel_rfl) (by kernel_rfl) hd']

theorem err_reads {W : World} {n : String} {g : Nat} {d : DataW Unit} {name : String} (hg0 : Tryd.prog.globalNamed n = some g) (ht0 : (Tryd.prog.globals[g]?).map (·.type) = some 68)
    (h : Lib.VarReads Tryd.prog W n (.iface name d)) : ∃ tp p, W.var? Tryd.prog n = some #[.iface tp p] := by
  obtain ⟨g, t, cs, fuel, p, hg, ht, hv, hd⟩ := h
  obtain rfl := Option.some.inj (hg0.symm.trans hg)
  obtain rfl := Option.some.inj (ht0.symm.trans ht)
  obtain ⟨_, u, v, hcs, _⟩ := iface_of_trod (ms := _) Tryd.underlying68 hd
  refine ⟨u, v, ?_⟩
  rw [hv]
  congr 1
  apply Array.ext'
  rw [hcs]

theorem max_shaped (w : World) (h : w.ShapedOpen Tryd.prog) : ∃ m, w.cell? ⟨1, 0, none⟩ = some (.int .i64 m) :=
  cell_of_shapedOpen_int (zero := #[.int .i64 0]) (t := 3) h (of_decide_eq_true (by kernel_rfl)) (by kernel_rfl) rfl (by kernel_rfl) (by kernel_rfl) Tryd.underlying3

/-- what every row of this layer lists -/
def Lists (l : List (String × DataW Unit)) : Prop :=
  ("internal/strconv.uint64pow10", Rows.laid_internal_strconv_uint64pow10) ∈ l ∧ ("strconv.ErrRange", Rows.laid_strconv_ErrRange) ∈ l ∧ ("strconv.ErrSyntax", Rows.laid_strconv_ErrSyntax) ∈ l

theorem pre_laid {W : World} {l : List (String × DataW Unit)} (hl : Lists l) (h : laidMet Tryd.prog l W) (hsh : W.ShapedOpen Tryd.prog) : PreE W :=
  ⟨tab_reads (Lib.laidMet.reads h hl.1),
    ⟨err_reads (g := 4) (by kernel_rfl) (by kernel_rfl) (Lib.laidMet.reads h hl.2.2), err_reads (g := 5) (by kernel_rfl) (by kernel_rfl) (Lib.laidMet.reads h hl.2.1)⟩,
    max_shaped W hsh⟩

/-- 'there is an input that fits', at the world that lays all that the row lists -/
theorem witness_card {H : Type} {enc : TypeId × Value → H} {os : Os} {f : FuncId} {fn : Func} {s : OpenSpec} {conds : List PathCond} {laid : List (String × DataW Unit)} (args : Array Value)
    (hsh : ((World.laidAll Tryd.prog os laid).forCall (fun _ _ => 0) ⟨#[], args, []⟩).Shaped Tryd.prog)
    (hok : Input.okWideB Tryd.prog ((World.laidAll Tryd.prog os laid).forCall (fun _ _ => 0) ⟨#[], args, []⟩) f ⟨#[], args, []⟩ = true)
    (hrow : s.preRow enc Tryd.prog fn conds false laid ((World.laidAll Tryd.prog os laid).forCall (fun _ _ => 0) ⟨#[], args, []⟩).memory args) :
    ∃ (w : World) (tape : Tape) (i : Input), w.os = os ∧ (w.forCall tape i).Shaped Tryd.prog ∧ i.vars = [] ∧ Input.okWide Tryd.prog (w.forCall tape i) .any w.heap.size f i ∧
      s.preRow enc Tryd.prog fn conds false laid (w.forCall tape i).memory i.args ∧ ({} : Assume).holds Tryd.prog (lone (Frame.enter Tryd.prog f i.args .normal) [] (w.forCall tape i)) :=
  ⟨World.laidAll Tryd.prog os laid, fun _ _ => 0, ⟨#[], args, []⟩, World.laidAll_os _ _ _, hsh, (Input.okWide_of_okWideB (base := 0) hok).1, (Input.okWide_of_okWideB hok).2, hrow, by
    simp only [Assume.holds]
    exact ⟨by simp, by simp, fun _ => Modest.zero, by simp, by simp⟩⟩
end Go.Proofs.YtfldpejifpmapaaDoor
set_option linter.unusedSimpArgs false
set_option linter.unusedVariables false
set_option maxRecDepth 100000
namespace Go.Proofs.YtfldpejifpmapaaDoor
open Go.RowKit
open Go.ChangeShapes Go.WideShapes Go.ChangeAt
theorem sl_events {H : Type} {enc : TypeId × Value → H} {w : World} {base : Nat} {held : Bool} {p : Option Addr} {n : Nat} {V : Nat → Value} {fs : Array Field} (hfs : Tryd.prog.underlying 27 = some (.struct fs)) (h : SlV w p (n * fs.size) V)
    (hf : ∀ i, i < n → ∀ (j : Nat) (f : Field), fs[j]? = some f → ∃ (m : Nat) (y : DataW H × List MemPlace), DataW.trod enc Tryd.prog w base (fun _ => true) held m f.type [V (i * fs.size + j)] = some y) :
    ∃ L : List Ev, L.length = n ∧ HistAt w p L ∧ wideL L := by
  have he := Option.some.inj (hfs.symm.trans Tryd.underlying27)
  injection he with he
  subst he
  have key : ∀ i, i < n → ∃ x : Ev, (∀ j v, x.cells[j]? = some v → V (i * 6 + j) = v) ∧ x.wide := fun i hi => by
    obtain ⟨_, _, h0⟩ := hf i hi 0 _ rfl
    obtain ⟨_, _, h1⟩ := hf i hi 1 _ rfl
    obtain ⟨_, _, h2⟩ := hf i hi 2 _ rfl
    obtain ⟨_, _, h3⟩ := hf i hi 3 _ rfl
    obtain ⟨_, _, h4⟩ := hf i hi 4 _ rfl
    obtain ⟨_, _, h5⟩ := hf i hi 5 _ rfl
    obtain ⟨z0, g0, _, _⟩ := DataW.trod_int Tryd.underlying3 h0
    obtain ⟨z1, g1, _, _⟩ := DataW.trod_int Tryd.underlying23 h1
    obtain ⟨z2, g2, _, wf2⟩ := DataW.trod_int Tryd.underlying24 h2
    obtain ⟨z3, g3, _, wf3⟩ := DataW.trod_int Tryd.underlying24 h3
    obtain ⟨b4, g4, _⟩ := DataW.trod_bool Tryd.underlying4 h4
    obtain ⟨z5, g5, _, _⟩ := DataW.trod_int Tryd.underlying25 h5
    have hn2 : 0 ≤ z2 ∧ z2 ≤ 18446744073709551615 := by simpa [Lit.wf, IntKind.min, IntKind.max, IntKind.signed, IntKind.bits] using wf2
    have hn3 : 0 ≤ z3 ∧ z3 ≤ 18446744073709551615 := by simpa [Lit.wf, IntKind.min, IntKind.max, IntKind.signed, IntKind.bits] using wf3
    refine ⟨⟨z0, z1, z2, z3, b4, z5⟩, fun j v hj => ?_, ⟨hn2.1, by simp only; omega⟩, hn3.1, by simp only; omega⟩
    have hj6 : j < 6 := by have := (List.getElem?_eq_some_iff.1 hj).1; simpa [Ev.cells] using this
    have : j = 0 ∨ j = 1 ∨ j = 2 ∨ j = 3 ∨ j = 4 ∨ j = 5 := by omega
    rcases this with rfl | rfl | rfl | rfl | rfl | rfl
    · cases hj; exact (List.cons.inj g0).1
    · cases hj; exact (List.cons.inj g1).1
    · cases hj; exact (List.cons.inj g2).1
    · cases hj; exact (List.cons.inj g3).1
    · cases hj; exact (List.cons.inj g4).1
    · cases hj; exact (List.cons.inj g5).1
  have key2 : ∃ F : Nat → Ev, ∀ i, i < n → (∀ j v, (F i).cells[j]? = some v → V (i * 6 + j) = v) ∧ (F i).wide :=
    ⟨fun i => if hi : i < n then (key i hi).choose else zeroE, fun i hi => by simp only [hi, dif_pos]; exact (key i hi).choose_spec⟩
  obtain ⟨F, hF⟩ := key2
  refine ⟨(List.range n).map F, by simp, fun i x hx => ?_, fun x hx => ?_⟩
  · have hin : i < n := by have := (List.getElem?_eq_some_iff.1 hx).1; simpa using this
    rw [List.getElem?_map, List.getElem?_range hin] at hx
    simp only [Option.map_some, Option.some.injEq] at hx
    subst hx
    obtain ⟨b, o, rfl⟩ := h.ne (by show 0 < n * 6; omega)
    have hc : ∀ j v, (F i).cells[j]? = some v → w.cell? ⟨b, o + i * 6 + j, none⟩ = some v := fun j v hj => by
      have hj6 : j < 6 := by have := (List.getElem?_eq_some_iff.1 hj).1; simpa [Ev.cells] using this
      rw [← (hF i hin).1 j v hj, Nat.add_assoc]
      exact h.cells b o rfl (i * 6 + j) (by show i * 6 + j < n * 6; omega)
    exact ⟨b, o, rfl, hc 0 _ rfl, hc 1 _ rfl, hc 2 _ rfl, hc 3 _ rfl, hc 4 _ rfl, hc 5 _ rfl⟩
  · obtain ⟨i, hi, rfl⟩ := List.mem_map.1 hx
    exact (hF i (List.mem_range.1 hi)).2
end Go.Proofs.YtfldpejifpmapaaDoor
set_option linter.unusedSimpArgs false
set_option linter.unusedVariables false
set_option maxRecDepth 100000
namespace Go.Proofs.YtfldpejifpmapaaDoor
open Go.RowKit
open Go.ChangeShapes Go.WideShapes Go.ChangeAt Go.Deep

theorem bulk_one {H : Type} (d : DataW H) : 1 ≤ Rows.uptoBulk d := by
  cases d with
  | lit l => cases l <;> simp [Rows.uptoBulk]
  | nil => simp [Rows.uptoBulk]
  | ptr d => simp [Rows.uptoBulk]
  | slice elems spare => simp [Rows.uptoBulk]
  | agg parts => simp [Rows.uptoBulk]
  | iface t d => simp [Rows.uptoBulk]
  | map entries => simp [Rows.uptoBulk]
  | held h => simp [Rows.uptoBulk]
theorem bulk_len {H : Type} (l : List (DataW H)) : l.length ≤ Rows.uptoBulkAll l := by
  induction l with
  | nil => simp [Rows.uptoBulkAll]
  | cons x r ih => have := bulk_one x; simp only [Rows.uptoBulkAll, List.length_cons]; omega
theorem bulk_slice {H : Type} {enc : TypeId × Value → H} {P : Program} {w : World} {base : Nat} {held : Bool} {t e : TypeId} {p : Option Addr} {len cap : Nat} {d : DataW H} {ps : List MemPlace} (ht : P.underlying t = some (.slice e))
    (h : DataW.Trod enc P w base (fun _ => true) held t (.slice p len cap) d ps) : len ≤ Rows.uptoBulk d := by
  obtain ⟨fuel, hf⟩ := h
  rcases open_slice ht hf with ⟨h0, _⟩ | ⟨a, l, c, m, n, D, Pl, hcs, _, hlc, hm, hmm, hx, _⟩
  · simp [Value.cells] at h0
    omega
  · simp [Value.cells] at hcs
    obtain ⟨rfl, rfl, rfl⟩ := hcs
    rw [(Prod.mk.inj hx).1]
    have := bulk_len ((List.range len).map D)
    simp only [Rows.uptoBulk]
    simp at this
    omega
end Go.Proofs.YtfldpejifpmapaaDoor
set_option linter.unusedSimpArgs false
set_option linter.unusedVariables false
set_option maxRecDepth 100000
namespace Go.Proofs.YtfldpejifpmapaaDoor
open Go.RowKit
open Go.ChangeShapes Go.WideShapes Go.ChangeAt
variable {H : Type} {enc : TypeId × Value → H} {w : World} {base : Nat} {held : Bool}
theorem open_event {r : Reach} {b0 : Nat} {v : Value} {d : DataW H} {ps : List MemPlace} (hval : Value.okWide Tryd.prog w r b0 27 v) (h : DataW.Trod enc Tryd.prog w base (fun _ => true) held 27 v d ps) :
    ∃ x : Ev, v = x.val ∧ x.wide := by
  obtain ⟨cs, rfl, hsz⟩ := okWide_struct Tryd.underlying27 hval
  obtain ⟨fuel, hf⟩ := h
  have hc : Tryd.prog.cellsOf 27 = 6 := by kernel_rfl
  have c0 : Tryd.prog.cellsOf 3 = 1 := by kernel_rfl
  have c1 : Tryd.prog.cellsOf 23 = 1 := by kernel_rfl
  have c2 : Tryd.prog.cellsOf 24 = 1 := by kernel_rfl
  have c4 : Tryd.prog.cellsOf 4 = 1 := by kernel_rfl
  have c5 : Tryd.prog.cellsOf 25 = 1 := by kernel_rfl
  obtain ⟨xs, n, _, _, _, hl, hel⟩ := DataW.trod_struct Tryd.underlying27 hf
  have hl6 : xs.length = 6 := hl
  have e0 : DataW.trod enc Tryd.prog w base (fun _ => true) held n 3 (((Value.agg cs).cells.toList.drop 0).take (Tryd.prog.cellsOf 3)) = xs[0]? := hel 0 _ rfl
  have e1 : DataW.trod enc Tryd.prog w base (fun _ => true) held n 23 (((Value.agg cs).cells.toList.drop 1).take (Tryd.prog.cellsOf 23)) = xs[1]? := hel 1 _ rfl
  have e2 : DataW.trod enc Tryd.prog w base (fun _ => true) held n 24 (((Value.agg cs).cells.toList.drop 2).take (Tryd.prog.cellsOf 24)) = xs[2]? := hel 2 _ rfl
  have e3 : DataW.trod enc Tryd.prog w base (fun _ => true) held n 24 (((Value.agg cs).cells.toList.drop 3).take (Tryd.prog.cellsOf 24)) = xs[3]? := hel 3 _ rfl
  have e4 : DataW.trod enc Tryd.prog w base (fun _ => true) held n 4 (((Value.agg cs).cells.toList.drop 4).take (Tryd.prog.cellsOf 4)) = xs[4]? := hel 4 _ rfl
  have e5 : DataW.trod enc Tryd.prog w base (fun _ => true) held n 25 (((Value.agg cs).cells.toList.drop 5).take (Tryd.prog.cellsOf 25)) = xs[5]? := hel 5 _ rfl
  rw [List.getElem?_eq_getElem (by omega)] at e0 e1 e2 e3 e4 e5
  rw [c0] at e0
  rw [c1] at e1
  rw [c2] at e2 e3
  rw [c4] at e4
  rw [c5] at e5
  obtain ⟨z0, g0, _, _⟩ := DataW.trod_int Tryd.underlying3 e0
  obtain ⟨z1, g1, _, _⟩ := DataW.trod_int Tryd.underlying23 e1
  obtain ⟨z2, g2, _, wf2⟩ := DataW.trod_int Tryd.underlying24 e2
  obtain ⟨z3, g3, _, wf3⟩ := DataW.trod_int Tryd.underlying24 e3
  obtain ⟨b4, g4, _⟩ := DataW.trod_bool Tryd.underlying4 e4
  obtain ⟨z5, g5, _, _⟩ := DataW.trod_int Tryd.underlying25 e5
  have hcs : cs.toList.length = 6 := by simpa [hc] using hsz
  have hn2 : 0 ≤ z2 ∧ z2 ≤ 18446744073709551615 := by simpa [Lit.wf, IntKind.min, IntKind.max, IntKind.signed, IntKind.bits] using wf2
  have hn3 : 0 ≤ z3 ∧ z3 ≤ 18446744073709551615 := by simpa [Lit.wf, IntKind.min, IntKind.max, IntKind.signed, IntKind.bits] using wf3
  refine ⟨⟨z0, z1, z2, z3, b4, z5⟩, ?_, ⟨hn2.1, by simp only; omega⟩, hn3.1, by simp only; omega⟩
  unfold Ev.val
  congr 1
  apply Array.ext'
  simp only [Value.cells] at g0 g1 g2 g3 g4 g5
  rcases cs with ⟨cl⟩
  dsimp only at hcs g0 g1 g2 g3 g4 g5
  obtain ⟨a0, a1, a2, a3, a4, a5, rfl⟩ : ∃ a0 a1 a2 a3 a4 a5, cl = [a0, a1, a2, a3, a4, a5] := by
    match cl, hcs with
    | [a0, a1, a2, a3, a4, a5], _ => exact ⟨_, _, _, _, _, _, rfl⟩
  simp at g0 g1 g2 g3 g4 g5
  subst g0 g1 g2 g3 g4 g5
  rfl
end Go.Proofs.YtfldpejifpmapaaDoor
set_option linter.unusedSimpArgs false
set_option linter.unusedVariables false
set_option maxRecDepth 100000
namespace Go.Proofs.YtfldpejifpmapaaDoor
open Go.RowKit
open Go.Maps
/-- is the line written as what it was read as? -/
def lineOk (x : Option Ev) (l : List UInt8) : Bool := x.isSome && (decide ((lineO (evO x)).2 = 0) && decide ((lineO (evO x)).1 = l))
/-- the events of a text, up to the first line that is none; is there no such line? -/
def readH : Nat → List UInt8 → List Ev × Bool
  | 0, l => ([], decide (l = []))
  | n + 1, l => if l = [] then ([], true) else if (Lib.cut l [10]).2.2 = true ∧ lineOk (eventL (Lib.cut l [10]).1) (Lib.cut l [10]).1 = true then (evO (eventL (Lib.cut l [10]).1) :: (readH n (Lib.cut l [10]).2.1).1, (readH n (Lib.cut l [10]).2.1).2) else ([], false)
theorem readH_nil (n : Nat) : readH n [] = ([], true) := by cases n <;> rfl
theorem cut_less (l : List UInt8) (h : (Lib.cut l [10]).2.2 = true) (hl : l ≠ []) : (Lib.cut l [10]).2.1.length < l.length := by
  unfold Lib.cut at h ⊢
  have h0 : 0 < l.length := List.length_pos_iff.2 hl
  split at h
  · rename_i hi
    rw [if_pos hi]
    simp only [List.length_drop, List.length_cons, List.length_nil]
    omega
  · cases h
theorem wordsF_lt : ∀ (n : Nat) (l : List UInt8) (ws : List Nat), wordsF n l = some ws → ∀ x ∈ ws, x < 18446744073709551616
  | 0, l, ws, h => by
    unfold wordsF at h
    split at h
    · cases h; simp
    · cases h
  | n + 1, l, ws, h => by
    unfold wordsF at h
    split at h
    · cases h; simp
    · split at h
      · obtain ⟨vs, hv, rfl⟩ := Option.map_eq_some_iff.1 h
        intro x hx
        rcases List.mem_cons.1 hx with rfl | hx
        · exact number_lt l
        · exact wordsF_lt n _ vs hv x hx
      · cases h
theorem wordAt_bd {ws : List Nat} (h : ∀ x ∈ ws, x < 18446744073709551616) (i : Nat) : 0 ≤ wordAt ws i ∧ wordAt ws i < 18446744073709551616 := by
  unfold wordAt
  rw [List.getD_eq_getElem?_getD]
  cases hx : (ws ++ [0, 0])[i]? with
  | none => simp
  | some x =>
    have hm := List.mem_of_getElem? hx
    have : x < 18446744073709551616 := by
      rcases List.mem_append.1 hm with hm | hm
      · exact h x hm
      · simp at hm; omega
    simp only [Option.getD_some]
    omega
theorem ite_bd {p : Prop} [Decidable p] {a b : Int} (ha : 0 ≤ a ∧ a < 18446744073709551616) (hb : 0 ≤ b ∧ b < 18446744073709551616) : 0 ≤ (if p then a else b) ∧ (if p then a else b) < 18446744073709551616 := by
  by_cases h : p
  · rw [if_pos h]; exact ha
  · rw [if_neg h]; exact hb
theorem zero_wide : zeroE.wide := by unfold zeroE Ev.wide; decide
theorem evOf_wide {t : Nat} {own : Bool} {k : Int} {ws : List Nat} (h : ∀ x ∈ ws, x < 18446744073709551616) : (evOf t own k ws).wide :=
  ⟨ite_bd (wordAt_bd h 0) (by decide), ite_bd (wordAt_bd h 1) (ite_bd (wordAt_bd h 0) (by decide))⟩
theorem ev_wide (l : List UInt8) : (evO (eventL l)).wide := by
  unfold eventL
  split
  · cases h : wordsF (Lib.cut (Lib.trimPrefix (numberL l).2.1 [32]) [32]).2.1.length (Lib.cut (Lib.trimPrefix (numberL l).2.1 [32]) [32]).2.1 with
    | none => exact zero_wide
    | some ws => exact evOf_wide (wordsF_lt _ _ _ h)
  · exact zero_wide
theorem info_ev : (Tryd.prog.info? 27).map (fun i => (i.zero, i.size, i.bytes)) = some (some (.agg #[.int .i64 0, .int .i64 0, .int .u64 0, .int .u64 0, .bool false, .int .i64 0]), 6, 48) := by kernel_rfl
/-- one more event -/
theorem app_ev {W : World} {base : Nat} {v : Value} {l : List Ev} (h : W.ownsRow base 27 6 v l.length (l.flatMap Ev.cells)) (x : Ev) (hn : l.length ≤ 1000000000000) (hb : base ≤ W.heap.size) :
    ∃ v' w', (Builtin.append_ #[22, 22] 22 #[v, .slice (some ⟨W.heap.size, 0, none⟩) 1 1]).run Tryd.prog (W.alloc (.cells x.cells.toArray 27)) = .ok v' w' ∧ w'.ownsRow base 27 6 v' (l.length + 1) ((l ++ [x]).flatMap Ev.cells) ∧ Upd v.ownBlock.toList (W.alloc (.cells x.cells.toArray 27)) w' ∧ (v'.ownBlock = v.ownBlock ∨ v'.ownBlock = some (W.heap.size + 1)) := by
  obtain ⟨i0, hi, hz0, hz1, hz2⟩ := info_parts info_ev
  have hW := own_upd h ((Upd.refl [] W).alloc (.cells x.cells.toArray 27)) (by simp)
  obtain ⟨v', w', hr, ho, hg, _, hat⟩ := run_append_own_at (P := Tryd.prog) (W.alloc (.cells x.cells.toArray 27)) base 22 22 27 i0 _ 6 48 Tryd.underlying22 hi hz0 hz1 hz2 rfl (by decide) v l.length _ hW
    ⟨W.heap.size, 0, none⟩ 1 1 x.cells rfl (news_new _ 27 rfl) (by intro u hu; simp [Ev.cells] at hu; rcases hu with rfl | rfl | rfl | rfl | rfl | rfl <;> rfl) (by unfold maxLen; omega) (by omega) (by rw [World.size_alloc]; omega)
  rw [World.size_alloc] at hat
  refine ⟨v', w', hr, ?_, Upd.own hg, hat⟩
  rw [List.flatMap_append, List.flatMap_singleton]
  exact ho
/-- what Parse answers -/
def ParseOk (w : World) (r : List Ev × Bool) (e : Ending) (w' : World) : Prop := Upd [] w w' ∧
  ((r.2 = true ∧ ∃ v, e = .returned (.tuple #[v, .int .i64 (r.1.length : Int), .int .i64 0]) ∧ w'.ownsRow w.heap.size 27 6 v r.1.length (r.1.flatMap Ev.cells)) ∨
   (r.2 = false ∧ e = .returned (.tuple #[.slice none 0 0, .int .i64 (r.1.length : Int), .int .i64 234])))
set_option maxHeartbeats 8000000 in
theorem parse_code (s : ByteArray) (hs : s.size < 4294967281) (w : World) (hP : PreE w) : Calls Tryd.prog 17 #[.string s] w (ParseOk w (readH s.data.toList.length s.data.toList)) := by
  have HP := Lib.hid hP
  obtain ⟨X, hX⟩ : ∃ X, readH s.data.toList.length s.data.toList = X := ⟨_, rfl⟩
  rw [hX]
  have HX := Lib.hid hX
  have HS := Lib.hid hs
  have HS2 := Lib.hid (show s.size = s.data.toList.length from Lib.size_eq s)
  have HSE := Lib.hid (show s = ⟨s.data.toList.toArray⟩ by cases s; simp)
  clear hX hP hs
  obtain ⟨L, hL⟩ : ∃ L, s.data.toList = L := ⟨_, rfl⟩
  rw [hL] at HX HS2 HSE
  have hsE := HSE.out
  subst hsE
  clear hL HSE
  refine calls_all fun K hK => ?_
  go_enter Tryd.func17, Tryd.ntmps17
  go_wp2_with fail
  have HO0 := Lib.hid (show World.ownsRow (w.alloc (.cells #[] 27)) w.heap.size 27 6 (.slice (some ⟨w.heap.size, 0, none⟩) 0 0) ([] : List Ev).length (([] : List Ev).flatMap Ev.cells) from
    ⟨rfl, .inr ⟨w.heap.size, 0, #[], rfl, Nat.le_refl _, heap_alloc_new w (.cells #[] 27), Nat.le_refl _, by unfold maxLen; omega, rfl, rfl⟩⟩)
  have HU0 := Lib.hid (show Upd [] w (w.alloc (.cells #[] 27)) from (Upd.refl _ _).alloc _)
  obtain ⟨v0, hv0⟩ : ∃ v, Value.slice (some ⟨w.heap.size, 0, none⟩) 0 0 = v := ⟨_, rfl⟩
  rw [hv0] at HO0 ⊢
  generalize w.alloc (.cells #[] 27) = W0 at HO0 HU0 ⊢
  clear hv0
  go_loopw [0, 5] (fun q0 q5 wr => ∃ (ρ : List UInt8) (E : List Ev) (fu : Nat), q0 = .string ⟨ρ.toArray⟩ ∧ ρ.length ≤ fu ∧ E.length + ρ.length ≤ L.length ∧ X = (E ++ (readH fu ρ).1, (readH fu ρ).2) ∧ wr.ownsRow w.heap.size 27 6 q5 E.length (E.flatMap Ev.cells) ∧ Upd [] w wr) (fun q0 _ _ => strLen q0)
  case atStart => exact ⟨L, [], L.length, rfl, Nat.le_refl _, by simp, by rw [HX.out]; rfl, HO0.out, HU0.out⟩
  case round =>
    obtain ⟨ρ, E, fu, rfl, h1, h2, h3, ho, hu⟩ := hrel
    obtain ⟨p, c, rfl⟩ := own_form ho
    have H1 := Lib.hid h1
    have H2 := Lib.hid h2
    have H3 := Lib.hid h3
    have HO := Lib.hid ho
    have HU := Lib.hid hu
    clear h1 h2 h3 ho hu HO0 HU0
    by_cases hρ : ρ = []
    · subst hρ
      have HXE := Lib.hid (show X = (E, true) by rw [H3.out, readH_nil]; simp)
      go_wp2_with fail
      rw [HXE.out]
      exact ⟨HU.out, .inl ⟨rfl, _, rfl, HO.out⟩⟩
    · have hne : (ρ == []) = false := by simpa using hρ
      have HW := Lib.hid (show readH fu ρ = if (Lib.cut ρ [10]).2.2 = true ∧ lineOk (eventL (Lib.cut ρ [10]).1) (Lib.cut ρ [10]).1 = true then (evO (eventL (Lib.cut ρ [10]).1) :: (readH (fu - 1) (Lib.cut ρ [10]).2.1).1, (readH (fu - 1) (Lib.cut ρ [10]).2.1).2) else ([], false) by
        cases fu with
        | zero => exact absurd (List.length_eq_zero_iff.1 (Nat.le_zero.1 H1.out)) hρ
        | succ f => rw [readH, if_neg hρ]; rfl)
      have HCUT := Lib.hid (by obtain ⟨m, hm⟩ := (HP.out.upd HU.out).max; exact Tryd.strings_Cut ⟨ρ.toArray⟩ ⟨#[10]⟩ m wr (by have h1 := HS.out; have h2 := HS2.out; have h3 := H2.out; rw [Lib.size_eq]; simp only [List.toList_toArray]; omega) hm)
      simp only [List.toList_toArray] at HCUT
      have HL1 := Lib.hid (cut_len ρ [10])
      have HL2 := Lib.hid (fun h => cut_less ρ h hρ)
      have HPL := Lib.hid (show 0 < ρ.length from List.length_pos_iff.2 hρ)
      generalize Lib.cut ρ [10] = c3 at *
      obtain ⟨ln, rs, fd⟩ := c3
      dsimp only at HW HCUT HL1 HL2
      have HEV := Lib.hid (fun (W : World) (u : Upd [] w W) => event_code ⟨ln.toArray⟩ (by have h1 := HS.out; have h2 := HS2.out; have h3 := H2.out; have h4 := HL1.out.1; rw [Lib.size_eq]; simp only [List.toList_toArray]; omega) W (HP.out.upd u))
      simp only [List.toList_toArray] at HEV
      have HEW := Lib.hid (ev_wide ln)
      generalize eventL ln = x at *
      obtain ⟨y, hy⟩ : ∃ y, evO x = y := ⟨_, rfl⟩
      obtain ⟨ok, hok⟩ : ∃ b, x.isSome = b := ⟨_, rfl⟩
      have HOK := Lib.hid (show lineOk x ln = (ok && (decide ((lineO y).2 = 0) && decide ((lineO y).1 = ln))) by rw [← hy, ← hok]; rfl)
      rw [hy] at HEV HW HEW
      rw [hok] at HEV
      clear hy hok
      have HLN := Lib.hid (fun (W : World) (u : Upd [] w W) => line_code W y HEW.out (HP.out.upd u).tab)
      generalize lineO y = lo at HLN HOK
      obtain ⟨lx, er⟩ := lo
      dsimp only at HLN HOK
      obtain ⟨yth, ykd, yad, ywd, yown, yer⟩ := y
      simp only [Ev.val] at HEV HLN
      go_wp2_with fail
      refine (HCUT.out).mono ?_
      rintro e W3 ⟨rfl, nq, rfl⟩
      have ud : Upd [] wr (wr.drewN nq) := (Upd.refl _ _).drewN _
      have HU4 := Lib.hid (HU.out.trans ud)
      have HO4 := Lib.hid (own_upd HO.out ud (by simp))
      generalize wr.drewN nq = W4 at HU4 HO4 ⊢
      clear ud HU HO HCUT hne hρ
      go_wp2_with fail
      refine (HEV.out _ HU4.out).mono ?_
      rintro e W5 ⟨rfl, u5⟩
      have HU5 := Lib.hid ((HU4.out.trans u5).alloc (.cells #[.int .i64 yth, .int .i64 ykd, .int .u64 yad, .int .u64 ywd, .bool yown, .int .i64 yer] 27))
      have HO5 := Lib.hid (own_upd HO4.out (u5.alloc (.cells #[.int .i64 yth, .int .i64 ykd, .int .u64 yad, .int .u64 ywd, .bool yown, .int .i64 yer] 27)) (by simp))
      have HB5 := Lib.hid (Blk.new W5 [.int .i64 yth, .int .i64 ykd, .int .u64 yad, .int .u64 ywd, .bool yown, .int .i64 yer] 27)
      clear u5 HU4 HO4 HEV
      go_wp2_with fail
      refine (HLN.out _ HU5.out).mono ?_
      rintro e W6 ⟨rfl, u6⟩
      have HU6 := Lib.hid (HU5.out.trans u6)
      have HO6 := Lib.hid (own_upd HO5.out u6 (by simp))
      have HB6 := Lib.hid (HB5.out.upd u6 (by simp))
      clear u6 HU5 HO5 HB5 HLN
      obtain ⟨xb, hxb⟩ : ∃ b, W5.heap.size = b := ⟨_, rfl⟩
      rw [hxb] at HB6 ⊢
      clear hxb
      have x0 := HB6.out.cell 0 rfl
      have x1 := HB6.out.cell 1 rfl
      have x2 := HB6.out.cell 2 rfl
      have x3 := HB6.out.cell 3 rfl
      have x4 := HB6.out.cell 4 rfl
      have x5 := HB6.out.cell 5 rfl
      cases fd with
      | false =>
        have HXB := Lib.hid (show X = (E, false) by rw [H3.out, HW.out, if_neg (fun q => by cases q.1)]; simp)
        clear H3 HW HOK HL2 HO6
        go_wp2_with fail
        rw [HXB.out]
        exact ⟨HU6.out, .inr ⟨rfl, rfl⟩⟩
      | true =>
        cases ok with
        | false =>
          have HXB := Lib.hid (show X = (E, false) by rw [H3.out, HW.out, if_neg (fun q => by have := q.2; rw [HOK.out] at this; cases this)]; simp)
          clear H3 HW HOK HL2 HO6
          go_wp2_with fail
          rw [HXB.out]
          exact ⟨HU6.out, .inr ⟨rfl, rfl⟩⟩
        | true =>
          by_cases her : er = 0
          · by_cases hlx : lx = ln
            · subst hlx
              have hlk : lineOk x lx = true := by rw [HOK.out, decide_eq_true her, decide_eq_true rfl]; rfl
              subst her
              obtain ⟨v', W10, hrun, ho', hu', _⟩ := app_ev HO6.out ⟨yth, ykd, yad, ywd, yown, yer⟩ (by have h1 := HS.out; have h2 := HS2.out; have h3 := H2.out; omega) HU6.out.size
              simp only [Ev.cells] at hrun hu'
              have ua : Upd [] W6 (W6.alloc (.cells #[.int .i64 yth, .int .i64 ykd, .int .u64 yad, .int .u64 ywd, .bool yown, .int .i64 yer] 27)) := (Upd.refl _ _).alloc _
              have HO10 := Lib.hid ho'
              have HU10 := Lib.hid (show Upd [] w W10 from (HU6.out.trans ua).tr (U := []) hu' (by simp) (fun g hg => .inr (own_blocks HO6.out g hg).1))
              have HX3 := Lib.hid (show X = ((E ++ [⟨yth, ykd, yad, ywd, yown, yer⟩]) ++ (readH (fu - 1) rs).1, (readH (fu - 1) rs).2) by rw [H3.out, HW.out, if_pos ⟨rfl, hlk⟩]; simp)
              have HR := Lib.hid (show rs.length < ρ.length from HL2.out rfl)
              obtain ⟨p', c', rfl⟩ := own_form ho'
              clear ho' hu' ua HO6 H3 HW HOK hlk HL2
              go_wp2_with (at_builtin; refine wpList_append_eq rfl _ _ _ _ rfl _ _ _ rfl rfl hrun ?_)
              go_roundw
              case rel => exact ⟨rs, E ++ [⟨yth, ykd, yad, ywd, yown, yer⟩], fu - 1, rfl, by have := HR.out; have := H1.out; omega, by have := HR.out; have := H2.out; rw [List.length_append, List.length_singleton]; omega, HX3.out, by rw [List.length_append, List.length_singleton]; exact HO10.out, HU10.out⟩
              case measure => have h := HR.out; simpa [strLen, Lib.size_eq] using h
            · have HXB := Lib.hid (show X = (E, false) by rw [H3.out, HW.out, if_neg (fun q => by have := q.2; rw [HOK.out, decide_eq_false hlx] at this; simp at this)]; simp)
              have hb1 : (lx == ln) = false := by simpa using hlx
              have hb2 : (lx != ln) = true := by simpa using hlx
              subst her
              clear hlx
              clear H3 HW HOK HL2 HO6
              go_wp2_with fail
              rw [HXB.out]
              exact ⟨HU6.out, .inr ⟨rfl, rfl⟩⟩
          · have HXB := Lib.hid (show X = (E, false) by rw [H3.out, HW.out, if_neg (fun q => by have := q.2; rw [HOK.out, decide_eq_false her] at this; simp at this)]; simp)
            have hb1 : (er == 0) = false := by simpa using her
            have hb2 : (er != 0) = true := by simpa using her
            have hb3 : decide (er = 0) = false := decide_eq_false her
            clear her
            clear H3 HW HOK HL2 HO6
            go_wp2_with fail
            rw [HXB.out]
            exact ⟨HU6.out, .inr ⟨rfl, rfl⟩⟩
end Go.Proofs.YtfldpejifpmapaaDoor
set_option linter.unusedSimpArgs false
set_option linter.unusedVariables false
set_option maxRecDepth 100000
namespace Go.Proofs.YtfldpejifpmapaaDoor
open Go.RowKit
open Go.Maps
def e0 : Ev := ⟨0, 1, 0, 0, false, 0⟩
def secL : List Ev := [e0, ⟨0, 3, 1, 5, false, 0⟩, ⟨0, 2, 1, 5, true, 0⟩, ⟨0, 5, 0, 0, false, 0⟩, ⟨0, 6, 0, 1, false, 0⟩, ⟨1, 1, 0, 2, false, 0⟩]
def secT : List Try := [⟨0, 0, 4, 0, 6, 0, 1⟩, ⟨1, 5, 5, 2, 0, 0, 0⟩]
theorem ek1 : (runE ls0 0 secL).2.2 = 0 := by rfl
theorem ek1b : (runE ls0 0 secL).1.tries = secT := by rfl
theorem ek1c : oddE secL = (-1, 0) := by unfold oddE; rw [if_pos ek1]
theorem ek2 : textO [e0] = ([48, 32, 98, 101, 103, 105, 110, 32, 48, 10], 0) := by kernel_rfl
theorem ek3 : readH 10 [48, 32, 98, 101, 103, 105, 110, 32, 48, 10] = ([e0], true) := by kernel_rfl
theorem ek4 : readH 11 [48, 32, 98, 101, 103, 105, 110, 32, 48, 48, 10] = ([], false) := by kernel_rfl
theorem ev_flat : ∀ (l : List Ev) (i : Nat) (x : Ev) (j : Nat), l[i]? = some x → j < 6 → (l.flatMap Ev.cells)[i * 6 + j]? = x.cells[j]?
  | [], i, x, j, h, _ => by simp at h
  | y :: l, 0, x, j, h, hj => by
    obtain rfl : y = x := by simpa using h
    rw [List.flatMap_cons, List.getElem?_append_left (by simp [Ev.cells]; omega)]
    congr 1
    omega
  | y :: l, i + 1, x, j, h, hj => by
    have hc : y.cells.length = 6 := rfl
    rw [List.flatMap_cons, List.getElem?_append_right (by rw [hc]; omega), hc, show (i + 1) * 6 + j - 6 = i * 6 + j by omega]
    exact ev_flat l i x j (by simpa using h) hj
theorem ev_flat_len (l : List Ev) : (l.flatMap Ev.cells).length = l.length * 6 := by
  induction l with
  | nil => rfl
  | cons a l ih => rw [List.flatMap_cons, List.length_append, ih, List.length_cons]; simp [Ev.cells]; omega
theorem hist_of_blk {w : World} {b : Nat} {l : List Ev} {sp : List Value} (h : Blk w b (l.flatMap Ev.cells ++ sp) 27) : HistAt w (some ⟨b, 0, none⟩) l := by
  intro i x hx
  have hi : i < l.length := by
    rcases Nat.lt_or_ge i l.length with h | h
    · exact h
    · rw [List.getElem?_eq_none h] at hx; cases hx
  have hc : ∀ j, j < 6 → (l.flatMap Ev.cells ++ sp)[i * 6 + j]? = x.cells[j]? := fun j hj => by
    rw [List.getElem?_append_left (by rw [ev_flat_len]; omega)]
    exact ev_flat l i x j hx hj
  have hz : ∀ k, (0 + i * 6 + k) = i * 6 + k := fun k => by omega
  refine ⟨b, 0, rfl, ?_, ?_, ?_, ?_, ?_, ?_⟩
  · have := h.cell (i * 6 + 0) ((hc 0 (by omega)).trans rfl); rwa [Nat.add_zero, ← Nat.zero_add (i * 6)] at this
  · rw [hz]; exact h.cell _ ((hc 1 (by omega)).trans rfl)
  · rw [hz]; exact h.cell _ ((hc 2 (by omega)).trans rfl)
  · rw [hz]; exact h.cell _ ((hc 3 (by omega)).trans rfl)
  · rw [hz]; exact h.cell _ ((hc 4 (by omega)).trans rfl)
  · rw [hz]; exact h.cell _ ((hc 5 (by omega)).trans rfl)
/-- an own row as a block known whole -/
theorem own_openN {w : World} {base : Nat} {e : TypeId} {size n g c : Nat} {us : List Value} (h : w.ownsRow base e size (.slice (some ⟨g, 0, none⟩) n c) n us) : base ≤ g ∧ us.length = n * size ∧ ∃ sp : List Value, Blk w g (us ++ sp) e := by
  obtain ⟨h1, h2⟩ := h
  rcases h2 with ⟨h2, _⟩ | ⟨g', cap, cur, hv, hb, hh, hn, hm, hs, ht⟩
  · cases h2
  · cases hv
    refine ⟨hb, h1, cur.toList.drop (n * size), ?_⟩
    rw [← ht, List.take_append_drop]
    unfold Blk
    simpa using hh
theorem num_code (n : Int) (w : World) : Calls Tryd.prog 15 #[.int .i64 n] w fun e w' => e = .returned (.int .i64 n) ∧ w = w' := by
  refine calls_all fun K hK => ?_
  go_enter Tryd.func15, Tryd.ntmps15
  go_wp2
  all_goals exact ⟨rfl, rfl⟩
theorem second_code (w : World) : Calls Tryd.prog 48 #[] w fun e w' => e = .returned (.slice (some ⟨w.heap.size, 0, none⟩) 6 6) ∧ w' = w.alloc (.cells (secL.flatMap Ev.cells).toArray 27) := by
  refine calls_all fun K hK => ?_
  go_enter Tryd.func48, Tryd.ntmps48
  go_wp2
  all_goals exact ⟨rfl, rfl⟩
theorem sec_wide : wideL secL := by
  intro x hx
  simp only [secL, List.mem_cons, List.not_mem_nil, or_false] at hx
  rcases hx with rfl | rfl | rfl | rfl | rfl | rfl <;> exact ⟨by decide, by decide⟩
set_option maxHeartbeats 4000000 in
theorem known_code (w : World) (hP : PreE w) : Calls Tryd.prog 16 #[] w fun e w' => e = .returned (.bool true) ∧ Upd [] w w' := by
  have HP := Lib.hid hP
  clear hP
  refine calls_all fun K hK => ?_
  go_enter Tryd.func16, Tryd.ntmps16
  go_wp2_with fail
  refine (second_code _).mono ?_
  rintro e W1 ⟨rfl, h1⟩
  have HB1 := Lib.hid (show Blk W1 w.heap.size (secL.flatMap Ev.cells ++ []) 27 by rw [h1, List.append_nil]; exact Blk.new w _ _)
  have HU1 := Lib.hid (show Upd [] w W1 by rw [h1]; exact (Upd.refl _ _).alloc _)
  clear h1
  go_wp2_with fail
  refine (tries_code W1 (some ⟨w.heap.size, 0, none⟩) 6 secL (hist_of_blk HB1.out) (by decide) sec_wide).mono ?_
  rintro e W2 ⟨u2, v, rfl, ho, _⟩
  replace ho := (ho ek1).1
  rw [ek1b, show secT.length = 2 from rfl] at ho
  rw [ek1c]
  obtain ⟨g, c, rfl⟩ := own_some ho (by decide)
  obtain ⟨_, _, sp, hB⟩ := own_openN ho
  have HB2 := Lib.hid hB
  have HU2 := Lib.hid (HU1.out.trans u2)
  clear ho hB u2 HB1 HU1
  go_wp2_with fail
  have HO3 := Lib.hid (Blk.new W2 [.int .i64 (-1), .int .i64 0] 46)
  have HB3 := Lib.hid (HB2.out.alloc (.cells #[.int .i64 (-1), .int .i64 0] 46))
  have HU3 := Lib.hid (HU2.out.alloc (.cells #[.int .i64 (-1), .int .i64 0] 46))
  obtain ⟨ob, hob⟩ : ∃ b, W2.heap.size = b := ⟨_, rfl⟩
  obtain ⟨W3, hW3⟩ : ∃ W, W2.alloc (.cells #[.int .i64 (-1), .int .i64 0] 46) = W := ⟨_, rfl⟩
  rw [hW3] at HB3 HU3 ⊢
  rw [show W2.alloc (.cells [.int .i64 (-1), .int .i64 0].toArray 46) = W3 from hW3, hob] at HO3
  try rw [hob]
  clear hW3 HB2 HU2
  refine (second_code _).mono ?_
  rintro e W4 ⟨rfl, h4⟩
  obtain ⟨sb, hsb⟩ : ∃ b, W3.heap.size = b := ⟨_, rfl⟩
  rw [hsb]
  have HS4 := Lib.hid (show Blk W4 sb ([e0].flatMap Ev.cells ++ (secL.tail.flatMap Ev.cells)) 27 by rw [h4, ← hsb]; exact Blk.new W3 _ _)
  have u4 : Upd [] W3 W4 := by rw [h4]; exact (Upd.refl _ _).alloc _
  have HO4 := Lib.hid (HO3.out.upd u4 (by simp))
  have HB4 := Lib.hid (HB3.out.upd u4 (by simp))
  have HU4 := Lib.hid (HU3.out.trans u4)
  clear h4 hsb u4 HO3 HB3 HU3
  have HTX : Calls Tryd.prog 10 #[.slice (some ⟨sb, 0, none⟩) 1 6] W4 _ := text_code W4 (some ⟨sb, 0, none⟩) 6 [e0] (hist_of_blk HS4.out) (by decide) (fun x hx => sec_wide x (by simp at hx; subst hx; simp [secL])) (HP.out.upd HU4.out).tab
  rw [ek2] at HTX
  go_wp2_with fail
  refine HTX.mono ?_
  rintro e W5 ⟨rfl, u5⟩
  have HO5 := Lib.hid (HO4.out.upd u5 (by simp))
  have HB5 := Lib.hid (HB4.out.upd u5 (by simp))
  have HU5 := Lib.hid (HU4.out.trans u5)
  clear u5 HO4 HB4 HU4 HS4 HTX
  have HP5 := parse_code ⟨#[48, 32, 98, 101, 103, 105, 110, 32, 48, 10]⟩ (by decide) W5 (HP.out.upd HU5.out)
  rw [show readH (⟨#[48, 32, 98, 101, 103, 105, 110, 32, 48, 10]⟩ : ByteArray).data.toList.length (⟨#[48, 32, 98, 101, 103, 105, 110, 32, 48, 10]⟩ : ByteArray).data.toList = ([e0], true) from ek3] at HP5
  go_wp2_with fail
  refine HP5.mono ?_
  rintro e W6 ⟨u6, ⟨_, v6, rfl, ho6⟩ | ⟨h6, _⟩⟩
  case inr => cases h6
  have HO6 := Lib.hid (HO5.out.upd u6 (by simp))
  have HB6 := Lib.hid (HB5.out.upd u6 (by simp))
  have HU6 := Lib.hid (HU5.out.trans u6)
  rw [show ([e0] : List Ev).length = 1 from rfl] at ho6 ⊢
  obtain ⟨g6, c6, rfl⟩ := own_some ho6 (by decide)
  clear u6 ho6 HO5 HB5 HU5 HP5
  have HP6 := parse_code ⟨#[48, 32, 98, 101, 103, 105, 110, 32, 48, 48, 10]⟩ (by decide) W6 (HP.out.upd HU6.out)
  rw [show readH (⟨#[48, 32, 98, 101, 103, 105, 110, 32, 48, 48, 10]⟩ : ByteArray).data.toList.length (⟨#[48, 32, 98, 101, 103, 105, 110, 32, 48, 48, 10]⟩ : ByteArray).data.toList = ([], false) from ek4] at HP6
  go_wp2_with fail
  refine HP6.mono ?_
  rintro e W7 ⟨u7, ⟨h7, _⟩ | ⟨_, rfl⟩⟩
  case inl => cases h7
  have HO7 := Lib.hid (HO6.out.upd u7 (by simp))
  have HB7 := Lib.hid (HB6.out.upd u7 (by simp))
  have HU7 := Lib.hid (HU6.out.trans u7)
  rw [show ([] : List Ev).length = 0 from rfl]
  clear u7 HO6 HB6 HU6 HP6
  have o0 := HO7.out.cell 0 rfl
  have o1 := HO7.out.cell 1 rfl
  have t0 := HB7.out.cell 0 rfl
  have t1 := HB7.out.cell 1 rfl
  have t2 := HB7.out.cell 2 rfl
  have t3 := HB7.out.cell 3 rfl
  have t4 := HB7.out.cell 4 rfl
  have t5 := HB7.out.cell 5 rfl
  have t6 := HB7.out.cell 6 rfl
  have t7 := HB7.out.cell 7 rfl
  have t8 := HB7.out.cell 8 rfl
  have t9 := HB7.out.cell 9 rfl
  have t10 := HB7.out.cell 10 rfl
  have t11 := HB7.out.cell 11 rfl
  have t12 := HB7.out.cell 12 rfl
  have t13 := HB7.out.cell 13 rfl
  go_wp2_with fail
  refine (num_code 0 _).mono ?_
  rintro e W8 ⟨rfl, rfl⟩
  go_wp2_with fail
  refine (num_code 0 _).mono ?_
  rintro e W8 ⟨rfl, rfl⟩
  go_wp2_with fail
  refine (num_code 234 _).mono ?_
  rintro e W8 ⟨rfl, rfl⟩
  go_wp2_with fail
  exact ⟨rfl, HU7.out⟩
end Go.Proofs.YtfldpejifpmapaaDoor
set_option linter.unusedSimpArgs false
set_option linter.unusedVariables false
set_option maxRecDepth 100000
namespace Go.Proofs.YtfldpejifpmapaaDoor
open Go.RowKit
/-- states that only the attempts' ends tell apart -/
structure Like (S T : LS) : Prop where
  ths : S.ths = T.ths
  num : S.num = T.num
  holder : S.holder = T.holder
  len : S.tries.length = T.tries.length
theorem take_len (S : LS) (i : Nat) (e : Ev) : (takeE S i e).tries.length = if e.kd = 1 then S.tries.length + 1 else S.tries.length := by
  unfold takeE
  dsimp only
  split <;> split <;> simp
theorem like_wrong {S T : LS} (h : Like S T) (e : Ev) : wrongE S e = wrongE T e := by
  unfold wrongE wordOk
  rw [h.ths, h.num, h.holder]
theorem like_take {S T : LS} (h : Like S T) (e : Ev) (i j : Nat) : Like (takeE S i e) (takeE T j e) :=
  ⟨by unfold takeE; dsimp only; rw [h.ths, h.len], by unfold takeE; dsimp only; rw [h.ths, h.num], by unfold takeE; dsimp only; rw [h.ths, h.holder], by rw [take_len, take_len, h.len]⟩
theorem like_run {S T : LS} (l : List Ev) (h : Like S T) (i j : Nat) : (runE S i l).2.2 = (runE T j l).2.2 := by
  induction l generalizing S T i j with
  | nil => rfl
  | cons e l ih =>
    rw [runE, runE, like_wrong h e]
    by_cases hw : wrongE T e = 0
    · rw [if_pos hw, if_pos hw]
      exact ih (like_take h e i j) _ _
    · rw [if_neg hw, if_neg hw]
/-- has it to do with the clock? -/
def clockK (k : Int) : Bool := k == 1 || k == 4 || k == 5 || k == 6
theorem clock_ne {k : Int} (h : clockK k = false) : k ≠ 1 ∧ k ≠ 4 ∧ k ≠ 5 ∧ k ≠ 6 := by
  simp only [clockK, Bool.or_eq_false_iff, beq_eq_false_iff_ne] at h
  exact ⟨h.1.1.1, h.1.1.2, h.1.2, h.2⟩
theorem wrong_unformed {S : LS} {e : Ev} (h : formE e = false) : wrongE S e = 201 := by unfold wrongE; rw [if_pos h]
theorem wrong_other {S : LS} {a b : Ev} {i : Nat} (ha : clockK a.kd = false) (hne : b.th.toNat ≠ a.th.toNat) : wrongE (takeE S i a) b = wrongE S b := by
  obtain ⟨h1, h4, h5, h6⟩ := clock_ne ha
  have e1 : (takeE S i a).ths b.th.toNat = S.ths b.th.toNat := by unfold takeE updT; dsimp only; rw [if_neg hne]
  have e2 : (takeE S i a).num = S.num := by unfold takeE; dsimp only; rw [if_neg (fun q => h6 q.1)]
  have e3 : (takeE S i a).holder = S.holder := by unfold takeE; dsimp only; rw [if_neg h5, if_neg (fun q => h6 q.1)]
  unfold wrongE wordOk
  rw [e1, e2, e3]
theorem take_swap {S : LS} {a b : Ev} {i j k m : Nat} (ha : clockK a.kd = false) (hb : clockK b.kd = false) (hne : b.th.toNat ≠ a.th.toNat) : Like (takeE (takeE S i a) j b) (takeE (takeE S k b) m a) := by
  obtain ⟨h1, h4, h5, h6⟩ := clock_ne ha
  obtain ⟨k1, k4, k5, k6⟩ := clock_ne hb
  refine ⟨?_, ?_, ?_, ?_⟩
  · funext t
    unfold takeE updT thNext
    dsimp only
    simp only [h1, h4, h5, h6, k1, k4, k5, k6, false_or, false_and, if_false, hne, hne.symm]
    by_cases e1 : t = b.th.toNat
    · subst e1
      simp [hne]
    · by_cases e2 : t = a.th.toNat
      · subst e2
        simp [hne.symm, e1]
      · simp [e1, e2]
  · unfold takeE
    dsimp only
    simp only [h6, k6, false_and, if_false]
  · unfold takeE
    dsimp only
    simp only [h5, h6, k5, k6, false_and, if_false]
  · simp only [take_len, h1, k1, if_false]
theorem swap_two {S : LS} {a b : Ev} {i : Nat} {l : List Ev} (hth : a.th ≠ b.th) (ha : clockK a.kd = false) (hb : clockK b.kd = false) : (runE S i (a :: b :: l)).2.2 = 0 ↔ (runE S i (b :: a :: l)).2.2 = 0 := by
  cases fa : formE a with
  | false =>
    have w1 : ∀ T, wrongE T a ≠ 0 := fun T => by rw [wrong_unformed fa]; decide
    constructor
    · intro h
      rw [runE, if_neg (w1 S)] at h
      exact absurd h (w1 S)
    · intro h
      rw [runE] at h
      split at h
      · rw [runE, if_neg (w1 _)] at h
        exact absurd h (w1 _)
      · rename_i h2; exact absurd h h2
  | true =>
    cases fb : formE b with
    | false =>
      have w1 : ∀ T, wrongE T b ≠ 0 := fun T => by rw [wrong_unformed fb]; decide
      constructor
      · intro h
        rw [runE] at h
        split at h
        · rw [runE, if_neg (w1 _)] at h
          exact absurd h (w1 _)
        · rename_i h2; exact absurd h h2
      · intro h
        rw [runE, if_neg (w1 S)] at h
        exact absurd h (w1 S)
    | true =>
      have f1 := (formE_c fa).1
      have f2 := (formE_c fb).1
      have hne : b.th.toNat ≠ a.th.toNat := by omega
      by_cases wa : wrongE S a = 0
      · by_cases wb : wrongE S b = 0
        · rw [runE, if_pos wa, runE, wrong_other ha hne, if_pos wb, runE, if_pos wb, runE, wrong_other hb hne.symm, if_pos wa]
          rw [like_run l (take_swap ha hb hne) _ (i + 1 + 1)]
        · constructor
          · intro h
            rw [runE, if_pos wa, runE, wrong_other ha hne, if_neg wb] at h
            exact absurd h wb
          · intro h
            rw [runE, if_neg wb] at h
            exact absurd h wb
      · constructor
        · intro h
          rw [runE, if_neg wa] at h
          exact absurd h wa
        · intro h
          rw [runE] at h
          split at h
          · rw [runE, wrong_other hb hne.symm, if_neg wa] at h
            exact absurd h wa
          · rename_i h2; exact absurd h h2
theorem swap_run {a b : Ev} (p q : List Ev) (hth : a.th ≠ b.th) (ha : clockK a.kd = false) (hb : clockK b.kd = false) : ∀ (S : LS) (i : Nat), (runE S i (p ++ a :: b :: q)).2.2 = 0 ↔ (runE S i (p ++ b :: a :: q)).2.2 = 0 := by
  induction p with
  | nil => exact fun S i => swap_two hth ha hb
  | cons x p ih =>
    intro S i
    rw [List.cons_append, List.cons_append, runE, runE]
    split
    · exact ih _ _
    · exact Iff.rfl
theorem odd_swap {a b : Ev} (p q : List Ev) (hth : a.th ≠ b.th) (ha : clockK a.kd = false) (hb : clockK b.kd = false) : (oddE (p ++ a :: b :: q)).2 = 0 ↔ (oddE (p ++ b :: a :: q)).2 = 0 := by
  have hz : ∀ h, (oddE h).2 = 0 ↔ (runE ls0 0 h).2.2 = 0 := fun h => by
    unfold oddE
    by_cases k : (runE ls0 0 h).2.2 = 0
    · rw [if_pos k]; simp [k]
    · rw [if_neg k]
  rw [hz, hz]
  exact swap_run p q hth ha hb ls0 0
end Go.Proofs.YtfldpejifpmapaaDoor
set_option linter.unusedSimpArgs false
set_option linter.unusedVariables false
set_option maxRecDepth 100000
namespace Go.Proofs.YtfldpejifpmapaaDoor
open Go.RowKit
open Go.Maps
theorem clock_code (k : Int) (w : World) : Calls Tryd.prog 22 #[.int .i64 k] w fun e w' => e = .returned (.bool (clockK k)) ∧ w = w' := by
  unfold clockK
  refine calls_all fun K hK => ?_
  go_enter Tryd.func22, Tryd.ntmps22
  by_cases h1 : k = 1
  · subst h1
    go_wp2
    all_goals exact ⟨rfl, rfl⟩
  · have g1 : (k == 1) = false := by simpa using h1
    by_cases h4 : k = 4
    · subst h4
      go_wp2
      all_goals exact ⟨rfl, rfl⟩
    · have g4 : (k == 4) = false := by simpa using h4
      by_cases h5 : k = 5
      · subst h5
        go_wp2
        all_goals exact ⟨rfl, rfl⟩
      · have g5 : (k == 5) = false := by simpa using h5
        clear h1 h4 h5
        go_wp2
        all_goals exact ⟨by simp [g1, g4, g5], rfl⟩
/-- what a history's slice holds, cell by cell -/
theorem hist_src {w : World} {b o : Nat} {l : List Ev} (h : HistAt w (some ⟨b, o, none⟩) l) : ∀ j u, (l.flatMap Ev.cells)[j]? = some u → w.cell? ((⟨b, o, none⟩ : Addr).add j) = some u := by
  intro j u hj
  have hlt : j < l.length * 6 := by
    have := (List.getElem?_eq_some_iff.1 hj).1
    rwa [ev_flat_len] at this
  obtain ⟨i, r, hr, rfl⟩ : ∃ i r, r < 6 ∧ j = i * 6 + r := ⟨j / 6, j % 6, Nat.mod_lt _ (by omega), by omega⟩
  have hi : i < l.length := by omega
  rw [ev_flat l i l[i] r (List.getElem?_eq_getElem hi) hr] at hj
  obtain ⟨b', o', e, h0, h1, h2, h3, h4, h5⟩ := h i l[i] (List.getElem?_eq_getElem hi)
  cases e
  rw [addr_add, ← Nat.add_assoc]
  have hc : r = 0 ∨ r = 1 ∨ r = 2 ∨ r = 3 ∨ r = 4 ∨ r = 5 := by omega
  rcases hc with rfl | rfl | rfl | rfl | rfl | rfl
  · cases hj; exact h0
  · cases hj; exact h1
  · cases hj; exact h2
  · cases hj; exact h3
  · cases hj; exact h4
  · cases hj; exact h5
/-- a copy of a history in new memory -/
theorem app_hist {W : World} {b o : Nat} (l : List Ev) (cap : Nat) (hn : 1 ≤ l.length) (hm : l.length ≤ 2000000) (h : HistAt W (some ⟨b, o, none⟩) l) :
    ∃ g c sp w', (Builtin.append_ #[22, 22] 22 #[.slice none 0 0, .slice (some ⟨b, o, none⟩) l.length cap]).run Tryd.prog W = .ok (.slice (some ⟨g, 0, none⟩) l.length c) w' ∧ Blk w' g (l.flatMap Ev.cells ++ sp) 27 ∧ W.heap.size ≤ g ∧ Upd [] W w' := by
  obtain ⟨i0, hi, hz0, hz1, hz2⟩ := info_parts info_ev
  obtain ⟨v', w', hr, ho, hg, _, _⟩ := run_append_own_at (P := Tryd.prog) (w := W) W.heap.size 22 22 27 i0 _ 6 48 Tryd.underlying22 hi hz0 hz1 hz2 rfl (by decide)
    (.slice none 0 0) 0 [] ⟨rfl, .inl ⟨rfl, rfl⟩⟩ ⟨b, o, none⟩ l.length cap (l.flatMap Ev.cells) (ev_flat_len l) (hist_src h) (by
      intro u hu
      obtain ⟨x, _, hx⟩ := List.mem_flatMap.1 hu
      simp [Ev.cells] at hx
      rcases hx with rfl | rfl | rfl | rfl | rfl | rfl <;> rfl) (by unfold maxLen; omega) (by omega) (Nat.le_refl _)
  rw [Nat.zero_add, List.nil_append] at ho
  obtain ⟨g, c, rfl⟩ := own_some ho hn
  obtain ⟨hb, _, sp, hB⟩ := own_openN ho
  exact ⟨g, c, sp, w', hr, hB, hb, Upd.of_grown hg (fun k e => by simp [Value.ownBlock] at e)⟩
def TwoAt (b o k k1 : Nat) (x y : Ev) (W : World) : Prop := (W.cell? ⟨b, o + k * 6, none⟩ = some (.int .i64 x.th) ∧ W.cell? ⟨b, o + k * 6 + 1, none⟩ = some (.int .i64 x.kd) ∧ W.cell? ⟨b, o + k * 6 + 2, none⟩ = some (.int .u64 x.ad) ∧ W.cell? ⟨b, o + k * 6 + 3, none⟩ = some (.int .u64 x.wd) ∧ W.cell? ⟨b, o + k * 6 + 4, none⟩ = some (.bool x.own) ∧ W.cell? ⟨b, o + k * 6 + 5, none⟩ = some (.int .i64 x.er)) ∧
  (W.cell? ⟨b, o + k1 * 6, none⟩ = some (.int .i64 y.th) ∧ W.cell? ⟨b, o + k1 * 6 + 1, none⟩ = some (.int .i64 y.kd) ∧ W.cell? ⟨b, o + k1 * 6 + 2, none⟩ = some (.int .u64 y.ad) ∧ W.cell? ⟨b, o + k1 * 6 + 3, none⟩ = some (.int .u64 y.wd) ∧ W.cell? ⟨b, o + k1 * 6 + 4, none⟩ = some (.bool y.own) ∧ W.cell? ⟨b, o + k1 * 6 + 5, none⟩ = some (.int .i64 y.er))
theorem TwoAt.upd {b o k k1 : Nat} {x y : Ev} {W W' : World} {S : List Nat} (h : TwoAt b o k k1 x y W) (u : Upd S W W') (hb : b ∉ S) : TwoAt b o k k1 x y W' := by
  obtain ⟨⟨h0, h1, h2, h3, h4, h5⟩, g0, g1, g2, g3, g4, g5⟩ := h
  exact ⟨⟨u.cell hb h0, u.cell hb h1, u.cell hb h2, u.cell hb h3, u.cell hb h4, u.cell hb h5⟩, u.cell hb g0, u.cell hb g1, u.cell hb g2, u.cell hb g3, u.cell hb g4, u.cell hb g5⟩
def zeroV : List Value := [.int .i64 0, .int .i64 0, .int .u64 0, .int .u64 0, .bool false, .int .i64 0]
def put6 (W : World) (p : Nat) (x : Ev) : World := ((((((W.setCell ⟨p, 0, none⟩ (.int .i64 x.th)).setCell ⟨p, 1, none⟩ (.int .i64 x.kd)).setCell ⟨p, 2, none⟩ (.int .u64 x.ad)).setCell ⟨p, 3, none⟩ (.int .u64 x.wd)).setCell ⟨p, 4, none⟩ (.bool x.own)).setCell ⟨p, 5, none⟩ (.int .i64 x.er))
theorem put6_blk {W : World} {p : Nat} (x : Ev) (h : Blk W p zeroV 27) : Blk (put6 W p x) p x.cells 27 := (((((h.set 0 _).set 1 _).set 2 _).set 3 _).set 4 _).set 5 _
theorem put6_upd (W : World) (p : Nat) (x : Ev) : Upd [p] W (put6 W p x) := ((((((Upd.refl [p] W).setCell (.inl (by simp)) _).setCell (.inl (by simp)) _).setCell (.inl (by simp)) _).setCell (.inl (by simp)) _).setCell (.inl (by simp)) _).setCell (.inl (by simp)) _
-- both blocks are made, then written: A B: which comes first
def setE (L : List Value) (n : Nat) (x : Ev) : List Value := (((((L.set n (.int .i64 x.th)).set (n + 1) (.int .i64 x.kd)).set (n + 2) (.int .u64 x.ad)).set (n + 3) (.int .u64 x.wd)).set (n + 4) (.bool x.own)).set (n + 5) (.int .i64 x.er)
theorem setE_at : ∀ (l : List Ev) (sp : List Value) (i : Nat) (x : Ev), i < l.length → setE (l.flatMap Ev.cells ++ sp) (i * 6) x = (l.set i x).flatMap Ev.cells ++ sp
  | [], _, _, _, h => by simp at h
  | y :: l, sp, 0, x, _ => rfl
  | y :: l, sp, i + 1, x, h => by
    have ih := setE_at l sp i x (by simpa using h)
    unfold setE at ih ⊢
    have hs : ∀ (R : List Value) (j : Nat) (v : Value), (y.cells ++ R).set ((i + 1) * 6 + j) v = y.cells ++ R.set (i * 6 + j) v := fun R j v => by
      have hc : y.cells.length = 6 := rfl
      rw [List.set_append_right _ _ (by rw [hc]; omega), hc, show (i + 1) * 6 + j - 6 = i * 6 + j by omega]
    have hs0 : ∀ (R : List Value) (v : Value), (y.cells ++ R).set ((i + 1) * 6) v = y.cells ++ R.set (i * 6) v := fun R v => hs R 0 v
    rw [List.flatMap_cons, List.append_assoc, hs0, hs, hs, hs, hs, hs, ih, List.set_cons_succ, List.flatMap_cons, List.append_assoc]
def putE (W : World) (g n : Nat) (x : Ev) : World := (((((W.setCell ⟨g, n, none⟩ (.int .i64 x.th)).setCell ⟨g, n + 1, none⟩ (.int .i64 x.kd)).setCell ⟨g, n + 2, none⟩ (.int .u64 x.ad)).setCell ⟨g, n + 3, none⟩ (.int .u64 x.wd)).setCell ⟨g, n + 4, none⟩ (.bool x.own)).setCell ⟨g, n + 5, none⟩ (.int .i64 x.er)
theorem putE_blk {W : World} {g i : Nat} {l : List Ev} {sp : List Value} (x : Ev) (hi : i < l.length) (h : Blk W g (l.flatMap Ev.cells ++ sp) 27) : Blk (putE W g (i * 6) x) g ((l.set i x).flatMap Ev.cells ++ sp) 27 := by
  rw [← setE_at l sp i x hi]
  exact (((((h.set (i * 6) _).set (i * 6 + 1) _).set (i * 6 + 2) _).set (i * 6 + 3) _).set (i * 6 + 4) _).set (i * 6 + 5) _
theorem putE_upd (W : World) (g n : Nat) (x : Ev) : Upd [g] W (putE W g n x) := ((((((Upd.refl [g] W).setCell (.inl (by simp)) _).setCell (.inl (by simp)) _).setCell (.inl (by simp)) _).setCell (.inl (by simp)) _).setCell (.inl (by simp)) _).setCell (.inl (by simp)) _
-- the cells at place N of g
theorem swap_list {l : List Ev} {k : Nat} {x y : Ev} (hx : l[k]? = some x) (hy : l[k + 1]? = some y) : ∃ p q, l = p ++ x :: y :: q ∧ (l.set k y).set (k + 1) x = p ++ y :: x :: q := by
  obtain ⟨h1, e1⟩ := List.getElem?_eq_some_iff.1 hx
  obtain ⟨h2, e2⟩ := List.getElem?_eq_some_iff.1 hy
  have hl : l = l.take k ++ x :: y :: l.drop (k + 2) := by
    have a1 := List.drop_eq_getElem_cons h1
    have a2 := List.drop_eq_getElem_cons h2
    rw [e1] at a1
    rw [e2] at a2
    rw [← a2, ← a1, List.take_append_drop]
  have hp : (l.take k).length = k := by rw [List.length_take]; omega
  generalize l.take k = p at hl hp
  generalize l.drop (k + 2) = q at hl
  refine ⟨p, q, hl, ?_⟩
  subst hp
  rw [hl, List.set_append_right _ _ (Nat.le_refl _), Nat.sub_self, List.set_cons_zero, List.set_append_right _ _ (by omega), show p.length + 1 - p.length = 1 by omega]
  rfl
theorem wide_set {l : List Ev} {x : Ev} (k : Nat) (h : wideL l) (hx : x.wide) : wideL (l.set k x) := fun y hy => by
  rcases List.mem_or_eq_of_mem_set hy with h1 | rfl
  · exact h y h1
  · exact hx
theorem odd_field (a b : Int) (w : World) : (Instr.field 46 (.agg #[.int .i64 a, .int .i64 b]) 1).run Tryd.prog w = .ok (.int .i64 b) w := by
  first
    | kernel_rfl
    | (unfold Instr.field; go_simp)
    | rfl
def PQAt (p q : Nat) (x y : Ev) (W : World) : Prop := (W.cell? ⟨p, 0, none⟩ = some (.int .i64 x.th) ∧ W.cell? ⟨p, 1, none⟩ = some (.int .i64 x.kd) ∧ W.cell? ⟨p, 2, none⟩ = some (.int .u64 x.ad) ∧ W.cell? ⟨p, 3, none⟩ = some (.int .u64 x.wd) ∧ W.cell? ⟨p, 4, none⟩ = some (.bool x.own) ∧ W.cell? ⟨p, 5, none⟩ = some (.int .i64 x.er)) ∧
  (W.cell? ⟨q, 0, none⟩ = some (.int .i64 y.th) ∧ W.cell? ⟨q, 1, none⟩ = some (.int .i64 y.kd) ∧ W.cell? ⟨q, 2, none⟩ = some (.int .u64 y.ad) ∧ W.cell? ⟨q, 3, none⟩ = some (.int .u64 y.wd) ∧ W.cell? ⟨q, 4, none⟩ = some (.bool y.own) ∧ W.cell? ⟨q, 5, none⟩ = some (.int .i64 y.er))
theorem PQAt.mk {p q : Nat} {x y : Ev} {W : World} (h : Blk W p x.cells 27) (k : Blk W q y.cells 27) : PQAt p q x y W :=
  ⟨⟨h.cell 0 rfl, h.cell 1 rfl, h.cell 2 rfl, h.cell 3 rfl, h.cell 4 rfl, h.cell 5 rfl⟩, k.cell 0 rfl, k.cell 1 rfl, k.cell 2 rfl, k.cell 3 rfl, k.cell 4 rfl, k.cell 5 rfl⟩
set_option maxHeartbeats 8000000 in
theorem eventsSwaps_walk (w : World) (po : Option Addr) (cap : Nat) (l : List Ev) (at_ : Int) (hH : HistAt w po l) (hl : l.length ≤ 2000000) (hw : wideL l) (hP : PreE w) (ha : -9223372036854775808 ≤ at_ ∧ at_ ≤ 9223372036854775807) : Calls Tryd.prog 7 #[.slice po l.length cap, .int .i64 at_] w fun e w' => e = .returned (.bool true) ∧ Upd [] w w' := by
  have HP := Lib.hid hP
  have HW := Lib.hid hw
  have HH := Lib.hid hH
  clear hP hw hH
  obtain ⟨N, hN⟩ : ∃ N, l.length = N := ⟨_, rfl⟩
  have HN := Lib.hid hN
  rw [hN] at hl ⊢
  clear hN
  refine calls_all fun K hK => ?_
  go_enter Tryd.func7, Tryd.ntmps7
  go_upto_region 1 with fail
  by_cases h2 : N < 2
  · have h2' : (N : Int) < 2 := by omega
    go_wp2_with (go_at_call 16; refine (known_code _ HP.out).mono ?_; rintro e W1 ⟨rfl, u1⟩)
    refine (known_code _ (HP.out.upd u1)).mono ?_
    rintro e W2 ⟨rfl, u2⟩
    go_wp2_with fail
    exact ⟨rfl, u1.trans u2⟩
  · have h2' : ¬ (N : Int) < 2 := by omega
    go_upto_if 23 with (go_at_call 16; refine (known_code _ HP.out).mono ?_; rintro e W1 ⟨rfl, u1⟩)
    obtain ⟨t, ht⟩ : ∃ t, at_.tmod ((N : Int) - 1) = t := ⟨_, rfl⟩
    have ht1 := Int.lt_tmod_of_pos at_ (b := (N : Int) - 1) (by omega)
    have ht2 := Int.tmod_lt_of_pos at_ (b := (N : Int) - 1) (by omega)
    rw [ht] at ht1 ht2 ⊢
    clear ht ha
    obtain ⟨k, hk, hk2⟩ : ∃ k : Nat, (k : Int) = (if t < 0 then t + N - 1 else t) ∧ k + 2 ≤ N := by
      by_cases h : t < 0
      · rw [if_pos h]; exact ⟨(t + N - 1).toNat, by omega, by omega⟩
      · rw [if_neg h]; exact ⟨t.toNat, by omega, by omega⟩
    go_cut [5] from 24 to 28 (fun v5 wx => v5 = .int .i64 (k : Int) ∧ wx = W1)
    case first =>
      by_cases h : t < 0
      · rw [if_pos h] at hk
        have hk' : t + (N : Int) - 1 = k := hk.symm
        clear hk
        go_wp2_with fail
        go_meet
        exact ⟨by rw [← hk'], rfl⟩
      · rw [if_neg h] at hk
        subst hk
        go_wp2_with fail
        go_meet
        exact ⟨rfl, rfl⟩
    case rest =>
      obtain ⟨rfl, rfl⟩ := hcut
      obtain ⟨W1, rfl⟩ : ∃ W, W = wc := ⟨wc, rfl⟩
      clear hk ht1 ht2
      have HU1 := Lib.hid u1
      have HH1 := Lib.hid (HH.out.upd0 u1)
      clear u1 HH
      go_upto_region 6 with fail
      have hkl : k < l.length := by have := HN.out; omega
      have hkl2 : k + 1 < l.length := by have := HN.out; omega
      obtain ⟨k1, hk1⟩ : ∃ j, k + 1 = j := ⟨_, rfl⟩
      rw [hk1] at hkl2
      obtain ⟨x, hx⟩ : ∃ x, l[k]? = some x := ⟨_, List.getElem?_eq_getElem hkl⟩
      obtain ⟨y, hy⟩ : ∃ y, l[k1]? = some y := ⟨_, List.getElem?_eq_getElem hkl2⟩
      obtain ⟨b, o, hpo, x0, x1, x2, x3, x4, x5⟩ := HH1.out k x hx
      obtain ⟨b', o', hpo', y0, y1, y2, y3, y4, y5⟩ := HH1.out k1 y hy
      subst hpo
      obtain ⟨rfl, rfl⟩ : b = b' ∧ o = o' := by cases hpo'; exact ⟨rfl, rfl⟩
      have HX := Lib.hid hx
      have HY := Lib.hid hy
      have hk0 : 0 ≤ (k : Int) := by omega
      have hkN : (k : Int) < (N : Int) := by omega
      have hk10 : 0 ≤ (k1 : Int) := by omega
      have hkN1 : (k1 : Int) < (N : Int) := by omega
      have hkN2 : k < N := by omega
      have hkN3 : k1 < N := by omega
      have hkw : IntKind.i64.wrap ((k : Int) + 1) = (k1 : Int) := by rw [IntKind.wrap_i64]; omega
      have HK1 := Lib.hid hk1
      clear hk1
      clear hx hy hpo' hkl hkl2
      obtain ⟨xt, xk, xa, xw, xo, xe⟩ := x
      obtain ⟨yt, yk, ya, yw, yo, ye⟩ := y
      dsimp only at x0 x1 x2 x3 x4 x5 y0 y1 y2 y3 y4 y5
      have HS : Hid (TwoAt b o k k1 ⟨xt, xk, xa, xw, xo, xe⟩ ⟨yt, yk, ya, yw, yo, ye⟩ W1) := Lib.hid ⟨⟨x0, x1, x2, x3, x4, x5⟩, y0, y1, y2, y3, y4, y5⟩
      clear x0 x1 x2 x3 x4 x5 y0 y1 y2 y3 y4 y5
      go_cut [6, 7] from 29 to 37 (fun v6 v7 wx => ∃ p q, v6 = .pointer (some ⟨p, 0, none⟩) ∧ v7 = .pointer (some ⟨q, 0, none⟩) ∧ Blk wx p [.int .i64 xt, .int .i64 xk, .int .u64 xa, .int .u64 xw, .bool xo, .int .i64 xe] 27 ∧ Blk wx q [.int .i64 yt, .int .i64 yk, .int .u64 ya, .int .u64 yw, .bool yo, .int .i64 ye] 27 ∧ Upd [] W1 wx)
      case first =>
        have ud : Upd [] W1 W1.drew := (Upd.refl _ _).drew
        have HS2 := Lib.hid (HS.out.upd ud (by simp))
        refine wp_region_br (TwoAt b o k k1 ⟨xt, xk, xa, xw, xo, xe⟩ ⟨yt, yk, ya, yw, yo, ye⟩) [0, 1, 2, 3, 4, 5, 6, 7, 8, 9, 10, 11, 12] (by kernel_rfl) (by kernel_rfl) HS2.out ?_
        generalize W1.drew = W2 at ud HS2 ⊢
        have HBL := Lib.hid (show b < W2.heap.size from World.block_lt_of_cell? W2 _ HS2.out.1.1)
        have HUD := Lib.hid ud
        have HUDS := Lib.hid ud.size
        clear HU1 HH1 HS ud
        repeat
          first
            | (refine wpB_skip rfl (by kernel_rfl) (by rfl) ?_)
            | ((refine wpB_take (v := ?_) rfl rfl (by kernel_rfl) (by rfl) ?_ ?_); rotate_left 1; (· ((intro w hSw; (try (unfold TwoAt at hSw; dsimp only at hSw)); go_simp); try with_reducible rfl)))
          try simp only [Act.put, List.setIfInBounds_toArray, List.set_cons_zero, List.set_cons_succ]
        refine wpB_two (i := 9) (j := 10) [9, 11, 12] (by kernel_rfl) rfl rfl (by rfl) (by rfl) (fun K2 hK2 => ?_) (fun K2 hK2 => ?_)
        · skip
          go_simp
          have u3 : Upd [] W2 (W2.alloc (.cells zeroV.toArray 27)) := (Upd.refl _ _).alloc _
          have B3 := Blk.new W2 zeroV 27
          refine hK2.out _ _ (HS2.out.upd u3 (by simp)) ?_
          clear hK2 K2
          have HS3 := Lib.hid (HS2.out.upd u3 (by simp))
          obtain ⟨g, hg⟩ : ∃ g, W2.heap.size = g := ⟨_, rfl⟩
          rw [hg] at B3 HBL HUDS
          have hgs : (W2.alloc (.cells zeroV.toArray 27)).heap.size = g + 1 := by rw [World.size_alloc, hg]
          try rw [hg]
          change wpB _ _ _ _ _ _ _ _ _ (W2.alloc (.cells zeroV.toArray 27))
          have HUD3 := Lib.hid (HUD.out.trans u3)
          generalize W2.alloc (.cells zeroV.toArray 27) = W3 at u3 B3 HS3 hgs HUD3 ⊢
          clear HS2 HUD u3 hg
          repeat
            first
              | (refine wpB_skip rfl (by kernel_rfl) (by rfl) ?_)
              | ((refine wpB_take (v := ?_) rfl rfl (by kernel_rfl) (by rfl) ?_ ?_); rotate_left 1; (· ((intro w hSw; (try (unfold TwoAt at hSw; dsimp only at hSw)); go_simp); try with_reducible rfl)))
            try simp only [Act.put, List.setIfInBounds_toArray, List.set_cons_zero, List.set_cons_succ]
          refine wpB_eff rfl (by kernel_rfl) (by rfl) (fun K2 hK2 => ?_)
          go_simp
          have u4 : Upd [] W3 (W3.alloc (.cells zeroV.toArray 27)) := (Upd.refl _ _).alloc _
          have B4 := Blk.new W3 zeroV 27
          rw [hgs] at B4
          refine hK2.out _ _ (HS3.out.upd u4 (by simp)) ?_
          clear hK2 K2
          have HS4 := Lib.hid (HS3.out.upd u4 (by simp))
          have B3' := B3.upd u4 (by simp)
          have HUD4 := Lib.hid (HUD3.out.trans u4)
          change wpB _ _ _ _ _ _ _ _ _ (W3.alloc (.cells zeroV.toArray 27))
          generalize W3.alloc (.cells zeroV.toArray 27) = W4 at u4 B3' B4 HS4 HUD4 ⊢
          have HGB := Lib.hid (show W1.heap.size ≤ g from HUDS.out)
          clear HS3 HUD3 u4 B3 hgs
          repeat
            first
              | (refine wpB_skip rfl (by kernel_rfl) (by rfl) ?_)
              | ((refine wpB_take (v := ?_) rfl rfl (by kernel_rfl) (by rfl) ?_ ?_); rotate_left 1; (· ((intro w hSw; (try (unfold TwoAt at hSw; dsimp only at hSw)); go_simp); try with_reducible rfl)))
            try simp only [Act.put, List.setIfInBounds_toArray, List.set_cons_zero, List.set_cons_succ]
          have HP4 := Lib.hid (show Blk W4 (g + 0) zeroV 27 from (by first | exact B3' | exact B4))
          have HQ4 := Lib.hid (show Blk W4 (g + 1) zeroV 27 from (by first | exact B3' | exact B4))
          clear B3' B4
          have f0 := HP4.out.free 0
          have f1 := HP4.out.free 1
          have f2 := HP4.out.free 2
          have f3 := HP4.out.free 3
          have f4 := HP4.out.free 4
          have f5 := HP4.out.free 5
          have c0 := HP4.out.cell 0 rfl
          have c1 := HP4.out.cell 1 rfl
          have c2 := HP4.out.cell 2 rfl
          have c3 := HP4.out.cell 3 rfl
          have c4 := HP4.out.cell 4 rfl
          have c5 := HP4.out.cell 5 rfl
          try simp only [Nat.add_zero] at f0 f1 f2 f3 f4 f5 c0 c1 c2 c3 c4 c5
          refine wpB_eff rfl (by kernel_rfl) (by rfl) (fun K2 hK2 => ?_)
          go_simp
          have up := put6_upd W4 (g + 0) ⟨xt, xk, xa, xw, xo, xe⟩
          have HS5 := Lib.hid (HS4.out.upd up (by simp; have := HBL.out; omega))
          refine hK2.out _ _ HS5.out ?_
          clear hK2 K2 f0 f1 f2 f3 f4 f5 c0 c1 c2 c3 c4 c5
          have HP5 := Lib.hid (put6_blk ⟨xt, xk, xa, xw, xo, xe⟩ HP4.out)
          have HQ5 := Lib.hid (HQ4.out.upd up (by simp))
          have HUD5 := Lib.hid (HUD4.out.tr (U := []) up (by simp) (fun y hy => .inr (by simp at hy; have := HGB.out; omega)))
          change wpB _ _ _ _ _ _ _ _ _ (put6 W4 (g + 0) ⟨xt, xk, xa, xw, xo, xe⟩)
          generalize put6 W4 (g + 0) ⟨xt, xk, xa, xw, xo, xe⟩ = W5 at up HS5 HP5 HQ5 HUD5 ⊢
          clear up HS4 HP4 HQ4 HUD4
          repeat
            first
              | (refine wpB_skip rfl (by kernel_rfl) (by rfl) ?_)
              | ((refine wpB_take (v := ?_) rfl rfl (by kernel_rfl) (by rfl) ?_ ?_); rotate_left 1; (· ((intro w hSw; (try (unfold TwoAt at hSw; dsimp only at hSw)); go_simp); try with_reducible rfl)))
            try simp only [Act.put, List.setIfInBounds_toArray, List.set_cons_zero, List.set_cons_succ]
          have f0 := HQ5.out.free 0
          have f1 := HQ5.out.free 1
          have f2 := HQ5.out.free 2
          have f3 := HQ5.out.free 3
          have f4 := HQ5.out.free 4
          have f5 := HQ5.out.free 5
          have c0 := HQ5.out.cell 0 rfl
          have c1 := HQ5.out.cell 1 rfl
          have c2 := HQ5.out.cell 2 rfl
          have c3 := HQ5.out.cell 3 rfl
          have c4 := HQ5.out.cell 4 rfl
          have c5 := HQ5.out.cell 5 rfl
          try simp only [Nat.add_zero] at f0 f1 f2 f3 f4 f5 c0 c1 c2 c3 c4 c5
          refine wpB_eff rfl (by kernel_rfl) (by rfl) (fun K2 hK2 => ?_)
          go_simp
          have up := put6_upd W5 (g + 1) ⟨yt, yk, ya, yw, yo, ye⟩
          refine hK2.out _ _ (HS5.out.upd up (by simp; have := HBL.out; omega)) ?_
          refine wpB_end (by kernel_rfl) (NoPanic.normal ?_)
          clear hK2 K2 f0 f1 f2 f3 f4 f5 c0 c1 c2 c3 c4 c5
          have HQ6 := Lib.hid (put6_blk ⟨yt, yk, ya, yw, yo, ye⟩ HQ5.out)
          have HP6 := Lib.hid (HP5.out.upd up (by simp))
          have HUD6 := Lib.hid (HUD5.out.tr (U := []) up (by simp) (fun y hy => .inr (by simp at hy; have := HGB.out; omega)))
          go_wp2_with fail
          go_meet
          exact ⟨g + 0, g + 1, rfl, rfl, HP6.out, HQ6.out, HUD6.out⟩
        · skip
          go_simp
          have u3 : Upd [] W2 (W2.alloc (.cells zeroV.toArray 27)) := (Upd.refl _ _).alloc _
          have B3 := Blk.new W2 zeroV 27
          refine hK2.out _ _ (HS2.out.upd u3 (by simp)) ?_
          clear hK2 K2
          have HS3 := Lib.hid (HS2.out.upd u3 (by simp))
          obtain ⟨g, hg⟩ : ∃ g, W2.heap.size = g := ⟨_, rfl⟩
          rw [hg] at B3 HBL HUDS
          have hgs : (W2.alloc (.cells zeroV.toArray 27)).heap.size = g + 1 := by rw [World.size_alloc, hg]
          try rw [hg]
          change wpB _ _ _ _ _ _ _ _ _ (W2.alloc (.cells zeroV.toArray 27))
          have HUD3 := Lib.hid (HUD.out.trans u3)
          generalize W2.alloc (.cells zeroV.toArray 27) = W3 at u3 B3 HS3 hgs HUD3 ⊢
          clear HS2 HUD u3 hg
          repeat
            first
              | (refine wpB_skip rfl (by kernel_rfl) (by rfl) ?_)
              | ((refine wpB_take (v := ?_) rfl rfl (by kernel_rfl) (by rfl) ?_ ?_); rotate_left 1; (· ((intro w hSw; (try (unfold TwoAt at hSw; dsimp only at hSw)); go_simp); try with_reducible rfl)))
            try simp only [Act.put, List.setIfInBounds_toArray, List.set_cons_zero, List.set_cons_succ]
          refine wpB_eff rfl (by kernel_rfl) (by rfl) (fun K2 hK2 => ?_)
          go_simp
          have u4 : Upd [] W3 (W3.alloc (.cells zeroV.toArray 27)) := (Upd.refl _ _).alloc _
          have B4 := Blk.new W3 zeroV 27
          rw [hgs] at B4
          refine hK2.out _ _ (HS3.out.upd u4 (by simp)) ?_
          clear hK2 K2
          have HS4 := Lib.hid (HS3.out.upd u4 (by simp))
          have B3' := B3.upd u4 (by simp)
          have HUD4 := Lib.hid (HUD3.out.trans u4)
          change wpB _ _ _ _ _ _ _ _ _ (W3.alloc (.cells zeroV.toArray 27))
          generalize W3.alloc (.cells zeroV.toArray 27) = W4 at u4 B3' B4 HS4 HUD4 ⊢
          have HGB := Lib.hid (show W1.heap.size ≤ g from HUDS.out)
          clear HS3 HUD3 u4 B3 hgs
          repeat
            first
              | (refine wpB_skip rfl (by kernel_rfl) (by rfl) ?_)
              | ((refine wpB_take (v := ?_) rfl rfl (by kernel_rfl) (by rfl) ?_ ?_); rotate_left 1; (· ((intro w hSw; (try (unfold TwoAt at hSw; dsimp only at hSw)); go_simp); try with_reducible rfl)))
            try simp only [Act.put, List.setIfInBounds_toArray, List.set_cons_zero, List.set_cons_succ]
          have HP4 := Lib.hid (show Blk W4 (g + 1) zeroV 27 from (by first | exact B3' | exact B4))
          have HQ4 := Lib.hid (show Blk W4 (g + 0) zeroV 27 from (by first | exact B3' | exact B4))
          clear B3' B4
          have f0 := HP4.out.free 0
          have f1 := HP4.out.free 1
          have f2 := HP4.out.free 2
          have f3 := HP4.out.free 3
          have f4 := HP4.out.free 4
          have f5 := HP4.out.free 5
          have c0 := HP4.out.cell 0 rfl
          have c1 := HP4.out.cell 1 rfl
          have c2 := HP4.out.cell 2 rfl
          have c3 := HP4.out.cell 3 rfl
          have c4 := HP4.out.cell 4 rfl
          have c5 := HP4.out.cell 5 rfl
          try simp only [Nat.add_zero] at f0 f1 f2 f3 f4 f5 c0 c1 c2 c3 c4 c5
          refine wpB_eff rfl (by kernel_rfl) (by rfl) (fun K2 hK2 => ?_)
          go_simp
          have up := put6_upd W4 (g + 1) ⟨xt, xk, xa, xw, xo, xe⟩
          have HS5 := Lib.hid (HS4.out.upd up (by simp; have := HBL.out; omega))
          refine hK2.out _ _ HS5.out ?_
          clear hK2 K2 f0 f1 f2 f3 f4 f5 c0 c1 c2 c3 c4 c5
          have HP5 := Lib.hid (put6_blk ⟨xt, xk, xa, xw, xo, xe⟩ HP4.out)
          have HQ5 := Lib.hid (HQ4.out.upd up (by simp))
          have HUD5 := Lib.hid (HUD4.out.tr (U := []) up (by simp) (fun y hy => .inr (by simp at hy; have := HGB.out; omega)))
          change wpB _ _ _ _ _ _ _ _ _ (put6 W4 (g + 1) ⟨xt, xk, xa, xw, xo, xe⟩)
          generalize put6 W4 (g + 1) ⟨xt, xk, xa, xw, xo, xe⟩ = W5 at up HS5 HP5 HQ5 HUD5 ⊢
          clear up HS4 HP4 HQ4 HUD4
          repeat
            first
              | (refine wpB_skip rfl (by kernel_rfl) (by rfl) ?_)
              | ((refine wpB_take (v := ?_) rfl rfl (by kernel_rfl) (by rfl) ?_ ?_); rotate_left 1; (· ((intro w hSw; (try (unfold TwoAt at hSw; dsimp only at hSw)); go_simp); try with_reducible rfl)))
            try simp only [Act.put, List.setIfInBounds_toArray, List.set_cons_zero, List.set_cons_succ]
          have f0 := HQ5.out.free 0
          have f1 := HQ5.out.free 1
          have f2 := HQ5.out.free 2
          have f3 := HQ5.out.free 3
          have f4 := HQ5.out.free 4
          have f5 := HQ5.out.free 5
          have c0 := HQ5.out.cell 0 rfl
          have c1 := HQ5.out.cell 1 rfl
          have c2 := HQ5.out.cell 2 rfl
          have c3 := HQ5.out.cell 3 rfl
          have c4 := HQ5.out.cell 4 rfl
          have c5 := HQ5.out.cell 5 rfl
          try simp only [Nat.add_zero] at f0 f1 f2 f3 f4 f5 c0 c1 c2 c3 c4 c5
          refine wpB_eff rfl (by kernel_rfl) (by rfl) (fun K2 hK2 => ?_)
          go_simp
          have up := put6_upd W5 (g + 0) ⟨yt, yk, ya, yw, yo, ye⟩
          refine hK2.out _ _ (HS5.out.upd up (by simp; have := HBL.out; omega)) ?_
          refine wpB_end (by kernel_rfl) (NoPanic.normal ?_)
          clear hK2 K2 f0 f1 f2 f3 f4 f5 c0 c1 c2 c3 c4 c5
          have HQ6 := Lib.hid (put6_blk ⟨yt, yk, ya, yw, yo, ye⟩ HQ5.out)
          have HP6 := Lib.hid (HP5.out.upd up (by simp))
          have HUD6 := Lib.hid (HUD5.out.tr (U := []) up (by simp) (fun y hy => .inr (by simp at hy; have := HGB.out; omega)))
          go_wp2_with fail
          go_meet
          exact ⟨g + 1, g + 0, rfl, rfl, HP6.out, HQ6.out, HUD6.out⟩
      case rest =>
        obtain ⟨p, q, rfl, rfl, hp, hq, hu⟩ := hcut
        obtain ⟨W3, rfl⟩ : ∃ W, W = wc := ⟨wc, rfl⟩
        have HP3 := Lib.hid hp
        have HQ3 := Lib.hid hq
        have HU3 := Lib.hid (HU1.out.trans hu)
        have HH3 := Lib.hid (HH1.out.upd0 hu)
        have p0 := hp.cell 0 rfl
        have p1 := hp.cell 1 rfl
        have q0 := hq.cell 0 rfl
        have q1 := hq.cell 1 rfl
        clear hp hq hu HH1 HU1 HS
        by_cases hth : xt = yt
        · subst hth
          go_wp2_with fail
          exact ⟨rfl, HU3.out⟩
        · have ht1 : (xt == yt) = false := by simpa using hth
          have HTH := Lib.hid hth
          clear hth
          cases hcx : clockK xk with
          | true =>
            go_wp2_with (go_at_call 22; refine (clock_code _ _).mono ?_; rw [hcx]; rintro e w4 ⟨rfl, rfl⟩)
            exact ⟨rfl, HU3.out⟩
          | false =>
            cases hcy : clockK yk with
            | true =>
              go_wp2_with (go_at_call 22; refine (clock_code _ _).mono ?_; (first | rw [hcx] | rw [hcy]); rintro e w4 ⟨rfl, rfl⟩)
              exact ⟨rfl, HU3.out⟩
            | false =>
              have HCX := Lib.hid hcx
              have HCY := Lib.hid hcy
              obtain ⟨g, c, sp, W4, hrun, hB, hg, hu⟩ := app_hist (W := W3) l cap (by have := HN.out; omega) (by have := HN.out; omega) HH3.out
              rw [HN.out] at hrun
              have HB4 := Lib.hid hB
              have HP4 := Lib.hid (HP3.out.upd hu (by simp))
              have HQ4 := Lib.hid (HQ3.out.upd hu (by simp))
              have HU4 := Lib.hid (HU3.out.trans hu)
              have HH4 := Lib.hid (HH3.out.upd0 hu)
              have HG4 := Lib.hid (show W3.heap.size ≤ g from hg)
              have HW3S := Lib.hid HU3.out.size
              have HPL := Lib.hid HP3.out.lt
              have HQL := Lib.hid HQ3.out.lt
              have HBL := Lib.hid (HH3.out.lt b o rfl (by intro e; have := HN.out; rw [e] at this; simp at this; omega))
              clear hB hu hg
              go_upto_region 10 with (first | (at_builtin; refine wpList_append_eq rfl _ _ _ _ rfl _ _ _ rfl rfl hrun ?_) | (go_at_call 22; refine (clock_code _ _).mono ?_; (first | rw [hcx] | rw [hcy]); rintro e w4 ⟨rfl, rfl⟩))
              clear hrun p0 p1 q0 q1 HH3 HU3 HP3 HQ3
              have ud : Upd [] W4 W4.drew := (Upd.refl _ _).drew
              have HB5 := Lib.hid (HB4.out.upd ud (by simp))
              have HP5 := Lib.hid (HP4.out.upd ud (by simp))
              have HQ5 := Lib.hid (HQ4.out.upd ud (by simp))
              have HU5 := Lib.hid (HU4.out.trans ud)
              have HH5 := Lib.hid (HH4.out.upd0 ud)
              refine wp_region_br (PQAt p q ⟨xt, xk, xa, xw, xo, xe⟩ ⟨yt, yk, ya, yw, yo, ye⟩) [0, 1, 2, 3, 4, 5, 6, 7, 8, 9, 10] (by kernel_rfl) (by kernel_rfl) (PQAt.mk HP5.out HQ5.out) ?_
              generalize W4.drew = W5 at ud HB5 HP5 HQ5 HU5 HH5 ⊢
              clear ud HB4 HP4 HQ4 HU4 HH4
              repeat
                first
                  | (refine wpB_skip rfl (by kernel_rfl) (by rfl) ?_)
                  | ((refine wpB_take (v := ?_) rfl rfl (by kernel_rfl) (by rfl) ?_ ?_); rotate_left 1; (· ((intro w hSw; (try (unfold PQAt at hSw; dsimp only at hSw)); go_simp); try with_reducible rfl)))
                try simp only [Act.put, List.setIfInBounds_toArray, List.set_cons_zero, List.set_cons_succ]
              have HKL := Lib.hid (show k < l.length by rw [HN.out]; exact hkN2)
              have HKL1 := Lib.hid (show k1 < l.length by rw [HN.out]; exact hkN3)
              obtain ⟨_, _, eg, c0, c1, c2, c3, c4, c5⟩ := hist_of_blk HB5.out k _ (List.getElem?_eq_getElem (show k < _ by first | assumption | simpa using HKL.out | simpa using HKL1.out))
              cases eg
              simp only [Nat.zero_add] at c0 c1 c2 c3 c4 c5
              have f0 := (HB5.out).free (k * 6)
              have f1 := (HB5.out).free (k * 6 + 1)
              have f2 := (HB5.out).free (k * 6 + 2)
              have f3 := (HB5.out).free (k * 6 + 3)
              have f4 := (HB5.out).free (k * 6 + 4)
              have f5 := (HB5.out).free (k * 6 + 5)
              refine wpB_eff rfl (by kernel_rfl) (by rfl) (fun K2 hK2 => ?_)
              go_simp
              have hpg : p ≠ g := by have := HPL.out; have := HG4.out; omega
              have hqg : q ≠ g := by have := HQL.out; have := HG4.out; omega
              have hbg : b ≠ g := by have := HBL.out; have := HG4.out; omega
              have up := putE_upd W5 g (k * 6) ⟨yt, yk, ya, yw, yo, ye⟩
              have HP6 := Lib.hid (HP5.out.upd up (by simpa using hpg))
              have HQ6 := Lib.hid (HQ5.out.upd up (by simpa using hqg))
              have HH6 := Lib.hid (HH5.out.upd up (fun b' o' e => by cases e; simpa using hbg))
              have HU6 := Lib.hid (HU5.out.tr (U := []) up (by simp) (fun z hz => .inr (by simp at hz; subst hz; have := HG4.out; have := HW3S.out; omega)))
              have HB6 := Lib.hid (putE_blk ⟨yt, yk, ya, yw, yo, ye⟩ HKL.out HB5.out)
              refine hK2.out _ _ (PQAt.mk HP6.out HQ6.out) ?_
              clear hK2 K2 c0 c1 c2 c3 c4 c5 f0 f1 f2 f3 f4 f5
              change wpB _ _ _ _ _ _ _ _ _ (putE W5 g (k * 6) ⟨yt, yk, ya, yw, yo, ye⟩)
              generalize putE W5 g (k * 6) ⟨yt, yk, ya, yw, yo, ye⟩ = W6 at up HP6 HQ6 HH6 HU6 HB6 ⊢
              clear up HP5 HQ5 HH5 HU5 HB5
              repeat
                first
                  | (refine wpB_skip rfl (by kernel_rfl) (by rfl) ?_)
                  | ((refine wpB_take (v := ?_) rfl rfl (by kernel_rfl) (by rfl) ?_ ?_); rotate_left 1; (· ((intro w hSw; (try (unfold PQAt at hSw; dsimp only at hSw)); go_simp); try with_reducible rfl)))
                try simp only [Act.put, List.setIfInBounds_toArray, List.set_cons_zero, List.set_cons_succ]
              obtain ⟨_, _, eg, c0, c1, c2, c3, c4, c5⟩ := hist_of_blk HB6.out k1 _ (List.getElem?_eq_getElem (show k1 < _ by first | assumption | simpa using HKL.out | simpa using HKL1.out))
              cases eg
              simp only [Nat.zero_add] at c0 c1 c2 c3 c4 c5
              have f0 := (HB6.out).free (k1 * 6)
              have f1 := (HB6.out).free (k1 * 6 + 1)
              have f2 := (HB6.out).free (k1 * 6 + 2)
              have f3 := (HB6.out).free (k1 * 6 + 3)
              have f4 := (HB6.out).free (k1 * 6 + 4)
              have f5 := (HB6.out).free (k1 * 6 + 5)
              refine wpB_eff rfl (by kernel_rfl) (by rfl) (fun K2 hK2 => ?_)
              go_simp
              have up := putE_upd W6 g (k1 * 6) ⟨xt, xk, xa, xw, xo, xe⟩
              have HP7 := Lib.hid (HP6.out.upd up (by simpa using hpg))
              have HQ7 := Lib.hid (HQ6.out.upd up (by simpa using hqg))
              have HH7 := Lib.hid (HH6.out.upd up (fun b' o' e => by cases e; simpa using hbg))
              have HU7 := Lib.hid (HU6.out.tr (U := []) up (by simp) (fun z hz => .inr (by simp at hz; subst hz; have := HG4.out; have := HW3S.out; omega)))
              have HB7 := Lib.hid (putE_blk ⟨xt, xk, xa, xw, xo, xe⟩ (by simpa using HKL1.out) HB6.out)
              refine hK2.out _ _ (PQAt.mk HP7.out HQ7.out) ?_
              refine wpB_end (by kernel_rfl) (NoPanic.normal ?_)
              clear hK2 K2 c0 c1 c2 c3 c4 c5 f0 f1 f2 f3 f4 f5 HP6 HQ6 HH6 HU6 HB6 HP7 HQ7
              change Exit.then _ _ _ _ (putE W6 g (k1 * 6) ⟨xt, xk, xa, xw, xo, xe⟩)
              generalize putE W6 g (k1 * 6) ⟨xt, xk, xa, xw, xo, xe⟩ = W7 at up HH7 HU7 HB7 ⊢
              clear up hpg hqg hbg
              obtain ⟨m, hm⟩ : ∃ m, (l.set k ⟨yt, yk, ya, yw, yo, ye⟩).set k1 ⟨xt, xk, xa, xw, xo, xe⟩ = m := ⟨_, rfl⟩
              rw [hm] at HB7
              have HML := Lib.hid (show m.length = N by rw [← hm, List.length_set, List.length_set, HN.out])
              have HMW := Lib.hid (show wideL m by rw [← hm]; exact wide_set _ (wide_set _ HW.out (HW.out _ (List.mem_of_getElem? HY.out))) (HW.out _ (List.mem_of_getElem? HX.out)))
              have HAB := Lib.hid (show (oddE l).2 = 0 ↔ (oddE m).2 = 0 by
                obtain ⟨pp, qq, e1, e2⟩ := swap_list HX.out (show l[k + 1]? = some _ by rw [HK1.out]; exact HY.out)
                rw [HK1.out, hm] at e2
                rw [e2, e1]
                exact odd_swap pp qq HTH.out HCX.out HCY.out)
              clear hm hcx hcy ht1
              have HC1 : Hid (Calls Tryd.prog 20 #[.slice (some ⟨b, o, none⟩) N cap] W7 _) := Lib.hid (by have := check_code W7 (some ⟨b, o, none⟩) cap l HH7.out (by rw [HN.out]; omega) HW.out; rw [HN.out] at this; exact this)
              have HC2 : Hid (∀ W8, Upd [] W7 W8 → Calls Tryd.prog 20 #[.slice (some ⟨g, 0, none⟩) N c] W8 _) := Lib.hid (fun W8 u => by have := check_code W8 (some ⟨g, 0, none⟩) c m ((hist_of_blk HB7.out).upd0 u) (by rw [HML.out]; omega) HMW.out; rw [HML.out] at this; exact this)
              generalize oddE l = A at HC1 HAB
              generalize oddE m = B at HC2 HAB
              obtain ⟨A1, A2⟩ := A
              obtain ⟨B1, B2⟩ := B
              dsimp only at HC1 HC2 HAB
              have E1 := fun (w : World) => odd_field A1 A2 w
              have E2 := fun (w : World) => odd_field B1 B2 w
              by_cases hA : A2 = 0
              · have hB := HAB.out.1 hA
                subst hA
                subst hB
                go_wp2_with fail
                refine HC1.out.mono ?_
                rintro e W8 ⟨rfl, u8⟩
                go_wp2_with fail
                refine (num_code _ _).mono ?_
                rintro e W9 ⟨rfl, rfl⟩
                go_wp2_with fail
                refine (HC2.out _ u8).mono ?_
                rintro e W9 ⟨rfl, u9⟩
                go_wp2_with fail
                refine (num_code _ _).mono ?_
                rintro e W10 ⟨rfl, rfl⟩
                go_wp2_with fail
                exact ⟨rfl, (HU7.out.trans u8).trans u9⟩
              · have hB : B2 ≠ 0 := fun e => hA (HAB.out.2 e)
                have hA1 : (A2 == 0) = false := by simpa using hA
                have hB1 : (B2 == 0) = false := by simpa using hB
                have hA2 : decide (A2 = 0) = false := decide_eq_false hA
                have hB2 : decide (B2 = 0) = false := decide_eq_false hB
                clear hA hB
                go_wp2_with fail
                refine HC1.out.mono ?_
                rintro e W8 ⟨rfl, u8⟩
                go_wp2_with fail
                refine (num_code _ _).mono ?_
                rintro e W9 ⟨rfl, rfl⟩
                go_wp2_with fail
                refine (HC2.out _ u8).mono ?_
                rintro e W9 ⟨rfl, u9⟩
                go_wp2_with fail
                refine (num_code _ _).mono ?_
                rintro e W10 ⟨rfl, rfl⟩
                go_wp2_with fail
                exact ⟨rfl, (HU7.out.trans u8).trans u9⟩
end Go.Proofs.YtfldpejifpmapaaDoor
set_option linter.unusedSimpArgs false
set_option linter.unusedVariables false
set_option maxRecDepth 100000
namespace Go.Proofs.YtfldpejifpmapaaDoor
open Go.RowKit
/-- x later is y -/
def LeT (x y : Try) : Prop := y.th = x.th ∧ y.first = x.first ∧ x.reads ≤ y.reads ∧ x.last ≤ y.last ∧ (x.how ≠ 0 → y = x)
theorem LeT.refl (x : Try) : LeT x x := ⟨rfl, rfl, Int.le_refl _, Int.le_refl _, fun _ => rfl⟩
theorem LeT.trans {x y z : Try} (h : LeT x y) (k : LeT y z) : LeT x z :=
  ⟨k.1.trans h.1, k.2.1.trans h.2.1, Int.le_trans h.2.2.1 k.2.2.1, Int.le_trans h.2.2.2.1 k.2.2.2.1, fun q => by
    have e := h.2.2.2.2 q
    rw [← e] at q
    rw [k.2.2.2.2 q, e]⟩
def LeL (l m : List Try) : Prop := ∀ (k : Nat) (x : Try), l[k]? = some x → ∃ y, m[k]? = some y ∧ LeT x y
theorem LeL.refl (l : List Try) : LeL l l := fun k x h => ⟨x, h, LeT.refl x⟩
theorem LeL.trans {a b c : List Try} (h : LeL a b) (k : LeL b c) : LeL a c := fun i x hx => by
  obtain ⟨y, hy, h1⟩ := h i x hx
  obtain ⟨z, hz, h2⟩ := k i y hy
  exact ⟨z, hz, h1.trans h2⟩
theorem LeL.len {a b : List Try} (h : LeL a b) : a.length ≤ b.length := by
  rcases Nat.lt_or_ge b.length a.length with k | k
  · obtain ⟨y, hy, _⟩ := h b.length a[b.length] (List.getElem?_eq_getElem k)
    rw [List.getElem?_eq_none (Nat.le_refl _)] at hy
    cases hy
  · exact k
/-- an attempt that is under way stands in the list, not ended, as its thread's -/
structure Going (S : LS) (i : Nat) : Prop where
  act : ∀ j, (S.ths j).how = 1 ∨ (S.ths j).how = 2 → ∃ x, S.tries[(S.ths j).try_]? = some x ∧ x.th = (j : Int) ∧ x.how = 0
  hows : ∀ j, (S.ths j).how ≤ 3
  last : ∀ x ∈ S.tries, x.last ≤ (i : Int)
theorem turn3 : ∀ k : Nat, k ≤ 12 → turnL.getD (13 * 3 + k) 0 = 0 := by decide
theorem turn0 : ∀ k : Nat, k ≤ 12 → k ≠ 1 → turnL.getD (13 * 0 + k) 0 = 0 ∨ turnL.getD (13 * 0 + k) 0 = 1 ∨ turnL.getD (13 * 0 + k) 0 = 4 := by decide
theorem turnb : turnL.getD (13 * 0 + 1) 0 = 2 ∧ turnL.getD (13 * 1 + 1) 0 = 0 ∧ turnL.getD (13 * 2 + 1) 0 = 0 := by decide
theorem turn1 : ∀ k : Nat, k ≤ 12 → (k = 6 ∨ k = 7 ∨ k = 8 ∨ k = 9) → turnL.getD (13 * 1 + k) 0 = 1 ∨ turnL.getD (13 * 1 + k) 0 = 4 := by decide
theorem turn2 : ∀ k : Nat, k ≤ 12 → (k = 6 ∨ k = 7 ∨ k = 8 ∨ k = 9) → turnL.getD (13 * 2 + k) 0 = 0 ∨ turnL.getD (13 * 2 + k) 0 = 1 ∨ turnL.getD (13 * 2 + k) 0 = 4 := by decide
theorem turn_tab (h : Nat) (hh : h < 4) (k : Nat) (hk : k ≤ 12) (ht : turnL.getD (13 * h + k) 0 ≠ 0) : (h ≠ 3) ∧ (h = 0 → k ≠ 1 → turnL.getD (13 * h + k) 0 = 1 ∨ turnL.getD (13 * h + k) 0 = 4) ∧ (k = 1 → h = 0 ∧ turnL.getD (13 * h + k) 0 = 2) ∧ (h = 1 ∨ h = 2 → (k = 6 ∨ k = 7 ∨ k = 8 ∨ k = 9) → turnL.getD (13 * h + k) 0 = 1 ∨ turnL.getD (13 * h + k) 0 = 4) := by
  refine ⟨fun e => ?_, fun e hk1 => ?_, fun e => ?_, fun e q => ?_⟩
  · subst e; exact ht (turn3 k hk)
  · subst e
    rcases turn0 k hk hk1 with h | h
    · exact absurd h ht
    · exact h
  · subst e
    have hc : h = 0 ∨ h = 1 ∨ h = 2 ∨ h = 3 := by omega
    rcases hc with rfl | rfl | rfl | rfl
    · exact ⟨rfl, turnb.1⟩
    · exact absurd turnb.2.1 ht
    · exact absurd turnb.2.2 ht
    · exact absurd (turn3 1 (by omega)) ht
  · rcases e with rfl | rfl
    · exact turn1 k hk q
    · rcases turn2 k hk q with h | h
      · exact absurd h ht
      · exact h
theorem take_going {S : LS} {i : Nat} {e : Ev} (hS : Going S i) (hw : wrongE S e = 0) : LeL S.tries (takeE S i e).tries ∧ Going (takeE S i e) (i + 1) := by
  obtain ⟨hf, ht, _, _, _, _⟩ := wrong_ok hw
  obtain ⟨f1, f2, _⟩ := hf
  have hh := hS.hows e.th.toNat
  have hT := turn_tab (S.ths e.th.toNat).how (by omega) e.kd.toNat (by omega) ht
  have hle := turnT_le (S.ths e.th.toNat).how (by omega) e.kd.toNat (by omega)
  have hthn : ((e.th.toNat : Nat) : Int) = e.th := by omega
  obtain ⟨t3, t0, tb, tg⟩ := hT
  by_cases hb : e.kd = 1
  · -- it begins
    obtain ⟨h0, h2⟩ := tb (by omega)
    have h2' : turnT (S.ths e.th.toNat).how e.kd = 2 := h2
    have htr : (takeE S i e).tries = S.tries ++ [tryNext ⟨e.th, i, 0, 0, 0, 0, 0⟩ i e] := by
      unfold takeE
      dsimp only
      rw [if_pos (Or.inr hb), if_pos hb]
      unfold thNext
      dsimp only
      rw [if_pos hb]
      apply List.ext_getElem?
      intro k
      rw [List.getElem?_modify]
      rcases Nat.lt_trichotomy k S.tries.length with h | h | h
      · rw [List.getElem?_append_left h, List.getElem?_append_left h]; have hne : S.tries.length ≠ k := by omega
        simp [hne]
      · subst h; simp
      · rw [List.getElem?_eq_none (by simp; omega), List.getElem?_eq_none (by simp; omega)]; split <;> rfl
    have hths : (takeE S i e).ths = updT S.ths e.th.toNat (thNext (S.ths e.th.toNat) S.tries.length e) := rfl
    refine ⟨fun k x hx => ⟨x, ?_, LeT.refl x⟩, ⟨fun j hj => ?_, fun j => ?_, fun x hx => ?_⟩⟩
    · rw [htr, List.getElem?_append_left (by rcases Nat.lt_or_ge k S.tries.length with h | h; exact h; rw [List.getElem?_eq_none h] at hx; cases hx)]
      exact hx
    · rw [hths] at hj ⊢
      rw [htr]
      unfold updT at hj ⊢
      by_cases e1 : j = e.th.toNat
      · subst e1
        rw [if_pos rfl] at hj ⊢
        refine ⟨tryNext ⟨e.th, i, 0, 0, 0, 0, 0⟩ i e, ?_, ?_, ?_⟩
        · unfold thNext
          dsimp only
          rw [if_pos hb]
          simp
        · unfold tryNext; exact hthn.symm
        · unfold tryNext; dsimp only; rw [if_neg (by omega)]
      · rw [if_neg e1] at hj ⊢
        obtain ⟨x, h1, h2, h3⟩ := hS.act j hj
        exact ⟨x, by rw [List.getElem?_append_left (by rcases Nat.lt_or_ge (S.ths j).try_ S.tries.length with h | h; exact h; rw [List.getElem?_eq_none h] at h1; cases h1)]; exact h1, h2, h3⟩
    · rw [hths]; unfold updT
      split
      · unfold thNext; dsimp only; rw [h2']; omega
      · exact hS.hows j
    · rw [htr] at hx
      rcases List.mem_append.1 hx with hx | hx
      · have := hS.last x hx; omega
      · simp only [List.mem_singleton] at hx
        subst hx
        unfold tryNext
        dsimp only
        omega
  · have hk1 : e.kd.toNat ≠ 1 := by omega
    have hths : (takeE S i e).ths = updT S.ths e.th.toNat (thNext (S.ths e.th.toNat) S.tries.length e) := rfl
    have htry : (thNext (S.ths e.th.toNat) S.tries.length e).try_ = (S.ths e.th.toNat).try_ := by unfold thNext; dsimp only; rw [if_neg hb]
    by_cases h0 : (S.ths e.th.toNat).how = 0
    · -- no attempt is under way
      have htr : (takeE S i e).tries = S.tries := by
        unfold takeE
        dsimp only
        rw [if_neg (by simp [h0, hb]), if_neg hb]
      have h14 : turnT (S.ths e.th.toNat).how e.kd = 1 ∨ turnT (S.ths e.th.toNat).how e.kd = 4 := t0 h0 hk1
      refine ⟨by rw [htr]; exact LeL.refl _, ⟨fun j hj => ?_, fun j => ?_, fun x hx => ?_⟩⟩
      · rw [hths] at hj ⊢
        rw [htr]
        unfold updT at hj ⊢
        by_cases e1 : j = e.th.toNat
        · rw [if_pos e1] at hj
          unfold thNext at hj
          dsimp only at hj
          omega
        · rw [if_neg e1] at hj ⊢
          exact hS.act j hj
      · rw [hths]; unfold updT
        split
        · unfold thNext; dsimp only; omega
        · exact hS.hows j
      · rw [htr] at hx
        have := hS.last x hx
        omega
    · have h12 : (S.ths e.th.toNat).how = 1 ∨ (S.ths e.th.toNat).how = 2 := by
        have : (S.ths e.th.toNat).how ≠ 3 := t3
        omega
      obtain ⟨x0, a1, a2, a3⟩ := hS.act _ h12
      have tg1 := tg h12
      have htr : (takeE S i e).tries = S.tries.modify (S.ths e.th.toNat).try_ (fun x => tryNext x i e) := by
        unfold takeE
        dsimp only
        rw [if_pos (Or.inl h0), if_neg hb, htry]
      have hget : ∀ k x, S.tries[k]? = some x → (takeE S i e).tries[k]? = some (if (S.ths e.th.toNat).try_ = k then tryNext x i e else x) := fun k x hx => by
        rw [htr, List.getElem?_modify, hx]
        split <;> simp_all
      refine ⟨fun k x hx => ⟨_, hget k x hx, ?_⟩, ⟨fun j hj => ?_, fun j => ?_, fun x hx => ?_⟩⟩
      · by_cases e1 : (S.ths e.th.toNat).try_ = k
        · rw [if_pos e1]
          subst e1
          obtain rfl : x0 = x := by rw [a1] at hx; exact Option.some.inj hx
          refine ⟨rfl, rfl, ?_, hS.last _ (List.mem_of_getElem? hx), fun q => absurd a3 q⟩
          unfold tryNext
          dsimp only
          split <;> omega
        · rw [if_neg e1]; exact LeT.refl x
      · rw [hths] at hj ⊢
        unfold updT at hj ⊢
        by_cases e1 : j = e.th.toNat
        · subst e1
          rw [if_pos rfl] at hj ⊢
          rw [htry]
          refine ⟨_, hget _ _ a1, ?_, ?_⟩
          · rw [if_pos rfl]; exact a2
          · rw [if_pos rfl]
            unfold tryNext
            dsimp only
            by_cases hend : e.kd = 6 ∨ e.kd = 7 ∨ e.kd = 8 ∨ e.kd = 9
            · have := tg1 (by omega)
              have hj' : turnT (S.ths e.th.toNat).how e.kd - 1 = 1 ∨ turnT (S.ths e.th.toNat).how e.kd - 1 = 2 := hj
              have h' : turnT (S.ths e.th.toNat).how e.kd = 1 ∨ turnT (S.ths e.th.toNat).how e.kd = 4 := this
              omega
            · rw [if_neg hend]; exact a3
        · rw [if_neg e1] at hj ⊢
          obtain ⟨x, b1, b2, b3⟩ := hS.act j hj
          refine ⟨_, hget _ _ b1, ?_, ?_⟩
          · split
            · exact b2
            · exact b2
          · split
            · rename_i q
              rw [← q, a1] at b1
              obtain rfl := Option.some.inj b1
              omega
            · exact b3
      · rw [hths]; unfold updT
        split
        · unfold thNext turnT at *; dsimp only; omega
        · exact hS.hows j
      · obtain ⟨k, hk⟩ := List.getElem?_of_mem hx
        have hlt : k < S.tries.length := by
          rcases Nat.lt_or_ge k (takeE S i e).tries.length with h | h
          · rw [htr, List.length_modify] at h; exact h
          · rw [List.getElem?_eq_none h] at hk; cases hk
        rw [hget k _ (List.getElem?_eq_getElem hlt)] at hk
        obtain rfl := Option.some.inj hk
        have := hS.last _ (List.getElem_mem hlt)
        split
        · unfold tryNext; dsimp only; omega
        · omega
theorem run_going (l : List Ev) : ∀ (S : LS) (i : Nat), Going S i → LeL S.tries (runE S i l).1.tries ∧ Going (runE S i l).1 (runE S i l).2.1 := by
  induction l with
  | nil => exact fun S i h => ⟨LeL.refl _, h⟩
  | cons e l ih =>
    intro S i h
    rw [runE]
    by_cases hw : wrongE S e = 0
    · rw [if_pos hw]
      obtain ⟨h1, h2⟩ := take_going h hw
      obtain ⟨h3, h4⟩ := ih _ _ h2
      exact ⟨h1.trans h3, h4⟩
    · rw [if_neg hw]
      exact ⟨LeL.refl _, h⟩
theorem going0 : Going ls0 0 := ⟨fun j h => by simp [ls0, th0] at h, fun j => by simp [ls0, th0], fun x h => by simp [ls0] at h⟩
theorem run_app (p q : List Ev) : ∀ (S : LS) (i : Nat), (runE S i p).2.2 = 0 → runE S i (p ++ q) = runE (runE S i p).1 (runE S i p).2.1 q := by
  induction p with
  | nil => intro S i _; rfl
  | cons e p ih =>
    intro S i h
    rw [List.cons_append, runE, runE]
    rw [runE] at h
    by_cases hw : wrongE S e = 0
    · rw [if_pos hw] at h
      rw [if_pos hw, if_pos hw]
      exact ih _ _ h
    · rw [if_neg hw] at h
      exact absurd h hw
/-- a beginning of what can be can be -/
theorem run_begin (p q : List Ev) : ∀ (S : LS) (i : Nat), (runE S i (p ++ q)).2.2 = 0 → (runE S i p).2.2 = 0 := by
  induction p with
  | nil => intro S i _; rfl
  | cons e p ih =>
    intro S i h
    rw [List.cons_append, runE] at h
    rw [runE]
    by_cases hw : wrongE S e = 0
    · rw [if_pos hw] at h ⊢
      exact ih _ _ h
    · rw [if_neg hw] at h
      exact absurd h hw
theorem run_less (p q : List Ev) (h : (runE ls0 0 (p ++ q)).2.2 = 0) : LeL (runE ls0 0 p).1.tries (runE ls0 0 (p ++ q)).1.tries := by
  have h0 := run_begin p q ls0 0 h
  rw [run_app p q ls0 0 h0]
  exact (run_going q _ _ (run_going p ls0 0 going0).2).1
/-- up to the event that can't be: all others can; with it: the same refusal -/
theorem run_stop (l : List Ev) : ∀ (S : LS) (i : Nat), (runE S i l).2.2 ≠ 0 → ∃ k, (runE S i l).2.1 = i + k ∧ k < l.length ∧ (runE S i (l.take k)).2.2 = 0 ∧ (runE S i (l.take (k + 1))).2 = (runE S i l).2 := by
  induction l with
  | nil => intro S i h; exact absurd rfl h
  | cons e l ih =>
    intro S i h
    rw [runE] at h ⊢
    by_cases hw : wrongE S e = 0
    · rw [if_pos hw] at h ⊢
      obtain ⟨k, h1, h2, h3, h4⟩ := ih _ _ h
      refine ⟨k + 1, by omega, by simp; omega, ?_, ?_⟩
      · rw [List.take_succ_cons, runE, if_pos hw]; exact h3
      · rw [List.take_succ_cons, runE, if_pos hw]; exact h4
    · rw [if_neg hw]
      refine ⟨0, rfl, by simp, rfl, ?_⟩
      rw [List.take_succ_cons, runE, if_neg hw]
end Go.Proofs.YtfldpejifpmapaaDoor
set_option linter.unusedSimpArgs false
set_option linter.unusedVariables false
set_option maxRecDepth 100000
namespace Go.Proofs.YtfldpejifpmapaaDoor
open Go.RowKit
open Go.Maps
/-- p reads as these attempts -/
def TryAt (w : World) (p : Option Addr) (l : List Try) : Prop := ∀ i x, l[i]? = some x → ∃ b o, p = some ⟨b, o, none⟩ ∧ w.cell? ⟨b, o + i * 7, none⟩ = some (.int .i64 x.th) ∧ w.cell? ⟨b, o + i * 7 + 1, none⟩ = some (.int .i64 x.first) ∧ w.cell? ⟨b, o + i * 7 + 2, none⟩ = some (.int .i64 x.last) ∧ w.cell? ⟨b, o + i * 7 + 3, none⟩ = some (.int .u64 x.snap) ∧ w.cell? ⟨b, o + i * 7 + 4, none⟩ = some (.int .i64 x.how) ∧ w.cell? ⟨b, o + i * 7 + 5, none⟩ = some (.int .i64 x.reads) ∧ w.cell? ⟨b, o + i * 7 + 6, none⟩ = some (.int .i64 x.writes)
theorem TryAt.upd0 {w w' : World} {p : Option Addr} {l : List Try} (h : TryAt w p l) (u : Upd [] w w') : TryAt w' p l := by
  intro i x hx
  obtain ⟨b, o, rfl, h0, h1, h2, h3, h4, h5, h6⟩ := h i x hx
  exact ⟨b, o, rfl, u.cell (by simp) h0, u.cell (by simp) h1, u.cell (by simp) h2, u.cell (by simp) h3, u.cell (by simp) h4, u.cell (by simp) h5, u.cell (by simp) h6⟩
theorem try_flat : ∀ (l : List Try) (i : Nat) (x : Try) (j : Nat), l[i]? = some x → j < 7 → (l.flatMap Try.cells)[i * 7 + j]? = x.cells[j]?
  | [], i, x, j, h, _ => by simp at h
  | y :: l, 0, x, j, h, hj => by
    obtain rfl : y = x := by simpa using h
    rw [List.flatMap_cons, List.getElem?_append_left (by simp [Try.cells]; omega)]
    congr 1
    omega
  | y :: l, i + 1, x, j, h, hj => by
    have hc : y.cells.length = 7 := rfl
    rw [List.flatMap_cons, List.getElem?_append_right (by rw [hc]; omega), hc, show (i + 1) * 7 + j - 7 = i * 7 + j by omega]
    exact try_flat l i x j (by simpa using h) hj
theorem try_flat_len (l : List Try) : (l.flatMap Try.cells).length = l.length * 7 := by
  induction l with
  | nil => rfl
  | cons a l ih => rw [List.flatMap_cons, List.length_append, ih, List.length_cons]; simp [Try.cells]; omega
/-- an own row of attempts reads as these -/
theorem own_tries {w : World} {base : Nat} {v : Value} {l : List Try} (h : w.ownsRow base 52 7 v l.length (l.flatMap Try.cells)) : ∃ p c, v = .slice p l.length c ∧ TryAt w p l := by
  obtain ⟨p, c, rfl⟩ := own_form h
  refine ⟨p, c, rfl, fun i x hx => ?_⟩
  have hi : i < l.length := (List.getElem?_eq_some_iff.1 hx).1
  obtain ⟨g, c', e⟩ := own_some h (by omega)
  cases e
  obtain ⟨_, _, sp, hB⟩ := own_openN h
  have hc : ∀ j, j < 7 → (l.flatMap Try.cells ++ sp)[i * 7 + j]? = x.cells[j]? := fun j hj => by
    rw [List.getElem?_append_left (by rw [try_flat_len]; omega)]
    exact try_flat l i x j hx hj
  have hz : ∀ k, (0 + i * 7 + k) = i * 7 + k := fun k => by omega
  refine ⟨g, 0, rfl, ?_, ?_, ?_, ?_, ?_, ?_, ?_⟩
  · have := hB.cell (i * 7 + 0) ((hc 0 (by omega)).trans rfl); rwa [Nat.add_zero, ← Nat.zero_add (i * 7)] at this
  · rw [hz]; exact hB.cell _ ((hc 1 (by omega)).trans rfl)
  · rw [hz]; exact hB.cell _ ((hc 2 (by omega)).trans rfl)
  · rw [hz]; exact hB.cell _ ((hc 3 (by omega)).trans rfl)
  · rw [hz]; exact hB.cell _ ((hc 4 (by omega)).trans rfl)
  · rw [hz]; exact hB.cell _ ((hc 5 (by omega)).trans rfl)
  · rw [hz]; exact hB.cell _ ((hc 6 (by omega)).trans rfl)
theorem HistAt.take {w : World} {p : Option Addr} {l : List Ev} (h : HistAt w p l) (n : Nat) : HistAt w p (l.take n) := by
  intro i x hx
  rw [List.getElem?_take] at hx
  split at hx
  · exact h i x hx
  · cases hx
theorem slice_to (p : Option Addr) (n cap k : Nat) (h : k ≤ cap) (w : World) : (Instr.sliceAt 22 (.slice p n cap) none (some (.int .i64 (k : Int))) none).run Tryd.prog w = .ok (.slice p k cap) w := by
  have he : Tryd.prog.elem 22 = 27 := by kernel_rfl
  have hu : Tryd.prog.underlying 22 = some (.slice (Tryd.prog.elem 22)) := by rw [he]; exact Tryd.underlying22
  obtain ⟨i0, hi, hz0, hz1, hz2⟩ := info_parts info_ev
  have hs : (sizeOf (Tryd.prog.elem 22)).run Tryd.prog w = .ok 6 w := by rw [he]; simp [sizeOf, typeInfo, hi, hz1]
  rw [run_sliceAt_slice (h := hu), run_slice_h (ht := hu) (h0 := by omega) (h2 := by omega), hs]
  show Result.ok (sliced p 0 (k : Int).toNat cap 6) w = _
  unfold sliced
  rw [Int.toNat_natCast]
  cases p with
  | none => simp
  | some a => cases a; simp [Addr.add]
theorem takeE_len (S : LS) (i : Nat) (e : Ev) : (takeE S i e).tries.length ≤ S.tries.length + 1 := by
  unfold takeE
  dsimp only
  split <;> split <;> simp
theorem run_len : ∀ (l : List Ev) (S : LS) (i : Nat), (runE S i l).1.tries.length ≤ S.tries.length + l.length
  | [], S, i => by rw [runE]; simp
  | e :: l, S, i => by
    rw [runE]
    split
    · have h1 := run_len l (takeE S i e) (i + 1)
      have h2 := takeE_len S i e
      rw [List.length_cons]
      omega
    · dsimp only; omega
/-- how far a history can be -/
theorem begins_plain (l : List Ev) : ∃ G : Nat, G ≤ l.length ∧ (runE ls0 0 (l.take G)).2.2 = 0 ∧ ((oddE l = (-1, 0) ∧ G = l.length) ∨ (∃ er, oddE l = ((G : Int), er) ∧ er ≠ 0 ∧ G < l.length ∧ oddE (l.take (G + 1)) = ((G : Int), er))) := by
  by_cases h : (runE ls0 0 l).2.2 = 0
  · exact ⟨l.length, Nat.le_refl _, by rw [List.take_length]; exact h, .inl ⟨by unfold oddE; rw [if_pos h], rfl⟩⟩
  · obtain ⟨k, h1, h2, h3, h4⟩ := run_stop l ls0 0 h
    rw [Nat.zero_add] at h1
    have hO : oddE l = ((k : Int), (runE ls0 0 l).2.2) := by unfold oddE; rw [if_neg h, h1]
    refine ⟨k, by omega, h3, .inr ⟨_, hO, h, h2, ?_⟩⟩
    unfold oddE
    rw [h4, if_neg h, h1]
theorem begin_part {l : List Ev} {G n : Nat} (h : (runE ls0 0 (l.take G)).2.2 = 0) (hn : n ≤ G) : (runE ls0 0 (l.take n)).2.2 = 0 ∧ LeL (runE ls0 0 (l.take n)).1.tries (runE ls0 0 (l.take G)).1.tries := by
  have e : l.take G = l.take n ++ (l.take G).drop n := by
    conv => lhs; rw [← List.take_append_drop n (l.take G)]
    rw [List.take_take, Nat.min_eq_left hn]
  rw [e] at h ⊢
  exact ⟨run_begin _ _ _ _ h, run_less _ _ h⟩
end Go.Proofs.YtfldpejifpmapaaDoor
set_option linter.unusedSimpArgs false
set_option linter.unusedVariables false
set_option maxRecDepth 100000
namespace Go.Proofs.YtfldpejifpmapaaDoor
open Go.RowKit
open Go.Maps
/-- an own row of events reads as these -/
theorem own_hist {w : World} {base : Nat} {v : Value} {l : List Ev} (h : w.ownsRow base 27 6 v l.length (l.flatMap Ev.cells)) : ∃ p c, v = .slice p l.length c ∧ HistAt w p l := by
  obtain ⟨p, c, rfl⟩ := own_form h
  refine ⟨p, c, rfl, ?_⟩
  cases l with
  | nil => intro i x hx; simp at hx
  | cons a l =>
    obtain ⟨g, c', e⟩ := own_some h (by simp)
    cases e
    obtain ⟨_, _, sp, hB⟩ := own_openN h
    exact hist_of_blk hB
set_option maxHeartbeats 4000000 in
theorem rsame_code (w : World) (p q : Option Addr) (c d : Nat) (l : List Ev) (hp : HistAt w p l) (hq : HistAt w q l) (hl : l.length ≤ 1000000000000) : Calls Tryd.prog 19 #[.slice p l.length c, .slice q l.length d] w fun e w' => e = .returned (.bool true) ∧ Upd [] w w' := by
  have HPP := Lib.hid hp
  have HQQ := Lib.hid hq
  clear hp hq
  refine calls_all fun K hK => ?_
  go_enter Tryd.func19, Tryd.ntmps19
  go_wp2_with fail
  go_loopw [5] (fun v5 wr => ∃ k : Nat, k ≤ l.length ∧ v5 = .int .i64 k ∧ Upd [] w wr) (fun v5 _ => l.length - (intOf v5).toNat)
  case atStart => exact ⟨0, by omega, rfl, Upd.refl _ _⟩
  case round =>
    obtain ⟨k, hk, rfl, hu⟩ := hrel
    have HU := Lib.hid hu
    clear hu
    by_cases hlt : k < l.length
    · have hlt' : (k : Int) < (l.length : Int) := by omega
      have hk0 : 0 ≤ (k : Int) := by omega
      obtain ⟨x, hx⟩ : ∃ x, l[k]? = some x := ⟨_, List.getElem?_eq_getElem hlt⟩
      obtain ⟨b, o, hpo, h0, h1, h2, h3, h4, h5⟩ := (HPP.out.upd0 HU.out) k x hx
      obtain ⟨b', o', hpo', g0, g1, g2, g3, g4, g5⟩ := (HQQ.out.upd0 HU.out) k x hx
      subst hpo
      subst hpo'
      clear hx
      obtain ⟨th, kd, ad, wd, own, er⟩ := x
      dsimp only at h0 h1 h2 h3 h4 h5 g0 g1 g2 g3 g4 g5
      go_wp2_with fail
      go_quiet (fail)
      go_wp2_with fail
      go_roundw
      case rel => exact ⟨k + 1, by omega, by go_num, HU.out.trans ((Upd.refl _ _).drewN _)⟩
      case measure => simp [intOf]; omega
    · obtain rfl : k = l.length := by omega
      go_wp2_with fail
      exact ⟨rfl, HU.out⟩
set_option maxHeartbeats 4000000 in
theorem equal_code (w : World) (p q : Option Addr) (c d : Nat) (l : List Ev) (hp : HistAt w p l) (hq : HistAt w q l) (hl : l.length ≤ 1000000000000) : Calls Tryd.prog 53 #[.slice p l.length c, .slice q l.length d] w fun e w' => e = .returned (.bool true) ∧ Upd [] w w' := by
  have HPP := Lib.hid hp
  have HQQ := Lib.hid hq
  clear hp hq
  refine calls_all fun K hK => ?_
  go_enter Tryd.func53, Tryd.ntmps53
  go_wp2_with fail
  go_loopw [13] (fun v13 wr => ∃ k : Nat, k ≤ l.length ∧ v13 = .int .i64 k ∧ Upd [] w wr) (fun v13 _ => l.length - (intOf v13).toNat)
  case atStart => exact ⟨0, by omega, rfl, Upd.refl _ _⟩
  case round =>
    obtain ⟨k, hk, rfl, hu⟩ := hrel
    have HU := Lib.hid hu
    clear hu
    by_cases hlt : k < l.length
    · have hlt' : (k : Int) < (l.length : Int) := by omega
      have hk0 : 0 ≤ (k : Int) := by omega
      obtain ⟨x, hx⟩ : ∃ x, l[k]? = some x := ⟨_, List.getElem?_eq_getElem hlt⟩
      obtain ⟨b, o, hpo, h0, h1, h2, h3, h4, h5⟩ := (HPP.out.upd0 HU.out) k x hx
      obtain ⟨b', o', hpo', g0, g1, g2, g3, g4, g5⟩ := (HQQ.out.upd0 HU.out) k x hx
      subst hpo
      subst hpo'
      clear hx
      obtain ⟨th, kd, ad, wd, own, er⟩ := x
      dsimp only at h0 h1 h2 h3 h4 h5 g0 g1 g2 g3 g4 g5
      go_wp2_with fail
      go_quiet (fail)
      go_wp2_with fail
      go_roundw
      case rel => exact ⟨k + 1, by omega, by go_num, HU.out.trans ((Upd.refl _ _).drewN _)⟩
      case measure => simp [intOf]; omega
    · obtain rfl : k = l.length := by omega
      go_wp2_with fail
      exact ⟨rfl, HU.out⟩
theorem esame_code (w : World) (p q : Option Addr) (c d : Nat) (l : List Ev) (hp : HistAt w p l) (hq : HistAt w q l) (hl : l.length ≤ 1000000000000) : Calls Tryd.prog 23 #[.slice p l.length c, .slice q l.length d] w fun e w' => e = .returned (.bool true) ∧ Upd [] w w' := by
  refine calls_all fun K hK => ?_
  go_enter Tryd.func23, Tryd.ntmps23
  go_wp2_with fail
  refine (equal_code w p q c d l hp hq hl).mono ?_
  rintro e w' ⟨rfl, u⟩
  go_wp2_with fail
  exact ⟨rfl, u⟩
end Go.Proofs.YtfldpejifpmapaaDoor
set_option linter.unusedSimpArgs false
set_option linter.unusedVariables false
set_option maxRecDepth 100000
namespace Go.Proofs.YtfldpejifpmapaaDoor
open Go.RowKit
open Go.Maps
theorem append_nil0 (w : World) (p : Option Addr) (c : Nat) : (Builtin.append_ #[22, 22] 22 #[.slice none 0 0, .slice p 0 c]).run Tryd.prog w = .ok (.slice none 0 0) w := by
  obtain ⟨i0, hi, hz0, hz1, hz2⟩ := info_parts info_ev
  cases p with
  | none => simp [Builtin.append_, run_underlying Tryd.underlying22, sizeOf, typeInfo, hi, Builtin.lenOf, Builtin.firstCells, storeCells]
  | some b => simp [Builtin.append_, run_underlying Tryd.underlying22, sizeOf, typeInfo, hi, Builtin.lenOf, Builtin.firstCells, loadCells, loadCellsFrom, storeCells]
/-- a copy of any history in new memory -/
theorem app_histN {W : World} {po : Option Addr} (l : List Ev) (cap : Nat) (hm : l.length ≤ 2000000) (h : HistAt W po l) :
    ∃ v w', (Builtin.append_ #[22, 22] 22 #[.slice none 0 0, .slice po l.length cap]).run Tryd.prog W = .ok v w' ∧ w'.ownsRow W.heap.size 27 6 v l.length (l.flatMap Ev.cells) ∧ Upd [] W w' := by
  by_cases hn : l = []
  · subst hn
    exact ⟨_, _, append_nil0 W po cap, ⟨rfl, .inl ⟨rfl, rfl⟩⟩, Upd.refl _ _⟩
  · obtain ⟨i0, hi, hz0, hz1, hz2⟩ := info_parts info_ev
    have hn0 : 0 < l.length := List.length_pos_iff.2 hn
    obtain ⟨b, o, rfl, _⟩ := h 0 l[0] (List.getElem?_eq_getElem hn0)
    obtain ⟨v', w', hr, ho, hg, _, _⟩ := run_append_own_at (P := Tryd.prog) (w := W) W.heap.size 22 22 27 i0 _ 6 48 Tryd.underlying22 hi hz0 hz1 hz2 rfl (by decide)
      (.slice none 0 0) 0 [] ⟨rfl, .inl ⟨rfl, rfl⟩⟩ ⟨b, o, none⟩ l.length cap (l.flatMap Ev.cells) (ev_flat_len l) (hist_src h) (by
        intro u hu
        obtain ⟨x, _, hx⟩ := List.mem_flatMap.1 hu
        simp [Ev.cells] at hx
        rcases hx with rfl | rfl | rfl | rfl | rfl | rfl <;> rfl) (by unfold maxLen; omega) (by omega) (Nat.le_refl _)
    rw [Nat.zero_add, List.nil_append] at ho
    exact ⟨v', w', hr, ho, Upd.of_grown hg (fun k e => by simp [Value.ownBlock] at e)⟩
theorem own_le {w : World} {base : Nat} {e : TypeId} {size n m c : Nat} {p : Option Addr} {us : List Value} (h : w.ownsRow base e size (.slice p n c) m us) : m ≤ c := by
  obtain ⟨_, ⟨h2, rfl⟩ | ⟨g', cap, cur, hv, hb, hh, hn, hm, hs, ht⟩⟩ := h
  · exact Nat.zero_le _
  · cases hv; exact hn
def markE : Ev := ⟨-7, 0, 0, 0, false, 0⟩
/-- what was lent: a slice of l, the mark behind it -/
def LentE (w : World) (B : Nat) (p : Option Addr) (c : Nat) (l : List Ev) : Prop := w.ownsRow B 27 6 (.slice p (l ++ [markE]).length c) (l ++ [markE]).length ((l ++ [markE]).flatMap Ev.cells)
theorem HistAt.pre {w : World} {p : Option Addr} {l m : List Ev} (h : HistAt w p (l ++ m)) : HistAt w p l := fun i x hx => h i x (by rw [List.getElem?_append_left (List.getElem?_eq_some_iff.1 hx).1]; exact hx)
theorem LentE.hist {w : World} {B : Nat} {p : Option Addr} {c : Nat} {l : List Ev} (h : LentE w B p c l) : HistAt w p l := by
  obtain ⟨p', c', e, hh⟩ := own_hist h
  cases e
  exact hh.pre
theorem LentE.upd0 {w w' : World} {B : Nat} {p : Option Addr} {c : Nat} {l : List Ev} (h : LentE w B p c l) (u : Upd [] w w') : LentE w' B p c l := own_upd h u (by simp)
set_option maxHeartbeats 4000000 in
theorem lent_code (w : World) (po : Option Addr) (cap : Nat) (l : List Ev) (hH : HistAt w po l) (hl : l.length ≤ 2000000) : Calls Tryd.prog 11 #[.slice po l.length cap] w fun e w' => Upd [] w w' ∧ ∃ p c, e = .returned (.slice p l.length c) ∧ LentE w' w.heap.size p c l := by
  obtain ⟨v1, W1, hr1, ho1, u1⟩ := app_histN l cap hl hH
  obtain ⟨p1, c1, rfl⟩ := own_form ho1
  obtain ⟨v2, W2, hr2, ho2, u2, _⟩ := app_ev ho1 markE (by omega) u1.size
  have hu2 : Upd [] w W2 := (u1.alloc _).tr (U := []) u2 (by simp) (fun g hg => .inr (own_blocks ho1 g hg).1)
  obtain ⟨p2, c2, rfl⟩ := own_form ho2
  have hc := own_le ho2
  have E1 := fun w => slice_to p2 (l.length + 1) c2 l.length (by omega) w
  have HL := Lib.hid (show LentE W2 w.heap.size p2 c2 l by unfold LentE; rw [List.length_append, List.length_singleton]; exact ho2)
  have HU := Lib.hid hu2
  simp only [Ev.cells, markE] at hr2
  clear hH ho1 ho2 u1 u2 hu2 hc
  generalize l.length = N at *
  refine calls_all fun K hK => ?_
  go_enter Tryd.func11, Tryd.ntmps11
  go_wp2_with (at_builtin; first | (refine wpList_append_eq rfl _ _ _ _ rfl _ _ _ rfl rfl hr1 ?_) | (refine wpList_append_eq rfl _ _ _ _ rfl _ _ _ rfl rfl hr2 ?_))
  all_goals exact ⟨HU.out, p2, c2, rfl, HL.out⟩
set_option maxHeartbeats 4000000 in
theorem left_code (w : World) (B : Nat) (p po : Option Addr) (c cap : Nat) (l : List Ev) (hL : LentE w B p c l) (hH : HistAt w po l) (hl : l.length ≤ 2000000) : Calls Tryd.prog 34 #[.slice p l.length c, .slice po l.length cap] w fun e w' => e = .returned (.bool true) ∧ Upd [] w w' := by
  have HS := Lib.hid (rsame_code w p po c cap l hL.hist hH (by omega))
  obtain ⟨g, c', e⟩ := own_some hL (by simp)
  cases e
  obtain ⟨_, _, sp, hB⟩ := own_openN hL
  have hc := own_le hL
  have hcl : ((l ++ [markE]).flatMap Ev.cells ++ sp)[l.length * 6 + 0]? = some (.int .i64 (-7)) := by
    rw [List.getElem?_append_left (by rw [ev_flat_len]; simp), ev_flat _ l.length markE 0 (by simp) (by omega)]
    rfl
  rw [Nat.add_zero] at hcl
  have E1 := fun w => slice_to (some ⟨g, 0, none⟩) l.length c (l.length + 1) (by rw [List.length_append, List.length_singleton] at hc; exact hc) w
  have HB := Lib.hid hB
  have HC := Lib.hid hcl
  clear hL hH hB hcl hc
  generalize l.length = N at *
  have hN : (N : Int) < ((N + 1 : Nat) : Int) := by omega
  have hN0 : 0 ≤ (N : Int) := by omega
  have hN1 : N < N + 1 := by omega
  have hw1 : IntKind.i64.wrap ((N : Int) + 1) = ((N + 1 : Nat) : Int) := by rw [IntKind.wrap_i64]; omega
  generalize N + 1 = N1 at hN hN1 hw1 E1
  refine calls_all fun K hK => ?_
  go_enter Tryd.func34, Tryd.ntmps34
  go_wp2_with fail
  refine HS.out.mono ?_
  rintro e W2 ⟨rfl, u2⟩
  have hcell := (HB.out.upd u2 (by simp)).cell _ HC.out
  have HU := Lib.hid u2
  clear u2
  go_wp2_with fail
  exact ⟨rfl, HU.out⟩
end Go.Proofs.YtfldpejifpmapaaDoor
set_option linter.unusedSimpArgs false
set_option linter.unusedVariables false
set_option maxRecDepth 100000
namespace Go.Proofs.YtfldpejifpmapaaDoor
open Go.RowKit
theorem rpair_code (k : Int) (w : World) : Calls Tryd.prog 45 #[.int .i64 k] w fun e w' => e = .returned (.bool (pairK k)) ∧ w = w' := by
  unfold pairK
  generalize h2 : (k == 2) = b2
  generalize h3 : (k == 3) = b3
  generalize h10 : (k == 10) = b10
  generalize h11 : (k == 11) = b11
  refine calls_all fun K hK => ?_
  go_enter Tryd.func45, Tryd.ntmps45
  cases b2
  · cases b3
    · cases b10
      · go_wp2
        all_goals exact ⟨rfl, rfl⟩
      · go_wp2
        all_goals exact ⟨rfl, rfl⟩
    · go_wp2
      all_goals exact ⟨rfl, rfl⟩
  · go_wp2
    all_goals exact ⟨rfl, rfl⟩
theorem rsingle_code (k : Int) (w : World) : Calls Tryd.prog 47 #[.int .i64 k] w fun e w' => e = .returned (.bool (singK k)) ∧ w = w' := by
  unfold singK
  generalize h2 : (k == 1) = b2
  generalize h3 : (k == 4) = b3
  generalize h10 : (k == 6) = b10
  refine calls_all fun K hK => ?_
  go_enter Tryd.func47, Tryd.ntmps47
  cases b2
  · cases b3
    · go_wp2
      all_goals exact ⟨rfl, rfl⟩
    · go_wp2
      all_goals exact ⟨rfl, rfl⟩
  · go_wp2
    all_goals exact ⟨rfl, rfl⟩
theorem form_bool (th kd ad wd : Int) (own : Bool) (er : Int) : formE ⟨th, kd, ad, wd, own, er⟩ =
    (if (decide (th < 0) || decide (8 ≤ th) || decide (kd < 1) || decide (12 < kd)) = true then false
     else if (!pairK kd && (ad != 0) || !pairK kd && !singK kd && (wd != 0) || (kd != 2) && own) = true then false
     else if ((kd == 1 || kd == 4) && (wd % 2 != 0)) = true then false
     else if (kd == 9) = true then (er == 4 || er == 5 || er == 6) else er == 0) := by
  unfold formE
  by_cases h : formC ⟨th, kd, ad, wd, own, er⟩
  · rw [decide_eq_true h]
    obtain ⟨h1, h2, h3, h4, h5, h6, h7⟩ := h
    dsimp only at h1 h2 h3 h4 h5 h6 h7
    symm
    rw [if_neg (by simp only [Bool.or_eq_true, decide_eq_true_eq]; omega)]
    rw [if_neg (by
      simp only [Bool.or_eq_true, Bool.and_eq_true, Bool.not_eq_true', bne_iff_ne, ne_eq]
      rintro ((⟨a, b⟩ | ⟨⟨a, b⟩, c⟩) | ⟨a, b⟩)
      · exact b (h3 a)
      · exact c (h4 a b)
      · have := h5 a; rw [b] at this; cases this)]
    rw [if_neg (by
      simp only [Bool.and_eq_true, Bool.or_eq_true, beq_iff_eq, bne_iff_ne, ne_eq]
      rintro ⟨a, b⟩
      exact b (h6 a))]
    split
    · rename_i h9
      rw [if_pos (by simpa using h9)] at h7
      simp only [Bool.or_eq_true, beq_iff_eq]
      omega
    · rename_i h9
      rw [if_neg (by simpa using h9)] at h7
      simpa using h7
  · rw [decide_eq_false h]
    symm
    split
    · rfl
    · rename_i c1
      split
      · rfl
      · rename_i c2
        split
        · rfl
        · rename_i c3
          simp only [Bool.or_eq_true, decide_eq_true_eq] at c1
          simp only [Bool.or_eq_true, Bool.and_eq_true, Bool.not_eq_true', bne_iff_ne, ne_eq, not_or, not_and] at c2
          simp only [Bool.and_eq_true, Bool.or_eq_true, beq_iff_eq, bne_iff_ne, ne_eq, not_and] at c3
          have key : ¬ (if kd = 9 then 4 ≤ er ∧ er ≤ 6 else er = 0) := fun h7 => h ⟨⟨by show 0 ≤ th; omega, by show th < 8; omega⟩, ⟨by show 1 ≤ kd; omega, by show kd ≤ 12; omega⟩, fun a => Classical.byContradiction (c2.1.1 a), fun a b => Classical.byContradiction (c2.1.2 ⟨a, b⟩), fun a => by have := c2.2 a; simpa using this, fun a => by have := c3 a; rcases a with rfl | rfl <;> simpa using this, h7⟩
          split
          · rename_i h9
            rw [if_pos (by simpa using h9)] at key
            simp only [Bool.or_eq_false_iff, beq_eq_false_iff_ne]
            omega
          · rename_i h9
            rw [if_neg (by simpa using h9)] at key
            simpa using key
-- a way's end
set_option maxHeartbeats 8000000 in
theorem rformed_code (e : Ev) (w : World) : Calls Tryd.prog 43 #[e.val] w fun r w' => r = .returned (.bool (formE e)) ∧ Upd [] w w' := by
  obtain ⟨th, kd, ad, wd, own, er⟩ := e
  have hF := form_bool th kd ad wd own er
  simp only [Ev.val]
  generalize formE ⟨th, kd, ad, wd, own, er⟩ = F at hF ⊢
  have HPR := Lib.hid (fun w => rpair_code kd w)
  have HSR := Lib.hid (fun w => rsingle_code kd w)
  generalize pairK kd = p at hF HPR
  generalize singK kd = s at hF HSR
  generalize t0 : decide (th < 0) = b0 at hF
  generalize t8 : decide (8 ≤ th) = b8 at hF
  generalize k0 : decide (kd < 1) = c0 at hF
  generalize k12 : decide (12 < kd) = c12 at hF
  generalize an : (ad != 0) = a0 at hF
  generalize wn : (wd != 0) = w0 at hF
  generalize k2 : (kd != 2) = c2 at hF
  generalize k1 : (kd == 1) = c1 at hF
  generalize k4 : (kd == 4) = c4 at hF
  generalize wm : (wd % 2 != 0) = w2 at hF
  have wm2 : (wd.tmod 2 != 0) = w2 := by
    rw [← wm, Bool.eq_iff_iff, bne_iff_ne, bne_iff_ne, ne_eq, ne_eq, ← Int.dvd_iff_tmod_eq_zero, Int.dvd_iff_emod_eq_zero]
  clear wm
  generalize k9 : (kd == 9) = c9 at hF
  generalize e4 : (er == 4) = d4 at hF
  generalize e5 : (er == 5) = d5 at hF
  generalize e6 : (er == 6) = d6 at hF
  generalize e0 : (er == 0) = d0 at hF
  have HF := Lib.hid hF
  clear hF
  refine calls_all fun K hK => ?_
  go_enter Tryd.func43, Tryd.ntmps43
  cases b0
  case true =>
    go_wp2_with (first | (go_at_call 45; refine (HPR.out _).mono ?_; rintro e W2 ⟨rfl, rfl⟩) | (go_at_call 47; refine (HSR.out _).mono ?_; rintro e W2 ⟨rfl, rfl⟩))
    all_goals exact ⟨by rw [HF.out]; rfl, (Upd.refl _ _).alloc _⟩
  cases b8
  case true =>
    go_wp2_with (first | (go_at_call 45; refine (HPR.out _).mono ?_; rintro e W2 ⟨rfl, rfl⟩) | (go_at_call 47; refine (HSR.out _).mono ?_; rintro e W2 ⟨rfl, rfl⟩))
    all_goals exact ⟨by rw [HF.out]; rfl, (Upd.refl _ _).alloc _⟩
  cases c0
  case true =>
    go_wp2_with (first | (go_at_call 45; refine (HPR.out _).mono ?_; rintro e W2 ⟨rfl, rfl⟩) | (go_at_call 47; refine (HSR.out _).mono ?_; rintro e W2 ⟨rfl, rfl⟩))
    all_goals exact ⟨by rw [HF.out]; rfl, (Upd.refl _ _).alloc _⟩
  cases c12
  case true =>
    go_wp2_with (first | (go_at_call 45; refine (HPR.out _).mono ?_; rintro e W2 ⟨rfl, rfl⟩) | (go_at_call 47; refine (HSR.out _).mono ?_; rintro e W2 ⟨rfl, rfl⟩))
    all_goals exact ⟨by rw [HF.out]; rfl, (Upd.refl _ _).alloc _⟩
  go_upto_region 3 with fail
  obtain ⟨W1, hW1⟩ : ∃ W, w.alloc (.cells #[.int .i64 th, .int .i64 kd, .int .u64 ad, .int .u64 wd, .bool own, .int .i64 er] 27) = W := ⟨_, rfl⟩
  have HB := Lib.hid (show Blk W1 w.heap.size [.int .i64 th, .int .i64 kd, .int .u64 ad, .int .u64 wd, .bool own, .int .i64 er] 27 by rw [← hW1]; exact Blk.new w _ _)
  have HU := Lib.hid (show Upd [] w W1 by rw [← hW1]; exact (Upd.refl _ _).alloc _)
  rw [hW1]
  clear hW1
  have m0 := HB.out.cell 0 rfl
  have m1 := HB.out.cell 1 rfl
  have m2 := HB.out.cell 2 rfl
  have m3 := HB.out.cell 3 rfl
  have m4 := HB.out.cell 4 rfl
  have m5 := HB.out.cell 5 rfl
  have HF1 := Lib.hid (show F = _ from HF.out.trans (if_neg (by decide)))
  clear HF
  go_cut [55] from 21 to 55 (fun v55 wx => v55 = .bool (!p && a0 || !p && !s && w0 || c2 && own) ∧ wx = W1)
  case first =>
    cases p
    case false =>
      cases a0
      case true =>
        go_wp2_with (first | (go_at_call 45; refine (HPR.out _).mono ?_; rintro e W2 ⟨rfl, rfl⟩) | (go_at_call 47; refine (HSR.out _).mono ?_; rintro e W2 ⟨rfl, rfl⟩))
        go_meet
        exact ⟨rfl, rfl⟩
      cases s
      case false =>
        cases w0
        case true =>
          go_wp2_with (first | (go_at_call 45; refine (HPR.out _).mono ?_; rintro e W2 ⟨rfl, rfl⟩) | (go_at_call 47; refine (HSR.out _).mono ?_; rintro e W2 ⟨rfl, rfl⟩))
          go_meet
          exact ⟨rfl, rfl⟩
        cases c2
        case false =>
          go_wp2_with (first | (go_at_call 45; refine (HPR.out _).mono ?_; rintro e W2 ⟨rfl, rfl⟩) | (go_at_call 47; refine (HSR.out _).mono ?_; rintro e W2 ⟨rfl, rfl⟩))
          go_meet
          exact ⟨rfl, rfl⟩
        case true =>
          cases own
          case false =>
            go_wp2_with (first | (go_at_call 45; refine (HPR.out _).mono ?_; rintro e W2 ⟨rfl, rfl⟩) | (go_at_call 47; refine (HSR.out _).mono ?_; rintro e W2 ⟨rfl, rfl⟩))
            go_meet
            exact ⟨rfl, rfl⟩
          case true =>
            go_wp2_with (first | (go_at_call 45; refine (HPR.out _).mono ?_; rintro e W2 ⟨rfl, rfl⟩) | (go_at_call 47; refine (HSR.out _).mono ?_; rintro e W2 ⟨rfl, rfl⟩))
            go_meet
            exact ⟨rfl, rfl⟩
      case true =>
        cases c2
        case false =>
          go_wp2_with (first | (go_at_call 45; refine (HPR.out _).mono ?_; rintro e W2 ⟨rfl, rfl⟩) | (go_at_call 47; refine (HSR.out _).mono ?_; rintro e W2 ⟨rfl, rfl⟩))
          go_meet
          exact ⟨rfl, rfl⟩
        case true =>
          cases own
          case false =>
            go_wp2_with (first | (go_at_call 45; refine (HPR.out _).mono ?_; rintro e W2 ⟨rfl, rfl⟩) | (go_at_call 47; refine (HSR.out _).mono ?_; rintro e W2 ⟨rfl, rfl⟩))
            go_meet
            exact ⟨rfl, rfl⟩
          case true =>
            go_wp2_with (first | (go_at_call 45; refine (HPR.out _).mono ?_; rintro e W2 ⟨rfl, rfl⟩) | (go_at_call 47; refine (HSR.out _).mono ?_; rintro e W2 ⟨rfl, rfl⟩))
            go_meet
            exact ⟨rfl, rfl⟩
    case true =>
      cases c2
      case false =>
        go_wp2_with (first | (go_at_call 45; refine (HPR.out _).mono ?_; rintro e W2 ⟨rfl, rfl⟩) | (go_at_call 47; refine (HSR.out _).mono ?_; rintro e W2 ⟨rfl, rfl⟩))
        go_meet
        exact ⟨rfl, rfl⟩
      case true =>
        cases own
        case false =>
          go_wp2_with (first | (go_at_call 45; refine (HPR.out _).mono ?_; rintro e W2 ⟨rfl, rfl⟩) | (go_at_call 47; refine (HSR.out _).mono ?_; rintro e W2 ⟨rfl, rfl⟩))
          go_meet
          exact ⟨rfl, rfl⟩
        case true =>
          go_wp2_with (first | (go_at_call 45; refine (HPR.out _).mono ?_; rintro e W2 ⟨rfl, rfl⟩) | (go_at_call 47; refine (HSR.out _).mono ?_; rintro e W2 ⟨rfl, rfl⟩))
          go_meet
          exact ⟨rfl, rfl⟩
  case rest =>
    obtain ⟨rfl, rfl⟩ := hcut
    obtain ⟨W1, rfl⟩ : ∃ W, W = wc := ⟨wc, rfl⟩
    cases hf1 : (!p && a0 || !p && !s && w0 || c2 && own)
    case true =>
      have HF2 := Lib.hid (show F = false from HF1.out.trans (if_pos hf1))
      go_wp2_with fail
      all_goals exact ⟨by rw [HF2.out]; rfl, HU.out⟩
    have HF2 := Lib.hid (show F = _ from HF1.out.trans (if_neg (by rw [hf1]; decide)))
    clear HF1 hf1
    go_upto_region 5 with fail
    go_cut [69] from 56 to 69 (fun v69 wx => v69 = .bool ((c1 || c4) && w2) ∧ wx = W1)
    case first =>
      cases c1
      case true =>
        go_wp2_with (first | (go_at_call 45; refine (HPR.out _).mono ?_; rintro e W2 ⟨rfl, rfl⟩) | (go_at_call 47; refine (HSR.out _).mono ?_; rintro e W2 ⟨rfl, rfl⟩))
        go_meet
        exact ⟨rfl, rfl⟩
      cases c4
      case true =>
        go_wp2_with (first | (go_at_call 45; refine (HPR.out _).mono ?_; rintro e W2 ⟨rfl, rfl⟩) | (go_at_call 47; refine (HSR.out _).mono ?_; rintro e W2 ⟨rfl, rfl⟩))
        go_meet
        exact ⟨rfl, rfl⟩
      go_wp2_with (first | (go_at_call 45; refine (HPR.out _).mono ?_; rintro e W2 ⟨rfl, rfl⟩) | (go_at_call 47; refine (HSR.out _).mono ?_; rintro e W2 ⟨rfl, rfl⟩))
      go_meet
      exact ⟨rfl, rfl⟩
    case rest =>
      obtain ⟨rfl, rfl⟩ := hcut
      obtain ⟨W1, rfl⟩ : ∃ W, W = wc := ⟨wc, rfl⟩
      cases hf1 : ((c1 || c4) && w2)
      case true =>
        have HF3 := Lib.hid (show F = false from HF2.out.trans (if_pos hf1))
        go_wp2_with fail
        all_goals exact ⟨by rw [HF3.out]; rfl, HU.out⟩
      have HF3 := Lib.hid (show F = _ from HF2.out.trans (if_neg (by rw [hf1]; decide)))
      clear HF2 hf1
      cases c9
      case false =>
        go_wp2_with fail
        all_goals exact ⟨by rw [HF3.out]; rfl, HU.out⟩
      case true =>
        cases d4
        case true =>
          go_wp2_with fail
          all_goals exact ⟨by rw [HF3.out]; rfl, HU.out⟩
        cases d5
        case true =>
          go_wp2_with fail
          all_goals exact ⟨by rw [HF3.out]; rfl, HU.out⟩
        go_wp2_with fail
        all_goals exact ⟨by rw [HF3.out]; rfl, HU.out⟩
end Go.Proofs.YtfldpejifpmapaaDoor
set_option linter.unusedSimpArgs false
set_option linter.unusedVariables false
set_option maxRecDepth 100000
namespace Go.Proofs.YtfldpejifpmapaaDoor
open Go.RowKit
open Go.Maps
set_option maxHeartbeats 4000000 in
theorem rname_code (e : Ev) (h : 1 ≤ e.kd ∧ e.kd ≤ 12) (w : World) : Calls Tryd.prog 44 #[e.val] w fun r w' => r = .returned (.string ⟨(nameE e).toArray⟩) ∧ Upd [] w w' := by
  obtain ⟨th, kd, ad, wd, own, er⟩ := e
  simp only [Ev.val]
  unfold nameE
  dsimp only at h ⊢
  cases own with
  | true =>
    refine calls_all fun K hK => ?_
    go_enter Tryd.func44, Tryd.ntmps44
    go_wp2
    all_goals first | exact ⟨rfl, (Upd.refl _ _).alloc _⟩ | exact (Upd.refl _ _).alloc _
  | false =>
    have hc : kd = 1 ∨ kd = 2 ∨ kd = 3 ∨ kd = 4 ∨ kd = 5 ∨ kd = 6 ∨ kd = 7 ∨ kd = 8 ∨ kd = 9 ∨ kd = 10 ∨ kd = 11 ∨ kd = 12 := by omega
    clear h
    refine calls_all fun K hK => ?_
    go_enter Tryd.func44, Tryd.ntmps44
    rcases hc with rfl | rfl | rfl | rfl | rfl | rfl | rfl | rfl | rfl | rfl | rfl | rfl
    all_goals
      go_wp2
      exact ⟨rfl, ((Upd.refl _ _).alloc _).alloc _⟩
theorem rdigits_code (u : Nat) (hu : u < 18446744073709551616) (w : World) (hT : Tab w) : Calls Tryd.prog 46 #[.int .u64 u] w fun e w' => e = .returned (.string ⟨(Lib.decDigits u).toArray⟩) ∧ Upd [] w w' := by
  refine calls_all fun K hK => ?_
  go_enter Tryd.func46, Tryd.ntmps46
  go_wp2_with fail
  refine (fmtu u hu _ hT).mono ?_
  rintro e w1 ⟨rfl, u1⟩
  go_wp2
  all_goals first | exact ⟨rfl, u1⟩ | exact u1
-- a drawn region of calls that are quiet
-- the head of Line
set_option maxHeartbeats 8000000 in
theorem rline_ok (w : World) (t k a d : Nat) (own : Bool) (er : Int) (he : Ev.wide ⟨t, k, a, d, own, er⟩) (hf : formE ⟨t, k, a, d, own, er⟩ = true) (ht : t < 8) (hk : 1 ≤ k ∧ k ≤ 12) (ha : a < 18446744073709551616) (hd : d < 18446744073709551616) (her : k = 9 → 4 ≤ er ∧ er ≤ 6) (hT : Tab w) :
    Calls Tryd.prog 14 #[(⟨t, k, a, d, own, er⟩ : Ev).val] w fun r w' => r = .returned (.tuple #[.string ⟨(lineE ⟨t, k, a, d, own, er⟩).toArray⟩, .int .i64 0]) ∧ Upd [] w w' := by
  have HIT := Lib.hid (fun W => Tryd.strconv_Itoa_small t (by omega) W)
  have hdt : (Lib.decDigits t).length = 1 := by rw [Lib.decDigits_one (by omega)]; rfl
  have hfc := Lib.hid (fun W => rformed_code ⟨t, k, a, d, own, er⟩ W)
  rw [hf] at hfc
  have HNM := Lib.hid (fun W => rname_code ⟨t, k, a, d, own, er⟩ (by dsimp only; omega) W)
  have hnl : (nameE ⟨t, k, a, d, own, er⟩).length ≤ 9 := by
    unfold nameE
    split
    · decide
    · exact names_len _
  have hX : lineE ⟨t, k, a, d, own, er⟩ = (Lib.decDigits t ++ 32 :: nameE ⟨t, k, a, d, own, er⟩) ++ tailE ⟨t, k, a, d, own, er⟩ := by unfold lineE; rfl
  have HPR := Lib.hid (fun W => rpair_code k W)
  have HSR := Lib.hid (fun W => rsingle_code k W)
  generalize nameE ⟨t, k, a, d, own, er⟩ = nm at hnl HNM hX
  simp only [Ev.val] at hfc HNM ⊢
  have HX := Lib.hid hX
  have HTB := Lib.hid hT
  clear hX hT he hf
  refine calls_all fun K hK => ?_
  go_enter Tryd.func14, Tryd.ntmps14
  go_wp2_with fail
  refine (hfc.out _).mono ?_
  rintro e W2 ⟨rfl, u2⟩
  have HB2 := Lib.hid (Blk.upd (Blk.new w [.int .i64 (t : Int), .int .i64 (k : Int), .int .u64 (a : Int), .int .u64 (d : Int), .bool own, .int .i64 er] 27) u2 (by simp))
  have HU2 := Lib.hid (((Upd.refl [] w).alloc (.cells #[.int .i64 (t : Int), .int .i64 (k : Int), .int .u64 (a : Int), .int .u64 (d : Int), .bool own, .int .i64 er] 27)).trans u2)
  obtain ⟨eb, heb⟩ : ∃ b, w.heap.size = b := ⟨_, rfl⟩
  rw [heb] at HB2 ⊢
  clear u2 hfc
  go_wp2_with fail
  obtain ⟨Tf, hTf, g, hg, hg2⟩ := fam [] W2
  have m0 := fun n => (HB2.out.upd (hg n) (by simp)).cell 0 rfl
  have m1 := fun n => (HB2.out.upd (hg n) (by simp)).cell 1 rfl
  have m2 := fun n => (HB2.out.upd (hg n) (by simp)).cell 2 rfl
  have m3 := fun n => (HB2.out.upd (hg n) (by simp)).cell 3 rfl
  have m4 := fun n => (HB2.out.upd (hg n) (by simp)).cell 4 rfl
  have m5 := fun n => (HB2.out.upd (hg n) (by simp)).cell 5 rfl
  have hb1 : ¬ 9223372036854775807 < (Lib.decDigits t).length + 1 := by omega
  have hb2 : ¬ 9223372036854775807 < (Lib.decDigits t).length + 1 + nm.length := by omega
  refine wp_region_fam g (by kernel_rfl) (by kernel_rfl) (hg2 _ ((Upd.refl [] _).drew)) ?_
  repeat (go_big_quiet_step (first | (go_at_call 40; exact Calls.fam_of0 hg hg2 ((HIT.out _).mono fun _ _ h9 => ⟨h9.1, by rw [h9.2]; exact Upd.refl _ _⟩)) | (go_at_call 44; exact Calls.fam_of0 hg hg2 (HNM.out _))))
  refine wpQuiet_nil ?_
  intro w9 hw9
  obtain ⟨n9, rfl⟩ := hw9
  rw [str3]
  have hL1 : (Lib.decDigits t ++ 32 :: nm).length ≤ 20 := by rw [List.length_append, List.length_cons]; omega
  have HX1 := Lib.hid HX.out
  generalize Lib.decDigits t ++ 32 :: nm = L1 at hL1 HX1 ⊢
  have HB3 := Lib.hid (HB2.out.upd (hg n9) (by simp))
  have HU3 := Lib.hid (HU2.out.trans (hg n9))
  clear m0 m1 m2 m3 m4 m5 hg2 HX HNM hnl hb1 hb2
  generalize g n9 = W3 at HB3 HU3 ⊢
  clear hg hTf g n9 HB2 HU2 hdt
  have m1 := HB3.out.cell 1 rfl
  have m3 := HB3.out.cell 3 rfl
  have m5 := HB3.out.cell 5 rfl
  unfold tailE at HX1
  dsimp only at HX1
  have hla := dec_le a ha
  have hld := dec_le d hd
  cases hp : pairK k with
  | true =>
    rw [hp] at HPR
    have HE := Lib.hid (show lineE ⟨t, k, a, d, own, er⟩ = (L1 ++ 32 :: Lib.decDigits a) ++ 32 :: Lib.decDigits d by rw [HX1.out, if_pos hp, Int.toNat_natCast, Int.toNat_natCast, List.append_assoc])
    go_wp2_with (first | (go_at_call 45; refine (HPR.out _).mono ?_; rintro e W4 ⟨rfl, rfl⟩))
    obtain ⟨Tf, hTf, g, hg, hg2⟩ := fam [] W3
    have m2 := fun n => (HB3.out.upd (hg n) (by simp)).cell 2 rfl
    have m3 := fun n => (HB3.out.upd (hg n) (by simp)).cell 3 rfl
    have hb1 : ¬ 9223372036854775807 < L1.length + 1 := by omega
    have hb2 : ¬ 9223372036854775807 < L1.length + 1 + (Lib.decDigits a).length := by omega
    have hb3 : ¬ 9223372036854775807 < L1.length + 1 + (Lib.decDigits a).length + 1 := by omega
    have hb4 : ¬ 9223372036854775807 < L1.length + 1 + (Lib.decDigits a).length + 1 + (Lib.decDigits d).length := by omega
    refine wp_region_fam g (by kernel_rfl) (by kernel_rfl) (hg2 _ ((Upd.refl [] _).drew)) ?_
    repeat (go_big_quiet_step (first | (go_at_call 46; exact Calls.fam_of0 hg hg2 (rdigits_code a ha _ (HTB.out.upd (HU3.out.trans (hg _))))) | (go_at_call 46; exact Calls.fam_of0 hg hg2 (rdigits_code d hd _ (HTB.out.upd (HU3.out.trans (hg _)))))))
    refine wpQuiet_nil ?_
    intro w9 hw9
    obtain ⟨n9, rfl⟩ := hw9
    have HU4 := Lib.hid (HU3.out.trans (hg n9))
    clear m1 m2 m3 m5
    go_wp2_with fail
    exact ⟨by rw [HE.out, ← str3, ← str3]; rfl, HU4.out⟩
  | false =>
    rw [hp] at HPR
    cases hs : singK k with
    | true =>
      rw [hs] at HSR
      have HE := Lib.hid (show lineE ⟨t, k, a, d, own, er⟩ = L1 ++ 32 :: Lib.decDigits d by rw [HX1.out, if_neg (by rw [hp]; decide), if_pos hs, Int.toNat_natCast])
      have hb1 : ¬ 9223372036854775807 < L1.length + 1 := by omega
      have hb2 : ¬ 9223372036854775807 < L1.length + 1 + (Lib.decDigits d).length := by omega
      go_wp2_with (first | (go_at_call 45; refine (HPR.out _).mono ?_; rintro e W4 ⟨rfl, rfl⟩) | (go_at_call 47; refine (HSR.out _).mono ?_; rintro e W4 ⟨rfl, rfl⟩))
      refine (rdigits_code d hd _ (HTB.out.upd HU3.out)).mono ?_
      rintro e W5 ⟨rfl, u5⟩
      have HU5 := Lib.hid (HU3.out.trans u5)
      go_wp2_with fail
      exact ⟨by rw [HE.out, ← str3]; rfl, HU5.out⟩
    | false =>
      rw [hs] at HSR
      by_cases h9 : k = 9
      · obtain ⟨x, rfl⟩ : ∃ x : Nat, er = x := ⟨er.toNat, by have := her h9; omega⟩
        have hx : x < 10 := by have := her h9; omega
        have HE := Lib.hid (show lineE ⟨t, k, a, d, own, (x : Int)⟩ = L1 ++ 32 :: Lib.decDigits x by rw [HX1.out, if_neg (by rw [hp]; decide), if_neg (by rw [hs]; decide), if_pos (by omega), Int.toNat_natCast])
        subst h9
        have hld2 : (Lib.decDigits x).length = 1 := by rw [Lib.decDigits_one hx]; rfl
        have hb1 : ¬ 9223372036854775807 < L1.length + 1 := by omega
        have hb2 : ¬ 9223372036854775807 < L1.length + 1 + (Lib.decDigits x).length := by omega
        have HIX := Lib.hid (fun W => Tryd.strconv_Itoa_small x (by omega) W)
        go_wp2_with (first | (go_at_call 45; refine (HPR.out _).mono ?_; rintro e W4 ⟨rfl, rfl⟩) | (go_at_call 47; refine (HSR.out _).mono ?_; rintro e W4 ⟨rfl, rfl⟩))
        refine (HIX.out _).mono ?_
        rintro e W5 ⟨rfl, rfl⟩
        go_wp2_with fail
        exact ⟨by rw [HE.out, ← str3]; rfl, HU3.out⟩
      · have HE := Lib.hid (show lineE ⟨t, k, a, d, own, er⟩ = L1 by rw [HX1.out, if_neg (by rw [hp]; decide), if_neg (by rw [hs]; decide), if_neg (by omega), List.append_nil])
        have h91 : ((k : Int) == 9) = false := by rw [beq_eq_false_iff_ne]; omega
        go_wp2_with (first | (go_at_call 45; refine (HPR.out _).mono ?_; rintro e W4 ⟨rfl, rfl⟩) | (go_at_call 47; refine (HSR.out _).mono ?_; rintro e W4 ⟨rfl, rfl⟩))
        exact ⟨by rw [HE.out]; rfl, HU3.out⟩
theorem rline_no (w : World) (e : Ev) (hf : formE e = false) : Calls Tryd.prog 14 #[e.val] w fun r w' => r = .returned (.tuple #[.string ⟨#[]⟩, .int .i64 201]) ∧ Upd [] w w' := by
  have HFC := Lib.hid (fun W => rformed_code e W)
  rw [hf] at HFC
  obtain ⟨th, kd, ad, wd, own, er⟩ := e
  simp only [Ev.val] at HFC ⊢
  refine calls_all fun K hK => ?_
  go_enter Tryd.func14, Tryd.ntmps14
  go_wp2_with fail
  refine (HFC.out _).mono ?_
  rintro e W2 ⟨rfl, u2⟩
  have HU2 := Lib.hid (((Upd.refl [] w).alloc (.cells #[.int .i64 th, .int .i64 kd, .int .u64 ad, .int .u64 wd, .bool own, .int .i64 er] 27)).trans u2)
  go_wp2_with fail
  exact ⟨rfl, HU2.out⟩
theorem rline_code (w : World) (e : Ev) (he : e.wide) (hT : Tab w) : Calls Tryd.prog 14 #[e.val] w fun r w' => r = .returned (.tuple #[.string ⟨(lineO e).1.toArray⟩, .int .i64 (lineO e).2]) ∧ Upd [] w w' := by
  by_cases hf : formE e = true
  · obtain ⟨th, kd, ad, wd, own, er⟩ := e
    obtain ⟨h1, h2, h3, h4, h5, h6, h7⟩ := formE_c hf
    dsimp only at h1 h2 h7
    obtain ⟨t, rfl⟩ : ∃ i : Nat, th = i := ⟨th.toNat, by omega⟩
    obtain ⟨k, rfl⟩ : ∃ k : Nat, kd = k := ⟨kd.toNat, by omega⟩
    obtain ⟨a, rfl⟩ : ∃ k : Nat, ad = k := ⟨ad.toNat, by have := he.1; dsimp only at this; omega⟩
    obtain ⟨d, rfl⟩ : ∃ k : Nat, wd = k := ⟨wd.toNat, by have := he.2; dsimp only at this; omega⟩
    have ha : a < 18446744073709551616 := by have := he.1; dsimp only at this; omega
    have hd : d < 18446744073709551616 := by have := he.2; dsimp only at this; omega
    have hO : lineO ⟨t, k, a, d, own, er⟩ = (lineE ⟨t, k, a, d, own, er⟩, 0) := by unfold lineO; rw [if_pos hf]
    rw [hO]
    exact rline_ok w t k a d own er he hf (by omega) (by omega) ha hd (fun h => by rw [if_pos (by omega)] at h7; exact h7) hT
  · have hf : formE e = false := by simpa using hf
    have hO : lineO e = ([], 201) := by unfold lineO; rw [if_neg (by rw [hf]; simp)]
    rw [hO]
    exact rline_no w e hf
end Go.Proofs.YtfldpejifpmapaaDoor
set_option linter.unusedSimpArgs false
set_option linter.unusedVariables false
set_option maxRecDepth 100000
namespace Go.Proofs.YtfldpejifpmapaaDoor
open Go.RowKit
open Go.Maps
theorem str_line (a b : List UInt8) : (⟨a.toArray⟩ : ByteArray) ++ ⟨b.toArray⟩ ++ ⟨#[10]⟩ = ⟨(a ++ (b ++ [10])).toArray⟩ := by simp [ByteArray.ext_iff]
set_option maxHeartbeats 4000000 in
theorem rtext_code (w : World) (po : Option Addr) (cap : Nat) (l : List Ev) (hH : HistAt w po l) (hl : l.length ≤ 1000000000) (hw : wideL l) (hT : Tab w) :
    Calls Tryd.prog 12 #[.slice po l.length cap] w fun e w' => e = .returned (.tuple #[.string ⟨(textO l).1.toArray⟩, .int .i64 (textO l).2]) ∧ Upd [] w w' := by
  have HH := Lib.hid hH
  have HTT := Lib.hid hT
  have HW := Lib.hid hw
  clear hH hw hT
  refine calls_all fun K hK => ?_
  go_enter Tryd.func12, Tryd.ntmps12
  go_wp2_with fail
  have hl9 : (l.length : Int) ≤ 1000000000 := by omega
  go_loopw [4, 5] (fun v4 v5 wr => ∃ k : Nat, k ≤ l.length ∧ v5 = .int .i64 k ∧ v4 = .string ⟨(textL (l.take k)).toArray⟩ ∧ (l.take k).all formE = true ∧ Upd [] w wr) (fun _ v5 _ => l.length - (intOf v5).toNat)
  case atStart => exact ⟨0, by omega, rfl, rfl, rfl, Upd.refl _ _⟩
  case round =>
    obtain ⟨k, hk, rfl, rfl, hall, hu⟩ := hrel
    have HALL := Lib.hid hall
    have HU := Lib.hid hu
    clear hall hu
    by_cases hlt : k < l.length
    · have hlt' : (k : Int) < (l.length : Int) := by omega
      have hk0 : 0 ≤ (k : Int) := by omega
      obtain ⟨x, hx⟩ : ∃ x, l[k]? = some x := ⟨_, List.getElem?_eq_getElem hlt⟩
      obtain ⟨b, o, hpo, h0, h1, h2, h3, h4, h5⟩ := (HH.out.upd0 HU.out) k x hx
      have hxw := HW.out x (List.mem_of_getElem? hx)
      have HTK := Lib.hid (show l.take (k + 1) = l.take k ++ [x] by rw [List.take_add_one, hx]; rfl)
      subst hpo
      have HLN := Lib.hid (rline_code wr x hxw (HTT.out.upd HU.out))
      have HXM := Lib.hid (List.mem_of_getElem? hx)
      obtain ⟨fx, hfx⟩ : ∃ f, formE x = f := ⟨_, rfl⟩
      have HFX := Lib.hid hfx
      have hO : lineO x = if fx = true then (lineE x, 0) else ([], 201) := by unfold lineO; rw [hfx]
      have HO := Lib.hid hO
      have HLE := Lib.hid (fun h : fx = true => lineE_len x hxw (hfx.trans h))
      have hTL := textL_len (l.take k) (fun y hy => HW.out y (List.mem_of_mem_take hy)) HALL.out
      have hTN : (l.take k).length ≤ l.length := by rw [List.length_take]; omega
      have hsn := textL_snoc (l.take k) x
      rw [← HTK.out] at hsn
      have HSN := Lib.hid hsn
      clear hx hxw hfx hO hsn
      generalize textL (l.take k) = S at hTL HSN ⊢
      obtain ⟨lx, hlx⟩ : ∃ s, lineE x = s := ⟨_, rfl⟩
      obtain ⟨ox, hox⟩ : ∃ s, lineO x = s := ⟨_, rfl⟩
      rw [hox] at HLN HO
      rw [hlx] at HO HLE HSN
      obtain ⟨th, kd, ad, wd, own, er⟩ := x
      simp only [Ev.val] at HLN
      dsimp only at h0 h1 h2 h3 h4 h5
      clear hlx hox
      cases fx with
      | false =>
        obtain rfl : ox = ([], 201) := by rw [HO.out]; rfl
        have HX := Lib.hid (show textO l = ([], 201) by
          unfold textO
          rw [if_neg (fun q => by have := List.all_eq_true.1 q _ HXM.out; rw [HFX.out] at this; cases this)])
        go_wp2_with fail
        refine (HLN.out).mono ?_
        rintro e W5 ⟨rfl, u5⟩
        have HU5 := Lib.hid (HU.out.trans u5)
        clear u5
        dsimp only
        go_wp2_with fail
        exact ⟨by rw [HX.out]; rfl, HU5.out⟩
      | true =>
        obtain rfl : ox = (lx, 0) := by rw [HO.out]; rfl
        have hb1 : ¬ 9223372036854775807 < S.length + lx.length := by have h1 := (HLE.out rfl).2; omega
        have hb2 : ¬ 9223372036854775807 < S.length + lx.length + 1 := by have h1 := (HLE.out rfl).2; omega
        go_wp2_with fail
        refine (HLN.out).mono ?_
        rintro e W5 ⟨rfl, u5⟩
        have HU5 := Lib.hid (HU.out.trans u5)
        clear u5 h0 h1 h2 h3 h4 h5 hTL hTN
        dsimp only
        go_wp2_with fail
        go_roundw
        case rel => exact ⟨k + 1, by omega, by go_num, by rw [HSN.out, ← str_line], by rw [HTK.out, List.all_append, HALL.out, List.all_cons, HFX.out]; rfl, HU5.out⟩
        case measure => simp [intOf]; omega
    · obtain rfl : k = l.length := by omega
      have hA := HALL.out
      rw [List.take_length] at hA ⊢
      have HX := Lib.hid (show textO l = (textL l, 0) by unfold textO; rw [if_pos hA])
      clear hA
      go_wp2_with fail
      exact ⟨by rw [HX.out]; rfl, HU.out⟩
end Go.Proofs.YtfldpejifpmapaaDoor
set_option linter.unusedSimpArgs false
set_option linter.unusedVariables false
set_option maxRecDepth 100000
namespace Go.Proofs.YtfldpejifpmapaaDoor
open Go.RowKit
open Go.Maps
set_option maxHeartbeats 4000000 in
theorem eventsTexts_walk (w : World) (po : Option Addr) (cap : Nat) (l : List Ev) (x : Ev) (hH : HistAt w po l) (hl : l.length ≤ 2000000) (hw : wideL l) (hx : x.wide) (hP : PreE w) : Calls Tryd.prog 3 #[.slice po l.length cap, x.val] w fun e w' => e = .returned (.bool true) ∧ Upd [] w w' := by
  have HP := Lib.hid hP
  have HLT := Lib.hid (fun W (u : Upd [] w W) => lent_code W po cap l (hH.upd0 u) hl)
  have HT1 := Lib.hid (fun W (u : Upd [] w W) p c (h : HistAt W p l) => text_code W p c l h (by omega) hw (hP.upd u).tab)
  have HT2 := Lib.hid (fun W (u : Upd [] w W) => rtext_code W po cap l (hH.upd0 u) (by omega) hw (hP.upd u).tab)
  have HL1 := Lib.hid (fun W (u : Upd [] w W) => line_code W x hx (hP.upd u).tab)
  have HL2 := Lib.hid (fun W (u : Upd [] w W) => rline_code W x hx (hP.upd u).tab)
  generalize textO l = X at HT1 HT2
  generalize lineO x = Y at HL1 HL2
  obtain ⟨X1, X2⟩ := X
  obtain ⟨Y1, Y2⟩ := Y
  dsimp only at HT1 HT2 HL1 HL2
  obtain ⟨th, kd, ad, wd, own, er⟩ := x
  simp only [Ev.val] at HL1 HL2 ⊢
  have HB1 := Lib.hid (Blk.new w [.int .i64 th, .int .i64 kd, .int .u64 ad, .int .u64 wd, .bool own, .int .i64 er] 27)
  have HU1 := Lib.hid ((Upd.refl [] w).alloc (.cells #[.int .i64 th, .int .i64 kd, .int .u64 ad, .int .u64 wd, .bool own, .int .i64 er] 27))
  clear hP hH hw hx
  refine calls_all fun K hK => ?_
  go_enter Tryd.func3, Tryd.ntmps3
  go_wp2_with fail
  refine (HLT.out _ HU1.out).mono ?_
  rintro e W2 ⟨u2, p, c, rfl, hL⟩
  have HB2 := Lib.hid (HB1.out.upd u2 (by simp))
  have HU2 := Lib.hid (HU1.out.trans u2)
  have HH2 := Lib.hid hL.hist
  clear u2 hL HB1 HU1
  obtain ⟨eb, heb⟩ : ∃ b, w.heap.size = b := ⟨_, rfl⟩
  rw [heb] at HB2 ⊢
  clear heb
  go_wp2_with fail
  refine (HT1.out _ HU2.out p c HH2.out).mono ?_
  rintro e W3 ⟨rfl, u3⟩
  have HB3 := Lib.hid (HB2.out.upd u3 (by simp))
  have HU3 := Lib.hid (HU2.out.trans u3)
  clear u3 HB2 HU2 HH2
  go_wp2_with fail
  refine (HT2.out _ HU3.out).mono ?_
  rintro e W4 ⟨rfl, u4⟩
  have HB4 := Lib.hid (HB3.out.upd u4 (by simp))
  have HU4 := Lib.hid (HU3.out.trans u4)
  clear u4 HB3 HU3
  have m0 := HB4.out.cell 0 rfl
  have m1 := HB4.out.cell 1 rfl
  have m2 := HB4.out.cell 2 rfl
  have m3 := HB4.out.cell 3 rfl
  have m4 := HB4.out.cell 4 rfl
  have m5 := HB4.out.cell 5 rfl
  go_wp2_with fail
  refine (HL1.out _ HU4.out).mono ?_
  rintro e W5 ⟨rfl, u5⟩
  have HB5 := Lib.hid (HB4.out.upd u5 (by simp))
  have HU5 := Lib.hid (HU4.out.trans u5)
  clear u5 HB4 HU4 m0 m1 m2 m3 m4 m5
  have m0 := HB5.out.cell 0 rfl
  have m1 := HB5.out.cell 1 rfl
  have m2 := HB5.out.cell 2 rfl
  have m3 := HB5.out.cell 3 rfl
  have m4 := HB5.out.cell 4 rfl
  have m5 := HB5.out.cell 5 rfl
  go_wp2_with fail
  refine (HL2.out _ HU5.out).mono ?_
  rintro e W6 ⟨rfl, u6⟩
  have HU6 := Lib.hid (HU5.out.trans u6)
  clear u6 HB5 HU5 m0 m1 m2 m3 m4 m5
  go_wp2_with fail
  refine (num_code _ _).mono ?_
  rintro e W7 ⟨rfl, rfl⟩
  go_wp2_with fail
  refine (num_code _ _).mono ?_
  rintro e W7 ⟨rfl, rfl⟩
  go_wp2_with fail
  refine (known_code _ (HP.out.upd HU6.out)).mono ?_
  rintro e W7 ⟨rfl, u7⟩
  go_wp2_with fail
  exact ⟨rfl, HU6.out.trans u7⟩
end Go.Proofs.YtfldpejifpmapaaDoor
set_option linter.unusedSimpArgs false
set_option linter.unusedVariables false
set_option maxRecDepth 100000
namespace Go.Proofs.YtfldpejifpmapaaDoor.eventsTexts
open Go.ChangeShapes Go.WideShapes Go.ChangeAt Go.RowKit

theorem listed : Lists Rows.eventsTextsUptoRow.laid := by
  unfold Lists Rows.eventsTextsUptoRow
  exact ⟨by repeat (first | exact List.mem_cons_self | refine List.mem_cons_of_mem _ ?_), by repeat (first | exact List.mem_cons_self | refine List.mem_cons_of_mem _ ?_), by repeat (first | exact List.mem_cons_self | refine List.mem_cons_of_mem _ ?_)⟩

theorem plainH (w : World) : laidMetH Tryd.prog Rows.eventsTextsUptoRow.laid w = laidMet Tryd.prog Rows.eventsTextsUptoRow.laid w := MakeChecks.laidMetH_plain _ _ _ (by kernel_rfl)

theorem lifted (os : Os) (started : os.Started) (H : Type) (enc : TypeId × Value → H) (F : Stop.Interp) :
    ReturnsInHanded {} Tryd.checked os 3 .any ((Rows.OpenSpec.upto Rows.eventsTextsSpec).preRow enc Tryd.prog Tryd.f3 Rows.eventsTextsUptoRow.domain false Rows.eventsTextsUptoRow.laid) (((Rows.OpenSpec.upto Rows.eventsTextsSpec).at F).post enc Tryd.prog Tryd.f3 false true false false) := by
  have hx0 : (DataW.whole enc Tryd.prog ((World.laidAll Tryd.prog os Rows.eventsTextsUptoRow.laid).forCall (fun _ _ => 0) ⟨#[], #[.slice none 0 0, .agg #[.int .i64 0, .int .i64 0, .int .u64 0, .int .u64 0, .bool false, .int .i64 0]], []⟩).memory Tryd.f3.params.toList Rows.eventsTextsSpec.vars false (#[.slice none 0 0, .agg #[.int .i64 0, .int .i64 0, .int .u64 0, .int .u64 0, .bool false, .int .i64 0]] : Array Value).toList 8).map (fun x => (x.1, x.2.1)) = some ([.nil, .agg [.lit (.int .i64 0), .lit (.int .i64 0), .lit (.int .u64 0), .lit (.int .u64 0), .lit (.bool false), .lit (.int .i64 0)]], []) := by kernel_rfl
  obtain ⟨⟨x1, x2, x3⟩, hx, hx1⟩ := Option.map_eq_some_iff.1 hx0
  simp only [Prod.mk.injEq] at hx1
  obtain ⟨rfl, rfl⟩ := hx1
  refine returnsInHanded_of_row (C := Tryd.checked) (s := (Rows.OpenSpec.upto Rows.eventsTextsSpec)) law_own started (by kernel_rfl) Tryd.func3
    (witness_card (enc := enc) (s := (Rows.OpenSpec.upto Rows.eventsTextsSpec)) (conds := Rows.eventsTextsUptoRow.domain) (laid := Rows.eventsTextsUptoRow.laid) #[.slice none 0 0, .agg #[.int .i64 0, .int .i64 0, .int .u64 0, .int .u64 0, .bool false, .int .i64 0]] (World.shaped_of_ZipB (by kernel_rfl) (by kernel_rfl)) (by kernel_rfl)
      (OpenSpec.preRow_of_cond 8 hx (by kernel_rfl) (fun k hk => by cases hk; kernel_rfl) (by kernel_rfl) (by rw [plainH]; exact laidMet_laidAll _ (by kernel_rfl) (by kernel_rfl)))) ?_
  intro W base args ds gs before hval0 hW hcnd hcond hsz0 hL hsh _
  have hL0 : laidMetH Tryd.prog Rows.eventsTextsUptoRow.laid W := hL
  rw [plainH] at hL0
  have hPre : PreE W := pre_laid listed hL0 hsh
  have hbulk : Rows.uptoSmall H (ds ++ gs) = true := hcond _ rfl
  have hsz : (DataW.weightsEach Tryd.prog (Tryd.f3.params.toList ++ Rows.eventsTextsSpec.plain.varTypes Tryd.prog) (ds ++ gs)).all (· ≤ reachBytes) = true := hsz0
  clear hcond hsz0
  have hval : ∀ (j : Nat) t v, Tryd.f3.params[j]? = some t → args[j]? = some v → Value.okWide Tryd.prog W .any base t v := hval0
  have hW' := hW
  obtain ⟨p, q, hA0, hV, rfl, hfz, hnd⟩ := hW
  have hA : DataW.TrodAll enc Tryd.prog W 0 (fun _ => true) true Tryd.f3.params.toList args.toList ds p := hA0
  rw [Tryd.params3] at hA hval
  obtain ⟨v0, vs0, d0, ds0, p0, q0, hargs, rfl, rfl, h0, r0⟩ := trodAll_cons hA
  obtain ⟨v1, vs1, d1, ds1, p1, q1, rfl, rfl, rfl, h1, r1⟩ := trodAll_cons r0
  obtain ⟨rfl, rfl, rfl⟩ := trodAll_nil r1
  obtain rfl : args = #[v0, v1] := by cases args; simp_all
  obtain ⟨pa0, n0, cap0, V0, rfl, hs0, hc0, hm0, hf0⟩ := open_sl_structs Tryd.underlying22 Tryd.underlying27 (by kernel_rfl) (by kernel_rfl) (by decide) (hval 0 22 v0 rfl rfl) h0
  obtain ⟨x1, rfl, hb1⟩ := open_event (hval 1 27 v1 rfl rfl) h1
  have hr0 := slice_reach (j := 0) Tryd.underlying22 h0 hsz (by rw [Tryd.params3]; rfl) rfl 48 (by kernel_rfl)
  have k0 := bulk_slice Tryd.underlying22 h0
  have h22 := hbulk
  unfold Rows.uptoSmall at h22
  have h11 := of_decide_eq_true h22
  simp only [List.cons_append, List.nil_append, Rows.uptoBulkAll] at h11
  obtain ⟨L0, rfl, hh0, wd0⟩ := sl_events Tryd.underlying27 hs0 hf0
  refine (eventsTexts_walk W pa0 cap0 L0 x1 hh0 (by omega) wd0 hb1 hPre).mono fun e W' ⟨he, hu⟩ => ?_
  subst he
  exact ⟨_, rfl, law_post (s := Rows.eventsTextsSpec) rfl (by rw [Tryd.params3]; decide +kernel) rfl (by obtain ⟨rfl, _⟩ := trodVars_none hV; rfl) hW' (hu.below (Nat.le_refl _) (by simp))⟩

theorem said : Rows.eventsTextsUptoRow.holds Tryd.pinned (Rows.OpenSpec.upto Rows.eventsTextsSpec) :=
  OpenClaim.holds_of_cond 3 Tryd.f3 rfl rfl rfl rfl rfl rfl rfl ⟨rfl, rfl, rfl, rfl, rfl⟩ rfl rfl rfl rfl rfl (by kernel_rfl) Tryd.func3 (by kernel_rfl)
    (of_decide_eq_true (by kernel_rfl)) (by unfold Func.isWrapper; first | (rw [if_pos (by decide +kernel)]; kernel_rfl) | (rw [if_neg (by decide +kernel)]; exact ⟨rfl, rfl⟩))
    (fun os started H enc _ F => by rw [OpenClaim.pre_eq_preRow]; exact lifted os started H enc F)

theorem plain (f : FuncId) (fn : Func) (hf : Tryd.pinned.checked.prog.funcNamed "parley/parleylaw13.EventsTexts" = some f) (hfn : Tryd.pinned.checked.prog.funcs[f]? = some fn) :
    true = Tryd.pinned.checked.prog.looks [] ∧ ∀ (j : Nat) t, fn.params[j]? = some t → Tryd.pinned.checked.prog.wantsStandIn t = false := by
  obtain rfl : f = 3 := Option.some.inj ((show Tryd.prog.funcNamed "parley/parleylaw13.EventsTexts" = some 3 by kernel_rfl).symm.trans hf) |>.symm
  obtain rfl : fn = Tryd.f3 := (Option.some.inj (Tryd.func3.symm.trans hfn)).symm
  refine ⟨by kernel_rfl, fun j t ht => ?_⟩
  have hall : ((Tryd.f3).params.toList.all fun u => !Tryd.prog.wantsStandIn u) = true := by kernel_rfl
  have hm : t ∈ (Tryd.f3).params.toList := by simpa using Array.mem_of_getElem? ht
  exact (show Tryd.prog.wantsStandIn t = false by simpa using List.all_eq_true.1 hall t hm)

theorem proved : Rows.EventsTextsUptoCardSaid :=
  Claim7.holds_tied_plain_at .later [] _ _ _ _ said (fun _ h => by cases h) (by kernel_rfl) (fun _ h => by cases h) eventsTextsUpto_row_tie rfl ⟨rfl, rfl⟩ (by kernel_rfl) rfl plain (by kernel_rfl)

end Go.Proofs.YtfldpejifpmapaaDoor.eventsTexts
