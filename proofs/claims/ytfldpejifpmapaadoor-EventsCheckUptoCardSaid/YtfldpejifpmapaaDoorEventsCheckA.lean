/- Threads, of the code and of the reference. The conditions are sizes. -/
import Derived.Test.YtfldpejifpmapaaDoorBase
import Derived.ProofKit
import Derived.OpenShut
import Derived.Deep.Grids
import Derived.Deep.Fields
import Derived.SizedLaws
import Derived.Test.YtfldpejifpmapaaDoorEEv
import Derived.Test.YtfldpejifpmapaaDoorRows
import Derived.LaidLaws
import Derived.Lay
import Derived.Lib.LaidU8
import Derived.Lib.LaidTab
import Derived.MakeChecks
import Derived.Deep.DeepHandedRow
import Derived.Shelf.LaysM
import Derived.HandedShaped
import Derived.Test.YtfldpejifpmapaaDoorEHist
import Derived.Test.YtfldpejifpmapaaDoorEEv2
import Derived.Test.YtfldpejifpmapaaDoorECheck
import Derived.Test.YtfldpejifpmapaaDoorEPure
import Derived.Test.YtfldpejifpmapaaDoorEffC
import Derived.Deep.Cut
import Derived.Deep.CutRange
import Derived.Deep.CutBlock
import Derived.Lib.ItoaNum
import Derived.Test.YtfldpejifpmapaaDoorHeadTail
import Derived.Test.YtfldpejifpmapaaDoorOwn
import Derived.BigQuiet
set_option linter.unusedSimpArgs false
set_option linter.unusedVariables false
set_option maxRecDepth 100000
namespace Go.Proofs.YtfldpejifpmapaaDoor
open Go.ChangeShapes Go.WideShapes Go.ChangeAt Go.RowKit

theorem law_own : ownKnob Tryd.prog.godebug = none := by kernel_rfl
theorem law_laidOut : laidOutB Tryd.prog = true := by kernel_rfl

theorem trodAll_below {H : Type} {enc : TypeId × Value → H} {P : Program} (hl : laidOutB P = true) {W W' : World} (hB : Below W.heap.size W W') :
    ∀ (ts : List TypeId) (vs : List Value) (ds : List (DataW H)) (ps : List MemPlace), (∀ t ∈ ts, P.readableRec t = true ∧ t < P.types.size) →
      DataW.TrodAll enc P W 0 (fun _ => true) true ts vs ds ps → (∀ x ∈ ps, x.block < W.heap.size) →
      DataW.TrodAll enc P W' 0 (fun b => decide (b < W.heap.size)) true ts vs ds ps := by
  intro ts
  induction ts with
  | nil =>
    intro vs ds ps _ h _
    obtain ⟨rfl, rfl, rfl⟩ := trodAll_nil h
    exact trodAll_mk0
  | cons t ts ih =>
    intro vs ds ps ht h hlt
    obtain ⟨v, vs', d, ds', p, q, rfl, rfl, rfl, hd, hr⟩ := trodAll_cons h
    exact trodAll_cons_mk (Below.trod hl (ht t (by simp)).1 (ht t (by simp)).2 hd hB (fun x hx => hlt x (by simp [hx]))) (ih vs' ds' q (fun t' h' => ht t' (by simp [h'])) hr (fun x hx => hlt x (by simp [hx])))

theorem law_post {H : Type} {enc : TypeId × Value → H} {f : Func} {s : ChangeSpec} {W W' : World} {args : Array Value} {ds gs : List (DataW H)} {before : List MemPlace}
    (hres : f.resultTypes = #[4]) (hpar : ∀ t ∈ f.params.toList, Tryd.prog.readableRec t = true ∧ t < Tryd.prog.types.size) (hsv : s.vars = [])
    (hfn : s.fn H (ds ++ gs) = { results := [.lit (.bool true)], args := ds })
    (hW : DataW.Whole enc Tryd.prog f.params.toList s.vars false W args.toList ds gs before) (hB : Below W.heap.size W W') :
    s.post enc Tryd.prog f false true false false W args (.bool true) W' := by
  have hW0 := hW
  obtain ⟨p, q, hA, hV, hpq, hfz, hnd⟩ := hW
  have hlt : ∀ x ∈ p, x.block < W.heap.size := fun x hx => by simpa using hW0.lt x (by rw [hpq]; simp [hx])
  refine ⟨ds, gs, before, [], p, [], hW0, ?_, ?_, ?_, hB.frame _, fun h => by cases h⟩
  · rw [hres, hfn]
    exact trodAll_mk1 (shut_bool Tryd.underlying4 true)
  · rw [hfn]
    exact trodAll_below law_laidOut hB _ _ _ _ hpar hA hlt
  · rw [hsv, hfn]
    rfl

end Go.Proofs.YtfldpejifpmapaaDoor
set_option linter.unusedSimpArgs false
set_option linter.unusedVariables false
set_option maxRecDepth 100000
namespace Go.Proofs.YtfldpejifpmapaaDoor
open Go.ChangeShapes Go.WideShapes Go.ChangeAt Go.RowKit Go.Deep

section
variable {H : Type} {enc : TypeId × Value → H} {P : Program} {w : World} {base : Nat} {held : Bool}

theorem spot_none {a : Addr} {v : Value} (h : w.cell? a = some v) : a.spot = none := by
  unfold World.cell? at h
  split at h
  · split at h
    · cases h
    · rename_i hs; simpa using hs
  · cases h

theorem addr_eta {a : Addr} (h : a.spot = none) : a = ⟨a.block, a.off, none⟩ := by cases a; simp at h; subst h; rfl

/-- a slice of integers that came in -/
theorem open_sl_ints {t e : TypeId} {k : IntKind} {r : Reach} {b0 : Nat} {v : Value} {d : DataW H} {ps : List MemPlace} (ht : P.underlying t = some (.slice e)) (he : P.underlying e = some (.int k)) (hc : P.cellsOf e = 1)
    (hval : Value.okWide P w r b0 t v) (h : DataW.Trod enc P w base (fun _ => true) held t v d ps) :
    ∃ (p : Option Addr) (cap : Nat) (zs : List Int), v = .slice p zs.length cap ∧ SlI w k p zs ∧ (∀ n ∈ zs, (Lit.int k n).wf = true) ∧ zs.length ≤ cap ∧ cap ≤ maxLen ∧ (∀ b o, p = some ⟨b, o, none⟩ → zs ≠ [] → b < w.heap.size) := by
  obtain ⟨p, len, cap, rfl⟩ := okWide_slice ht hval
  obtain ⟨fuel, hf⟩ := h
  rcases open_ints ht he hc hf with ⟨h0, _⟩ | ⟨a, l, c, zs, hcs, _, hlc, hm, hl, _, hcell, hwf⟩
  · simp [Value.cells] at h0
    obtain ⟨rfl, rfl, rfl⟩ := h0
    exact ⟨none, 0, [], rfl, SlI.nil _ _ _, by simp, by simp, by simp [maxLen], by simp⟩
  · simp [Value.cells] at hcs
    obtain ⟨rfl, rfl, rfl⟩ := hcs
    simp only [if_true] at hl
    have hlen : (zs.take len).length = len := by simp; omega
    have hget : ∀ i, i < len → wd (zs.take len) i = zs.getD i 0 := by intro i hi; simp [wd, hi]
    have hsp : 0 < len → a.spot = none := fun hp => by
      have := hcell 0 (by omega)
      rw [show a.add 0 = a from rfl] at this
      exact spot_none this
    refine ⟨some a, cap, zs.take len, by rw [hlen], ⟨fun hne => ?_, fun b o e i hi => ?_⟩, fun n hn => hwf n (List.mem_of_mem_take hn), by omega, hm, fun b o e hne => ?_⟩
    · have : 0 < len := by rcases Nat.eq_zero_or_pos len with h0 | h0; subst h0; simp at hne; exact h0
      exact ⟨a.block, a.off, by rw [← addr_eta (hsp this)]⟩
    · rw [hlen] at hi
      rw [hget i hi]
      have := hcell i (by omega)
      simp at e
      rw [e, addr_add] at this
      exact this
    · have : 0 < len := by rcases Nat.eq_zero_or_pos len with h0 | h0; subst h0; simp at hne; exact h0
      have hc0 := hcell 0 (by omega)
      simp at e
      rw [show a.add 0 = a from rfl, e] at hc0
      exact World.block_lt_of_cell? w _ hc0

/-- the reach of a slice among the arguments -/
theorem slice_reach {t e : TypeId} {ts : List TypeId} {ds : List (DataW H)} {j : Nat} {p : Option Addr} {len cap : Nat} {d : DataW H} {ps : List MemPlace} (ht : P.underlying t = some (.slice e)) {w' : World}
    (h : DataW.Trod enc P w' base (fun _ => true) held t (.slice p len cap) d ps) (hw : (DataW.weightsEach P ts ds).all (· ≤ reachBytes) = true) (hj : ts[j]? = some t) (hd : ds[j]? = some d) (n : Nat) (hn : P.bytesOf e = n) : cap * n ≤ 140737488351232 := by
  subst hn
  obtain ⟨fuel, hf⟩ := h
  rcases open_slice ht hf with ⟨h0, _⟩ | ⟨a, l, c, m, _, D, Pl, hcs, _, hlc, hm, hmm, hx, _⟩
  · simp [Value.cells] at h0
    obtain ⟨rfl, rfl, rfl⟩ := h0
    simp
  · simp [Value.cells] at hcs
    obtain ⟨rfl, rfl, rfl⟩ := hcs
    simp only [if_true] at hmm
    subst hmm
    have hd' := (Prod.mk.inj hx).1
    rw [hd'] at hd
    have := sized_slice hw hj hd ht
    simp only [List.length_map, List.length_range, reachBytes] at this
    rw [show len + (m - len) = m by omega] at this
    omega

/-- v is a slice that reads as these cells -/
structure SlV (w : World) (p : Option Addr) (n : Nat) (V : Nat → Value) : Prop where
  ne : 0 < n → ∃ b o, p = some ⟨b, o, none⟩
  cells : ∀ b o, p = some ⟨b, o, none⟩ → ∀ i, i < n → w.cell? ⟨b, o + i, none⟩ = some (V i)

theorem SlV.lt {w : World} {p : Option Addr} {n : Nat} {V : Nat → Value} (h : SlV w p n V) (hn : 0 < n) {b o : Nat} (e : p = some ⟨b, o, none⟩) : b < w.heap.size :=
  World.block_lt_of_cell? w _ (h.cells b o e 0 hn)

theorem SlV.below {w w' : World} {p : Option Addr} {n : Nat} {V : Nat → Value} (h : SlV w p n V) (hu : Below w.heap.size w w') : SlV w' p n V :=
  ⟨h.ne, fun b o e i hi => (hu.cell (p := ⟨b, o + i, none⟩) (h.lt (by omega) e)).trans (h.cells b o e i hi)⟩

theorem SlI.slv {k : IntKind} {p : Option Addr} {zs : List Int} (h : SlI w k p zs) : SlV w p zs.length (fun i => .int k (wd zs i)) :=
  ⟨fun hn => h.ne (List.length_pos_iff.1 hn), h.cells⟩

/-- a slice of bools that came in -/
theorem open_sl_bools {t e : TypeId} {r : Reach} {b0 : Nat} {v : Value} {d : DataW H} {ps : List MemPlace} (ht : P.underlying t = some (.slice e)) (he : P.underlying e = some .bool) (hc : P.cellsOf e = 1)
    (hval : Value.okWide P w r b0 t v) (h : DataW.Trod enc P w base (fun _ => true) held t v d ps) :
    ∃ (p : Option Addr) (n cap : Nat) (B : Nat → Bool), v = .slice p n cap ∧ SlV w p n (fun i => .bool (B i)) ∧ n ≤ cap ∧ cap ≤ maxLen := by
  obtain ⟨p, len, cap, rfl⟩ := okWide_slice ht hval
  obtain ⟨fuel, hf⟩ := h
  rcases open_bools ht he hc hf with ⟨h0, _⟩ | ⟨a, l, c, B, hcs, _, hlc, hm, _, hcell⟩
  · simp [Value.cells] at h0
    obtain ⟨rfl, rfl, rfl⟩ := h0
    exact ⟨none, 0, 0, fun _ => false, rfl, ⟨fun h => absurd h (by simp), fun _ _ e => by simp at e⟩, by simp, by simp [maxLen]⟩
  · simp [Value.cells] at hcs
    obtain ⟨rfl, rfl, rfl⟩ := hcs
    refine ⟨some a, len, cap, B, rfl, ⟨fun hp => ?_, fun b o e i hi => ?_⟩, hlc, hm⟩
    · have := hcell 0 (by omega)
      rw [show a.add 0 = a from rfl] at this
      exact ⟨a.block, a.off, by rw [← addr_eta (spot_none this)]⟩
    · have := hcell i (by omega)
      simp at e
      rw [e, addr_add] at this
      exact this

theorem open_slice_fields {spare : Nat → Bool} {t e : TypeId} {fs : Array Field} {fuel : Nat} {cs : List Value} {x : DataW H × List MemPlace} (ht : P.underlying t = some (.slice e)) (he : P.underlying e = some (.struct fs))
    (hone : oneCellFields P fs = true) (hC : P.cellsOf e = fs.size) (h : DataW.trod enc P w base spare held fuel t cs = some x) :
    (cs = [.slice none 0 0] ∧ x = (.nil, [])) ∨
    ∃ (a : Addr) (len cap m : Nat) (D : Nat → DataW H) (Pl : Nat → List MemPlace), cs = [.slice (some a) len cap] ∧ base ≤ a.block ∧ len ≤ cap ∧ cap ≤ maxLen ∧ m = (if spare a.block then cap else len) ∧
      x = (.slice ((List.range len).map D) ((List.range (m - len)).map fun j => D (len + j)), MemPlace.row a (m * fs.size) ++ (List.range m).flatMap Pl) ∧
      ∀ i, i < m → ∃ (ys : List (DataW H × List MemPlace)) (n : Nat), D i = .agg (ys.map (·.1)) ∧ Pl i = ys.flatMap (·.2) ∧ ys.length = fs.size ∧
        ∀ (j : Nat) (f : Field), fs[j]? = some f → ∃ (v : Value) (y : DataW H × List MemPlace), w.cell? (a.add (i * fs.size + j)) = some v ∧ ys[j]? = some y ∧ DataW.trod enc P w base spare held n f.type [v] = some y := by
  rcases open_slice ht h with h0 | ⟨a, len, cap, m, n, D, Pl, hcs, hb, hl, hm, hmm, hx, hi⟩
  · exact .inl h0
  · refine .inr ⟨a, len, cap, m, D, Pl, hcs, hb, hl, hm, hmm, by rw [hC] at hx; exact hx, fun i him => ?_⟩
    obtain ⟨cs', hc, ht'⟩ := hi i him
    rw [hC] at hc
    obtain ⟨ys, n', hn', hy, hlen, hyl, hf⟩ := DataW.trod_struct he ht'
    obtain ⟨_, hcl, hat⟩ := World.cells?_some hc
    simp only [Prod.mk.injEq] at hy
    refine ⟨ys, n', hy.1, hy.2, hyl, fun j f hj => ?_⟩
    obtain ⟨ho, hk⟩ := hone_of hone j f hj
    have hjl : j < fs.size := (Array.getElem?_eq_some_iff.1 hj).1
    have hcell := hat j hjl
    have hv : cs'[j]? = some (cs'[j]'(by omega)) := List.getElem?_eq_getElem (by omega)
    have h1 := hf j f hj
    rw [ho, hk] at h1
    have hone' : (cs'.drop j).take 1 = [cs'[j]'(by omega)] := by
      rw [List.drop_eq_getElem_cons (by omega)]
      rfl
    rw [hone'] at h1
    have hys : ys[j]? = some (ys[j]'(by omega)) := List.getElem?_eq_getElem (by omega)
    refine ⟨_, _, ?_, hys, h1.trans hys⟩
    rw [← Go.Deep.add_add, hcell, hv]

/-- a slice of structs of one-cell fields that came in: each cell's value is one of its field's type -/
theorem open_sl_structs {t e : TypeId} {fs : Array Field} {r : Reach} {b0 : Nat} {v : Value} {d : DataW H} {ps : List MemPlace} (ht : P.underlying t = some (.slice e)) (he : P.underlying e = some (.struct fs))
    (hone : oneCellFields P fs = true) (hC : P.cellsOf e = fs.size) (hpos : 0 < fs.size)
    (hval : Value.okWide P w r b0 t v) (h : DataW.Trod enc P w base (fun _ => true) held t v d ps) :
    ∃ (p : Option Addr) (n cap : Nat) (V : Nat → Value), v = .slice p n cap ∧ SlV w p (n * fs.size) V ∧ n ≤ cap ∧ cap ≤ maxLen ∧
      ∀ i, i < n → ∀ (j : Nat) (f : Field), fs[j]? = some f → ∃ (m : Nat) (y : DataW H × List MemPlace), DataW.trod enc P w base (fun _ => true) held m f.type [V (i * fs.size + j)] = some y := by
  obtain ⟨p, len, cap, rfl⟩ := okWide_slice ht hval
  obtain ⟨fuel, hf⟩ := h
  rcases open_slice_fields ht he hone hC hf with ⟨h0, _⟩ | ⟨a, l, c, m, D, Pl, hcs, _, hlc, hm, hmm, _, hcell⟩
  · simp [Value.cells] at h0
    obtain ⟨rfl, rfl, rfl⟩ := h0
    exact ⟨none, 0, 0, fun _ => undef, rfl, ⟨fun h => absurd h (by simp), fun _ _ e => by simp at e⟩, by simp, by simp [maxLen], fun i hi => by omega⟩
  · simp [Value.cells] at hcs
    obtain ⟨rfl, rfl, rfl⟩ := hcs
    simp only [if_true] at hmm
    subst hmm
    have hall : ∀ q, q < len * fs.size → ∃ v, w.cell? (a.add q) = some v := by
      intro q hq
      have h1 : q / fs.size < len := Nat.div_lt_of_lt_mul (by rw [Nat.mul_comm]; exact hq)
      have h2 : q % fs.size < fs.size := Nat.mod_lt _ hpos
      obtain ⟨ys, n', _, _, _, hj⟩ := hcell (q / fs.size) (by omega)
      obtain ⟨v, y, hv, _, _⟩ := hj (q % fs.size) fs[q % fs.size] (by simp [h2])
      have e : q / fs.size * fs.size + q % fs.size = q := by rw [Nat.mul_comm]; exact Nat.div_add_mod q fs.size
      rw [e] at hv
      exact ⟨v, hv⟩
    have hsp : ∀ q, q < len * fs.size → w.cell? (a.add q) = some ((w.cell? (a.add q)).getD undef) := by
      intro q hq
      obtain ⟨v, hv⟩ := hall q hq
      rw [hv]; rfl
    refine ⟨some a, len, m, fun q => (w.cell? (a.add q)).getD undef, rfl, ⟨fun hp => ?_, fun b o e i hi => ?_⟩, hlc, hm, fun i hi j f hj => ?_⟩
    · have := hsp 0 hp
      rw [show a.add 0 = a from rfl] at this
      exact ⟨a.block, a.off, by rw [← addr_eta (spot_none this)]⟩
    · have := hsp i hi
      simp at e
      rw [e, addr_add] at this
      simp only [e, addr_add]
      exact this
    · obtain ⟨ys, n', _, _, _, hj'⟩ := hcell i (by omega)
      obtain ⟨v, y, hv, _, hy⟩ := hj' j f hj
      exact ⟨n', y, by simp only [hv, Option.getD_some]; exact hy⟩

end
end Go.Proofs.YtfldpejifpmapaaDoor
set_option linter.unusedSimpArgs false
set_option linter.unusedVariables false
set_option maxRecDepth 100000
namespace Go.Proofs.YtfldpejifpmapaaDoor
open Go.RowKit
open Go.ChangeShapes Go.WideShapes Go.ChangeAt

theorem tab_reads {W : World} (h : Lib.VarReads Tryd.prog W "internal/strconv.uint64pow10" Rows.laid_internal_strconv_uint64pow10) : Tab W := by
  obtain ⟨g, t, cs, fuel, p, hg, ht, hv, hd⟩ := h
  obtain rfl := Option.some.inj ((show Tryd.prog.globalNamed "internal/strconv.uint64pow10" = some 0 by kernel_rfl).symm.trans hg)
  obtain rfl := Option.some.inj ((show (Tryd.prog.globals[0]?).map (·.type) = some 145 by kernel_rfl).symm.trans ht)
  have hd' : DataW.trod (fun _ => ()) Tryd.prog W 0 (fun _ => true) false fuel 145 cs.toList = some (Lib.tabData .u64 Lib.pow10Tab, p) := hd
  unfold Tab Lib.TabIs
  rw [hv, ← Lib.cells_of_tab Tryd.underlying145 Tryd.underlying24 (by kernel_rfl) (by kernel_rfl) hd']

theorem err_reads {W : World} {n : String} {g : Nat} {d : DataW Unit} {name : String} (hg0 : Tryd.prog.globalNamed n = some g) (ht0 : (Tryd.prog.globals[g]?).map (·.type) = some 68)
    (h : Lib.VarReads Tryd.prog W n (.iface name d)) : ∃ tp p, W.var? Tryd.prog n = some #[.iface tp p] := by
  obtain ⟨g, t, cs, fuel, p, hg, ht, hv, hd⟩ := h
  obtain rfl := Option.some.inj (hg0.symm.trans hg)
  obtain rfl := Option.some.inj (ht0.symm.trans ht)
  obtain ⟨_, u, v, hcs, _⟩ := iface_of_trod (ms := _) Tryd.underlying68 hd
  refine ⟨u, v, ?_⟩
  rw [hv]
  congr 1
  apply Array.ext'
  rw [hcs]

theorem max_shaped (w : World) (h : w.ShapedOpen Tryd.prog) : ∃ m, w.cell? ⟨1, 0, none⟩ = some (.int .i64 m) :=
  cell_of_shapedOpen_int (zero := #[.int .i64 0]) (t := 3) h (of_decide_eq_true (by kernel_rfl)) (by kernel_rfl) rfl (by kernel_rfl) (by kernel_rfl) Tryd.underlying3

/-- what every row of this layer lists -/
def Lists (l : List (String × DataW Unit)) : Prop :=
  ("internal/strconv.uint64pow10", Rows.laid_internal_strconv_uint64pow10) ∈ l ∧ ("strconv.ErrRange", Rows.laid_strconv_ErrRange) ∈ l ∧ ("strconv.ErrSyntax", Rows.laid_strconv_ErrSyntax) ∈ l

theorem pre_laid {W : World} {l : List (String × DataW Unit)} (hl : Lists l) (h : laidMet Tryd.prog l W) (hsh : W.ShapedOpen Tryd.prog) : PreE W :=
  ⟨tab_reads (Lib.laidMet.reads h hl.1),
    ⟨err_reads (g := 4) (by kernel_rfl) (by kernel_rfl) (Lib.laidMet.reads h hl.2.2), err_reads (g := 5) (by kernel_rfl) (by kernel_rfl) (Lib.laidMet.reads h hl.2.1)⟩,
    max_shaped W hsh⟩

/-- 'there is an input that fits', at the world that lays all that the row lists -/
theorem witness_card {H : Type} {enc : TypeId × Value → H} {os : Os} {f : FuncId} {fn : Func} {s : OpenSpec} {conds : List PathCond} {laid : List (String × DataW Unit)} (args : Array Value)
    (hsh : ((World.laidAll Tryd.prog os laid).forCall (fun _ _ => 0) ⟨#[], args, []⟩).Shaped Tryd.prog)
    (hok : Input.okWideB Tryd.prog ((World.laidAll Tryd.prog os laid).forCall (fun _ _ => 0) ⟨#[], args, []⟩) f ⟨#[], args, []⟩ = true)
    (hrow : s.preRow enc Tryd.prog fn conds false laid ((World.laidAll Tryd.prog os laid).forCall (fun _ _ => 0) ⟨#[], args, []⟩).memory args) :
    ∃ (w : World) (tape : Tape) (i : Input), w.os = os ∧ (w.forCall tape i).Shaped Tryd.prog ∧ i.vars = [] ∧ Input.okWide Tryd.prog (w.forCall tape i) .any w.heap.size f i ∧
      s.preRow enc Tryd.prog fn conds false laid (w.forCall tape i).memory i.args ∧ ({} : Assume).holds Tryd.prog (lone (Frame.enter Tryd.prog f i.args .normal) [] (w.forCall tape i)) :=
  ⟨World.laidAll Tryd.prog os laid, fun _ _ => 0, ⟨#[], args, []⟩, World.laidAll_os _ _ _, hsh, (Input.okWide_of_okWideB (base := 0) hok).1, (Input.okWide_of_okWideB hok).2, hrow, by
    simp only [Assume.holds]
    exact ⟨by simp, by simp, fun _ => Modest.zero, by simp, by simp⟩⟩
end Go.Proofs.YtfldpejifpmapaaDoor
set_option linter.unusedSimpArgs false
set_option linter.unusedVariables false
set_option maxRecDepth 100000
namespace Go.Proofs.YtfldpejifpmapaaDoor
open Go.RowKit
open Go.ChangeShapes Go.WideShapes Go.ChangeAt
theorem sl_events {H : Type} {enc : TypeId × Value → H} {w : World} {base : Nat} {held : Bool} {p : Option Addr} {n : Nat} {V : Nat → Value} {fs : Array Field} (hfs : Tryd.prog.underlying 27 = some (.struct fs)) (h : SlV w p (n * fs.size) V)
    (hf : ∀ i, i < n → ∀ (j : Nat) (f : Field), fs[j]? = some f → ∃ (m : Nat) (y : DataW H × List MemPlace), DataW.trod enc Tryd.prog w base (fun _ => true) held m f.type [V (i * fs.size + j)] = some y) :
    ∃ L : List Ev, L.length = n ∧ HistAt w p L ∧ wideL L := by
  have he := Option.some.inj (hfs.symm.trans Tryd.underlying27)
  injection he with he
  subst he
  have key : ∀ i, i < n → ∃ x : Ev, (∀ j v, x.cells[j]? = some v → V (i * 6 + j) = v) ∧ x.wide := fun i hi => by
    obtain ⟨_, _, h0⟩ := hf i hi 0 _ rfl
    obtain ⟨_, _, h1⟩ := hf i hi 1 _ rfl
    obtain ⟨_, _, h2⟩ := hf i hi 2 _ rfl
    obtain ⟨_, _, h3⟩ := hf i hi 3 _ rfl
    obtain ⟨_, _, h4⟩ := hf i hi 4 _ rfl
    obtain ⟨_, _, h5⟩ := hf i hi 5 _ rfl
    obtain ⟨z0, g0, _, _⟩ := DataW.trod_int Tryd.underlying3 h0
    obtain ⟨z1, g1, _, _⟩ := DataW.trod_int Tryd.underlying23 h1
    obtain ⟨z2, g2, _, wf2⟩ := DataW.trod_int Tryd.underlying24 h2
    obtain ⟨z3, g3, _, wf3⟩ := DataW.trod_int Tryd.underlying24 h3
    obtain ⟨b4, g4, _⟩ := DataW.trod_bool Tryd.underlying4 h4
    obtain ⟨z5, g5, _, _⟩ := DataW.trod_int Tryd.underlying25 h5
    have hn2 : 0 ≤ z2 ∧ z2 ≤ 18446744073709551615 := by simpa [Lit.wf, IntKind.min, IntKind.max, IntKind.signed, IntKind.bits] using wf2
    have hn3 : 0 ≤ z3 ∧ z3 ≤ 18446744073709551615 := by simpa [Lit.wf, IntKind.min, IntKind.max, IntKind.signed, IntKind.bits] using wf3
    refine ⟨⟨z0, z1, z2, z3, b4, z5⟩, fun j v hj => ?_, ⟨hn2.1, by simp only; omega⟩, hn3.1, by simp only; omega⟩
    have hj6 : j < 6 := by have := (List.getElem?_eq_some_iff.1 hj).1; simpa [Ev.cells] using this
    have : j = 0 ∨ j = 1 ∨ j = 2 ∨ j = 3 ∨ j = 4 ∨ j = 5 := by omega
    rcases this with rfl | rfl | rfl | rfl | rfl | rfl
    · cases hj; exact (List.cons.inj g0).1
    · cases hj; exact (List.cons.inj g1).1
    · cases hj; exact (List.cons.inj g2).1
    · cases hj; exact (List.cons.inj g3).1
    · cases hj; exact (List.cons.inj g4).1
    · cases hj; exact (List.cons.inj g5).1
  have key2 : ∃ F : Nat → Ev, ∀ i, i < n → (∀ j v, (F i).cells[j]? = some v → V (i * 6 + j) = v) ∧ (F i).wide :=
    ⟨fun i => if hi : i < n then (key i hi).choose else zeroE, fun i hi => by simp only [hi, dif_pos]; exact (key i hi).choose_spec⟩
  obtain ⟨F, hF⟩ := key2
  refine ⟨(List.range n).map F, by simp, fun i x hx => ?_, fun x hx => ?_⟩
  · have hin : i < n := by have := (List.getElem?_eq_some_iff.1 hx).1; simpa using this
    rw [List.getElem?_map, List.getElem?_range hin] at hx
    simp only [Option.map_some, Option.some.injEq] at hx
    subst hx
    obtain ⟨b, o, rfl⟩ := h.ne (by show 0 < n * 6; omega)
    have hc : ∀ j v, (F i).cells[j]? = some v → w.cell? ⟨b, o + i * 6 + j, none⟩ = some v := fun j v hj => by
      have hj6 : j < 6 := by have := (List.getElem?_eq_some_iff.1 hj).1; simpa [Ev.cells] using this
      rw [← (hF i hin).1 j v hj, Nat.add_assoc]
      exact h.cells b o rfl (i * 6 + j) (by show i * 6 + j < n * 6; omega)
    exact ⟨b, o, rfl, hc 0 _ rfl, hc 1 _ rfl, hc 2 _ rfl, hc 3 _ rfl, hc 4 _ rfl, hc 5 _ rfl⟩
  · obtain ⟨i, hi, rfl⟩ := List.mem_map.1 hx
    exact (hF i (List.mem_range.1 hi)).2
end Go.Proofs.YtfldpejifpmapaaDoor
set_option linter.unusedSimpArgs false
set_option linter.unusedVariables false
set_option maxRecDepth 100000
namespace Go.Proofs.YtfldpejifpmapaaDoor
open Go.RowKit
open Go.ChangeShapes Go.WideShapes Go.ChangeAt Go.Deep

theorem bulk_one {H : Type} (d : DataW H) : 1 ≤ Rows.uptoBulk d := by
  cases d with
  | lit l => cases l <;> simp [Rows.uptoBulk]
  | nil => simp [Rows.uptoBulk]
  | ptr d => simp [Rows.uptoBulk]
  | slice elems spare => simp [Rows.uptoBulk]
  | agg parts => simp [Rows.uptoBulk]
  | iface t d => simp [Rows.uptoBulk]
  | map entries => simp [Rows.uptoBulk]
  | held h => simp [Rows.uptoBulk]
theorem bulk_len {H : Type} (l : List (DataW H)) : l.length ≤ Rows.uptoBulkAll l := by
  induction l with
  | nil => simp [Rows.uptoBulkAll]
  | cons x r ih => have := bulk_one x; simp only [Rows.uptoBulkAll, List.length_cons]; omega
theorem bulk_slice {H : Type} {enc : TypeId × Value → H} {P : Program} {w : World} {base : Nat} {held : Bool} {t e : TypeId} {p : Option Addr} {len cap : Nat} {d : DataW H} {ps : List MemPlace} (ht : P.underlying t = some (.slice e))
    (h : DataW.Trod enc P w base (fun _ => true) held t (.slice p len cap) d ps) : len ≤ Rows.uptoBulk d := by
  obtain ⟨fuel, hf⟩ := h
  rcases open_slice ht hf with ⟨h0, _⟩ | ⟨a, l, c, m, n, D, Pl, hcs, _, hlc, hm, hmm, hx, _⟩
  · simp [Value.cells] at h0
    omega
  · simp [Value.cells] at hcs
    obtain ⟨rfl, rfl, rfl⟩ := hcs
    rw [(Prod.mk.inj hx).1]
    have := bulk_len ((List.range len).map D)
    simp only [Rows.uptoBulk]
    simp at this
    omega
end Go.Proofs.YtfldpejifpmapaaDoor
set_option linter.unusedSimpArgs false
set_option linter.unusedVariables false
set_option maxRecDepth 100000
namespace Go.Proofs.YtfldpejifpmapaaDoor
open Go.RowKit
open Go.Maps
/-- is the line written as what it was read as? -/
def lineOk (x : Option Ev) (l : List UInt8) : Bool := x.isSome && (decide ((lineO (evO x)).2 = 0) && decide ((lineO (evO x)).1 = l))
/-- the events of a text, up to the first line that is none; is there no such line? -/
def readH : Nat → List UInt8 → List Ev × Bool
  | 0, l => ([], decide (l = []))
  | n + 1, l => if l = [] then ([], true) else if (Lib.cut l [10]).2.2 = true ∧ lineOk (eventL (Lib.cut l [10]).1) (Lib.cut l [10]).1 = true then (evO (eventL (Lib.cut l [10]).1) :: (readH n (Lib.cut l [10]).2.1).1, (readH n (Lib.cut l [10]).2.1).2) else ([], false)
theorem readH_nil (n : Nat) : readH n [] = ([], true) := by cases n <;> rfl
theorem cut_less (l : List UInt8) (h : (Lib.cut l [10]).2.2 = true) (hl : l ≠ []) : (Lib.cut l [10]).2.1.length < l.length := by
  unfold Lib.cut at h ⊢
  have h0 : 0 < l.length := List.length_pos_iff.2 hl
  split at h
  · rename_i hi
    rw [if_pos hi]
    simp only [List.length_drop, List.length_cons, List.length_nil]
    omega
  · cases h
theorem wordsF_lt : ∀ (n : Nat) (l : List UInt8) (ws : List Nat), wordsF n l = some ws → ∀ x ∈ ws, x < 18446744073709551616
  | 0, l, ws, h => by
    unfold wordsF at h
    split at h
    · cases h; simp
    · cases h
  | n + 1, l, ws, h => by
    unfold wordsF at h
    split at h
    · cases h; simp
    · split at h
      · obtain ⟨vs, hv, rfl⟩ := Option.map_eq_some_iff.1 h
        intro x hx
        rcases List.mem_cons.1 hx with rfl | hx
        · exact number_lt l
        · exact wordsF_lt n _ vs hv x hx
      · cases h
theorem wordAt_bd {ws : List Nat} (h : ∀ x ∈ ws, x < 18446744073709551616) (i : Nat) : 0 ≤ wordAt ws i ∧ wordAt ws i < 18446744073709551616 := by
  unfold wordAt
  rw [List.getD_eq_getElem?_getD]
  cases hx : (ws ++ [0, 0])[i]? with
  | none => simp
  | some x =>
    have hm := List.mem_of_getElem? hx
    have : x < 18446744073709551616 := by
      rcases List.mem_append.1 hm with hm | hm
      · exact h x hm
      · simp at hm; omega
    simp only [Option.getD_some]
    omega
theorem ite_bd {p : Prop} [Decidable p] {a b : Int} (ha : 0 ≤ a ∧ a < 18446744073709551616) (hb : 0 ≤ b ∧ b < 18446744073709551616) : 0 ≤ (if p then a else b) ∧ (if p then a else b) < 18446744073709551616 := by
  by_cases h : p
  · rw [if_pos h]; exact ha
  · rw [if_neg h]; exact hb
theorem zero_wide : zeroE.wide := by unfold zeroE Ev.wide; decide
theorem evOf_wide {t : Nat} {own : Bool} {k : Int} {ws : List Nat} (h : ∀ x ∈ ws, x < 18446744073709551616) : (evOf t own k ws).wide :=
  ⟨ite_bd (wordAt_bd h 0) (by decide), ite_bd (wordAt_bd h 1) (ite_bd (wordAt_bd h 0) (by decide))⟩
theorem ev_wide (l : List UInt8) : (evO (eventL l)).wide := by
  unfold eventL
  split
  · cases h : wordsF (Lib.cut (Lib.trimPrefix (numberL l).2.1 [32]) [32]).2.1.length (Lib.cut (Lib.trimPrefix (numberL l).2.1 [32]) [32]).2.1 with
    | none => exact zero_wide
    | some ws => exact evOf_wide (wordsF_lt _ _ _ h)
  · exact zero_wide
theorem info_ev : (Tryd.prog.info? 27).map (fun i => (i.zero, i.size, i.bytes)) = some (some (.agg #[.int .i64 0, .int .i64 0, .int .u64 0, .int .u64 0, .bool false, .int .i64 0]), 6, 48) := by kernel_rfl
/-- one more event -/
theorem app_ev {W : World} {base : Nat} {v : Value} {l : List Ev} (h : W.ownsRow base 27 6 v l.length (l.flatMap Ev.cells)) (x : Ev) (hn : l.length ≤ 1000000000000) (hb : base ≤ W.heap.size) :
    ∃ v' w', (Builtin.append_ #[22, 22] 22 #[v, .slice (some ⟨W.heap.size, 0, none⟩) 1 1]).run Tryd.prog (W.alloc (.cells x.cells.toArray 27)) = .ok v' w' ∧ w'.ownsRow base 27 6 v' (l.length + 1) ((l ++ [x]).flatMap Ev.cells) ∧ Upd v.ownBlock.toList (W.alloc (.cells x.cells.toArray 27)) w' ∧ (v'.ownBlock = v.ownBlock ∨ v'.ownBlock = some (W.heap.size + 1)) := by
  obtain ⟨i0, hi, hz0, hz1, hz2⟩ := info_parts info_ev
  have hW := own_upd h ((Upd.refl [] W).alloc (.cells x.cells.toArray 27)) (by simp)
  obtain ⟨v', w', hr, ho, hg, _, hat⟩ := run_append_own_at (P := Tryd.prog) (W.alloc (.cells x.cells.toArray 27)) base 22 22 27 i0 _ 6 48 Tryd.underlying22 hi hz0 hz1 hz2 rfl (by decide) v l.length _ hW
    ⟨W.heap.size, 0, none⟩ 1 1 x.cells rfl (news_new _ 27 rfl) (by intro u hu; simp [Ev.cells] at hu; rcases hu with rfl | rfl | rfl | rfl | rfl | rfl <;> rfl) (by unfold maxLen; omega) (by omega) (by rw [World.size_alloc]; omega)
  rw [World.size_alloc] at hat
  refine ⟨v', w', hr, ?_, Upd.own hg, hat⟩
  rw [List.flatMap_append, List.flatMap_singleton]
  exact ho
/-- what Parse answers -/
def ParseOk (w : World) (r : List Ev × Bool) (e : Ending) (w' : World) : Prop := Upd [] w w' ∧
  ((r.2 = true ∧ ∃ v, e = .returned (.tuple #[v, .int .i64 (r.1.length : Int), .int .i64 0]) ∧ w'.ownsRow w.heap.size 27 6 v r.1.length (r.1.flatMap Ev.cells)) ∨
   (r.2 = false ∧ e = .returned (.tuple #[.slice none 0 0, .int .i64 (r.1.length : Int), .int .i64 234])))
set_option maxHeartbeats 8000000 in
theorem parse_code (s : ByteArray) (hs : s.size < 4294967281) (w : World) (hP : PreE w) : Calls Tryd.prog 17 #[.string s] w (ParseOk w (readH s.data.toList.length s.data.toList)) := by
  have HP := Lib.hid hP
  obtain ⟨X, hX⟩ : ∃ X, readH s.data.toList.length s.data.toList = X := ⟨_, rfl⟩
  rw [hX]
  have HX := Lib.hid hX
  have HS := Lib.hid hs
  have HS2 := Lib.hid (show s.size = s.data.toList.length from Lib.size_eq s)
  have HSE := Lib.hid (show s = ⟨s.data.toList.toArray⟩ by cases s; simp)
  clear hX hP hs
  obtain ⟨L, hL⟩ : ∃ L, s.data.toList = L := ⟨_, rfl⟩
  rw [hL] at HX HS2 HSE
  have hsE := HSE.out
  subst hsE
  clear hL HSE
  refine calls_all fun K hK => ?_
  go_enter Tryd.func17, Tryd.ntmps17
  go_wp2_with fail
  have HO0 := Lib.hid (show World.ownsRow (w.alloc (.cells #[] 27)) w.heap.size 27 6 (.slice (some ⟨w.heap.size, 0, none⟩) 0 0) ([] : List Ev).length (([] : List Ev).flatMap Ev.cells) from
    ⟨rfl, .inr ⟨w.heap.size, 0, #[], rfl, Nat.le_refl _, heap_alloc_new w (.cells #[] 27), Nat.le_refl _, by unfold maxLen; omega, rfl, rfl⟩⟩)
  have HU0 := Lib.hid (show Upd [] w (w.alloc (.cells #[] 27)) from (Upd.refl _ _).alloc _)
  obtain ⟨v0, hv0⟩ : ∃ v, Value.slice (some ⟨w.heap.size, 0, none⟩) 0 0 = v := ⟨_, rfl⟩
  rw [hv0] at HO0 ⊢
  generalize w.alloc (.cells #[] 27) = W0 at HO0 HU0 ⊢
  clear hv0
  go_loopw [0, 5] (fun q0 q5 wr => ∃ (ρ : List UInt8) (E : List Ev) (fu : Nat), q0 = .string ⟨ρ.toArray⟩ ∧ ρ.length ≤ fu ∧ E.length + ρ.length ≤ L.length ∧ X = (E ++ (readH fu ρ).1, (readH fu ρ).2) ∧ wr.ownsRow w.heap.size 27 6 q5 E.length (E.flatMap Ev.cells) ∧ Upd [] w wr) (fun q0 _ _ => strLen q0)
  case atStart => exact ⟨L, [], L.length, rfl, Nat.le_refl _, by simp, by rw [HX.out]; rfl, HO0.out, HU0.out⟩
  case round =>
    obtain ⟨ρ, E, fu, rfl, h1, h2, h3, ho, hu⟩ := hrel
    obtain ⟨p, c, rfl⟩ := own_form ho
    have H1 := Lib.hid h1
    have H2 := Lib.hid h2
    have H3 := Lib.hid h3
    have HO := Lib.hid ho
    have HU := Lib.hid hu
    clear h1 h2 h3 ho hu HO0 HU0
    by_cases hρ : ρ = []
    · subst hρ
      have HXE := Lib.hid (show X = (E, true) by rw [H3.out, readH_nil]; simp)
      go_wp2_with fail
      rw [HXE.out]
      exact ⟨HU.out, .inl ⟨rfl, _, rfl, HO.out⟩⟩
    · have hne : (ρ == []) = false := by simpa using hρ
      have HW := Lib.hid (show readH fu ρ = if (Lib.cut ρ [10]).2.2 = true ∧ lineOk (eventL (Lib.cut ρ [10]).1) (Lib.cut ρ [10]).1 = true then (evO (eventL (Lib.cut ρ [10]).1) :: (readH (fu - 1) (Lib.cut ρ [10]).2.1).1, (readH (fu - 1) (Lib.cut ρ [10]).2.1).2) else ([], false) by
        cases fu with
        | zero => exact absurd (List.length_eq_zero_iff.1 (Nat.le_zero.1 H1.out)) hρ
        | succ f => rw [readH, if_neg hρ]; rfl)
      have HCUT := Lib.hid (by obtain ⟨m, hm⟩ := (HP.out.upd HU.out).max; exact Tryd.strings_Cut ⟨ρ.toArray⟩ ⟨#[10]⟩ m wr (by have h1 := HS.out; have h2 := HS2.out; have h3 := H2.out; rw [Lib.size_eq]; simp only [List.toList_toArray]; omega) hm)
      simp only [List.toList_toArray] at HCUT
      have HL1 := Lib.hid (cut_len ρ [10])
      have HL2 := Lib.hid (fun h => cut_less ρ h hρ)
      have HPL := Lib.hid (show 0 < ρ.length from List.length_pos_iff.2 hρ)
      generalize Lib.cut ρ [10] = c3 at *
      obtain ⟨ln, rs, fd⟩ := c3
      dsimp only at HW HCUT HL1 HL2
      have HEV := Lib.hid (fun (W : World) (u : Upd [] w W) => event_code ⟨ln.toArray⟩ (by have h1 := HS.out; have h2 := HS2.out; have h3 := H2.out; have h4 := HL1.out.1; rw [Lib.size_eq]; simp only [List.toList_toArray]; omega) W (HP.out.upd u))
      simp only [List.toList_toArray] at HEV
      have HEW := Lib.hid (ev_wide ln)
      generalize eventL ln = x at *
      obtain ⟨y, hy⟩ : ∃ y, evO x = y := ⟨_, rfl⟩
      obtain ⟨ok, hok⟩ : ∃ b, x.isSome = b := ⟨_, rfl⟩
      have HOK := Lib.hid (show lineOk x ln = (ok && (decide ((lineO y).2 = 0) && decide ((lineO y).1 = ln))) by rw [← hy, ← hok]; rfl)
      rw [hy] at HEV HW HEW
      rw [hok] at HEV
      clear hy hok
      have HLN := Lib.hid (fun (W : World) (u : Upd [] w W) => line_code W y HEW.out (HP.out.upd u).tab)
      generalize lineO y = lo at HLN HOK
      obtain ⟨lx, er⟩ := lo
      dsimp only at HLN HOK
      obtain ⟨yth, ykd, yad, ywd, yown, yer⟩ := y
      simp only [Ev.val] at HEV HLN
      go_wp2_with fail
      refine (HCUT.out).mono ?_
      rintro e W3 ⟨rfl, nq, rfl⟩
      have ud : Upd [] wr (wr.drewN nq) := (Upd.refl _ _).drewN _
      have HU4 := Lib.hid (HU.out.trans ud)
      have HO4 := Lib.hid (own_upd HO.out ud (by simp))
      generalize wr.drewN nq = W4 at HU4 HO4 ⊢
      clear ud HU HO HCUT hne hρ
      go_wp2_with fail
      refine (HEV.out _ HU4.out).mono ?_
      rintro e W5 ⟨rfl, u5⟩
      have HU5 := Lib.hid ((HU4.out.trans u5).alloc (.cells #[.int .i64 yth, .int .i64 ykd, .int .u64 yad, .int .u64 ywd, .bool yown, .int .i64 yer] 27))
      have HO5 := Lib.hid (own_upd HO4.out (u5.alloc (.cells #[.int .i64 yth, .int .i64 ykd, .int .u64 yad, .int .u64 ywd, .bool yown, .int .i64 yer] 27)) (by simp))
      have HB5 := Lib.hid (Blk.new W5 [.int .i64 yth, .int .i64 ykd, .int .u64 yad, .int .u64 ywd, .bool yown, .int .i64 yer] 27)
      clear u5 HU4 HO4 HEV
      go_wp2_with fail
      refine (HLN.out _ HU5.out).mono ?_
      rintro e W6 ⟨rfl, u6⟩
      have HU6 := Lib.hid (HU5.out.trans u6)
      have HO6 := Lib.hid (own_upd HO5.out u6 (by simp))
      have HB6 := Lib.hid (HB5.out.upd u6 (by simp))
      clear u6 HU5 HO5 HB5 HLN
      obtain ⟨xb, hxb⟩ : ∃ b, W5.heap.size = b := ⟨_, rfl⟩
      rw [hxb] at HB6 ⊢
      clear hxb
      have x0 := HB6.out.cell 0 rfl
      have x1 := HB6.out.cell 1 rfl
      have x2 := HB6.out.cell 2 rfl
      have x3 := HB6.out.cell 3 rfl
      have x4 := HB6.out.cell 4 rfl
      have x5 := HB6.out.cell 5 rfl
      cases fd with
      | false =>
        have HXB := Lib.hid (show X = (E, false) by rw [H3.out, HW.out, if_neg (fun q => by cases q.1)]; simp)
        clear H3 HW HOK HL2 HO6
        go_wp2_with fail
        rw [HXB.out]
        exact ⟨HU6.out, .inr ⟨rfl, rfl⟩⟩
      | true =>
        cases ok with
        | false =>
          have HXB := Lib.hid (show X = (E, false) by rw [H3.out, HW.out, if_neg (fun q => by have := q.2; rw [HOK.out] at this; cases this)]; simp)
          clear H3 HW HOK HL2 HO6
          go_wp2_with fail
          rw [HXB.out]
          exact ⟨HU6.out, .inr ⟨rfl, rfl⟩⟩
        | true =>
          by_cases her : er = 0
          · by_cases hlx : lx = ln
            · subst hlx
              have hlk : lineOk x lx = true := by rw [HOK.out, decide_eq_true her, decide_eq_true rfl]; rfl
              subst her
              obtain ⟨v', W10, hrun, ho', hu', _⟩ := app_ev HO6.out ⟨yth, ykd, yad, ywd, yown, yer⟩ (by have h1 := HS.out; have h2 := HS2.out; have h3 := H2.out; omega) HU6.out.size
              simp only [Ev.cells] at hrun hu'
              have ua : Upd [] W6 (W6.alloc (.cells #[.int .i64 yth, .int .i64 ykd, .int .u64 yad, .int .u64 ywd, .bool yown, .int .i64 yer] 27)) := (Upd.refl _ _).alloc _
              have HO10 := Lib.hid ho'
              have HU10 := Lib.hid (show Upd [] w W10 from (HU6.out.trans ua).tr (U := []) hu' (by simp) (fun g hg => .inr (own_blocks HO6.out g hg).1))
              have HX3 := Lib.hid (show X = ((E ++ [⟨yth, ykd, yad, ywd, yown, yer⟩]) ++ (readH (fu - 1) rs).1, (readH (fu - 1) rs).2) by rw [H3.out, HW.out, if_pos ⟨rfl, hlk⟩]; simp)
              have HR := Lib.hid (show rs.length < ρ.length from HL2.out rfl)
              obtain ⟨p', c', rfl⟩ := own_form ho'
              clear ho' hu' ua HO6 H3 HW HOK hlk HL2
              go_wp2_with (at_builtin; refine wpList_append_eq rfl _ _ _ _ rfl _ _ _ rfl rfl hrun ?_)
              go_roundw
              case rel => exact ⟨rs, E ++ [⟨yth, ykd, yad, ywd, yown, yer⟩], fu - 1, rfl, by have := HR.out; have := H1.out; omega, by have := HR.out; have := H2.out; rw [List.length_append, List.length_singleton]; omega, HX3.out, by rw [List.length_append, List.length_singleton]; exact HO10.out, HU10.out⟩
              case measure => have h := HR.out; simpa [strLen, Lib.size_eq] using h
            · have HXB := Lib.hid (show X = (E, false) by rw [H3.out, HW.out, if_neg (fun q => by have := q.2; rw [HOK.out, decide_eq_false hlx] at this; simp at this)]; simp)
              have hb1 : (lx == ln) = false := by simpa using hlx
              have hb2 : (lx != ln) = true := by simpa using hlx
              subst her
              clear hlx
              clear H3 HW HOK HL2 HO6
              go_wp2_with fail
              rw [HXB.out]
              exact ⟨HU6.out, .inr ⟨rfl, rfl⟩⟩
          · have HXB := Lib.hid (show X = (E, false) by rw [H3.out, HW.out, if_neg (fun q => by have := q.2; rw [HOK.out, decide_eq_false her] at this; simp at this)]; simp)
            have hb1 : (er == 0) = false := by simpa using her
            have hb2 : (er != 0) = true := by simpa using her
            have hb3 : decide (er = 0) = false := decide_eq_false her
            clear her
            clear H3 HW HOK HL2 HO6
            go_wp2_with fail
            rw [HXB.out]
            exact ⟨HU6.out, .inr ⟨rfl, rfl⟩⟩
end Go.Proofs.YtfldpejifpmapaaDoor
set_option linter.unusedSimpArgs false
set_option linter.unusedVariables false
set_option maxRecDepth 100000
namespace Go.Proofs.YtfldpejifpmapaaDoor
open Go.RowKit
open Go.Maps
def e0 : Ev := ⟨0, 1, 0, 0, false, 0⟩
def secL : List Ev := [e0, ⟨0, 3, 1, 5, false, 0⟩, ⟨0, 2, 1, 5, true, 0⟩, ⟨0, 5, 0, 0, false, 0⟩, ⟨0, 6, 0, 1, false, 0⟩, ⟨1, 1, 0, 2, false, 0⟩]
def secT : List Try := [⟨0, 0, 4, 0, 6, 0, 1⟩, ⟨1, 5, 5, 2, 0, 0, 0⟩]
theorem ek1 : (runE ls0 0 secL).2.2 = 0 := by rfl
theorem ek1b : (runE ls0 0 secL).1.tries = secT := by rfl
theorem ek1c : oddE secL = (-1, 0) := by unfold oddE; rw [if_pos ek1]
theorem ek2 : textO [e0] = ([48, 32, 98, 101, 103, 105, 110, 32, 48, 10], 0) := by kernel_rfl
theorem ek3 : readH 10 [48, 32, 98, 101, 103, 105, 110, 32, 48, 10] = ([e0], true) := by kernel_rfl
theorem ek4 : readH 11 [48, 32, 98, 101, 103, 105, 110, 32, 48, 48, 10] = ([], false) := by kernel_rfl
theorem ev_flat : ∀ (l : List Ev) (i : Nat) (x : Ev) (j : Nat), l[i]? = some x → j < 6 → (l.flatMap Ev.cells)[i * 6 + j]? = x.cells[j]?
  | [], i, x, j, h, _ => by simp at h
  | y :: l, 0, x, j, h, hj => by
    obtain rfl : y = x := by simpa using h
    rw [List.flatMap_cons, List.getElem?_append_left (by simp [Ev.cells]; omega)]
    congr 1
    omega
  | y :: l, i + 1, x, j, h, hj => by
    have hc : y.cells.length = 6 := rfl
    rw [List.flatMap_cons, List.getElem?_append_right (by rw [hc]; omega), hc, show (i + 1) * 6 + j - 6 = i * 6 + j by omega]
    exact ev_flat l i x j (by simpa using h) hj
theorem ev_flat_len (l : List Ev) : (l.flatMap Ev.cells).length = l.length * 6 := by
  induction l with
  | nil => rfl
  | cons a l ih => rw [List.flatMap_cons, List.length_append, ih, List.length_cons]; simp [Ev.cells]; omega
theorem hist_of_blk {w : World} {b : Nat} {l : List Ev} {sp : List Value} (h : Blk w b (l.flatMap Ev.cells ++ sp) 27) : HistAt w (some ⟨b, 0, none⟩) l := by
  intro i x hx
  have hi : i < l.length := by
    rcases Nat.lt_or_ge i l.length with h | h
    · exact h
    · rw [List.getElem?_eq_none h] at hx; cases hx
  have hc : ∀ j, j < 6 → (l.flatMap Ev.cells ++ sp)[i * 6 + j]? = x.cells[j]? := fun j hj => by
    rw [List.getElem?_append_left (by rw [ev_flat_len]; omega)]
    exact ev_flat l i x j hx hj
  have hz : ∀ k, (0 + i * 6 + k) = i * 6 + k := fun k => by omega
  refine ⟨b, 0, rfl, ?_, ?_, ?_, ?_, ?_, ?_⟩
  · have := h.cell (i * 6 + 0) ((hc 0 (by omega)).trans rfl); rwa [Nat.add_zero, ← Nat.zero_add (i * 6)] at this
  · rw [hz]; exact h.cell _ ((hc 1 (by omega)).trans rfl)
  · rw [hz]; exact h.cell _ ((hc 2 (by omega)).trans rfl)
  · rw [hz]; exact h.cell _ ((hc 3 (by omega)).trans rfl)
  · rw [hz]; exact h.cell _ ((hc 4 (by omega)).trans rfl)
  · rw [hz]; exact h.cell _ ((hc 5 (by omega)).trans rfl)
/-- an own row as a block known whole -/
theorem own_openN {w : World} {base : Nat} {e : TypeId} {size n g c : Nat} {us : List Value} (h : w.ownsRow base e size (.slice (some ⟨g, 0, none⟩) n c) n us) : base ≤ g ∧ us.length = n * size ∧ ∃ sp : List Value, Blk w g (us ++ sp) e := by
  obtain ⟨h1, h2⟩ := h
  rcases h2 with ⟨h2, _⟩ | ⟨g', cap, cur, hv, hb, hh, hn, hm, hs, ht⟩
  · cases h2
  · cases hv
    refine ⟨hb, h1, cur.toList.drop (n * size), ?_⟩
    rw [← ht, List.take_append_drop]
    unfold Blk
    simpa using hh
theorem num_code (n : Int) (w : World) : Calls Tryd.prog 15 #[.int .i64 n] w fun e w' => e = .returned (.int .i64 n) ∧ w = w' := by
  refine calls_all fun K hK => ?_
  go_enter Tryd.func15, Tryd.ntmps15
  go_wp2
  all_goals exact ⟨rfl, rfl⟩
theorem second_code (w : World) : Calls Tryd.prog 48 #[] w fun e w' => e = .returned (.slice (some ⟨w.heap.size, 0, none⟩) 6 6) ∧ w' = w.alloc (.cells (secL.flatMap Ev.cells).toArray 27) := by
  refine calls_all fun K hK => ?_
  go_enter Tryd.func48, Tryd.ntmps48
  go_wp2
  all_goals exact ⟨rfl, rfl⟩
theorem sec_wide : wideL secL := by
  intro x hx
  simp only [secL, List.mem_cons, List.not_mem_nil, or_false] at hx
  rcases hx with rfl | rfl | rfl | rfl | rfl | rfl <;> exact ⟨by decide, by decide⟩
set_option maxHeartbeats 4000000 in
theorem known_code (w : World) (hP : PreE w) : Calls Tryd.prog 16 #[] w fun e w' => e = .returned (.bool true) ∧ Upd [] w w' := by
  have HP := Lib.hid hP
  clear hP
  refine calls_all fun K hK => ?_
  go_enter Tryd.func16, Tryd.ntmps16
  go_wp2_with fail
  refine (second_code _).mono ?_
  rintro e W1 ⟨rfl, h1⟩
  have HB1 := Lib.hid (show Blk W1 w.heap.size (secL.flatMap Ev.cells ++ []) 27 by rw [h1, List.append_nil]; exact Blk.new w _ _)
  have HU1 := Lib.hid (show Upd [] w W1 by rw [h1]; exact (Upd.refl _ _).alloc _)
  clear h1
  go_wp2_with fail
  refine (tries_code W1 (some ⟨w.heap.size, 0, none⟩) 6 secL (hist_of_blk HB1.out) (by decide) sec_wide).mono ?_
  rintro e W2 ⟨u2, v, rfl, ho, _⟩
  replace ho := (ho ek1).1
  rw [ek1b, show secT.length = 2 from rfl] at ho
  rw [ek1c]
  obtain ⟨g, c, rfl⟩ := own_some ho (by decide)
  obtain ⟨_, _, sp, hB⟩ := own_openN ho
  have HB2 := Lib.hid hB
  have HU2 := Lib.hid (HU1.out.trans u2)
  clear ho hB u2 HB1 HU1
  go_wp2_with fail
  have HO3 := Lib.hid (Blk.new W2 [.int .i64 (-1), .int .i64 0] 46)
  have HB3 := Lib.hid (HB2.out.alloc (.cells #[.int .i64 (-1), .int .i64 0] 46))
  have HU3 := Lib.hid (HU2.out.alloc (.cells #[.int .i64 (-1), .int .i64 0] 46))
  obtain ⟨ob, hob⟩ : ∃ b, W2.heap.size = b := ⟨_, rfl⟩
  obtain ⟨W3, hW3⟩ : ∃ W, W2.alloc (.cells #[.int .i64 (-1), .int .i64 0] 46) = W := ⟨_, rfl⟩
  rw [hW3] at HB3 HU3 ⊢
  rw [show W2.alloc (.cells [.int .i64 (-1), .int .i64 0].toArray 46) = W3 from hW3, hob] at HO3
  try rw [hob]
  clear hW3 HB2 HU2
  refine (second_code _).mono ?_
  rintro e W4 ⟨rfl, h4⟩
  obtain ⟨sb, hsb⟩ : ∃ b, W3.heap.size = b := ⟨_, rfl⟩
  rw [hsb]
  have HS4 := Lib.hid (show Blk W4 sb ([e0].flatMap Ev.cells ++ (secL.tail.flatMap Ev.cells)) 27 by rw [h4, ← hsb]; exact Blk.new W3 _ _)
  have u4 : Upd [] W3 W4 := by rw [h4]; exact (Upd.refl _ _).alloc _
  have HO4 := Lib.hid (HO3.out.upd u4 (by simp))
  have HB4 := Lib.hid (HB3.out.upd u4 (by simp))
  have HU4 := Lib.hid (HU3.out.trans u4)
  clear h4 hsb u4 HO3 HB3 HU3
  have HTX : Calls Tryd.prog 10 #[.slice (some ⟨sb, 0, none⟩) 1 6] W4 _ := text_code W4 (some ⟨sb, 0, none⟩) 6 [e0] (hist_of_blk HS4.out) (by decide) (fun x hx => sec_wide x (by simp at hx; subst hx; simp [secL])) (HP.out.upd HU4.out).tab
  rw [ek2] at HTX
  go_wp2_with fail
  refine HTX.mono ?_
  rintro e W5 ⟨rfl, u5⟩
  have HO5 := Lib.hid (HO4.out.upd u5 (by simp))
  have HB5 := Lib.hid (HB4.out.upd u5 (by simp))
  have HU5 := Lib.hid (HU4.out.trans u5)
  clear u5 HO4 HB4 HU4 HS4 HTX
  have HP5 := parse_code ⟨#[48, 32, 98, 101, 103, 105, 110, 32, 48, 10]⟩ (by decide) W5 (HP.out.upd HU5.out)
  rw [show readH (⟨#[48, 32, 98, 101, 103, 105, 110, 32, 48, 10]⟩ : ByteArray).data.toList.length (⟨#[48, 32, 98, 101, 103, 105, 110, 32, 48, 10]⟩ : ByteArray).data.toList = ([e0], true) from ek3] at HP5
  go_wp2_with fail
  refine HP5.mono ?_
  rintro e W6 ⟨u6, ⟨_, v6, rfl, ho6⟩ | ⟨h6, _⟩⟩
  case inr => cases h6
  have HO6 := Lib.hid (HO5.out.upd u6 (by simp))
  have HB6 := Lib.hid (HB5.out.upd u6 (by simp))
  have HU6 := Lib.hid (HU5.out.trans u6)
  rw [show ([e0] : List Ev).length = 1 from rfl] at ho6 ⊢
  obtain ⟨g6, c6, rfl⟩ := own_some ho6 (by decide)
  clear u6 ho6 HO5 HB5 HU5 HP5
  have HP6 := parse_code ⟨#[48, 32, 98, 101, 103, 105, 110, 32, 48, 48, 10]⟩ (by decide) W6 (HP.out.upd HU6.out)
  rw [show readH (⟨#[48, 32, 98, 101, 103, 105, 110, 32, 48, 48, 10]⟩ : ByteArray).data.toList.length (⟨#[48, 32, 98, 101, 103, 105, 110, 32, 48, 48, 10]⟩ : ByteArray).data.toList = ([], false) from ek4] at HP6
  go_wp2_with fail
  refine HP6.mono ?_
  rintro e W7 ⟨u7, ⟨h7, _⟩ | ⟨_, rfl⟩⟩
  case inl => cases h7
  have HO7 := Lib.hid (HO6.out.upd u7 (by simp))
  have HB7 := Lib.hid (HB6.out.upd u7 (by simp))
  have HU7 := Lib.hid (HU6.out.trans u7)
  rw [show ([] : List Ev).length = 0 from rfl]
  clear u7 HO6 HB6 HU6 HP6
  have o0 := HO7.out.cell 0 rfl
  have o1 := HO7.out.cell 1 rfl
  have t0 := HB7.out.cell 0 rfl
  have t1 := HB7.out.cell 1 rfl
  have t2 := HB7.out.cell 2 rfl
  have t3 := HB7.out.cell 3 rfl
  have t4 := HB7.out.cell 4 rfl
  have t5 := HB7.out.cell 5 rfl
  have t6 := HB7.out.cell 6 rfl
  have t7 := HB7.out.cell 7 rfl
  have t8 := HB7.out.cell 8 rfl
  have t9 := HB7.out.cell 9 rfl
  have t10 := HB7.out.cell 10 rfl
  have t11 := HB7.out.cell 11 rfl
  have t12 := HB7.out.cell 12 rfl
  have t13 := HB7.out.cell 13 rfl
  go_wp2_with fail
  refine (num_code 0 _).mono ?_
  rintro e W8 ⟨rfl, rfl⟩
  go_wp2_with fail
  refine (num_code 0 _).mono ?_
  rintro e W8 ⟨rfl, rfl⟩
  go_wp2_with fail
  refine (num_code 234 _).mono ?_
  rintro e W8 ⟨rfl, rfl⟩
  go_wp2_with fail
  exact ⟨rfl, HU7.out⟩
end Go.Proofs.YtfldpejifpmapaaDoor
set_option linter.unusedSimpArgs false
set_option linter.unusedVariables false
set_option maxRecDepth 100000
namespace Go.Proofs.YtfldpejifpmapaaDoor
open Go.RowKit
/-- states that only the attempts' ends tell apart -/
structure Like (S T : LS) : Prop where
  ths : S.ths = T.ths
  num : S.num = T.num
  holder : S.holder = T.holder
  len : S.tries.length = T.tries.length
theorem take_len (S : LS) (i : Nat) (e : Ev) : (takeE S i e).tries.length = if e.kd = 1 then S.tries.length + 1 else S.tries.length := by
  unfold takeE
  dsimp only
  split <;> split <;> simp
theorem like_wrong {S T : LS} (h : Like S T) (e : Ev) : wrongE S e = wrongE T e := by
  unfold wrongE wordOk
  rw [h.ths, h.num, h.holder]
theorem like_take {S T : LS} (h : Like S T) (e : Ev) (i j : Nat) : Like (takeE S i e) (takeE T j e) :=
  ⟨by unfold takeE; dsimp only; rw [h.ths, h.len], by unfold takeE; dsimp only; rw [h.ths, h.num], by unfold takeE; dsimp only; rw [h.ths, h.holder], by rw [take_len, take_len, h.len]⟩
theorem like_run {S T : LS} (l : List Ev) (h : Like S T) (i j : Nat) : (runE S i l).2.2 = (runE T j l).2.2 := by
  induction l generalizing S T i j with
  | nil => rfl
  | cons e l ih =>
    rw [runE, runE, like_wrong h e]
    by_cases hw : wrongE T e = 0
    · rw [if_pos hw, if_pos hw]
      exact ih (like_take h e i j) _ _
    · rw [if_neg hw, if_neg hw]
/-- has it to do with the clock? -/
def clockK (k : Int) : Bool := k == 1 || k == 4 || k == 5 || k == 6
theorem clock_ne {k : Int} (h : clockK k = false) : k ≠ 1 ∧ k ≠ 4 ∧ k ≠ 5 ∧ k ≠ 6 := by
  simp only [clockK, Bool.or_eq_false_iff, beq_eq_false_iff_ne] at h
  exact ⟨h.1.1.1, h.1.1.2, h.1.2, h.2⟩
theorem wrong_unformed {S : LS} {e : Ev} (h : formE e = false) : wrongE S e = 201 := by unfold wrongE; rw [if_pos h]
theorem wrong_other {S : LS} {a b : Ev} {i : Nat} (ha : clockK a.kd = false) (hne : b.th.toNat ≠ a.th.toNat) : wrongE (takeE S i a) b = wrongE S b := by
  obtain ⟨h1, h4, h5, h6⟩ := clock_ne ha
  have e1 : (takeE S i a).ths b.th.toNat = S.ths b.th.toNat := by unfold takeE updT; dsimp only; rw [if_neg hne]
  have e2 : (takeE S i a).num = S.num := by unfold takeE; dsimp only; rw [if_neg (fun q => h6 q.1)]
  have e3 : (takeE S i a).holder = S.holder := by unfold takeE; dsimp only; rw [if_neg h5, if_neg (fun q => h6 q.1)]
  unfold wrongE wordOk
  rw [e1, e2, e3]
theorem take_swap {S : LS} {a b : Ev} {i j k m : Nat} (ha : clockK a.kd = false) (hb : clockK b.kd = false) (hne : b.th.toNat ≠ a.th.toNat) : Like (takeE (takeE S i a) j b) (takeE (takeE S k b) m a) := by
  obtain ⟨h1, h4, h5, h6⟩ := clock_ne ha
  obtain ⟨k1, k4, k5, k6⟩ := clock_ne hb
  refine ⟨?_, ?_, ?_, ?_⟩
  · funext t
    unfold takeE updT thNext
    dsimp only
    simp only [h1, h4, h5, h6, k1, k4, k5, k6, false_or, false_and, if_false, hne, hne.symm]
    by_cases e1 : t = b.th.toNat
    · subst e1
      simp [hne]
    · by_cases e2 : t = a.th.toNat
      · subst e2
        simp [hne.symm, e1]
      · simp [e1, e2]
  · unfold takeE
    dsimp only
    simp only [h6, k6, false_and, if_false]
  · unfold takeE
    dsimp only
    simp only [h5, h6, k5, k6, false_and, if_false]
  · simp only [take_len, h1, k1, if_false]
theorem swap_two {S : LS} {a b : Ev} {i : Nat} {l : List Ev} (hth : a.th ≠ b.th) (ha : clockK a.kd = false) (hb : clockK b.kd = false) : (runE S i (a :: b :: l)).2.2 = 0 ↔ (runE S i (b :: a :: l)).2.2 = 0 := by
  cases fa : formE a with
  | false =>
    have w1 : ∀ T, wrongE T a ≠ 0 := fun T => by rw [wrong_unformed fa]; decide
    constructor
    · intro h
      rw [runE, if_neg (w1 S)] at h
      exact absurd h (w1 S)
    · intro h
      rw [runE] at h
      split at h
      · rw [runE, if_neg (w1 _)] at h
        exact absurd h (w1 _)
      · rename_i h2; exact absurd h h2
  | true =>
    cases fb : formE b with
    | false =>
      have w1 : ∀ T, wrongE T b ≠ 0 := fun T => by rw [wrong_unformed fb]; decide
      constructor
      · intro h
        rw [runE] at h
        split at h
        · rw [runE, if_neg (w1 _)] at h
          exact absurd h (w1 _)
        · rename_i h2; exact absurd h h2
      · intro h
        rw [runE, if_neg (w1 S)] at h
        exact absurd h (w1 S)
    | true =>
      have f1 := (formE_c fa).1
      have f2 := (formE_c fb).1
      have hne : b.th.toNat ≠ a.th.toNat := by omega
      by_cases wa : wrongE S a = 0
      · by_cases wb : wrongE S b = 0
        · rw [runE, if_pos wa, runE, wrong_other ha hne, if_pos wb, runE, if_pos wb, runE, wrong_other hb hne.symm, if_pos wa]
          rw [like_run l (take_swap ha hb hne) _ (i + 1 + 1)]
        · constructor
          · intro h
            rw [runE, if_pos wa, runE, wrong_other ha hne, if_neg wb] at h
            exact absurd h wb
          · intro h
            rw [runE, if_neg wb] at h
            exact absurd h wb
      · constructor
        · intro h
          rw [runE, if_neg wa] at h
          exact absurd h wa
        · intro h
          rw [runE] at h
          split at h
          · rw [runE, wrong_other hb hne.symm, if_neg wa] at h
            exact absurd h wa
          · rename_i h2; exact absurd h h2
theorem swap_run {a b : Ev} (p q : List Ev) (hth : a.th ≠ b.th) (ha : clockK a.kd = false) (hb : clockK b.kd = false) : ∀ (S : LS) (i : Nat), (runE S i (p ++ a :: b :: q)).2.2 = 0 ↔ (runE S i (p ++ b :: a :: q)).2.2 = 0 := by
  induction p with
  | nil => exact fun S i => swap_two hth ha hb
  | cons x p ih =>
    intro S i
    rw [List.cons_append, List.cons_append, runE, runE]
    split
    · exact ih _ _
    · exact Iff.rfl
theorem odd_swap {a b : Ev} (p q : List Ev) (hth : a.th ≠ b.th) (ha : clockK a.kd = false) (hb : clockK b.kd = false) : (oddE (p ++ a :: b :: q)).2 = 0 ↔ (oddE (p ++ b :: a :: q)).2 = 0 := by
  have hz : ∀ h, (oddE h).2 = 0 ↔ (runE ls0 0 h).2.2 = 0 := fun h => by
    unfold oddE
    by_cases k : (runE ls0 0 h).2.2 = 0
    · rw [if_pos k]; simp [k]
    · rw [if_neg k]
  rw [hz, hz]
  exact swap_run p q hth ha hb ls0 0
end Go.Proofs.YtfldpejifpmapaaDoor
set_option linter.unusedSimpArgs false
set_option linter.unusedVariables false
set_option maxRecDepth 100000
namespace Go.Proofs.YtfldpejifpmapaaDoor
open Go.RowKit
open Go.Maps
theorem clock_code (k : Int) (w : World) : Calls Tryd.prog 22 #[.int .i64 k] w fun e w' => e = .returned (.bool (clockK k)) ∧ w = w' := by
  unfold clockK
  refine calls_all fun K hK => ?_
  go_enter Tryd.func22, Tryd.ntmps22
  by_cases h1 : k = 1
  · subst h1
    go_wp2
    all_goals exact ⟨rfl, rfl⟩
  · have g1 : (k == 1) = false := by simpa using h1
    by_cases h4 : k = 4
    · subst h4
      go_wp2
      all_goals exact ⟨rfl, rfl⟩
    · have g4 : (k == 4) = false := by simpa using h4
      by_cases h5 : k = 5
      · subst h5
        go_wp2
        all_goals exact ⟨rfl, rfl⟩
      · have g5 : (k == 5) = false := by simpa using h5
        clear h1 h4 h5
        go_wp2
        all_goals exact ⟨by simp [g1, g4, g5], rfl⟩
/-- what a history's slice holds, cell by cell -/
theorem hist_src {w : World} {b o : Nat} {l : List Ev} (h : HistAt w (some ⟨b, o, none⟩) l) : ∀ j u, (l.flatMap Ev.cells)[j]? = some u → w.cell? ((⟨b, o, none⟩ : Addr).add j) = some u := by
  intro j u hj
  have hlt : j < l.length * 6 := by
    have := (List.getElem?_eq_some_iff.1 hj).1
    rwa [ev_flat_len] at this
  obtain ⟨i, r, hr, rfl⟩ : ∃ i r, r < 6 ∧ j = i * 6 + r := ⟨j / 6, j % 6, Nat.mod_lt _ (by omega), by omega⟩
  have hi : i < l.length := by omega
  rw [ev_flat l i l[i] r (List.getElem?_eq_getElem hi) hr] at hj
  obtain ⟨b', o', e, h0, h1, h2, h3, h4, h5⟩ := h i l[i] (List.getElem?_eq_getElem hi)
  cases e
  rw [addr_add, ← Nat.add_assoc]
  have hc : r = 0 ∨ r = 1 ∨ r = 2 ∨ r = 3 ∨ r = 4 ∨ r = 5 := by omega
  rcases hc with rfl | rfl | rfl | rfl | rfl | rfl
  · cases hj; exact h0
  · cases hj; exact h1
  · cases hj; exact h2
  · cases hj; exact h3
  · cases hj; exact h4
  · cases hj; exact h5
/-- a copy of a history in new memory -/
theorem app_hist {W : World} {b o : Nat} (l : List Ev) (cap : Nat) (hn : 1 ≤ l.length) (hm : l.length ≤ 2000000) (h : HistAt W (some ⟨b, o, none⟩) l) :
    ∃ g c sp w', (Builtin.append_ #[22, 22] 22 #[.slice none 0 0, .slice (some ⟨b, o, none⟩) l.length cap]).run Tryd.prog W = .ok (.slice (some ⟨g, 0, none⟩) l.length c) w' ∧ Blk w' g (l.flatMap Ev.cells ++ sp) 27 ∧ W.heap.size ≤ g ∧ Upd [] W w' := by
  obtain ⟨i0, hi, hz0, hz1, hz2⟩ := info_parts info_ev
  obtain ⟨v', w', hr, ho, hg, _, _⟩ := run_append_own_at (P := Tryd.prog) (w := W) W.heap.size 22 22 27 i0 _ 6 48 Tryd.underlying22 hi hz0 hz1 hz2 rfl (by decide)
    (.slice none 0 0) 0 [] ⟨rfl, .inl ⟨rfl, rfl⟩⟩ ⟨b, o, none⟩ l.length cap (l.flatMap Ev.cells) (ev_flat_len l) (hist_src h) (by
      intro u hu
      obtain ⟨x, _, hx⟩ := List.mem_flatMap.1 hu
      simp [Ev.cells] at hx
      rcases hx with rfl | rfl | rfl | rfl | rfl | rfl <;> rfl) (by unfold maxLen; omega) (by omega) (Nat.le_refl _)
  rw [Nat.zero_add, List.nil_append] at ho
  obtain ⟨g, c, rfl⟩ := own_some ho hn
  obtain ⟨hb, _, sp, hB⟩ := own_openN ho
  exact ⟨g, c, sp, w', hr, hB, hb, Upd.of_grown hg (fun k e => by simp [Value.ownBlock] at e)⟩
def TwoAt (b o k k1 : Nat) (x y : Ev) (W : World) : Prop := (W.cell? ⟨b, o + k * 6, none⟩ = some (.int .i64 x.th) ∧ W.cell? ⟨b, o + k * 6 + 1, none⟩ = some (.int .i64 x.kd) ∧ W.cell? ⟨b, o + k * 6 + 2, none⟩ = some (.int .u64 x.ad) ∧ W.cell? ⟨b, o + k * 6 + 3, none⟩ = some (.int .u64 x.wd) ∧ W.cell? ⟨b, o + k * 6 + 4, none⟩ = some (.bool x.own) ∧ W.cell? ⟨b, o + k * 6 + 5, none⟩ = some (.int .i64 x.er)) ∧
  (W.cell? ⟨b, o + k1 * 6, none⟩ = some (.int .i64 y.th) ∧ W.cell? ⟨b, o + k1 * 6 + 1, none⟩ = some (.int .i64 y.kd) ∧ W.cell? ⟨b, o + k1 * 6 + 2, none⟩ = some (.int .u64 y.ad) ∧ W.cell? ⟨b, o + k1 * 6 + 3, none⟩ = some (.int .u64 y.wd) ∧ W.cell? ⟨b, o + k1 * 6 + 4, none⟩ = some (.bool y.own) ∧ W.cell? ⟨b, o + k1 * 6 + 5, none⟩ = some (.int .i64 y.er))
theorem TwoAt.upd {b o k k1 : Nat} {x y : Ev} {W W' : World} {S : List Nat} (h : TwoAt b o k k1 x y W) (u : Upd S W W') (hb : b ∉ S) : TwoAt b o k k1 x y W' := by
  obtain ⟨⟨h0, h1, h2, h3, h4, h5⟩, g0, g1, g2, g3, g4, g5⟩ := h
  exact ⟨⟨u.cell hb h0, u.cell hb h1, u.cell hb h2, u.cell hb h3, u.cell hb h4, u.cell hb h5⟩, u.cell hb g0, u.cell hb g1, u.cell hb g2, u.cell hb g3, u.cell hb g4, u.cell hb g5⟩
def zeroV : List Value := [.int .i64 0, .int .i64 0, .int .u64 0, .int .u64 0, .bool false, .int .i64 0]
def put6 (W : World) (p : Nat) (x : Ev) : World := ((((((W.setCell ⟨p, 0, none⟩ (.int .i64 x.th)).setCell ⟨p, 1, none⟩ (.int .i64 x.kd)).setCell ⟨p, 2, none⟩ (.int .u64 x.ad)).setCell ⟨p, 3, none⟩ (.int .u64 x.wd)).setCell ⟨p, 4, none⟩ (.bool x.own)).setCell ⟨p, 5, none⟩ (.int .i64 x.er))
theorem put6_blk {W : World} {p : Nat} (x : Ev) (h : Blk W p zeroV 27) : Blk (put6 W p x) p x.cells 27 := (((((h.set 0 _).set 1 _).set 2 _).set 3 _).set 4 _).set 5 _
theorem put6_upd (W : World) (p : Nat) (x : Ev) : Upd [p] W (put6 W p x) := ((((((Upd.refl [p] W).setCell (.inl (by simp)) _).setCell (.inl (by simp)) _).setCell (.inl (by simp)) _).setCell (.inl (by simp)) _).setCell (.inl (by simp)) _).setCell (.inl (by simp)) _
-- both blocks are made, then written: A B: which comes first
def setE (L : List Value) (n : Nat) (x : Ev) : List Value := (((((L.set n (.int .i64 x.th)).set (n + 1) (.int .i64 x.kd)).set (n + 2) (.int .u64 x.ad)).set (n + 3) (.int .u64 x.wd)).set (n + 4) (.bool x.own)).set (n + 5) (.int .i64 x.er)
theorem setE_at : ∀ (l : List Ev) (sp : List Value) (i : Nat) (x : Ev), i < l.length → setE (l.flatMap Ev.cells ++ sp) (i * 6) x = (l.set i x).flatMap Ev.cells ++ sp
  | [], _, _, _, h => by simp at h
  | y :: l, sp, 0, x, _ => rfl
  | y :: l, sp, i + 1, x, h => by
    have ih := setE_at l sp i x (by simpa using h)
    unfold setE at ih ⊢
    have hs : ∀ (R : List Value) (j : Nat) (v : Value), (y.cells ++ R).set ((i + 1) * 6 + j) v = y.cells ++ R.set (i * 6 + j) v := fun R j v => by
      have hc : y.cells.length = 6 := rfl
      rw [List.set_append_right _ _ (by rw [hc]; omega), hc, show (i + 1) * 6 + j - 6 = i * 6 + j by omega]
    have hs0 : ∀ (R : List Value) (v : Value), (y.cells ++ R).set ((i + 1) * 6) v = y.cells ++ R.set (i * 6) v := fun R v => hs R 0 v
    rw [List.flatMap_cons, List.append_assoc, hs0, hs, hs, hs, hs, hs, ih, List.set_cons_succ, List.flatMap_cons, List.append_assoc]
def putE (W : World) (g n : Nat) (x : Ev) : World := (((((W.setCell ⟨g, n, none⟩ (.int .i64 x.th)).setCell ⟨g, n + 1, none⟩ (.int .i64 x.kd)).setCell ⟨g, n + 2, none⟩ (.int .u64 x.ad)).setCell ⟨g, n + 3, none⟩ (.int .u64 x.wd)).setCell ⟨g, n + 4, none⟩ (.bool x.own)).setCell ⟨g, n + 5, none⟩ (.int .i64 x.er)
theorem putE_blk {W : World} {g i : Nat} {l : List Ev} {sp : List Value} (x : Ev) (hi : i < l.length) (h : Blk W g (l.flatMap Ev.cells ++ sp) 27) : Blk (putE W g (i * 6) x) g ((l.set i x).flatMap Ev.cells ++ sp) 27 := by
  rw [← setE_at l sp i x hi]
  exact (((((h.set (i * 6) _).set (i * 6 + 1) _).set (i * 6 + 2) _).set (i * 6 + 3) _).set (i * 6 + 4) _).set (i * 6 + 5) _
theorem putE_upd (W : World) (g n : Nat) (x : Ev) : Upd [g] W (putE W g n x) := ((((((Upd.refl [g] W).setCell (.inl (by simp)) _).setCell (.inl (by simp)) _).setCell (.inl (by simp)) _).setCell (.inl (by simp)) _).setCell (.inl (by simp)) _).setCell (.inl (by simp)) _
-- the cells at place N of g
theorem swap_list {l : List Ev} {k : Nat} {x y : Ev} (hx : l[k]? = some x) (hy : l[k + 1]? = some y) : ∃ p q, l = p ++ x :: y :: q ∧ (l.set k y).set (k + 1) x = p ++ y :: x :: q := by
  obtain ⟨h1, e1⟩ := List.getElem?_eq_some_iff.1 hx
  obtain ⟨h2, e2⟩ := List.getElem?_eq_some_iff.1 hy
  have hl : l = l.take k ++ x :: y :: l.drop (k + 2) := by
    have a1 := List.drop_eq_getElem_cons h1
    have a2 := List.drop_eq_getElem_cons h2
    rw [e1] at a1
    rw [e2] at a2
    rw [← a2, ← a1, List.take_append_drop]
  have hp : (l.take k).length = k := by rw [List.length_take]; omega
  generalize l.take k = p at hl hp
  generalize l.drop (k + 2) = q at hl
  refine ⟨p, q, hl, ?_⟩
  subst hp
  rw [hl, List.set_append_right _ _ (Nat.le_refl _), Nat.sub_self, List.set_cons_zero, List.set_append_right _ _ (by omega), show p.length + 1 - p.length = 1 by omega]
  rfl
theorem wide_set {l : List Ev} {x : Ev} (k : Nat) (h : wideL l) (hx : x.wide) : wideL (l.set k x) := fun y hy => by
  rcases List.mem_or_eq_of_mem_set hy with h1 | rfl
  · exact h y h1
  · exact hx
theorem odd_field (a b : Int) (w : World) : (Instr.field 46 (.agg #[.int .i64 a, .int .i64 b]) 1).run Tryd.prog w = .ok (.int .i64 b) w := by
  first
    | kernel_rfl
    | (unfold Instr.field; go_simp)
    | rfl
def PQAt (p q : Nat) (x y : Ev) (W : World) : Prop := (W.cell? ⟨p, 0, none⟩ = some (.int .i64 x.th) ∧ W.cell? ⟨p, 1, none⟩ = some (.int .i64 x.kd) ∧ W.cell? ⟨p, 2, none⟩ = some (.int .u64 x.ad) ∧ W.cell? ⟨p, 3, none⟩ = some (.int .u64 x.wd) ∧ W.cell? ⟨p, 4, none⟩ = some (.bool x.own) ∧ W.cell? ⟨p, 5, none⟩ = some (.int .i64 x.er)) ∧
  (W.cell? ⟨q, 0, none⟩ = some (.int .i64 y.th) ∧ W.cell? ⟨q, 1, none⟩ = some (.int .i64 y.kd) ∧ W.cell? ⟨q, 2, none⟩ = some (.int .u64 y.ad) ∧ W.cell? ⟨q, 3, none⟩ = some (.int .u64 y.wd) ∧ W.cell? ⟨q, 4, none⟩ = some (.bool y.own) ∧ W.cell? ⟨q, 5, none⟩ = some (.int .i64 y.er))
theorem PQAt.mk {p q : Nat} {x y : Ev} {W : World} (h : Blk W p x.cells 27) (k : Blk W q y.cells 27) : PQAt p q x y W :=
  ⟨⟨h.cell 0 rfl, h.cell 1 rfl, h.cell 2 rfl, h.cell 3 rfl, h.cell 4 rfl, h.cell 5 rfl⟩, k.cell 0 rfl, k.cell 1 rfl, k.cell 2 rfl, k.cell 3 rfl, k.cell 4 rfl, k.cell 5 rfl⟩
set_option maxHeartbeats 8000000 in
theorem eventsSwaps_walk (w : World) (po : Option Addr) (cap : Nat) (l : List Ev) (at_ : Int) (hH : HistAt w po l) (hl : l.length ≤ 2000000) (hw : wideL l) (hP : PreE w) (ha : -9223372036854775808 ≤ at_ ∧ at_ ≤ 9223372036854775807) : Calls Tryd.prog 7 #[.slice po l.length cap, .int .i64 at_] w fun e w' => e = .returned (.bool true) ∧ Upd [] w w' := by
  have HP := Lib.hid hP
  have HW := Lib.hid hw
  have HH := Lib.hid hH
  clear hP hw hH
  obtain ⟨N, hN⟩ : ∃ N, l.length = N := ⟨_, rfl⟩
  have HN := Lib.hid hN
  rw [hN] at hl ⊢
  clear hN
  refine calls_all fun K hK => ?_
  go_enter Tryd.func7, Tryd.ntmps7
  go_upto_region 1 with fail
  by_cases h2 : N < 2
  · have h2' : (N : Int) < 2 := by omega
    go_wp2_with (go_at_call 16; refine (known_code _ HP.out).mono ?_; rintro e W1 ⟨rfl, u1⟩)
    refine (known_code _ (HP.out.upd u1)).mono ?_
    rintro e W2 ⟨rfl, u2⟩
    go_wp2_with fail
    exact ⟨rfl, u1.trans u2⟩
  · have h2' : ¬ (N : Int) < 2 := by omega
    go_upto_if 23 with (go_at_call 16; refine (known_code _ HP.out).mono ?_; rintro e W1 ⟨rfl, u1⟩)
    obtain ⟨t, ht⟩ : ∃ t, at_.tmod ((N : Int) - 1) = t := ⟨_, rfl⟩
    have ht1 := Int.lt_tmod_of_pos at_ (b := (N : Int) - 1) (by omega)
    have ht2 := Int.tmod_lt_of_pos at_ (b := (N : Int) - 1) (by omega)
    rw [ht] at ht1 ht2 ⊢
    clear ht ha
    obtain ⟨k, hk, hk2⟩ : ∃ k : Nat, (k : Int) = (if t < 0 then t + N - 1 else t) ∧ k + 2 ≤ N := by
      by_cases h : t < 0
      · rw [if_pos h]; exact ⟨(t + N - 1).toNat, by omega, by omega⟩
      · rw [if_neg h]; exact ⟨t.toNat, by omega, by omega⟩
    go_cut [5] from 24 to 28 (fun v5 wx => v5 = .int .i64 (k : Int) ∧ wx = W1)
    case first =>
      by_cases h : t < 0
      · rw [if_pos h] at hk
        have hk' : t + (N : Int) - 1 = k := hk.symm
        clear hk
        go_wp2_with fail
        go_meet
        exact ⟨by rw [← hk'], rfl⟩
      · rw [if_neg h] at hk
        subst hk
        go_wp2_with fail
        go_meet
        exact ⟨rfl, rfl⟩
    case rest =>
      obtain ⟨rfl, rfl⟩ := hcut
      obtain ⟨W1, rfl⟩ : ∃ W, W = wc := ⟨wc, rfl⟩
      clear hk ht1 ht2
      have HU1 := Lib.hid u1
      have HH1 := Lib.hid (HH.out.upd0 u1)
      clear u1 HH
      go_upto_region 6 with fail
      have hkl : k < l.length := by have := HN.out; omega
      have hkl2 : k + 1 < l.length := by have := HN.out; omega
      obtain ⟨k1, hk1⟩ : ∃ j, k + 1 = j := ⟨_, rfl⟩
      rw [hk1] at hkl2
      obtain ⟨x, hx⟩ : ∃ x, l[k]? = some x := ⟨_, List.getElem?_eq_getElem hkl⟩
      obtain ⟨y, hy⟩ : ∃ y, l[k1]? = some y := ⟨_, List.getElem?_eq_getElem hkl2⟩
      obtain ⟨b, o, hpo, x0, x1, x2, x3, x4, x5⟩ := HH1.out k x hx
      obtain ⟨b', o', hpo', y0, y1, y2, y3, y4, y5⟩ := HH1.out k1 y hy
      subst hpo
      obtain ⟨rfl, rfl⟩ : b = b' ∧ o = o' := by cases hpo'; exact ⟨rfl, rfl⟩
      have HX := Lib.hid hx
      have HY := Lib.hid hy
      have hk0 : 0 ≤ (k : Int) := by omega
      have hkN : (k : Int) < (N : Int) := by omega
      have hk10 : 0 ≤ (k1 : Int) := by omega
      have hkN1 : (k1 : Int) < (N : Int) := by omega
      have hkN2 : k < N := by omega
      have hkN3 : k1 < N := by omega
      have hkw : IntKind.i64.wrap ((k : Int) + 1) = (k1 : Int) := by rw [IntKind.wrap_i64]; omega
      have HK1 := Lib.hid hk1
      clear hk1
      clear hx hy hpo' hkl hkl2
      obtain ⟨xt, xk, xa, xw, xo, xe⟩ := x
      obtain ⟨yt, yk, ya, yw, yo, ye⟩ := y
      dsimp only at x0 x1 x2 x3 x4 x5 y0 y1 y2 y3 y4 y5
      have HS : Hid (TwoAt b o k k1 ⟨xt, xk, xa, xw, xo, xe⟩ ⟨yt, yk, ya, yw, yo, ye⟩ W1) := Lib.hid ⟨⟨x0, x1, x2, x3, x4, x5⟩, y0, y1, y2, y3, y4, y5⟩
      clear x0 x1 x2 x3 x4 x5 y0 y1 y2 y3 y4 y5
      go_cut [6, 7] from 29 to 37 (fun v6 v7 wx => ∃ p q, v6 = .pointer (some ⟨p, 0, none⟩) ∧ v7 = .pointer (some ⟨q, 0, none⟩) ∧ Blk wx p [.int .i64 xt, .int .i64 xk, .int .u64 xa, .int .u64 xw, .bool xo, .int .i64 xe] 27 ∧ Blk wx q [.int .i64 yt, .int .i64 yk, .int .u64 ya, .int .u64 yw, .bool yo, .int .i64 ye] 27 ∧ Upd [] W1 wx)
      case first =>
        have ud : Upd [] W1 W1.drew := (Upd.refl _ _).drew
        have HS2 := Lib.hid (HS.out.upd ud (by simp))
        refine wp_region_br (TwoAt b o k k1 ⟨xt, xk, xa, xw, xo, xe⟩ ⟨yt, yk, ya, yw, yo, ye⟩) [0, 1, 2, 3, 4, 5, 6, 7, 8, 9, 10, 11, 12] (by kernel_rfl) (by kernel_rfl) HS2.out ?_
        generalize W1.drew = W2 at ud HS2 ⊢
        have HBL := Lib.hid (show b < W2.heap.size from World.block_lt_of_cell? W2 _ HS2.out.1.1)
        have HUD := Lib.hid ud
        have HUDS := Lib.hid ud.size
        clear HU1 HH1 HS ud
        repeat
          first
            | (refine wpB_skip rfl (by kernel_rfl) (by rfl) ?_)
            | ((refine wpB_take (v := ?_) rfl rfl (by kernel_rfl) (by rfl) ?_ ?_); rotate_left 1; (· ((intro w hSw; (try (unfold TwoAt at hSw; dsimp only at hSw)); go_simp); try with_reducible rfl)))
          try simp only [Act.put, List.setIfInBounds_toArray, List.set_cons_zero, List.set_cons_succ]
        refine wpB_two (i := 9) (j := 10) [9, 11, 12] (by kernel_rfl) rfl rfl (by rfl) (by rfl) (fun K2 hK2 => ?_) (fun K2 hK2 => ?_)
        · skip
          go_simp
          have u3 : Upd [] W2 (W2.alloc (.cells zeroV.toArray 27)) := (Upd.refl _ _).alloc _
          have B3 := Blk.new W2 zeroV 27
          refine hK2.out _ _ (HS2.out.upd u3 (by simp)) ?_
          clear hK2 K2
          have HS3 := Lib.hid (HS2.out.upd u3 (by simp))
          obtain ⟨g, hg⟩ : ∃ g, W2.heap.size = g := ⟨_, rfl⟩
          rw [hg] at B3 HBL HUDS
          have hgs : (W2.alloc (.cells zeroV.toArray 27)).heap.size = g + 1 := by rw [World.size_alloc, hg]
          try rw [hg]
          change wpB _ _ _ _ _ _ _ _ _ (W2.alloc (.cells zeroV.toArray 27))
          have HUD3 := Lib.hid (HUD.out.trans u3)
          generalize W2.alloc (.cells zeroV.toArray 27) = W3 at u3 B3 HS3 hgs HUD3 ⊢
          clear HS2 HUD u3 hg
          repeat
            first
              | (refine wpB_skip rfl (by kernel_rfl) (by rfl) ?_)
              | ((refine wpB_take (v := ?_) rfl rfl (by kernel_rfl) (by rfl) ?_ ?_); rotate_left 1; (· ((intro w hSw; (try (unfold TwoAt at hSw; dsimp only at hSw)); go_simp); try with_reducible rfl)))
            try simp only [Act.put, List.setIfInBounds_toArray, List.set_cons_zero, List.set_cons_succ]
          refine wpB_eff rfl (by kernel_rfl) (by rfl) (fun K2 hK2 => ?_)
          go_simp
          have u4 : Upd [] W3 (W3.alloc (.cells zeroV.toArray 27)) := (Upd.refl _ _).alloc _
          have B4 := Blk.new W3 zeroV 27
          rw [hgs] at B4
          refine hK2.out _ _ (HS3.out.upd u4 (by simp)) ?_
          clear hK2 K2
          have HS4 := Lib.hid (HS3.out.upd u4 (by simp))
          have B3' := B3.upd u4 (by simp)
          have HUD4 := Lib.hid (HUD3.out.trans u4)
          change wpB _ _ _ _ _ _ _ _ _ (W3.alloc (.cells zeroV.toArray 27))
          generalize W3.alloc (.cells zeroV.toArray 27) = W4 at u4 B3' B4 HS4 HUD4 ⊢
          have HGB := Lib.hid (show W1.heap.size ≤ g from HUDS.out)
          clear HS3 HUD3 u4 B3 hgs
          repeat
            first
              | (refine wpB_skip rfl (by kernel_rfl) (by rfl) ?_)
              | ((refine wpB_take (v := ?_) rfl rfl (by kernel_rfl) (by rfl) ?_ ?_); rotate_left 1; (· ((intro w hSw; (try (unfold TwoAt at hSw; dsimp only at hSw)); go_simp); try with_reducible rfl)))
            try simp only [Act.put, List.setIfInBounds_toArray, List.set_cons_zero, List.set_cons_succ]
          have HP4 := Lib.hid (show Blk W4 (g + 0) zeroV 27 from (by first | exact B3' | exact B4))
          have HQ4 := Lib.hid (show Blk W4 (g + 1) zeroV 27 from (by first | exact B3' | exact B4))
          clear B3' B4
          have f0 := HP4.out.free 0
          have f1 := HP4.out.free 1
          have f2 := HP4.out.free 2
          have f3 := HP4.out.free 3
          have f4 := HP4.out.free 4
          have f5 := HP4.out.free 5
          have c0 := HP4.out.cell 0 rfl
          have c1 := HP4.out.cell 1 rfl
          have c2 := HP4.out.cell 2 rfl
          have c3 := HP4.out.cell 3 rfl
          have c4 := HP4.out.cell 4 rfl
          have c5 := HP4.out.cell 5 rfl
          try simp only [Nat.add_zero] at f0 f1 f2 f3 f4 f5 c0 c1 c2 c3 c4 c5
          refine wpB_eff rfl (by kernel_rfl) (by rfl) (fun K2 hK2 => ?_)
          go_simp
          have up := put6_upd W4 (g + 0) ⟨xt, xk, xa, xw, xo, xe⟩
          have HS5 := Lib.hid (HS4.out.upd up (by simp; have := HBL.out; omega))
          refine hK2.out _ _ HS5.out ?_
          clear hK2 K2 f0 f1 f2 f3 f4 f5 c0 c1 c2 c3 c4 c5
          have HP5 := Lib.hid (put6_blk ⟨xt, xk, xa, xw, xo, xe⟩ HP4.out)
          have HQ5 := Lib.hid (HQ4.out.upd up (by simp))
          have HUD5 := Lib.hid (HUD4.out.tr (U := []) up (by simp) (fun y hy => .inr (by simp at hy; have := HGB.out; omega)))
          change wpB _ _ _ _ _ _ _ _ _ (put6 W4 (g + 0) ⟨xt, xk, xa, xw, xo, xe⟩)
          generalize put6 W4 (g + 0) ⟨xt, xk, xa, xw, xo, xe⟩ = W5 at up HS5 HP5 HQ5 HUD5 ⊢
          clear up HS4 HP4 HQ4 HUD4
          repeat
            first
              | (refine wpB_skip rfl (by kernel_rfl) (by rfl) ?_)
              | ((refine wpB_take (v := ?_) rfl rfl (by kernel_rfl) (by rfl) ?_ ?_); rotate_left 1; (· ((intro w hSw; (try (unfold TwoAt at hSw; dsimp only at hSw)); go_simp); try with_reducible rfl)))
            try simp only [Act.put, List.setIfInBounds_toArray, List.set_cons_zero, List.set_cons_succ]
          have f0 := HQ5.out.free 0
          have f1 := HQ5.out.free 1
          have f2 := HQ5.out.free 2
          have f3 := HQ5.out.free 3
          have f4 := HQ5.out.free 4
          have f5 := HQ5.out.free 5
          have c0 := HQ5.out.cell 0 rfl
          have c1 := HQ5.out.cell 1 rfl
          have c2 := HQ5.out.cell 2 rfl
          have c3 := HQ5.out.cell 3 rfl
          have c4 := HQ5.out.cell 4 rfl
          have c5 := HQ5.out.cell 5 rfl
          try simp only [Nat.add_zero] at f0 f1 f2 f3 f4 f5 c0 c1 c2 c3 c4 c5
          refine wpB_eff rfl (by kernel_rfl) (by rfl) (fun K2 hK2 => ?_)
          go_simp
          have up := put6_upd W5 (g + 1) ⟨yt, yk, ya, yw, yo, ye⟩
          refine hK2.out _ _ (HS5.out.upd up (by simp; have := HBL.out; omega)) ?_
          refine wpB_end (by kernel_rfl) (NoPanic.normal ?_)
          clear hK2 K2 f0 f1 f2 f3 f4 f5 c0 c1 c2 c3 c4 c5
          have HQ6 := Lib.hid (put6_blk ⟨yt, yk, ya, yw, yo, ye⟩ HQ5.out)
          have HP6 := Lib.hid (HP5.out.upd up (by simp))
          have HUD6 := Lib.hid (HUD5.out.tr (U := []) up (by simp) (fun y hy => .inr (by simp at hy; have := HGB.out; omega)))
          go_wp2_with fail
          go_meet
          exact ⟨g + 0, g + 1, rfl, rfl, HP6.out, HQ6.out, HUD6.out⟩
        · skip
          go_simp
          have u3 : Upd [] W2 (W2.alloc (.cells zeroV.toArray 27)) := (Upd.refl _ _).alloc _
          have B3 := Blk.new W2 zeroV 27
          refine hK2.out _ _ (HS2.out.upd u3 (by simp)) ?_
          clear hK2 K2
          have HS3 := Lib.hid (HS2.out.upd u3 (by simp))
          obtain ⟨g, hg⟩ : ∃ g, W2.heap.size = g := ⟨_, rfl⟩
          rw [hg] at B3 HBL HUDS
          have hgs : (W2.alloc (.cells zeroV.toArray 27)).heap.size = g + 1 := by rw [World.size_alloc, hg]
          try rw [hg]
          change wpB _ _ _ _ _ _ _ _ _ (W2.alloc (.cells zeroV.toArray 27))
          have HUD3 := Lib.hid (HUD.out.trans u3)
          generalize W2.alloc (.cells zeroV.toArray 27) = W3 at u3 B3 HS3 hgs HUD3 ⊢
          clear HS2 HUD u3 hg
          repeat
            first
              | (refine wpB_skip rfl (by kernel_rfl) (by rfl) ?_)
              | ((refine wpB_take (v := ?_) rfl rfl (by kernel_rfl) (by rfl) ?_ ?_); rotate_left 1; (· ((intro w hSw; (try (unfold TwoAt at hSw; dsimp only at hSw)); go_simp); try with_reducible rfl)))
            try simp only [Act.put, List.setIfInBounds_toArray, List.set_cons_zero, List.set_cons_succ]
          refine wpB_eff rfl (by kernel_rfl) (by rfl) (fun K2 hK2 => ?_)
          go_simp
          have u4 : Upd [] W3 (W3.alloc (.cells zeroV.toArray 27)) := (Upd.refl _ _).alloc _
          have B4 := Blk.new W3 zeroV 27
          rw [hgs] at B4
          refine hK2.out _ _ (HS3.out.upd u4 (by simp)) ?_
          clear hK2 K2
          have HS4 := Lib.hid (HS3.out.upd u4 (by simp))
          have B3' := B3.upd u4 (by simp)
          have HUD4 := Lib.hid (HUD3.out.trans u4)
          change wpB _ _ _ _ _ _ _ _ _ (W3.alloc (.cells zeroV.toArray 27))
          generalize W3.alloc (.cells zeroV.toArray 27) = W4 at u4 B3' B4 HS4 HUD4 ⊢
          have HGB := Lib.hid (show W1.heap.size ≤ g from HUDS.out)
          clear HS3 HUD3 u4 B3 hgs
          repeat
            first
              | (refine wpB_skip rfl (by kernel_rfl) (by rfl) ?_)
              | ((refine wpB_take (v := ?_) rfl rfl (by kernel_rfl) (by rfl) ?_ ?_); rotate_left 1; (· ((intro w hSw; (try (unfold TwoAt at hSw; dsimp only at hSw)); go_simp); try with_reducible rfl)))
            try simp only [Act.put, List.setIfInBounds_toArray, List.set_cons_zero, List.set_cons_succ]
          have HP4 := Lib.hid (show Blk W4 (g + 1) zeroV 27 from (by first | exact B3' | exact B4))
          have HQ4 := Lib.hid (show Blk W4 (g + 0) zeroV 27 from (by first | exact B3' | exact B4))
          clear B3' B4
          have f0 := HP4.out.free 0
          have f1 := HP4.out.free 1
          have f2 := HP4.out.free 2
          have f3 := HP4.out.free 3
          have f4 := HP4.out.free 4
          have f5 := HP4.out.free 5
          have c0 := HP4.out.cell 0 rfl
          have c1 := HP4.out.cell 1 rfl
          have c2 := HP4.out.cell 2 rfl
          have c3 := HP4.out.cell 3 rfl
          have c4 := HP4.out.cell 4 rfl
          have c5 := HP4.out.cell 5 rfl
          try simp only [Nat.add_zero] at f0 f1 f2 f3 f4 f5 c0 c1 c2 c3 c4 c5
          refine wpB_eff rfl (by kernel_rfl) (by rfl) (fun K2 hK2 => ?_)
          go_simp
          have up := put6_upd W4 (g + 1) ⟨xt, xk, xa, xw, xo, xe⟩
          have HS5 := Lib.hid (HS4.out.upd up (by simp; have := HBL.out; omega))
          refine hK2.out _ _ HS5.out ?_
          clear hK2 K2 f0 f1 f2 f3 f4 f5 c0 c1 c2 c3 c4 c5
          have HP5 := Lib.hid (put6_blk ⟨xt, xk, xa, xw, xo, xe⟩ HP4.out)
          have HQ5 := Lib.hid (HQ4.out.upd up (by simp))
          have HUD5 := Lib.hid (HUD4.out.tr (U := []) up (by simp) (fun y hy => .inr (by simp at hy; have := HGB.out; omega)))
          change wpB _ _ _ _ _ _ _ _ _ (put6 W4 (g + 1) ⟨xt, xk, xa, xw, xo, xe⟩)
          generalize put6 W4 (g + 1) ⟨xt, xk, xa, xw, xo, xe⟩ = W5 at up HS5 HP5 HQ5 HUD5 ⊢
          clear up HS4 HP4 HQ4 HUD4
          repeat
            first
              | (refine wpB_skip rfl (by kernel_rfl) (by rfl) ?_)
              | ((refine wpB_take (v := ?_) rfl rfl (by kernel_rfl) (by rfl) ?_ ?_); rotate_left 1; (· ((intro w hSw; (try (unfold TwoAt at hSw; dsimp only at hSw)); go_simp); try with_reducible rfl)))
            try simp only [Act.put, List.setIfInBounds_toArray, List.set_cons_zero, List.set_cons_succ]
          have f0 := HQ5.out.free 0
          have f1 := HQ5.out.free 1
          have f2 := HQ5.out.free 2
          have f3 := HQ5.out.free 3
          have f4 := HQ5.out.free 4
          have f5 := HQ5.out.free 5
          have c0 := HQ5.out.cell 0 rfl
          have c1 := HQ5.out.cell 1 rfl
          have c2 := HQ5.out.cell 2 rfl
          have c3 := HQ5.out.cell 3 rfl
          have c4 := HQ5.out.cell 4 rfl
          have c5 := HQ5.out.cell 5 rfl
          try simp only [Nat.add_zero] at f0 f1 f2 f3 f4 f5 c0 c1 c2 c3 c4 c5
          refine wpB_eff rfl (by kernel_rfl) (by rfl) (fun K2 hK2 => ?_)
          go_simp
          have up := put6_upd W5 (g + 0) ⟨yt, yk, ya, yw, yo, ye⟩
          refine hK2.out _ _ (HS5.out.upd up (by simp; have := HBL.out; omega)) ?_
          refine wpB_end (by kernel_rfl) (NoPanic.normal ?_)
          clear hK2 K2 f0 f1 f2 f3 f4 f5 c0 c1 c2 c3 c4 c5
          have HQ6 := Lib.hid (put6_blk ⟨yt, yk, ya, yw, yo, ye⟩ HQ5.out)
          have HP6 := Lib.hid (HP5.out.upd up (by simp))
          have HUD6 := Lib.hid (HUD5.out.tr (U := []) up (by simp) (fun y hy => .inr (by simp at hy; have := HGB.out; omega)))
          go_wp2_with fail
          go_meet
          exact ⟨g + 1, g + 0, rfl, rfl, HP6.out, HQ6.out, HUD6.out⟩
      case rest =>
        obtain ⟨p, q, rfl, rfl, hp, hq, hu⟩ := hcut
        obtain ⟨W3, rfl⟩ : ∃ W, W = wc := ⟨wc, rfl⟩
        have HP3 := Lib.hid hp
        have HQ3 := Lib.hid hq
        have HU3 := Lib.hid (HU1.out.trans hu)
        have HH3 := Lib.hid (HH1.out.upd0 hu)
        have p0 := hp.cell 0 rfl
        have p1 := hp.cell 1 rfl
        have q0 := hq.cell 0 rfl
        have q1 := hq.cell 1 rfl
        clear hp hq hu HH1 HU1 HS
        by_cases hth : xt = yt
        · subst hth
          go_wp2_with fail
          exact ⟨rfl, HU3.out⟩
        · have ht1 : (xt == yt) = false := by simpa using hth
          have HTH := Lib.hid hth
          clear hth
          cases hcx : clockK xk with
          | true =>
            go_wp2_with (go_at_call 22; refine (clock_code _ _).mono ?_; rw [hcx]; rintro e w4 ⟨rfl, rfl⟩)
            exact ⟨rfl, HU3.out⟩
          | false =>
            cases hcy : clockK yk with
            | true =>
              go_wp2_with (go_at_call 22; refine (clock_code _ _).mono ?_; (first | rw [hcx] | rw [hcy]); rintro e w4 ⟨rfl, rfl⟩)
              exact ⟨rfl, HU3.out⟩
            | false =>
              have HCX := Lib.hid hcx
              have HCY := Lib.hid hcy
              obtain ⟨g, c, sp, W4, hrun, hB, hg, hu⟩ := app_hist (W := W3) l cap (by have := HN.out; omega) (by have := HN.out; omega) HH3.out
              rw [HN.out] at hrun
              have HB4 := Lib.hid hB
              have HP4 := Lib.hid (HP3.out.upd hu (by simp))
              have HQ4 := Lib.hid (HQ3.out.upd hu (by simp))
              have HU4 := Lib.hid (HU3.out.trans hu)
              have HH4 := Lib.hid (HH3.out.upd0 hu)
              have HG4 := Lib.hid (show W3.heap.size ≤ g from hg)
              have HW3S := Lib.hid HU3.out.size
              have HPL := Lib.hid HP3.out.lt
              have HQL := Lib.hid HQ3.out.lt
              have HBL := Lib.hid (HH3.out.lt b o rfl (by intro e; have := HN.out; rw [e] at this; simp at this; omega))
              clear hB hu hg
              go_upto_region 10 with (first | (at_builtin; refine wpList_append_eq rfl _ _ _ _ rfl _ _ _ rfl rfl hrun ?_) | (go_at_call 22; refine (clock_code _ _).mono ?_; (first | rw [hcx] | rw [hcy]); rintro e w4 ⟨rfl, rfl⟩))
              clear hrun p0 p1 q0 q1 HH3 HU3 HP3 HQ3
              have ud : Upd [] W4 W4.drew := (Upd.refl _ _).drew
              have HB5 := Lib.hid (HB4.out.upd ud (by simp))
              have HP5 := Lib.hid (HP4.out.upd ud (by simp))
              have HQ5 := Lib.hid (HQ4.out.upd ud (by simp))
              have HU5 := Lib.hid (HU4.out.trans ud)
              have HH5 := Lib.hid (HH4.out.upd0 ud)
              refine wp_region_br (PQAt p q ⟨xt, xk, xa, xw, xo, xe⟩ ⟨yt, yk, ya, yw, yo, ye⟩) [0, 1, 2, 3, 4, 5, 6, 7, 8, 9, 10] (by kernel_rfl) (by kernel_rfl) (PQAt.mk HP5.out HQ5.out) ?_
              generalize W4.drew = W5 at ud HB5 HP5 HQ5 HU5 HH5 ⊢
              clear ud HB4 HP4 HQ4 HU4 HH4
              repeat
                first
                  | (refine wpB_skip rfl (by kernel_rfl) (by rfl) ?_)
                  | ((refine wpB_take (v := ?_) rfl rfl (by kernel_rfl) (by rfl) ?_ ?_); rotate_left 1; (· ((intro w hSw; (try (unfold PQAt at hSw; dsimp only at hSw)); go_simp); try with_reducible rfl)))
                try simp only [Act.put, List.setIfInBounds_toArray, List.set_cons_zero, List.set_cons_succ]
              have HKL := Lib.hid (show k < l.length by rw [HN.out]; exact hkN2)
              have HKL1 := Lib.hid (show k1 < l.length by rw [HN.out]; exact hkN3)
              obtain ⟨_, _, eg, c0, c1, c2, c3, c4, c5⟩ := hist_of_blk HB5.out k _ (List.getElem?_eq_getElem (show k < _ by first | assumption | simpa using HKL.out | simpa using HKL1.out))
              cases eg
              simp only [Nat.zero_add] at c0 c1 c2 c3 c4 c5
              have f0 := (HB5.out).free (k * 6)
              have f1 := (HB5.out).free (k * 6 + 1)
              have f2 := (HB5.out).free (k * 6 + 2)
              have f3 := (HB5.out).free (k * 6 + 3)
              have f4 := (HB5.out).free (k * 6 + 4)
              have f5 := (HB5.out).free (k * 6 + 5)
              refine wpB_eff rfl (by kernel_rfl) (by rfl) (fun K2 hK2 => ?_)
              go_simp
              have hpg : p ≠ g := by have := HPL.out; have := HG4.out; omega
              have hqg : q ≠ g := by have := HQL.out; have := HG4.out; omega
              have hbg : b ≠ g := by have := HBL.out; have := HG4.out; omega
              have up := putE_upd W5 g (k * 6) ⟨yt, yk, ya, yw, yo, ye⟩
              have HP6 := Lib.hid (HP5.out.upd up (by simpa using hpg))
              have HQ6 := Lib.hid (HQ5.out.upd up (by simpa using hqg))
              have HH6 := Lib.hid (HH5.out.upd up (fun b' o' e => by cases e; simpa using hbg))
              have HU6 := Lib.hid (HU5.out.tr (U := []) up (by simp) (fun z hz => .inr (by simp at hz; subst hz; have := HG4.out; have := HW3S.out; omega)))
              have HB6 := Lib.hid (putE_blk ⟨yt, yk, ya, yw, yo, ye⟩ HKL.out HB5.out)
              refine hK2.out _ _ (PQAt.mk HP6.out HQ6.out) ?_
              clear hK2 K2 c0 c1 c2 c3 c4 c5 f0 f1 f2 f3 f4 f5
              change wpB _ _ _ _ _ _ _ _ _ (putE W5 g (k * 6) ⟨yt, yk, ya, yw, yo, ye⟩)
              generalize putE W5 g (k * 6) ⟨yt, yk, ya, yw, yo, ye⟩ = W6 at up HP6 HQ6 HH6 HU6 HB6 ⊢
              clear up HP5 HQ5 HH5 HU5 HB5
              repeat
                first
                  | (refine wpB_skip rfl (by kernel_rfl) (by rfl) ?_)
                  | ((refine wpB_take (v := ?_) rfl rfl (by kernel_rfl) (by rfl) ?_ ?_); rotate_left 1; (· ((intro w hSw; (try (unfold PQAt at hSw; dsimp only at hSw)); go_simp); try with_reducible rfl)))
                try simp only [Act.put, List.setIfInBounds_toArray, List.set_cons_zero, List.set_cons_succ]
              obtain ⟨_, _, eg, c0, c1, c2, c3, c4, c5⟩ := hist_of_blk HB6.out k1 _ (List.getElem?_eq_getElem (show k1 < _ by first | assumption | simpa using HKL.out | simpa using HKL1.out))
              cases eg
              simp only [Nat.zero_add] at c0 c1 c2 c3 c4 c5
              have f0 := (HB6.out).free (k1 * 6)
              have f1 := (HB6.out).free (k1 * 6 + 1)
              have f2 := (HB6.out).free (k1 * 6 + 2)
              have f3 := (HB6.out).free (k1 * 6 + 3)
              have f4 := (HB6.out).free (k1 * 6 + 4)
              have f5 := (HB6.out).free (k1 * 6 + 5)
              refine wpB_eff rfl (by kernel_rfl) (by rfl) (fun K2 hK2 => ?_)
              go_simp
              have up := putE_upd W6 g (k1 * 6) ⟨xt, xk, xa, xw, xo, xe⟩
              have HP7 := Lib.hid (HP6.out.upd up (by simpa using hpg))
              have HQ7 := Lib.hid (HQ6.out.upd up (by simpa using hqg))
              have HH7 := Lib.hid (HH6.out.upd up (fun b' o' e => by cases e; simpa using hbg))
              have HU7 := Lib.hid (HU6.out.tr (U := []) up (by simp) (fun z hz => .inr (by simp at hz; subst hz; have := HG4.out; have := HW3S.out; omega)))
              have HB7 := Lib.hid (putE_blk ⟨xt, xk, xa, xw, xo, xe⟩ (by simpa using HKL1.out) HB6.out)
              refine hK2.out _ _ (PQAt.mk HP7.out HQ7.out) ?_
              refine wpB_end (by kernel_rfl) (NoPanic.normal ?_)
              clear hK2 K2 c0 c1 c2 c3 c4 c5 f0 f1 f2 f3 f4 f5 HP6 HQ6 HH6 HU6 HB6 HP7 HQ7
              change Exit.then _ _ _ _ (putE W6 g (k1 * 6) ⟨xt, xk, xa, xw, xo, xe⟩)
              generalize putE W6 g (k1 * 6) ⟨xt, xk, xa, xw, xo, xe⟩ = W7 at up HH7 HU7 HB7 ⊢
              clear up hpg hqg hbg
              obtain ⟨m, hm⟩ : ∃ m, (l.set k ⟨yt, yk, ya, yw, yo, ye⟩).set k1 ⟨xt, xk, xa, xw, xo, xe⟩ = m := ⟨_, rfl⟩
              rw [hm] at HB7
              have HML := Lib.hid (show m.length = N by rw [← hm, List.length_set, List.length_set, HN.out])
              have HMW := Lib.hid (show wideL m by rw [← hm]; exact wide_set _ (wide_set _ HW.out (HW.out _ (List.mem_of_getElem? HY.out))) (HW.out _ (List.mem_of_getElem? HX.out)))
              have HAB := Lib.hid (show (oddE l).2 = 0 ↔ (oddE m).2 = 0 by
                obtain ⟨pp, qq, e1, e2⟩ := swap_list HX.out (show l[k + 1]? = some _ by rw [HK1.out]; exact HY.out)
                rw [HK1.out, hm] at e2
                rw [e2, e1]
                exact odd_swap pp qq HTH.out HCX.out HCY.out)
              clear hm hcx hcy ht1
              have HC1 : Hid (Calls Tryd.prog 20 #[.slice (some ⟨b, o, none⟩) N cap] W7 _) := Lib.hid (by have := check_code W7 (some ⟨b, o, none⟩) cap l HH7.out (by rw [HN.out]; omega) HW.out; rw [HN.out] at this; exact this)
              have HC2 : Hid (∀ W8, Upd [] W7 W8 → Calls Tryd.prog 20 #[.slice (some ⟨g, 0, none⟩) N c] W8 _) := Lib.hid (fun W8 u => by have := check_code W8 (some ⟨g, 0, none⟩) c m ((hist_of_blk HB7.out).upd0 u) (by rw [HML.out]; omega) HMW.out; rw [HML.out] at this; exact this)
              generalize oddE l = A at HC1 HAB
              generalize oddE m = B at HC2 HAB
              obtain ⟨A1, A2⟩ := A
              obtain ⟨B1, B2⟩ := B
              dsimp only at HC1 HC2 HAB
              have E1 := fun (w : World) => odd_field A1 A2 w
              have E2 := fun (w : World) => odd_field B1 B2 w
              by_cases hA : A2 = 0
              · have hB := HAB.out.1 hA
                subst hA
                subst hB
                go_wp2_with fail
                refine HC1.out.mono ?_
                rintro e W8 ⟨rfl, u8⟩
                go_wp2_with fail
                refine (num_code _ _).mono ?_
                rintro e W9 ⟨rfl, rfl⟩
                go_wp2_with fail
                refine (HC2.out _ u8).mono ?_
                rintro e W9 ⟨rfl, u9⟩
                go_wp2_with fail
                refine (num_code _ _).mono ?_
                rintro e W10 ⟨rfl, rfl⟩
                go_wp2_with fail
                exact ⟨rfl, (HU7.out.trans u8).trans u9⟩
              · have hB : B2 ≠ 0 := fun e => hA (HAB.out.2 e)
                have hA1 : (A2 == 0) = false := by simpa using hA
                have hB1 : (B2 == 0) = false := by simpa using hB
                have hA2 : decide (A2 = 0) = false := decide_eq_false hA
                have hB2 : decide (B2 = 0) = false := decide_eq_false hB
                clear hA hB
                go_wp2_with fail
                refine HC1.out.mono ?_
                rintro e W8 ⟨rfl, u8⟩
                go_wp2_with fail
                refine (num_code _ _).mono ?_
                rintro e W9 ⟨rfl, rfl⟩
                go_wp2_with fail
                refine (HC2.out _ u8).mono ?_
                rintro e W9 ⟨rfl, u9⟩
                go_wp2_with fail
                refine (num_code _ _).mono ?_
                rintro e W10 ⟨rfl, rfl⟩
                go_wp2_with fail
                exact ⟨rfl, (HU7.out.trans u8).trans u9⟩
end Go.Proofs.YtfldpejifpmapaaDoor
set_option linter.unusedSimpArgs false
set_option linter.unusedVariables false
set_option maxRecDepth 100000
namespace Go.Proofs.YtfldpejifpmapaaDoor
open Go.RowKit
/-- x later is y -/
def LeT (x y : Try) : Prop := y.th = x.th ∧ y.first = x.first ∧ x.reads ≤ y.reads ∧ x.last ≤ y.last ∧ (x.how ≠ 0 → y = x)
theorem LeT.refl (x : Try) : LeT x x := ⟨rfl, rfl, Int.le_refl _, Int.le_refl _, fun _ => rfl⟩
theorem LeT.trans {x y z : Try} (h : LeT x y) (k : LeT y z) : LeT x z :=
  ⟨k.1.trans h.1, k.2.1.trans h.2.1, Int.le_trans h.2.2.1 k.2.2.1, Int.le_trans h.2.2.2.1 k.2.2.2.1, fun q => by
    have e := h.2.2.2.2 q
    rw [← e] at q
    rw [k.2.2.2.2 q, e]⟩
def LeL (l m : List Try) : Prop := ∀ (k : Nat) (x : Try), l[k]? = some x → ∃ y, m[k]? = some y ∧ LeT x y
theorem LeL.refl (l : List Try) : LeL l l := fun k x h => ⟨x, h, LeT.refl x⟩
theorem LeL.trans {a b c : List Try} (h : LeL a b) (k : LeL b c) : LeL a c := fun i x hx => by
  obtain ⟨y, hy, h1⟩ := h i x hx
  obtain ⟨z, hz, h2⟩ := k i y hy
  exact ⟨z, hz, h1.trans h2⟩
theorem LeL.len {a b : List Try} (h : LeL a b) : a.length ≤ b.length := by
  rcases Nat.lt_or_ge b.length a.length with k | k
  · obtain ⟨y, hy, _⟩ := h b.length a[b.length] (List.getElem?_eq_getElem k)
    rw [List.getElem?_eq_none (Nat.le_refl _)] at hy
    cases hy
  · exact k
/-- an attempt that is under way stands in the list, not ended, as its thread's -/
structure Going (S : LS) (i : Nat) : Prop where
  act : ∀ j, (S.ths j).how = 1 ∨ (S.ths j).how = 2 → ∃ x, S.tries[(S.ths j).try_]? = some x ∧ x.th = (j : Int) ∧ x.how = 0
  hows : ∀ j, (S.ths j).how ≤ 3
  last : ∀ x ∈ S.tries, x.last ≤ (i : Int)
theorem turn3 : ∀ k : Nat, k ≤ 12 → turnL.getD (13 * 3 + k) 0 = 0 := by decide
theorem turn0 : ∀ k : Nat, k ≤ 12 → k ≠ 1 → turnL.getD (13 * 0 + k) 0 = 0 ∨ turnL.getD (13 * 0 + k) 0 = 1 ∨ turnL.getD (13 * 0 + k) 0 = 4 := by decide
theorem turnb : turnL.getD (13 * 0 + 1) 0 = 2 ∧ turnL.getD (13 * 1 + 1) 0 = 0 ∧ turnL.getD (13 * 2 + 1) 0 = 0 := by decide
theorem turn1 : ∀ k : Nat, k ≤ 12 → (k = 6 ∨ k = 7 ∨ k = 8 ∨ k = 9) → turnL.getD (13 * 1 + k) 0 = 1 ∨ turnL.getD (13 * 1 + k) 0 = 4 := by decide
theorem turn2 : ∀ k : Nat, k ≤ 12 → (k = 6 ∨ k = 7 ∨ k = 8 ∨ k = 9) → turnL.getD (13 * 2 + k) 0 = 0 ∨ turnL.getD (13 * 2 + k) 0 = 1 ∨ turnL.getD (13 * 2 + k) 0 = 4 := by decide
theorem turn_tab (h : Nat) (hh : h < 4) (k : Nat) (hk : k ≤ 12) (ht : turnL.getD (13 * h + k) 0 ≠ 0) : (h ≠ 3) ∧ (h = 0 → k ≠ 1 → turnL.getD (13 * h + k) 0 = 1 ∨ turnL.getD (13 * h + k) 0 = 4) ∧ (k = 1 → h = 0 ∧ turnL.getD (13 * h + k) 0 = 2) ∧ (h = 1 ∨ h = 2 → (k = 6 ∨ k = 7 ∨ k = 8 ∨ k = 9) → turnL.getD (13 * h + k) 0 = 1 ∨ turnL.getD (13 * h + k) 0 = 4) := by
  refine ⟨fun e => ?_, fun e hk1 => ?_, fun e => ?_, fun e q => ?_⟩
  · subst e; exact ht (turn3 k hk)
  · subst e
    rcases turn0 k hk hk1 with h | h
    · exact absurd h ht
    · exact h
  · subst e
    have hc : h = 0 ∨ h = 1 ∨ h = 2 ∨ h = 3 := by omega
    rcases hc with rfl | rfl | rfl | rfl
    · exact ⟨rfl, turnb.1⟩
    · exact absurd turnb.2.1 ht
    · exact absurd turnb.2.2 ht
    · exact absurd (turn3 1 (by omega)) ht
  · rcases e with rfl | rfl
    · exact turn1 k hk q
    · rcases turn2 k hk q with h | h
      · exact absurd h ht
      · exact h
theorem take_going {S : LS} {i : Nat} {e : Ev} (hS : Going S i) (hw : wrongE S e = 0) : LeL S.tries (takeE S i e).tries ∧ Going (takeE S i e) (i + 1) := by
  obtain ⟨hf, ht, _, _, _, _⟩ := wrong_ok hw
  obtain ⟨f1, f2, _⟩ := hf
  have hh := hS.hows e.th.toNat
  have hT := turn_tab (S.ths e.th.toNat).how (by omega) e.kd.toNat (by omega) ht
  have hle := turnT_le (S.ths e.th.toNat).how (by omega) e.kd.toNat (by omega)
  have hthn : ((e.th.toNat : Nat) : Int) = e.th := by omega
  obtain ⟨t3, t0, tb, tg⟩ := hT
  by_cases hb : e.kd = 1
  · -- it begins
    obtain ⟨h0, h2⟩ := tb (by omega)
    have h2' : turnT (S.ths e.th.toNat).how e.kd = 2 := h2
    have htr : (takeE S i e).tries = S.tries ++ [tryNext ⟨e.th, i, 0, 0, 0, 0, 0⟩ i e] := by
      unfold takeE
      dsimp only
      rw [if_pos (Or.inr hb), if_pos hb]
      unfold thNext
      dsimp only
      rw [if_pos hb]
      apply List.ext_getElem?
      intro k
      rw [List.getElem?_modify]
      rcases Nat.lt_trichotomy k S.tries.length with h | h | h
      · rw [List.getElem?_append_left h, List.getElem?_append_left h]; have hne : S.tries.length ≠ k := by omega
        simp [hne]
      · subst h; simp
      · rw [List.getElem?_eq_none (by simp; omega), List.getElem?_eq_none (by simp; omega)]; split <;> rfl
    have hths : (takeE S i e).ths = updT S.ths e.th.toNat (thNext (S.ths e.th.toNat) S.tries.length e) := rfl
    refine ⟨fun k x hx => ⟨x, ?_, LeT.refl x⟩, ⟨fun j hj => ?_, fun j => ?_, fun x hx => ?_⟩⟩
    · rw [htr, List.getElem?_append_left (by rcases Nat.lt_or_ge k S.tries.length with h | h; exact h; rw [List.getElem?_eq_none h] at hx; cases hx)]
      exact hx
    · rw [hths] at hj ⊢
      rw [htr]
      unfold updT at hj ⊢
      by_cases e1 : j = e.th.toNat
      · subst e1
        rw [if_pos rfl] at hj ⊢
        refine ⟨tryNext ⟨e.th, i, 0, 0, 0, 0, 0⟩ i e, ?_, ?_, ?_⟩
        · unfold thNext
          dsimp only
          rw [if_pos hb]
          simp
        · unfold tryNext; exact hthn.symm
        · unfold tryNext; dsimp only; rw [if_neg (by omega)]
      · rw [if_neg e1] at hj ⊢
        obtain ⟨x, h1, h2, h3⟩ := hS.act j hj
        exact ⟨x, by rw [List.getElem?_append_left (by rcases Nat.lt_or_ge (S.ths j).try_ S.tries.length with h | h; exact h; rw [List.getElem?_eq_none h] at h1; cases h1)]; exact h1, h2, h3⟩
    · rw [hths]; unfold updT
      split
      · unfold thNext; dsimp only; rw [h2']; omega
      · exact hS.hows j
    · rw [htr] at hx
      rcases List.mem_append.1 hx with hx | hx
      · have := hS.last x hx; omega
      · simp only [List.mem_singleton] at hx
        subst hx
        unfold tryNext
        dsimp only
        omega
  · have hk1 : e.kd.toNat ≠ 1 := by omega
    have hths : (takeE S i e).ths = updT S.ths e.th.toNat (thNext (S.ths e.th.toNat) S.tries.length e) := rfl
    have htry : (thNext (S.ths e.th.toNat) S.tries.length e).try_ = (S.ths e.th.toNat).try_ := by unfold thNext; dsimp only; rw [if_neg hb]
    by_cases h0 : (S.ths e.th.toNat).how = 0
    · -- no attempt is under way
      have htr : (takeE S i e).tries = S.tries := by
        unfold takeE
        dsimp only
        rw [if_neg (by simp [h0, hb]), if_neg hb]
      have h14 : turnT (S.ths e.th.toNat).how e.kd = 1 ∨ turnT (S.ths e.th.toNat).how e.kd = 4 := t0 h0 hk1
      refine ⟨by rw [htr]; exact LeL.refl _, ⟨fun j hj => ?_, fun j => ?_, fun x hx => ?_⟩⟩
      · rw [hths] at hj ⊢
        rw [htr]
        unfold updT at hj ⊢
        by_cases e1 : j = e.th.toNat
        · rw [if_pos e1] at hj
          unfold thNext at hj
          dsimp only at hj
          omega
        · rw [if_neg e1] at hj ⊢
          exact hS.act j hj
      · rw [hths]; unfold updT
        split
        · unfold thNext; dsimp only; omega
        · exact hS.hows j
      · rw [htr] at hx
        have := hS.last x hx
        omega
    · have h12 : (S.ths e.th.toNat).how = 1 ∨ (S.ths e.th.toNat).how = 2 := by
        have : (S.ths e.th.toNat).how ≠ 3 := t3
        omega
      obtain ⟨x0, a1, a2, a3⟩ := hS.act _ h12
      have tg1 := tg h12
      have htr : (takeE S i e).tries = S.tries.modify (S.ths e.th.toNat).try_ (fun x => tryNext x i e) := by
        unfold takeE
        dsimp only
        rw [if_pos (Or.inl h0), if_neg hb, htry]
      have hget : ∀ k x, S.tries[k]? = some x → (takeE S i e).tries[k]? = some (if (S.ths e.th.toNat).try_ = k then tryNext x i e else x) := fun k x hx => by
        rw [htr, List.getElem?_modify, hx]
        split <;> simp_all
      refine ⟨fun k x hx => ⟨_, hget k x hx, ?_⟩, ⟨fun j hj => ?_, fun j => ?_, fun x hx => ?_⟩⟩
      · by_cases e1 : (S.ths e.th.toNat).try_ = k
        · rw [if_pos e1]
          subst e1
          obtain rfl : x0 = x := by rw [a1] at hx; exact Option.some.inj hx
          refine ⟨rfl, rfl, ?_, hS.last _ (List.mem_of_getElem? hx), fun q => absurd a3 q⟩
          unfold tryNext
          dsimp only
          split <;> omega
        · rw [if_neg e1]; exact LeT.refl x
      · rw [hths] at hj ⊢
        unfold updT at hj ⊢
        by_cases e1 : j = e.th.toNat
        · subst e1
          rw [if_pos rfl] at hj ⊢
          rw [htry]
          refine ⟨_, hget _ _ a1, ?_, ?_⟩
          · rw [if_pos rfl]; exact a2
          · rw [if_pos rfl]
            unfold tryNext
            dsimp only
            by_cases hend : e.kd = 6 ∨ e.kd = 7 ∨ e.kd = 8 ∨ e.kd = 9
            · have := tg1 (by omega)
              have hj' : turnT (S.ths e.th.toNat).how e.kd - 1 = 1 ∨ turnT (S.ths e.th.toNat).how e.kd - 1 = 2 := hj
              have h' : turnT (S.ths e.th.toNat).how e.kd = 1 ∨ turnT (S.ths e.th.toNat).how e.kd = 4 := this
              omega
            · rw [if_neg hend]; exact a3
        · rw [if_neg e1] at hj ⊢
          obtain ⟨x, b1, b2, b3⟩ := hS.act j hj
          refine ⟨_, hget _ _ b1, ?_, ?_⟩
          · split
            · exact b2
            · exact b2
          · split
            · rename_i q
              rw [← q, a1] at b1
              obtain rfl := Option.some.inj b1
              omega
            · exact b3
      · rw [hths]; unfold updT
        split
        · unfold thNext turnT at *; dsimp only; omega
        · exact hS.hows j
      · obtain ⟨k, hk⟩ := List.getElem?_of_mem hx
        have hlt : k < S.tries.length := by
          rcases Nat.lt_or_ge k (takeE S i e).tries.length with h | h
          · rw [htr, List.length_modify] at h; exact h
          · rw [List.getElem?_eq_none h] at hk; cases hk
        rw [hget k _ (List.getElem?_eq_getElem hlt)] at hk
        obtain rfl := Option.some.inj hk
        have := hS.last _ (List.getElem_mem hlt)
        split
        · unfold tryNext; dsimp only; omega
        · omega
theorem run_going (l : List Ev) : ∀ (S : LS) (i : Nat), Going S i → LeL S.tries (runE S i l).1.tries ∧ Going (runE S i l).1 (runE S i l).2.1 := by
  induction l with
  | nil => exact fun S i h => ⟨LeL.refl _, h⟩
  | cons e l ih =>
    intro S i h
    rw [runE]
    by_cases hw : wrongE S e = 0
    · rw [if_pos hw]
      obtain ⟨h1, h2⟩ := take_going h hw
      obtain ⟨h3, h4⟩ := ih _ _ h2
      exact ⟨h1.trans h3, h4⟩
    · rw [if_neg hw]
      exact ⟨LeL.refl _, h⟩
theorem going0 : Going ls0 0 := ⟨fun j h => by simp [ls0, th0] at h, fun j => by simp [ls0, th0], fun x h => by simp [ls0] at h⟩
theorem run_app (p q : List Ev) : ∀ (S : LS) (i : Nat), (runE S i p).2.2 = 0 → runE S i (p ++ q) = runE (runE S i p).1 (runE S i p).2.1 q := by
  induction p with
  | nil => intro S i _; rfl
  | cons e p ih =>
    intro S i h
    rw [List.cons_append, runE, runE]
    rw [runE] at h
    by_cases hw : wrongE S e = 0
    · rw [if_pos hw] at h
      rw [if_pos hw, if_pos hw]
      exact ih _ _ h
    · rw [if_neg hw] at h
      exact absurd h hw
/-- a beginning of what can be can be -/
theorem run_begin (p q : List Ev) : ∀ (S : LS) (i : Nat), (runE S i (p ++ q)).2.2 = 0 → (runE S i p).2.2 = 0 := by
  induction p with
  | nil => intro S i _; rfl
  | cons e p ih =>
    intro S i h
    rw [List.cons_append, runE] at h
    rw [runE]
    by_cases hw : wrongE S e = 0
    · rw [if_pos hw] at h ⊢
      exact ih _ _ h
    · rw [if_neg hw] at h
      exact absurd h hw
theorem run_less (p q : List Ev) (h : (runE ls0 0 (p ++ q)).2.2 = 0) : LeL (runE ls0 0 p).1.tries (runE ls0 0 (p ++ q)).1.tries := by
  have h0 := run_begin p q ls0 0 h
  rw [run_app p q ls0 0 h0]
  exact (run_going q _ _ (run_going p ls0 0 going0).2).1
/-- up to the event that can't be: all others can; with it: the same refusal -/
theorem run_stop (l : List Ev) : ∀ (S : LS) (i : Nat), (runE S i l).2.2 ≠ 0 → ∃ k, (runE S i l).2.1 = i + k ∧ k < l.length ∧ (runE S i (l.take k)).2.2 = 0 ∧ (runE S i (l.take (k + 1))).2 = (runE S i l).2 := by
  induction l with
  | nil => intro S i h; exact absurd rfl h
  | cons e l ih =>
    intro S i h
    rw [runE] at h ⊢
    by_cases hw : wrongE S e = 0
    · rw [if_pos hw] at h ⊢
      obtain ⟨k, h1, h2, h3, h4⟩ := ih _ _ h
      refine ⟨k + 1, by omega, by simp; omega, ?_, ?_⟩
      · rw [List.take_succ_cons, runE, if_pos hw]; exact h3
      · rw [List.take_succ_cons, runE, if_pos hw]; exact h4
    · rw [if_neg hw]
      refine ⟨0, rfl, by simp, rfl, ?_⟩
      rw [List.take_succ_cons, runE, if_neg hw]
end Go.Proofs.YtfldpejifpmapaaDoor
set_option linter.unusedSimpArgs false
set_option linter.unusedVariables false
set_option maxRecDepth 100000
namespace Go.Proofs.YtfldpejifpmapaaDoor
open Go.RowKit
open Go.Maps
/-- p reads as these attempts -/
def TryAt (w : World) (p : Option Addr) (l : List Try) : Prop := ∀ i x, l[i]? = some x → ∃ b o, p = some ⟨b, o, none⟩ ∧ w.cell? ⟨b, o + i * 7, none⟩ = some (.int .i64 x.th) ∧ w.cell? ⟨b, o + i * 7 + 1, none⟩ = some (.int .i64 x.first) ∧ w.cell? ⟨b, o + i * 7 + 2, none⟩ = some (.int .i64 x.last) ∧ w.cell? ⟨b, o + i * 7 + 3, none⟩ = some (.int .u64 x.snap) ∧ w.cell? ⟨b, o + i * 7 + 4, none⟩ = some (.int .i64 x.how) ∧ w.cell? ⟨b, o + i * 7 + 5, none⟩ = some (.int .i64 x.reads) ∧ w.cell? ⟨b, o + i * 7 + 6, none⟩ = some (.int .i64 x.writes)
theorem TryAt.upd0 {w w' : World} {p : Option Addr} {l : List Try} (h : TryAt w p l) (u : Upd [] w w') : TryAt w' p l := by
  intro i x hx
  obtain ⟨b, o, rfl, h0, h1, h2, h3, h4, h5, h6⟩ := h i x hx
  exact ⟨b, o, rfl, u.cell (by simp) h0, u.cell (by simp) h1, u.cell (by simp) h2, u.cell (by simp) h3, u.cell (by simp) h4, u.cell (by simp) h5, u.cell (by simp) h6⟩
theorem try_flat : ∀ (l : List Try) (i : Nat) (x : Try) (j : Nat), l[i]? = some x → j < 7 → (l.flatMap Try.cells)[i * 7 + j]? = x.cells[j]?
  | [], i, x, j, h, _ => by simp at h
  | y :: l, 0, x, j, h, hj => by
    obtain rfl : y = x := by simpa using h
    rw [List.flatMap_cons, List.getElem?_append_left (by simp [Try.cells]; omega)]
    congr 1
    omega
  | y :: l, i + 1, x, j, h, hj => by
    have hc : y.cells.length = 7 := rfl
    rw [List.flatMap_cons, List.getElem?_append_right (by rw [hc]; omega), hc, show (i + 1) * 7 + j - 7 = i * 7 + j by omega]
    exact try_flat l i x j (by simpa using h) hj
theorem try_flat_len (l : List Try) : (l.flatMap Try.cells).length = l.length * 7 := by
  induction l with
  | nil => rfl
  | cons a l ih => rw [List.flatMap_cons, List.length_append, ih, List.length_cons]; simp [Try.cells]; omega
/-- an own row of attempts reads as these -/
theorem own_tries {w : World} {base : Nat} {v : Value} {l : List Try} (h : w.ownsRow base 52 7 v l.length (l.flatMap Try.cells)) : ∃ p c, v = .slice p l.length c ∧ TryAt w p l := by
  obtain ⟨p, c, rfl⟩ := own_form h
  refine ⟨p, c, rfl, fun i x hx => ?_⟩
  have hi : i < l.length := (List.getElem?_eq_some_iff.1 hx).1
  obtain ⟨g, c', e⟩ := own_some h (by omega)
  cases e
  obtain ⟨_, _, sp, hB⟩ := own_openN h
  have hc : ∀ j, j < 7 → (l.flatMap Try.cells ++ sp)[i * 7 + j]? = x.cells[j]? := fun j hj => by
    rw [List.getElem?_append_left (by rw [try_flat_len]; omega)]
    exact try_flat l i x j hx hj
  have hz : ∀ k, (0 + i * 7 + k) = i * 7 + k := fun k => by omega
  refine ⟨g, 0, rfl, ?_, ?_, ?_, ?_, ?_, ?_, ?_⟩
  · have := hB.cell (i * 7 + 0) ((hc 0 (by omega)).trans rfl); rwa [Nat.add_zero, ← Nat.zero_add (i * 7)] at this
  · rw [hz]; exact hB.cell _ ((hc 1 (by omega)).trans rfl)
  · rw [hz]; exact hB.cell _ ((hc 2 (by omega)).trans rfl)
  · rw [hz]; exact hB.cell _ ((hc 3 (by omega)).trans rfl)
  · rw [hz]; exact hB.cell _ ((hc 4 (by omega)).trans rfl)
  · rw [hz]; exact hB.cell _ ((hc 5 (by omega)).trans rfl)
  · rw [hz]; exact hB.cell _ ((hc 6 (by omega)).trans rfl)
theorem HistAt.take {w : World} {p : Option Addr} {l : List Ev} (h : HistAt w p l) (n : Nat) : HistAt w p (l.take n) := by
  intro i x hx
  rw [List.getElem?_take] at hx
  split at hx
  · exact h i x hx
  · cases hx
theorem slice_to (p : Option Addr) (n cap k : Nat) (h : k ≤ cap) (w : World) : (Instr.sliceAt 22 (.slice p n cap) none (some (.int .i64 (k : Int))) none).run Tryd.prog w = .ok (.slice p k cap) w := by
  have he : Tryd.prog.elem 22 = 27 := by kernel_rfl
  have hu : Tryd.prog.underlying 22 = some (.slice (Tryd.prog.elem 22)) := by rw [he]; exact Tryd.underlying22
  obtain ⟨i0, hi, hz0, hz1, hz2⟩ := info_parts info_ev
  have hs : (sizeOf (Tryd.prog.elem 22)).run Tryd.prog w = .ok 6 w := by rw [he]; simp [sizeOf, typeInfo, hi, hz1]
  rw [run_sliceAt_slice (h := hu), run_slice_h (ht := hu) (h0 := by omega) (h2 := by omega), hs]
  show Result.ok (sliced p 0 (k : Int).toNat cap 6) w = _
  unfold sliced
  rw [Int.toNat_natCast]
  cases p with
  | none => simp
  | some a => cases a; simp [Addr.add]
theorem takeE_len (S : LS) (i : Nat) (e : Ev) : (takeE S i e).tries.length ≤ S.tries.length + 1 := by
  unfold takeE
  dsimp only
  split <;> split <;> simp
theorem run_len : ∀ (l : List Ev) (S : LS) (i : Nat), (runE S i l).1.tries.length ≤ S.tries.length + l.length
  | [], S, i => by rw [runE]; simp
  | e :: l, S, i => by
    rw [runE]
    split
    · have h1 := run_len l (takeE S i e) (i + 1)
      have h2 := takeE_len S i e
      rw [List.length_cons]
      omega
    · dsimp only; omega
/-- how far a history can be -/
theorem begins_plain (l : List Ev) : ∃ G : Nat, G ≤ l.length ∧ (runE ls0 0 (l.take G)).2.2 = 0 ∧ ((oddE l = (-1, 0) ∧ G = l.length) ∨ (∃ er, oddE l = ((G : Int), er) ∧ er ≠ 0 ∧ G < l.length ∧ oddE (l.take (G + 1)) = ((G : Int), er))) := by
  by_cases h : (runE ls0 0 l).2.2 = 0
  · exact ⟨l.length, Nat.le_refl _, by rw [List.take_length]; exact h, .inl ⟨by unfold oddE; rw [if_pos h], rfl⟩⟩
  · obtain ⟨k, h1, h2, h3, h4⟩ := run_stop l ls0 0 h
    rw [Nat.zero_add] at h1
    have hO : oddE l = ((k : Int), (runE ls0 0 l).2.2) := by unfold oddE; rw [if_neg h, h1]
    refine ⟨k, by omega, h3, .inr ⟨_, hO, h, h2, ?_⟩⟩
    unfold oddE
    rw [h4, if_neg h, h1]
theorem begin_part {l : List Ev} {G n : Nat} (h : (runE ls0 0 (l.take G)).2.2 = 0) (hn : n ≤ G) : (runE ls0 0 (l.take n)).2.2 = 0 ∧ LeL (runE ls0 0 (l.take n)).1.tries (runE ls0 0 (l.take G)).1.tries := by
  have e : l.take G = l.take n ++ (l.take G).drop n := by
    conv => lhs; rw [← List.take_append_drop n (l.take G)]
    rw [List.take_take, Nat.min_eq_left hn]
  rw [e] at h ⊢
  exact ⟨run_begin _ _ _ _ h, run_less _ _ h⟩
end Go.Proofs.YtfldpejifpmapaaDoor
set_option linter.unusedSimpArgs false
set_option linter.unusedVariables false
set_option maxRecDepth 100000
namespace Go.Proofs.YtfldpejifpmapaaDoor
open Go.RowKit
open Go.Maps
/-- an own row of events reads as these -/
theorem own_hist {w : World} {base : Nat} {v : Value} {l : List Ev} (h : w.ownsRow base 27 6 v l.length (l.flatMap Ev.cells)) : ∃ p c, v = .slice p l.length c ∧ HistAt w p l := by
  obtain ⟨p, c, rfl⟩ := own_form h
  refine ⟨p, c, rfl, ?_⟩
  cases l with
  | nil => intro i x hx; simp at hx
  | cons a l =>
    obtain ⟨g, c', e⟩ := own_some h (by simp)
    cases e
    obtain ⟨_, _, sp, hB⟩ := own_openN h
    exact hist_of_blk hB
set_option maxHeartbeats 4000000 in
theorem rsame_code (w : World) (p q : Option Addr) (c d : Nat) (l : List Ev) (hp : HistAt w p l) (hq : HistAt w q l) (hl : l.length ≤ 1000000000000) : Calls Tryd.prog 19 #[.slice p l.length c, .slice q l.length d] w fun e w' => e = .returned (.bool true) ∧ Upd [] w w' := by
  have HPP := Lib.hid hp
  have HQQ := Lib.hid hq
  clear hp hq
  refine calls_all fun K hK => ?_
  go_enter Tryd.func19, Tryd.ntmps19
  go_wp2_with fail
  go_loopw [5] (fun v5 wr => ∃ k : Nat, k ≤ l.length ∧ v5 = .int .i64 k ∧ Upd [] w wr) (fun v5 _ => l.length - (intOf v5).toNat)
  case atStart => exact ⟨0, by omega, rfl, Upd.refl _ _⟩
  case round =>
    obtain ⟨k, hk, rfl, hu⟩ := hrel
    have HU := Lib.hid hu
    clear hu
    by_cases hlt : k < l.length
    · have hlt' : (k : Int) < (l.length : Int) := by omega
      have hk0 : 0 ≤ (k : Int) := by omega
      obtain ⟨x, hx⟩ : ∃ x, l[k]? = some x := ⟨_, List.getElem?_eq_getElem hlt⟩
      obtain ⟨b, o, hpo, h0, h1, h2, h3, h4, h5⟩ := (HPP.out.upd0 HU.out) k x hx
      obtain ⟨b', o', hpo', g0, g1, g2, g3, g4, g5⟩ := (HQQ.out.upd0 HU.out) k x hx
      subst hpo
      subst hpo'
      clear hx
      obtain ⟨th, kd, ad, wd, own, er⟩ := x
      dsimp only at h0 h1 h2 h3 h4 h5 g0 g1 g2 g3 g4 g5
      go_wp2_with fail
      go_quiet (fail)
      go_wp2_with fail
      go_roundw
      case rel => exact ⟨k + 1, by omega, by go_num, HU.out.trans ((Upd.refl _ _).drewN _)⟩
      case measure => simp [intOf]; omega
    · obtain rfl : k = l.length := by omega
      go_wp2_with fail
      exact ⟨rfl, HU.out⟩
set_option maxHeartbeats 4000000 in
theorem equal_code (w : World) (p q : Option Addr) (c d : Nat) (l : List Ev) (hp : HistAt w p l) (hq : HistAt w q l) (hl : l.length ≤ 1000000000000) : Calls Tryd.prog 53 #[.slice p l.length c, .slice q l.length d] w fun e w' => e = .returned (.bool true) ∧ Upd [] w w' := by
  have HPP := Lib.hid hp
  have HQQ := Lib.hid hq
  clear hp hq
  refine calls_all fun K hK => ?_
  go_enter Tryd.func53, Tryd.ntmps53
  go_wp2_with fail
  go_loopw [13] (fun v13 wr => ∃ k : Nat, k ≤ l.length ∧ v13 = .int .i64 k ∧ Upd [] w wr) (fun v13 _ => l.length - (intOf v13).toNat)
  case atStart => exact ⟨0, by omega, rfl, Upd.refl _ _⟩
  case round =>
    obtain ⟨k, hk, rfl, hu⟩ := hrel
    have HU := Lib.hid hu
    clear hu
    by_cases hlt : k < l.length
    · have hlt' : (k : Int) < (l.length : Int) := by omega
      have hk0 : 0 ≤ (k : Int) := by omega
      obtain ⟨x, hx⟩ : ∃ x, l[k]? = some x := ⟨_, List.getElem?_eq_getElem hlt⟩
      obtain ⟨b, o, hpo, h0, h1, h2, h3, h4, h5⟩ := (HPP.out.upd0 HU.out) k x hx
      obtain ⟨b', o', hpo', g0, g1, g2, g3, g4, g5⟩ := (HQQ.out.upd0 HU.out) k x hx
      subst hpo
      subst hpo'
      clear hx
      obtain ⟨th, kd, ad, wd, own, er⟩ := x
      dsimp only at h0 h1 h2 h3 h4 h5 g0 g1 g2 g3 g4 g5
      go_wp2_with fail
      go_quiet (fail)
      go_wp2_with fail
      go_roundw
      case rel => exact ⟨k + 1, by omega, by go_num, HU.out.trans ((Upd.refl _ _).drewN _)⟩
      case measure => simp [intOf]; omega
    · obtain rfl : k = l.length := by omega
      go_wp2_with fail
      exact ⟨rfl, HU.out⟩
theorem esame_code (w : World) (p q : Option Addr) (c d : Nat) (l : List Ev) (hp : HistAt w p l) (hq : HistAt w q l) (hl : l.length ≤ 1000000000000) : Calls Tryd.prog 23 #[.slice p l.length c, .slice q l.length d] w fun e w' => e = .returned (.bool true) ∧ Upd [] w w' := by
  refine calls_all fun K hK => ?_
  go_enter Tryd.func23, Tryd.ntmps23
  go_wp2_with fail
  refine (equal_code w p q c d l hp hq hl).mono ?_
  rintro e w' ⟨rfl, u⟩
  go_wp2_with fail
  exact ⟨rfl, u⟩
end Go.Proofs.YtfldpejifpmapaaDoor
set_option linter.unusedSimpArgs false
set_option linter.unusedVariables false
set_option maxRecDepth 100000
namespace Go.Proofs.YtfldpejifpmapaaDoor
open Go.RowKit
open Go.Maps
theorem append_nil0 (w : World) (p : Option Addr) (c : Nat) : (Builtin.append_ #[22, 22] 22 #[.slice none 0 0, .slice p 0 c]).run Tryd.prog w = .ok (.slice none 0 0) w := by
  obtain ⟨i0, hi, hz0, hz1, hz2⟩ := info_parts info_ev
  cases p with
  | none => simp [Builtin.append_, run_underlying Tryd.underlying22, sizeOf, typeInfo, hi, Builtin.lenOf, Builtin.firstCells, storeCells]
  | some b => simp [Builtin.append_, run_underlying Tryd.underlying22, sizeOf, typeInfo, hi, Builtin.lenOf, Builtin.firstCells, loadCells, loadCellsFrom, storeCells]
/-- a copy of any history in new memory -/
theorem app_histN {W : World} {po : Option Addr} (l : List Ev) (cap : Nat) (hm : l.length ≤ 2000000) (h : HistAt W po l) :
    ∃ v w', (Builtin.append_ #[22, 22] 22 #[.slice none 0 0, .slice po l.length cap]).run Tryd.prog W = .ok v w' ∧ w'.ownsRow W.heap.size 27 6 v l.length (l.flatMap Ev.cells) ∧ Upd [] W w' := by
  by_cases hn : l = []
  · subst hn
    exact ⟨_, _, append_nil0 W po cap, ⟨rfl, .inl ⟨rfl, rfl⟩⟩, Upd.refl _ _⟩
  · obtain ⟨i0, hi, hz0, hz1, hz2⟩ := info_parts info_ev
    have hn0 : 0 < l.length := List.length_pos_iff.2 hn
    obtain ⟨b, o, rfl, _⟩ := h 0 l[0] (List.getElem?_eq_getElem hn0)
    obtain ⟨v', w', hr, ho, hg, _, _⟩ := run_append_own_at (P := Tryd.prog) (w := W) W.heap.size 22 22 27 i0 _ 6 48 Tryd.underlying22 hi hz0 hz1 hz2 rfl (by decide)
      (.slice none 0 0) 0 [] ⟨rfl, .inl ⟨rfl, rfl⟩⟩ ⟨b, o, none⟩ l.length cap (l.flatMap Ev.cells) (ev_flat_len l) (hist_src h) (by
        intro u hu
        obtain ⟨x, _, hx⟩ := List.mem_flatMap.1 hu
        simp [Ev.cells] at hx
        rcases hx with rfl | rfl | rfl | rfl | rfl | rfl <;> rfl) (by unfold maxLen; omega) (by omega) (Nat.le_refl _)
    rw [Nat.zero_add, List.nil_append] at ho
    exact ⟨v', w', hr, ho, Upd.of_grown hg (fun k e => by simp [Value.ownBlock] at e)⟩
theorem own_le {w : World} {base : Nat} {e : TypeId} {size n m c : Nat} {p : Option Addr} {us : List Value} (h : w.ownsRow base e size (.slice p n c) m us) : m ≤ c := by
  obtain ⟨_, ⟨h2, rfl⟩ | ⟨g', cap, cur, hv, hb, hh, hn, hm, hs, ht⟩⟩ := h
  · exact Nat.zero_le _
  · cases hv; exact hn
def markE : Ev := ⟨-7, 0, 0, 0, false, 0⟩
/-- what was lent: a slice of l, the mark behind it -/
def LentE (w : World) (B : Nat) (p : Option Addr) (c : Nat) (l : List Ev) : Prop := w.ownsRow B 27 6 (.slice p (l ++ [markE]).length c) (l ++ [markE]).length ((l ++ [markE]).flatMap Ev.cells)
theorem HistAt.pre {w : World} {p : Option Addr} {l m : List Ev} (h : HistAt w p (l ++ m)) : HistAt w p l := fun i x hx => h i x (by rw [List.getElem?_append_left (List.getElem?_eq_some_iff.1 hx).1]; exact hx)
theorem LentE.hist {w : World} {B : Nat} {p : Option Addr} {c : Nat} {l : List Ev} (h : LentE w B p c l) : HistAt w p l := by
  obtain ⟨p', c', e, hh⟩ := own_hist h
  cases e
  exact hh.pre
theorem LentE.upd0 {w w' : World} {B : Nat} {p : Option Addr} {c : Nat} {l : List Ev} (h : LentE w B p c l) (u : Upd [] w w') : LentE w' B p c l := own_upd h u (by simp)
set_option maxHeartbeats 4000000 in
theorem lent_code (w : World) (po : Option Addr) (cap : Nat) (l : List Ev) (hH : HistAt w po l) (hl : l.length ≤ 2000000) : Calls Tryd.prog 11 #[.slice po l.length cap] w fun e w' => Upd [] w w' ∧ ∃ p c, e = .returned (.slice p l.length c) ∧ LentE w' w.heap.size p c l := by
  obtain ⟨v1, W1, hr1, ho1, u1⟩ := app_histN l cap hl hH
  obtain ⟨p1, c1, rfl⟩ := own_form ho1
  obtain ⟨v2, W2, hr2, ho2, u2, _⟩ := app_ev ho1 markE (by omega) u1.size
  have hu2 : Upd [] w W2 := (u1.alloc _).tr (U := []) u2 (by simp) (fun g hg => .inr (own_blocks ho1 g hg).1)
  obtain ⟨p2, c2, rfl⟩ := own_form ho2
  have hc := own_le ho2
  have E1 := fun w => slice_to p2 (l.length + 1) c2 l.length (by omega) w
  have HL := Lib.hid (show LentE W2 w.heap.size p2 c2 l by unfold LentE; rw [List.length_append, List.length_singleton]; exact ho2)
  have HU := Lib.hid hu2
  simp only [Ev.cells, markE] at hr2
  clear hH ho1 ho2 u1 u2 hu2 hc
  generalize l.length = N at *
  refine calls_all fun K hK => ?_
  go_enter Tryd.func11, Tryd.ntmps11
  go_wp2_with (at_builtin; first | (refine wpList_append_eq rfl _ _ _ _ rfl _ _ _ rfl rfl hr1 ?_) | (refine wpList_append_eq rfl _ _ _ _ rfl _ _ _ rfl rfl hr2 ?_))
  all_goals exact ⟨HU.out, p2, c2, rfl, HL.out⟩
set_option maxHeartbeats 4000000 in
theorem left_code (w : World) (B : Nat) (p po : Option Addr) (c cap : Nat) (l : List Ev) (hL : LentE w B p c l) (hH : HistAt w po l) (hl : l.length ≤ 2000000) : Calls Tryd.prog 34 #[.slice p l.length c, .slice po l.length cap] w fun e w' => e = .returned (.bool true) ∧ Upd [] w w' := by
  have HS := Lib.hid (rsame_code w p po c cap l hL.hist hH (by omega))
  obtain ⟨g, c', e⟩ := own_some hL (by simp)
  cases e
  obtain ⟨_, _, sp, hB⟩ := own_openN hL
  have hc := own_le hL
  have hcl : ((l ++ [markE]).flatMap Ev.cells ++ sp)[l.length * 6 + 0]? = some (.int .i64 (-7)) := by
    rw [List.getElem?_append_left (by rw [ev_flat_len]; simp), ev_flat _ l.length markE 0 (by simp) (by omega)]
    rfl
  rw [Nat.add_zero] at hcl
  have E1 := fun w => slice_to (some ⟨g, 0, none⟩) l.length c (l.length + 1) (by rw [List.length_append, List.length_singleton] at hc; exact hc) w
  have HB := Lib.hid hB
  have HC := Lib.hid hcl
  clear hL hH hB hcl hc
  generalize l.length = N at *
  have hN : (N : Int) < ((N + 1 : Nat) : Int) := by omega
  have hN0 : 0 ≤ (N : Int) := by omega
  have hN1 : N < N + 1 := by omega
  have hw1 : IntKind.i64.wrap ((N : Int) + 1) = ((N + 1 : Nat) : Int) := by rw [IntKind.wrap_i64]; omega
  generalize N + 1 = N1 at hN hN1 hw1 E1
  refine calls_all fun K hK => ?_
  go_enter Tryd.func34, Tryd.ntmps34
  go_wp2_with fail
  refine HS.out.mono ?_
  rintro e W2 ⟨rfl, u2⟩
  have hcell := (HB.out.upd u2 (by simp)).cell _ HC.out
  have HU := Lib.hid u2
  clear u2
  go_wp2_with fail
  exact ⟨rfl, HU.out⟩
end Go.Proofs.YtfldpejifpmapaaDoor
set_option linter.unusedSimpArgs false
set_option linter.unusedVariables false
set_option maxRecDepth 100000
namespace Go.Proofs.YtfldpejifpmapaaDoor
open Go.RowKit
theorem dec_small {u : Nat} (h : u < 10) : Lib.decDigits u = [UInt8.ofNat (48 + u)] := Lib.decDigits_one h
theorem dec_big {u : Nat} (h : ¬ u < 10) : Lib.decDigits u = Lib.decDigits (u / 10) ++ [UInt8.ofNat (48 + u % 10)] := by rw [Lib.decDigits, dif_neg h]

theorem isDig_ofNat {d : Nat} (h : d < 10) : isDig (UInt8.ofNat (48 + d)) = true := by
  unfold isDig
  have : (UInt8.ofNat (48 + d)).toNat = 48 + d := by simp; omega
  rw [this]
  exact decide_eq_true (by omega)
theorem toNat_dig {d : Nat} (h : d < 10) : (UInt8.ofNat (48 + d)).toNat = 48 + d := by simp; omega

theorem dec_all (u : Nat) : (Lib.decDigits u).all isDig = true := by
  induction u using Nat.strongRecOn with
  | ind u ih =>
    by_cases h : u < 10
    · rw [dec_small h, List.all_cons, isDig_ofNat h]; rfl
    · rw [dec_big h, List.all_append, ih (u / 10) (by omega)]
      rw [List.all_cons, isDig_ofNat (Nat.mod_lt u (by omega))]; rfl
theorem dec_ne (u : Nat) : Lib.decDigits u ≠ [] := by
  by_cases h : u < 10
  · rw [dec_small h]; simp
  · rw [dec_big h]; simp
theorem parseM_snoc (M : Nat) : ∀ (l : List UInt8) (acc : Nat) (c : UInt8) (u : Nat), Lib.parseUintM M acc (l ++ [c]) = .ok u ↔ ∃ v, Lib.parseUintM M acc l = .ok v ∧ Lib.parseUintM M v [c] = .ok u
  | [], acc, c, u => by
    constructor
    · intro h; exact ⟨acc, rfl, h⟩
    · rintro ⟨v, h1, h2⟩; cases h1; exact h2
  | x :: l, acc, c, u => by
    rw [List.cons_append, Lib.parseUintM, Lib.parseUintM]
    split
    · split
      · simp
      · split
        · simp
        · exact parseM_snoc M l _ c u
    · simp

theorem parseM_one (v : Nat) (c : UInt8) (u : Nat) : Lib.parseUintM 18446744073709551615 v [c] = .ok u ↔ isDig c = true ∧ u = v * 10 + (c.toNat - 48) ∧ u ≤ 18446744073709551615 := by
  rw [Lib.parseUintM]
  unfold isDig
  split
  · rename_i hd
    rw [decide_eq_true hd]
    split
    · rename_i h1
      constructor
      · intro h; cases h
      · rintro ⟨_, rfl, h⟩; omega
    · split
      · rename_i h1 h2
        constructor
        · intro h; cases h
        · rintro ⟨_, rfl, h⟩; omega
      · rename_i h1 h2
        rw [Lib.parseUintM]
        constructor
        · intro h; cases h; exact ⟨rfl, rfl, by omega⟩
        · rintro ⟨_, rfl, h⟩; rfl
  · rename_i hd
    rw [decide_eq_false hd]
    constructor
    · intro h; cases h
    · rintro ⟨h, _⟩; cases h

theorem parseM_dec (u : Nat) (h : u ≤ 18446744073709551615) : Lib.parseUintM 18446744073709551615 0 (Lib.decDigits u) = .ok u := by
  induction u using Nat.strongRecOn with
  | ind u ih =>
    by_cases h1 : u < 10
    · rw [dec_small h1, parseM_one]
      exact ⟨isDig_ofNat h1, by rw [toNat_dig h1]; omega, h⟩
    · rw [dec_big h1, parseM_snoc]
      refine ⟨u / 10, ih (u / 10) (by omega) (by omega), ?_⟩
      rw [parseM_one]
      have hm := Nat.mod_lt u (show 10 > 0 by omega)
      exact ⟨isDig_ofNat hm, by rw [toNat_dig hm]; omega, h⟩

theorem parse_dec (u : Nat) (h : u < 18446744073709551616) : Lib.parseUintB 64 (Lib.decDigits u) = .ok u := by
  unfold Lib.parseUintB
  rw [if_neg (dec_ne u)]
  rw [show 2 ^ 64 - 1 = 18446744073709551615 from rfl, parseM_dec u (by omega)]
theorem take_all {p : UInt8 → Bool} : ∀ (a l : List UInt8), a.all p = true → (a ++ l).takeWhile p = a ++ l.takeWhile p ∧ (a ++ l).dropWhile p = l.dropWhile p
  | [], l, _ => ⟨rfl, rfl⟩
  | x :: a, l, h => by
    simp only [List.all_cons, Bool.and_eq_true] at h
    obtain ⟨h1, h2⟩ := take_all a l h.2
    rw [List.cons_append, List.takeWhile_cons, List.dropWhile_cons, h.1, if_pos rfl, if_pos rfl, h1, h2]
    exact ⟨rfl, rfl⟩
/-- a number, written ahead of what is no digit, is read -/
theorem number_dec (u : Nat) (h : u < 18446744073709551616) (l : List UInt8) (hl : l.takeWhile isDig = []) (hd : l.dropWhile isDig = l) : numberL (Lib.decDigits u ++ l) = (u, l, true) := by
  obtain ⟨h1, h2⟩ := take_all (Lib.decDigits u) l (dec_all u)
  unfold numberL
  rw [h1, h2, hl, hd, List.append_nil, parse_dec u h]
  rfl
theorem number_sp (u : Nat) (h : u < 18446744073709551616) (l : List UInt8) : numberL (Lib.decDigits u ++ 32 :: l) = (u, 32 :: l, true) := number_dec u h (32 :: l) rfl rfl
theorem number_end (u : Nat) (h : u < 18446744073709551616) : numberL (Lib.decDigits u) = (u, [], true) := by
  have := number_dec u h [] rfl rfl
  rwa [List.append_nil] at this
theorem cut_at (a r : List UInt8) (c : UInt8) (h : c ∉ a) : Lib.cut (a ++ c :: r) [c] = (a, r, true) := by
  have hi : Lib.index (a ++ c :: r) [c] = a.length := by
    refine Lib.index_first (by simp) ?_ fun j hj => ?_
    · unfold Lib.occAt
      rw [List.drop_left' rfl]
      simp [List.isPrefixOf]
    · unfold Lib.occAt
      rw [List.drop_append_of_le_length (by omega), List.drop_eq_getElem_cons hj]
      simp only [List.cons_append, List.isPrefixOf, Bool.and_true, beq_eq_false_iff_ne]
      exact fun e => h (by rw [e]; exact List.getElem_mem hj)
  unfold Lib.cut
  rw [hi, if_pos (by omega), Int.toNat_natCast, List.take_left' rfl]
  simp
theorem cut_no (a : List UInt8) (c : UInt8) (h : c ∉ a) : Lib.cut a [c] = (a, [], false) := by
  have hi : Lib.index a [c] = -1 := by
    refine Lib.index_none fun j hj => ?_
    unfold Lib.occAt
    rcases Nat.lt_or_ge j a.length with k | k
    · rw [List.drop_eq_getElem_cons k]
      simp only [List.isPrefixOf, Bool.and_true, beq_eq_false_iff_ne]
      exact fun e => h (by rw [e]; exact List.getElem_mem k)
    · rw [List.drop_eq_nil_of_le k]; rfl
  unfold Lib.cut
  rw [hi, if_neg (by decide)]
theorem trim_sp (l : List UInt8) : Lib.trimPrefix (32 :: l) [32] = l := by simp [Lib.trimPrefix, Lib.hasPrefix, List.isPrefixOf]
theorem trim_nil : Lib.trimPrefix [] [32] = [] := rfl
theorem words_one (n u : Nat) (h : u < 18446744073709551616) : wordsF (n + 1) (Lib.decDigits u) = some [u] := by
  rw [wordsF, if_neg (dec_ne u), number_end u h, if_pos rfl]
  dsimp only
  rw [trim_nil, wordsF_nil]
  rfl
theorem words_two (n u v : Nat) (h : u < 18446744073709551616) (k : v < 18446744073709551616) : wordsF (n + 2) (Lib.decDigits u ++ 32 :: Lib.decDigits v) = some [u, v] := by
  rw [wordsF, if_neg (by intro e; exact dec_ne u (List.append_eq_nil_iff.1 e).1), number_sp u h, if_pos rfl]
  dsimp only
  rw [trim_sp, words_one n v k]
  rfl
theorem names_sp : ∀ k, k < 13 → (32 : UInt8) ∉ nameBsE.getD k [] := by decide
theorem own_sp : (32 : UInt8) ∉ ([111, 119, 110] : List UInt8) := by decide
theorem names_kind : ∀ k, k < 13 → k ≠ 0 → nameBsE.getD k [] ≠ [111, 119, 110] := by decide
theorem kind_1 : kindL (nameBsE.getD 1 []) = 1 := by kernel_rfl
theorem kind_2 : kindL (nameBsE.getD 2 []) = 2 := by kernel_rfl
theorem kind_3 : kindL (nameBsE.getD 3 []) = 3 := by kernel_rfl
theorem kind_4 : kindL (nameBsE.getD 4 []) = 4 := by kernel_rfl
theorem kind_5 : kindL (nameBsE.getD 5 []) = 5 := by kernel_rfl
theorem kind_6 : kindL (nameBsE.getD 6 []) = 6 := by kernel_rfl
theorem kind_7 : kindL (nameBsE.getD 7 []) = 7 := by kernel_rfl
theorem kind_8 : kindL (nameBsE.getD 8 []) = 8 := by kernel_rfl
theorem kind_9 : kindL (nameBsE.getD 9 []) = 9 := by kernel_rfl
theorem kind_10 : kindL (nameBsE.getD 10 []) = 10 := by kernel_rfl
theorem kind_11 : kindL (nameBsE.getD 11 []) = 11 := by kernel_rfl
theorem kind_12 : kindL (nameBsE.getD 12 []) = 12 := by kernel_rfl
theorem kind_own : kindL [114, 101, 97, 100] = 2 := by kernel_rfl
theorem kind_name (k : Nat) (h1 : 1 ≤ k) (h2 : k ≤ 12) : kindL (nameBsE.getD k []) = (k : Int) := by
  have hc : k = 1 ∨ k = 2 ∨ k = 3 ∨ k = 4 ∨ k = 5 ∨ k = 6 ∨ k = 7 ∨ k = 8 ∨ k = 9 ∨ k = 10 ∨ k = 11 ∨ k = 12 := by omega
  rcases hc with rfl | rfl | rfl | rfl | rfl | rfl | rfl | rfl | rfl | rfl | rfl | rfl
  · exact kind_1
  · exact kind_2
  · exact kind_3
  · exact kind_4
  · exact kind_5
  · exact kind_6
  · exact kind_7
  · exact kind_8
  · exact kind_9
  · exact kind_10
  · exact kind_11
  · exact kind_12
/-- what stands behind the name, and its words -/
theorem tail_cut (nm : List UInt8) (e : Ev) (hn : (32 : UInt8) ∉ nm) : ∃ rs fd, Lib.cut (nm ++ tailE e) [32] = (nm, rs, fd) ∧ ((pairK e.kd = true ∧ rs = Lib.decDigits e.ad.toNat ++ 32 :: Lib.decDigits e.wd.toNat) ∨ (pairK e.kd = false ∧ singK e.kd = true ∧ rs = Lib.decDigits e.wd.toNat) ∨ (pairK e.kd = false ∧ singK e.kd = false ∧ e.kd = 9 ∧ rs = Lib.decDigits e.er.toNat) ∨ (pairK e.kd = false ∧ singK e.kd = false ∧ e.kd ≠ 9 ∧ rs = [])) := by
  unfold tailE
  cases hp : pairK e.kd with
  | true => exact ⟨_, _, by rw [if_pos rfl, List.cons_append]; exact cut_at _ _ _ hn, .inl ⟨rfl, rfl⟩⟩
  | false =>
    rw [if_neg (by decide)]
    cases hs : singK e.kd with
    | true => exact ⟨_, _, by rw [if_pos rfl]; exact cut_at _ _ _ hn, .inr (.inl ⟨rfl, rfl, rfl⟩)⟩
    | false =>
      rw [if_neg (by decide)]
      by_cases h9 : e.kd = 9
      · exact ⟨_, _, by rw [if_pos h9]; exact cut_at _ _ _ hn, .inr (.inr (.inl ⟨rfl, rfl, h9, rfl⟩))⟩
      · exact ⟨_, _, by rw [if_neg h9, List.append_nil]; exact cut_no _ _ hn, .inr (.inr (.inr ⟨rfl, rfl, h9, rfl⟩))⟩
theorem ev_eq {x e : Ev} (h1 : x.th = e.th) (h2 : x.kd = e.kd) (h3 : x.ad = e.ad) (h4 : x.wd = e.wd) (h5 : x.own = e.own) (h6 : x.er = e.er) : x = e := by
  cases x; cases e; simp_all
/-- what is written is read -/
theorem line_back (e : Ev) (hf : formE e = true) (hw : e.wide) : eventL (lineE e) = some e := by
  obtain ⟨f1, f2, f3, f4, f5, f6, f7⟩ := formE_c hf
  obtain ⟨w1, w2⟩ := hw
  have hth : e.th.toNat < 18446744073709551616 := by omega
  have hnum : numberL (lineE e) = (e.th.toNat, 32 :: (nameE e ++ tailE e), true) := by
    unfold lineE
    rw [List.append_assoc, List.cons_append]
    exact number_sp _ hth _
  have hns : (32 : UInt8) ∉ nameE e := by
    unfold nameE
    split
    · exact own_sp
    · exact names_sp _ (by omega)
  obtain ⟨rs, fd, hcut, hrs⟩ := tail_cut (nameE e) e hns
  unfold eventL
  rw [hnum]
  dsimp only
  rw [trim_sp, hcut, if_pos ⟨rfl, rfl, by omega⟩]
  dsimp only
  have hkind : decide (nameE e = [111, 119, 110]) = e.own ∧ kindL (if nameE e = [111, 119, 110] then [114, 101, 97, 100] else nameE e) = e.kd := by
    unfold nameE
    cases ho : e.own with
    | true =>
      rw [if_pos rfl, if_pos rfl]
      refine ⟨by decide, ?_⟩
      rw [kind_own]
      by_cases h2 : e.kd = 2
      · exact h2.symm
      · rw [f5 h2] at ho; cases ho
    | false =>
      rw [if_neg (by decide)]
      have hne := names_kind e.kd.toNat (by omega) (by omega)
      rw [if_neg hne]
      exact ⟨decide_eq_false hne, by rw [kind_name _ (by omega) (by omega)]; omega⟩
  rw [hkind.1, hkind.2]
  have hN : ∀ u, u < 18446744073709551616 → wordsF (Lib.decDigits u).length (Lib.decDigits u) = some [u] := fun u hu => by
    have : 0 < (Lib.decDigits u).length := List.length_pos_iff.2 (dec_ne u)
    obtain ⟨n, hn⟩ : ∃ n, (Lib.decDigits u).length = n + 1 := ⟨(Lib.decDigits u).length - 1, by omega⟩
    rw [hn, words_one n u hu]
  have hthc : ((e.th.toNat : Nat) : Int) = e.th := by omega
  rcases hrs with ⟨hp, rfl⟩ | ⟨hp, hs, rfl⟩ | ⟨hp, hs, h9, rfl⟩ | ⟨hp, hs, h9, rfl⟩
  · have hlen : ∃ n, (Lib.decDigits e.ad.toNat ++ 32 :: Lib.decDigits e.wd.toNat).length = n + 2 := by
      have h0 : 0 < (Lib.decDigits e.ad.toNat).length := List.length_pos_iff.2 (dec_ne _)
      exact ⟨(Lib.decDigits e.ad.toNat ++ 32 :: Lib.decDigits e.wd.toNat).length - 2, by rw [List.length_append, List.length_cons]; omega⟩
    obtain ⟨n, hn⟩ := hlen
    rw [hn, words_two n _ _ (by omega) (by omega)]
    have h9 : e.kd ≠ 9 := by intro q; rw [q] at hp; cases hp
    rw [if_neg h9] at f7
    exact congrArg some (ev_eq hthc rfl ((if_pos hp).trans (Int.toNat_of_nonneg w1.1)) ((if_pos hp).trans (Int.toNat_of_nonneg w2.1)) rfl ((if_neg h9).trans f7.symm))
  · have hE := hN e.wd.toNat (by omega)
    rw [hE]
    have h9 : e.kd ≠ 9 := by intro q; rw [q] at hs; cases hs
    rw [if_neg h9] at f7
    exact congrArg some (ev_eq hthc rfl ((if_neg (by rw [hp]; decide)).trans (f3 hp).symm) ((if_neg (by rw [hp]; decide)).trans ((if_pos hs).trans (Int.toNat_of_nonneg w2.1))) rfl ((if_neg h9).trans f7.symm))
  · rw [if_pos h9] at f7
    rw [hN _ (by omega)]
    have h3 : IntKind.i64.wrap ((e.er.toNat : Nat) : Int) = e.er := by rw [Int.toNat_of_nonneg (by omega), IntKind.wrap_i64]; omega
    exact congrArg some (ev_eq hthc rfl ((if_neg (by rw [hp]; decide)).trans (f3 hp).symm) ((if_neg (by rw [hp]; decide)).trans ((if_neg (by rw [hs]; decide)).trans (f4 hp hs).symm)) rfl ((if_pos h9).trans h3))
  · rw [show wordsF ([] : List UInt8).length [] = some [] from rfl]
    rw [if_neg h9] at f7
    exact congrArg some (ev_eq hthc rfl ((if_neg (by rw [hp]; decide)).trans (f3 hp).symm) ((if_neg (by rw [hp]; decide)).trans ((if_neg (by rw [hs]; decide)).trans (f4 hp hs).symm)) rfl ((if_neg h9).trans f7.symm))
theorem dec_no (u : Nat) : (10 : UInt8) ∉ Lib.decDigits u := fun h => by
  have := List.all_eq_true.1 (dec_all u) 10 h
  revert this
  decide
theorem names_no : ∀ k, k < 13 → (10 : UInt8) ∉ nameBsE.getD k [] := by decide
theorem line_no10 (e : Ev) (hf : formE e = true) : (10 : UInt8) ∉ lineE e := by
  obtain ⟨f1, f2, _⟩ := formE_c hf
  have h1 : (10 : UInt8) ∉ nameE e := by
    unfold nameE
    split
    · decide
    · exact names_no _ (by omega)
  have h2 : (10 : UInt8) ∉ tailE e := by
    unfold tailE
    split
    · simp [dec_no]
    · split
      · simp [dec_no]
      · split
        · simp [dec_no]
        · simp
  unfold lineE
  simp [dec_no, h1, h2]
theorem text_back : ∀ (l : List Ev) (n : Nat), l.all formE = true → wideL l → (textL l).length ≤ n → readH n (textL l) = (l, true)
  | [], n, _, _, _ => readH_nil n
  | e :: l, n, hf, hw, hn => by
    simp only [List.all_cons, Bool.and_eq_true] at hf
    have ht : textL (e :: l) = lineE e ++ 10 :: textL l := by unfold textL; simp
    rw [ht] at hn ⊢
    rw [List.length_append, List.length_cons] at hn
    obtain ⟨m, rfl⟩ : ∃ m, n = m + 1 := ⟨n - 1, by omega⟩
    have ih := text_back l m hf.2 (fun x hx => hw x (by simp [hx])) (by omega)
    rw [readH, if_neg (by simp), cut_at _ _ _ (line_no10 e hf.1)]
    have hb := line_back e hf.1 (hw e (by simp))
    have hlo : lineO e = (lineE e, 0) := by unfold lineO; rw [if_pos hf.1]
    have hk : lineOk (eventL (lineE e)) (lineE e) = true := by rw [hb]; unfold lineOk evO; rw [hlo]; simp
    rw [if_pos ⟨rfl, hk⟩]
    dsimp only
    rw [hb, ih]
    rfl
end Go.Proofs.YtfldpejifpmapaaDoor
set_option linter.unusedSimpArgs false
set_option linter.unusedVariables false
set_option maxRecDepth 100000
namespace Go.Proofs.YtfldpejifpmapaaDoor
open Go.RowKit
/-- what stands between single blanks -/
def con1 (c : UInt8) : List (List UInt8) → List (List UInt8)
  | [] => [[c]]
  | h :: t => (c :: h) :: t
def spl : List UInt8 → List (List UInt8)
  | [] => [[]]
  | c :: l => if c = 32 then [] :: spl l else con1 c (spl l)
theorem spl_ne : ∀ l, ∃ h t, spl l = h :: t
  | [] => ⟨[], [], rfl⟩
  | c :: l => by
    obtain ⟨h, t, e⟩ := spl_ne l
    rw [spl, e]
    split
    · exact ⟨_, _, rfl⟩
    · exact ⟨_, _, rfl⟩
theorem spl_none : ∀ a : List UInt8, (32 : UInt8) ∉ a → spl a = [a]
  | [], _ => rfl
  | c :: a, h => by
    simp only [List.mem_cons, not_or] at h
    rw [spl, if_neg (fun e => h.1 e.symm), spl_none a h.2]
    rfl
theorem spl_at : ∀ (a r : List UInt8), (32 : UInt8) ∉ a → spl (a ++ 32 :: r) = a :: spl r
  | [], r, _ => by rw [List.nil_append, spl, if_pos rfl]
  | c :: a, r, h => by
    simp only [List.mem_cons, not_or] at h
    rw [List.cons_append, spl, if_neg (fun e => h.1 e.symm), spl_at a r h.2]
    rfl
/-- the number that a text says -/
def rnumL (l : List UInt8) : Nat := (numEnd (Lib.parseUintB 64 l)).1
theorem rnum_dec (u : Nat) (h : u < 18446744073709551616) : rnumL (Lib.decDigits u) = u := by
  unfold rnumL
  rw [parse_dec u h]
  rfl
theorem parseM_lt (M : Nat) : ∀ (l : List UInt8) (acc u : Nat), acc ≤ M → Lib.parseUintM M acc l = .ok u → u ≤ M
  | [], acc, u, h, e => by cases e; exact h
  | c :: l, acc, u, h, e => by
    rw [Lib.parseUintM] at e
    split at e
    · split at e
      · cases e
      · split at e
        · cases e
        · exact parseM_lt M l _ u (by omega) e
    · cases e
theorem rnum_lt (l : List UInt8) : rnumL l < 18446744073709551616 := by
  unfold rnumL Lib.parseUintB
  split
  · simp [numEnd]
  · have := parseM_lt (2 ^ 64 - 1) l 0
    generalize Lib.parseUintM (2 ^ 64 - 1) 0 l = x at this ⊢
    rcases x with u | _ | _
    · have := this u (by omega) rfl
      simp only [numEnd]
      omega
    · simp [numEnd]
    · simp [numEnd]
/-- the event that the reference tries of a line's words -/
def candE (ws : List (List UInt8)) (k : Nat) (own : Bool) : Ev :=
  ⟨((rnumL (ws.getD 0 []) % 1000 : Nat) : Int), (k : Int), if ws.length = 4 then ((rnumL (ws.getD 2 []) : Nat) : Int) else 0,
   if ws.length = 4 then ((rnumL (ws.getD 3 []) : Nat) : Int) else if ws.length = 3 ∧ k ≠ 9 then ((rnumL (ws.getD 2 []) : Nat) : Int) else 0, own,
   if ws.length = 3 ∧ k = 9 then ((rnumL (ws.getD 2 []) % 100000 : Nat) : Int) else 0⟩
theorem cand_wide (ws : List (List UInt8)) (k : Nat) (own : Bool) : (candE ws k own).wide := by
  have h2 := rnum_lt (ws.getD 2 [])
  have h3 := rnum_lt (ws.getD 3 [])
  constructor
  · unfold candE; dsimp only
    split <;> omega
  · unfold candE; dsimp only
    split
    · omega
    · split <;> omega
theorem dec_sp (u : Nat) : (32 : UInt8) ∉ Lib.decDigits u := fun h => by
  have := List.all_eq_true.1 (dec_all u) 32 h
  revert this
  decide
theorem name_sp (e : Ev) (hf : formE e = true) : (32 : UInt8) ∉ nameE e := by
  obtain ⟨f1, f2, _⟩ := formE_c hf
  unfold nameE
  split
  · exact own_sp
  · exact names_sp _ (by omega)
/-- a line's words -/
theorem line_words (e : Ev) (hf : formE e = true) : spl (lineE e) = Lib.decDigits e.th.toNat :: nameE e :: (if pairK e.kd = true then [Lib.decDigits e.ad.toNat, Lib.decDigits e.wd.toNat] else if singK e.kd = true then [Lib.decDigits e.wd.toNat] else if e.kd = 9 then [Lib.decDigits e.er.toNat] else []) := by
  have hn := name_sp e hf
  unfold lineE
  rw [List.append_assoc, List.cons_append, spl_at _ _ (dec_sp _)]
  unfold tailE
  congr 1
  split
  · rw [List.cons_append, spl_at _ _ hn, spl_at _ _ (dec_sp _), spl_none _ (dec_sp _)]
  · split
    · rw [spl_at _ _ hn, spl_none _ (dec_sp _)]
    · split
      · rw [spl_at _ _ hn, spl_none _ (dec_sp _)]
      · rw [List.append_nil, spl_none _ hn]
theorem cand2 (a b : List UInt8) (k : Nat) (own : Bool) : candE [a, b] k own = ⟨((rnumL a % 1000 : Nat) : Int), k, 0, 0, own, 0⟩ := by unfold candE; simp
theorem cand3 (a b c : List UInt8) (k : Nat) (own : Bool) : candE [a, b, c] k own = ⟨((rnumL a % 1000 : Nat) : Int), k, 0, if k ≠ 9 then ((rnumL c : Nat) : Int) else 0, own, if k = 9 then ((rnumL c % 100000 : Nat) : Int) else 0⟩ := by unfold candE; simp
theorem cand4 (a b c d : List UInt8) (k : Nat) (own : Bool) : candE [a, b, c, d] k own = ⟨((rnumL a % 1000 : Nat) : Int), k, ((rnumL c : Nat) : Int), ((rnumL d : Nat) : Int), own, 0⟩ := by unfold candE; simp
theorem cand_of (e : Ev) (hf : formE e = true) (hw : e.wide) : candE (spl (lineE e)) e.kd.toNat e.own = e ∧ 2 ≤ (spl (lineE e)).length ∧ (spl (lineE e)).length ≤ 4 := by
  obtain ⟨f1, f2, f3, f4, f5, f6, f7⟩ := formE_c hf
  obtain ⟨w1, w2⟩ := hw
  have hL := line_words e hf
  have ht : ((rnumL (Lib.decDigits e.th.toNat) % 1000 : Nat) : Int) = e.th := by rw [rnum_dec _ (by omega)]; omega
  have ha : ((rnumL (Lib.decDigits e.ad.toNat) : Nat) : Int) = e.ad := by rw [rnum_dec _ (by omega)]; omega
  have hd : ((rnumL (Lib.decDigits e.wd.toNat) : Nat) : Int) = e.wd := by rw [rnum_dec _ (by omega)]; omega
  have hk : ((e.kd.toNat : Nat) : Int) = e.kd := by omega
  cases hp : pairK e.kd with
  | true =>
    have h9 : e.kd ≠ 9 := by intro q; rw [q] at hp; cases hp
    rw [if_neg h9] at f7
    rw [if_pos hp] at hL
    rw [hL, cand4]
    exact ⟨ev_eq ht hk ha hd rfl f7.symm, by simp, by simp⟩
  | false =>
    rw [if_neg (by rw [hp]; decide)] at hL
    cases hs : singK e.kd with
    | true =>
      have h9 : e.kd ≠ 9 := by intro q; rw [q] at hs; cases hs
      have h9' : e.kd.toNat ≠ 9 := by omega
      rw [if_neg h9] at f7
      rw [if_pos hs] at hL
      rw [hL, cand3, if_pos h9', if_neg h9']
      exact ⟨ev_eq ht hk (f3 hp).symm hd rfl f7.symm, by simp, by simp⟩
    | false =>
      rw [if_neg (by rw [hs]; decide)] at hL
      by_cases h9 : e.kd = 9
      · have h9' : e.kd.toNat = 9 := by omega
        rw [if_pos h9] at f7 hL
        have he : ((rnumL (Lib.decDigits e.er.toNat) % 100000 : Nat) : Int) = e.er := by rw [rnum_dec _ (by omega)]; omega
        rw [hL, cand3, if_neg (fun q => q h9'), if_pos h9']
        exact ⟨ev_eq ht hk (f3 hp).symm (f4 hp hs).symm rfl he, by simp, by simp⟩
      · rw [if_neg h9] at f7 hL
        rw [hL, cand2]
        exact ⟨ev_eq ht hk (f3 hp).symm (f4 hp hs).symm rfl f7.symm, by simp, by simp⟩
/-- what the program accepts is what the reference tries -/
theorem line_acc {s : List UInt8} (h : lineOk (eventL s) s = true) : ∃ x, eventL s = some x ∧ formE x = true ∧ x.wide ∧ lineE x = s := by
  have hw := ev_wide s
  unfold lineOk at h
  simp only [Bool.and_eq_true, decide_eq_true_eq] at h
  obtain ⟨h1, h2, h3⟩ := h
  obtain ⟨x, hx⟩ := Option.isSome_iff_exists.1 h1
  rw [hx] at h2 h3 hw
  refine ⟨x, hx, ?_, hw, ?_⟩
  · cases hf : formE x with
    | true => rfl
    | false => unfold evO lineO at h2; rw [hf] at h2; simp at h2
  · unfold evO lineO at h2 h3
    dsimp only [Option.getD_some] at h2 h3
    split at h2
    · rename_i hf; rw [if_pos hf] at h3; exact h3
    · simp at h2
/-- what the reference finds is what the program reads -/
theorem line_found {s : List UInt8} {e : Ev} (hf : formE e = true) (hw : e.wide) (h : lineE e = s) : lineOk (eventL s) s = true ∧ evO (eventL s) = e := by
  have hb := line_back e hf hw
  rw [h] at hb
  rw [hb]
  refine ⟨?_, rfl⟩
  unfold lineOk evO lineO
  simp only [Option.isSome_some, Option.getD_some, Bool.true_and]
  rw [if_pos hf]
  simp [h]
/-- does a candidate have the line? -/
def tryL (s : List UInt8) (k : Nat) (own : Bool) : Bool := formE (candE (spl s) k own) && decide (lineE (candE (spl s) k own) = s)
theorem try_yes {s : List UInt8} {k : Nat} {own : Bool} (h : tryL s k own = true) : lineOk (eventL s) s = true ∧ evO (eventL s) = candE (spl s) k own := by
  unfold tryL at h
  rw [Bool.and_eq_true, decide_eq_true_eq] at h
  exact line_found h.1 (cand_wide _ _ _) h.2
theorem try_none {s : List UInt8} (h : ∀ k own, 1 ≤ k → k ≤ 12 → tryL s k own = false) : lineOk (eventL s) s = false := by
  cases hc : lineOk (eventL s) s with
  | false => rfl
  | true =>
    obtain ⟨x, hx, hf, hw, hl⟩ := line_acc hc
    obtain ⟨f1, f2, _⟩ := formE_c hf
    have := h x.kd.toNat x.own (by omega) (by omega)
    unfold tryL at this
    have hcd := (cand_of x hf hw).1
    rw [hl] at hcd
    rw [hcd, hf, hl] at this
    simp at this
theorem try_short {s : List UInt8} (h : (spl s).length < 2 ∨ 4 < (spl s).length) : lineOk (eventL s) s = false := by
  cases hc : lineOk (eventL s) s with
  | false => rfl
  | true =>
    obtain ⟨x, hx, hf, hw, hl⟩ := line_acc hc
    have hcd := (cand_of x hf hw).2
    rw [hl] at hcd
    omega
/-- the reference's reader: what is read, the line begun, what is left -/
def refP : List Ev → List UInt8 → List UInt8 → List Ev × Bool
  | out, line, [] => (out, decide (line = []))
  | out, line, c :: r => if c = 10 then (if lineOk (eventL line) line = true then refP (out ++ [evO (eventL line)]) [] r else (out, false)) else refP out (line ++ [c]) r
theorem ref_read : ∀ (r line : List UInt8) (out : List Ev) (n : Nat), (10 : UInt8) ∉ line → line.length + r.length ≤ n → refP out line r = (out ++ (readH n (line ++ r)).1, (readH n (line ++ r)).2)
  | [], line, out, n, hl, hn => by
    rw [refP, List.append_nil]
    cases line with
    | nil => rw [readH_nil]; simp
    | cons c line =>
      obtain ⟨m, rfl⟩ : ∃ m, n = m + 1 := ⟨n - 1, by simp only [List.length_cons] at hn; omega⟩
      rw [readH, if_neg (by simp), cut_no _ _ hl, if_neg (fun q => by cases q.1)]
      simp
  | c :: r, line, out, n, hl, hn => by
    rw [refP]
    simp only [List.length_cons] at hn
    split
    · rename_i hc
      subst hc
      obtain ⟨m, rfl⟩ : ∃ m, n = m + 1 := ⟨n - 1, by omega⟩
      by_cases hk : lineOk (eventL line) line = true
      · rw [if_pos hk, readH, if_neg (by simp), cut_at _ _ _ hl, if_pos ⟨rfl, hk⟩, ref_read r [] _ m (by simp) (by simp; omega), List.nil_append]
        simp
      · rw [if_neg hk, readH, if_neg (by simp), cut_at _ _ _ hl, if_neg (fun q => hk q.2)]
        simp
    · rename_i hc
      rw [ref_read r (line ++ [c]) out n (by simp [hl]; exact fun e => hc e.symm) (by rw [List.length_append, List.length_singleton]; omega), List.append_assoc, List.singleton_append]
theorem cut_join {l : List UInt8} (h : (Lib.cut l [10]).2.2 = true) : (Lib.cut l [10]).1 ++ 10 :: (Lib.cut l [10]).2.1 = l := by
  by_cases hm : (10 : UInt8) ∈ l
  · obtain ⟨a, r, rfl, ha⟩ := List.eq_append_cons_of_mem hm
    rw [cut_at _ _ _ ha]
  · rw [cut_no _ _ hm] at h
    cases h
theorem read_wide : ∀ (n : Nat) (l : List UInt8), wideL (readH n l).1
  | 0, l => by rw [readH]; intro x hx; cases hx
  | n + 1, l => by
    rw [readH]
    split
    · intro x hx; cases hx
    · split
      · intro x hx
        rcases List.mem_cons.1 hx with rfl | hx
        · exact ev_wide _
        · exact read_wide n _ x hx
      · intro x hx; cases hx
/-- what is read whole is written as the text -/
theorem read_text : ∀ (n : Nat) (l : List UInt8), (readH n l).2 = true → (readH n l).1.all formE = true ∧ textL (readH n l).1 = l
  | 0, l, h => by
    rw [readH] at h ⊢
    have : l = [] := of_decide_eq_true h
    subst this
    exact ⟨rfl, rfl⟩
  | n + 1, l, h => by
    rw [readH] at h ⊢
    split at h
    · rename_i hl
      subst hl
      rw [if_pos rfl]
      exact ⟨rfl, rfl⟩
    · rename_i hl
      rw [if_neg hl]
      split at h
      · rename_i hk
        rw [if_pos hk]
        obtain ⟨x, hx, hf, hw, hle⟩ := line_acc hk.2
        obtain ⟨i1, i2⟩ := read_text n _ h
        have hcut := cut_join hk.1
        dsimp only
        rw [hx]
        refine ⟨?_, ?_⟩
        · rw [List.all_cons, i1]; exact Bool.and_eq_true_iff.2 ⟨hf, rfl⟩
        · show textL (x :: _) = l
          have : ∀ t, textL (x :: t) = lineE x ++ 10 :: textL t := fun t => by unfold textL; simp
          rw [this, i2, hle]
          exact hcut
      · cases h
end Go.Proofs.YtfldpejifpmapaaDoor
set_option linter.unusedSimpArgs false
set_option linter.unusedVariables false
set_option maxRecDepth 100000
namespace Go.Proofs.YtfldpejifpmapaaDoor
open Go.RowKit
theorem rpair_code (k : Int) (w : World) : Calls Tryd.prog 45 #[.int .i64 k] w fun e w' => e = .returned (.bool (pairK k)) ∧ w = w' := by
  unfold pairK
  generalize h2 : (k == 2) = b2
  generalize h3 : (k == 3) = b3
  generalize h10 : (k == 10) = b10
  generalize h11 : (k == 11) = b11
  refine calls_all fun K hK => ?_
  go_enter Tryd.func45, Tryd.ntmps45
  cases b2
  · cases b3
    · cases b10
      · go_wp2
        all_goals exact ⟨rfl, rfl⟩
      · go_wp2
        all_goals exact ⟨rfl, rfl⟩
    · go_wp2
      all_goals exact ⟨rfl, rfl⟩
  · go_wp2
    all_goals exact ⟨rfl, rfl⟩
theorem rsingle_code (k : Int) (w : World) : Calls Tryd.prog 47 #[.int .i64 k] w fun e w' => e = .returned (.bool (singK k)) ∧ w = w' := by
  unfold singK
  generalize h2 : (k == 1) = b2
  generalize h3 : (k == 4) = b3
  generalize h10 : (k == 6) = b10
  refine calls_all fun K hK => ?_
  go_enter Tryd.func47, Tryd.ntmps47
  cases b2
  · cases b3
    · go_wp2
      all_goals exact ⟨rfl, rfl⟩
    · go_wp2
      all_goals exact ⟨rfl, rfl⟩
  · go_wp2
    all_goals exact ⟨rfl, rfl⟩
theorem form_bool (th kd ad wd : Int) (own : Bool) (er : Int) : formE ⟨th, kd, ad, wd, own, er⟩ =
    (if (decide (th < 0) || decide (8 ≤ th) || decide (kd < 1) || decide (12 < kd)) = true then false
     else if (!pairK kd && (ad != 0) || !pairK kd && !singK kd && (wd != 0) || (kd != 2) && own) = true then false
     else if ((kd == 1 || kd == 4) && (wd % 2 != 0)) = true then false
     else if (kd == 9) = true then (er == 4 || er == 5 || er == 6) else er == 0) := by
  unfold formE
  by_cases h : formC ⟨th, kd, ad, wd, own, er⟩
  · rw [decide_eq_true h]
    obtain ⟨h1, h2, h3, h4, h5, h6, h7⟩ := h
    dsimp only at h1 h2 h3 h4 h5 h6 h7
    symm
    rw [if_neg (by simp only [Bool.or_eq_true, decide_eq_true_eq]; omega)]
    rw [if_neg (by
      simp only [Bool.or_eq_true, Bool.and_eq_true, Bool.not_eq_true', bne_iff_ne, ne_eq]
      rintro ((⟨a, b⟩ | ⟨⟨a, b⟩, c⟩) | ⟨a, b⟩)
      · exact b (h3 a)
      · exact c (h4 a b)
      · have := h5 a; rw [b] at this; cases this)]
    rw [if_neg (by
      simp only [Bool.and_eq_true, Bool.or_eq_true, beq_iff_eq, bne_iff_ne, ne_eq]
      rintro ⟨a, b⟩
      exact b (h6 a))]
    split
    · rename_i h9
      rw [if_pos (by simpa using h9)] at h7
      simp only [Bool.or_eq_true, beq_iff_eq]
      omega
    · rename_i h9
      rw [if_neg (by simpa using h9)] at h7
      simpa using h7
  · rw [decide_eq_false h]
    symm
    split
    · rfl
    · rename_i c1
      split
      · rfl
      · rename_i c2
        split
        · rfl
        · rename_i c3
          simp only [Bool.or_eq_true, decide_eq_true_eq] at c1
          simp only [Bool.or_eq_true, Bool.and_eq_true, Bool.not_eq_true', bne_iff_ne, ne_eq, not_or, not_and] at c2
          simp only [Bool.and_eq_true, Bool.or_eq_true, beq_iff_eq, bne_iff_ne, ne_eq, not_and] at c3
          have key : ¬ (if kd = 9 then 4 ≤ er ∧ er ≤ 6 else er = 0) := fun h7 => h ⟨⟨by show 0 ≤ th; omega, by show th < 8; omega⟩, ⟨by show 1 ≤ kd; omega, by show kd ≤ 12; omega⟩, fun a => Classical.byContradiction (c2.1.1 a), fun a b => Classical.byContradiction (c2.1.2 ⟨a, b⟩), fun a => by have := c2.2 a; simpa using this, fun a => by have := c3 a; rcases a with rfl | rfl <;> simpa using this, h7⟩
          split
          · rename_i h9
            rw [if_pos (by simpa using h9)] at key
            simp only [Bool.or_eq_false_iff, beq_eq_false_iff_ne]
            omega
          · rename_i h9
            rw [if_neg (by simpa using h9)] at key
            simpa using key
-- a way's end
set_option maxHeartbeats 8000000 in
theorem rformed_code (e : Ev) (w : World) : Calls Tryd.prog 43 #[e.val] w fun r w' => r = .returned (.bool (formE e)) ∧ Upd [] w w' := by
  obtain ⟨th, kd, ad, wd, own, er⟩ := e
  have hF := form_bool th kd ad wd own er
  simp only [Ev.val]
  generalize formE ⟨th, kd, ad, wd, own, er⟩ = F at hF ⊢
  have HPR := Lib.hid (fun w => rpair_code kd w)
  have HSR := Lib.hid (fun w => rsingle_code kd w)
  generalize pairK kd = p at hF HPR
  generalize singK kd = s at hF HSR
  generalize t0 : decide (th < 0) = b0 at hF
  generalize t8 : decide (8 ≤ th) = b8 at hF
  generalize k0 : decide (kd < 1) = c0 at hF
  generalize k12 : decide (12 < kd) = c12 at hF
  generalize an : (ad != 0) = a0 at hF
  generalize wn : (wd != 0) = w0 at hF
  generalize k2 : (kd != 2) = c2 at hF
  generalize k1 : (kd == 1) = c1 at hF
  generalize k4 : (kd == 4) = c4 at hF
  generalize wm : (wd % 2 != 0) = w2 at hF
  have wm2 : (wd.tmod 2 != 0) = w2 := by
    rw [← wm, Bool.eq_iff_iff, bne_iff_ne, bne_iff_ne, ne_eq, ne_eq, ← Int.dvd_iff_tmod_eq_zero, Int.dvd_iff_emod_eq_zero]
  clear wm
  generalize k9 : (kd == 9) = c9 at hF
  generalize e4 : (er == 4) = d4 at hF
  generalize e5 : (er == 5) = d5 at hF
  generalize e6 : (er == 6) = d6 at hF
  generalize e0 : (er == 0) = d0 at hF
  have HF := Lib.hid hF
  clear hF
  refine calls_all fun K hK => ?_
  go_enter Tryd.func43, Tryd.ntmps43
  cases b0
  case true =>
    go_wp2_with (first | (go_at_call 45; refine (HPR.out _).mono ?_; rintro e W2 ⟨rfl, rfl⟩) | (go_at_call 47; refine (HSR.out _).mono ?_; rintro e W2 ⟨rfl, rfl⟩))
    all_goals exact ⟨by rw [HF.out]; rfl, (Upd.refl _ _).alloc _⟩
  cases b8
  case true =>
    go_wp2_with (first | (go_at_call 45; refine (HPR.out _).mono ?_; rintro e W2 ⟨rfl, rfl⟩) | (go_at_call 47; refine (HSR.out _).mono ?_; rintro e W2 ⟨rfl, rfl⟩))
    all_goals exact ⟨by rw [HF.out]; rfl, (Upd.refl _ _).alloc _⟩
  cases c0
  case true =>
    go_wp2_with (first | (go_at_call 45; refine (HPR.out _).mono ?_; rintro e W2 ⟨rfl, rfl⟩) | (go_at_call 47; refine (HSR.out _).mono ?_; rintro e W2 ⟨rfl, rfl⟩))
    all_goals exact ⟨by rw [HF.out]; rfl, (Upd.refl _ _).alloc _⟩
  cases c12
  case true =>
    go_wp2_with (first | (go_at_call 45; refine (HPR.out _).mono ?_; rintro e W2 ⟨rfl, rfl⟩) | (go_at_call 47; refine (HSR.out _).mono ?_; rintro e W2 ⟨rfl, rfl⟩))
    all_goals exact ⟨by rw [HF.out]; rfl, (Upd.refl _ _).alloc _⟩
  go_upto_region 3 with fail
  obtain ⟨W1, hW1⟩ : ∃ W, w.alloc (.cells #[.int .i64 th, .int .i64 kd, .int .u64 ad, .int .u64 wd, .bool own, .int .i64 er] 27) = W := ⟨_, rfl⟩
  have HB := Lib.hid (show Blk W1 w.heap.size [.int .i64 th, .int .i64 kd, .int .u64 ad, .int .u64 wd, .bool own, .int .i64 er] 27 by rw [← hW1]; exact Blk.new w _ _)
  have HU := Lib.hid (show Upd [] w W1 by rw [← hW1]; exact (Upd.refl _ _).alloc _)
  rw [hW1]
  clear hW1
  have m0 := HB.out.cell 0 rfl
  have m1 := HB.out.cell 1 rfl
  have m2 := HB.out.cell 2 rfl
  have m3 := HB.out.cell 3 rfl
  have m4 := HB.out.cell 4 rfl
  have m5 := HB.out.cell 5 rfl
  have HF1 := Lib.hid (show F = _ from HF.out.trans (if_neg (by decide)))
  clear HF
  go_cut [55] from 21 to 55 (fun v55 wx => v55 = .bool (!p && a0 || !p && !s && w0 || c2 && own) ∧ wx = W1)
  case first =>
    cases p
    case false =>
      cases a0
      case true =>
        go_wp2_with (first | (go_at_call 45; refine (HPR.out _).mono ?_; rintro e W2 ⟨rfl, rfl⟩) | (go_at_call 47; refine (HSR.out _).mono ?_; rintro e W2 ⟨rfl, rfl⟩))
        go_meet
        exact ⟨rfl, rfl⟩
      cases s
      case false =>
        cases w0
        case true =>
          go_wp2_with (first | (go_at_call 45; refine (HPR.out _).mono ?_; rintro e W2 ⟨rfl, rfl⟩) | (go_at_call 47; refine (HSR.out _).mono ?_; rintro e W2 ⟨rfl, rfl⟩))
          go_meet
          exact ⟨rfl, rfl⟩
        cases c2
        case false =>
          go_wp2_with (first | (go_at_call 45; refine (HPR.out _).mono ?_; rintro e W2 ⟨rfl, rfl⟩) | (go_at_call 47; refine (HSR.out _).mono ?_; rintro e W2 ⟨rfl, rfl⟩))
          go_meet
          exact ⟨rfl, rfl⟩
        case true =>
          cases own
          case false =>
            go_wp2_with (first | (go_at_call 45; refine (HPR.out _).mono ?_; rintro e W2 ⟨rfl, rfl⟩) | (go_at_call 47; refine (HSR.out _).mono ?_; rintro e W2 ⟨rfl, rfl⟩))
            go_meet
            exact ⟨rfl, rfl⟩
          case true =>
            go_wp2_with (first | (go_at_call 45; refine (HPR.out _).mono ?_; rintro e W2 ⟨rfl, rfl⟩) | (go_at_call 47; refine (HSR.out _).mono ?_; rintro e W2 ⟨rfl, rfl⟩))
            go_meet
            exact ⟨rfl, rfl⟩
      case true =>
        cases c2
        case false =>
          go_wp2_with (first | (go_at_call 45; refine (HPR.out _).mono ?_; rintro e W2 ⟨rfl, rfl⟩) | (go_at_call 47; refine (HSR.out _).mono ?_; rintro e W2 ⟨rfl, rfl⟩))
          go_meet
          exact ⟨rfl, rfl⟩
        case true =>
          cases own
          case false =>
            go_wp2_with (first | (go_at_call 45; refine (HPR.out _).mono ?_; rintro e W2 ⟨rfl, rfl⟩) | (go_at_call 47; refine (HSR.out _).mono ?_; rintro e W2 ⟨rfl, rfl⟩))
            go_meet
            exact ⟨rfl, rfl⟩
          case true =>
            go_wp2_with (first | (go_at_call 45; refine (HPR.out _).mono ?_; rintro e W2 ⟨rfl, rfl⟩) | (go_at_call 47; refine (HSR.out _).mono ?_; rintro e W2 ⟨rfl, rfl⟩))
            go_meet
            exact ⟨rfl, rfl⟩
    case true =>
      cases c2
      case false =>
        go_wp2_with (first | (go_at_call 45; refine (HPR.out _).mono ?_; rintro e W2 ⟨rfl, rfl⟩) | (go_at_call 47; refine (HSR.out _).mono ?_; rintro e W2 ⟨rfl, rfl⟩))
        go_meet
        exact ⟨rfl, rfl⟩
      case true =>
        cases own
        case false =>
          go_wp2_with (first | (go_at_call 45; refine (HPR.out _).mono ?_; rintro e W2 ⟨rfl, rfl⟩) | (go_at_call 47; refine (HSR.out _).mono ?_; rintro e W2 ⟨rfl, rfl⟩))
          go_meet
          exact ⟨rfl, rfl⟩
        case true =>
          go_wp2_with (first | (go_at_call 45; refine (HPR.out _).mono ?_; rintro e W2 ⟨rfl, rfl⟩) | (go_at_call 47; refine (HSR.out _).mono ?_; rintro e W2 ⟨rfl, rfl⟩))
          go_meet
          exact ⟨rfl, rfl⟩
  case rest =>
    obtain ⟨rfl, rfl⟩ := hcut
    obtain ⟨W1, rfl⟩ : ∃ W, W = wc := ⟨wc, rfl⟩
    cases hf1 : (!p && a0 || !p && !s && w0 || c2 && own)
    case true =>
      have HF2 := Lib.hid (show F = false from HF1.out.trans (if_pos hf1))
      go_wp2_with fail
      all_goals exact ⟨by rw [HF2.out]; rfl, HU.out⟩
    have HF2 := Lib.hid (show F = _ from HF1.out.trans (if_neg (by rw [hf1]; decide)))
    clear HF1 hf1
    go_upto_region 5 with fail
    go_cut [69] from 56 to 69 (fun v69 wx => v69 = .bool ((c1 || c4) && w2) ∧ wx = W1)
    case first =>
      cases c1
      case true =>
        go_wp2_with (first | (go_at_call 45; refine (HPR.out _).mono ?_; rintro e W2 ⟨rfl, rfl⟩) | (go_at_call 47; refine (HSR.out _).mono ?_; rintro e W2 ⟨rfl, rfl⟩))
        go_meet
        exact ⟨rfl, rfl⟩
      cases c4
      case true =>
        go_wp2_with (first | (go_at_call 45; refine (HPR.out _).mono ?_; rintro e W2 ⟨rfl, rfl⟩) | (go_at_call 47; refine (HSR.out _).mono ?_; rintro e W2 ⟨rfl, rfl⟩))
        go_meet
        exact ⟨rfl, rfl⟩
      go_wp2_with (first | (go_at_call 45; refine (HPR.out _).mono ?_; rintro e W2 ⟨rfl, rfl⟩) | (go_at_call 47; refine (HSR.out _).mono ?_; rintro e W2 ⟨rfl, rfl⟩))
      go_meet
      exact ⟨rfl, rfl⟩
    case rest =>
      obtain ⟨rfl, rfl⟩ := hcut
      obtain ⟨W1, rfl⟩ : ∃ W, W = wc := ⟨wc, rfl⟩
      cases hf1 : ((c1 || c4) && w2)
      case true =>
        have HF3 := Lib.hid (show F = false from HF2.out.trans (if_pos hf1))
        go_wp2_with fail
        all_goals exact ⟨by rw [HF3.out]; rfl, HU.out⟩
      have HF3 := Lib.hid (show F = _ from HF2.out.trans (if_neg (by rw [hf1]; decide)))
      clear HF2 hf1
      cases c9
      case false =>
        go_wp2_with fail
        all_goals exact ⟨by rw [HF3.out]; rfl, HU.out⟩
      case true =>
        cases d4
        case true =>
          go_wp2_with fail
          all_goals exact ⟨by rw [HF3.out]; rfl, HU.out⟩
        cases d5
        case true =>
          go_wp2_with fail
          all_goals exact ⟨by rw [HF3.out]; rfl, HU.out⟩
        go_wp2_with fail
        all_goals exact ⟨by rw [HF3.out]; rfl, HU.out⟩
end Go.Proofs.YtfldpejifpmapaaDoor
set_option linter.unusedSimpArgs false
set_option linter.unusedVariables false
set_option maxRecDepth 100000
namespace Go.Proofs.YtfldpejifpmapaaDoor
open Go.RowKit
open Go.Maps
theorem info_strs : (Tryd.prog.info? 9).map (fun i => (i.zero, i.size, i.bytes)) = some (some (.string ⟨#[]⟩), 1, 16) := by kernel_rfl
/-- a cell of an own row is stored -/
theorem own_set {w : World} {base : Nat} {e : TypeId} {size g n c : Nat} {us : List Value} (h : w.ownsRow base e size (.slice (some ⟨g, 0, none⟩) n c) n us) (k : Nat) (v : Value) : (w.setCell ⟨g, k, none⟩ v).ownsRow base e size (.slice (some ⟨g, 0, none⟩) n c) n (us.set k v) := by
  obtain ⟨h1, h2⟩ := h
  refine ⟨by rw [List.length_set]; exact h1, ?_⟩
  rcases h2 with ⟨h2, _⟩ | ⟨g', cap, cur, hv, hb, hh, hn, hm, hs, ht⟩
  · cases h2
  · cases hv
    have hB : Blk w g cur.toList e := by unfold Blk; simpa using hh
    have hB2 := hB.set k v
    refine .inr ⟨g, c, (cur.toList.set k v).toArray, rfl, hb, hB2, hn, hm, by simp [hs], ?_⟩
    rw [← ht, List.take_set]
theorem rnumber_code (s : ByteArray) (hs : s.size ≤ 281474976710656) (w : World) (he : Errs w) : Calls Tryd.prog 65 #[.string s] w fun e w' => e = .returned (.int .u64 (rnumL s.data.toList : Nat)) ∧ Upd [] w w' := by
  unfold rnumL
  refine calls_all fun K hK => ?_
  go_enter Tryd.func65, Tryd.ntmps65
  go_wp2_with fail
  refine (parse_uint s hs _ he).mono ?_
  rintro e w1 ⟨er, rfl, _, u1⟩
  go_wp2
  all_goals first | exact ⟨rfl, u1⟩ | exact u1
theorem con_cons (p h : List UInt8) (t : List (List UInt8)) : p.foldr con1 (h :: t) = (p ++ h) :: t := by
  induction p with
  | nil => rfl
  | cons c p ih => rw [List.foldr_cons, ih]; rfl
theorem byte_at (s : ByteArray) (k : Nat) (h : k < s.size) : s[k]'h = s.get! k := by
  cases s with
  | mk d =>
    have h3 : k < d.size := h
    show d[k]'h3 = _
    simp [ByteArray.get!, h3]
theorem drop_get (s : ByteArray) (k : Nat) (h : k < s.size) : s.data.toList.drop k = s.get! k :: s.data.toList.drop (k + 1) := by
  have h2 : k < s.data.toList.length := by rw [← Lib.size_eq]; exact h
  rw [List.drop_eq_getElem_cons h2]
  congr 1
  have := getb s k h
  rw [List.getElem?_eq_getElem h2, Option.some.injEq] at this
  exact this
theorem ex_one (s : ByteArray) (k : Nat) (h : k < s.size) : (s.extract k (k + 1)).data.toList = [s.get! k] := by
  rw [Lib.extract_data, drop_get s k h]
  rw [show k + 1 - k = 1 by omega]
  rfl
/-- the words so far: all but the last, the last -/
def WordsAt (L : List (List UInt8)) (X : List ByteArray) (rest : List UInt8) : Prop := ∃ (X0 : List ByteArray) (z : ByteArray), X = X0 ++ [z] ∧ X0.map (·.data.toList) ++ z.data.toList.foldr con1 (spl rest) = L
theorem words_blank {L : List (List UInt8)} {X : List ByteArray} {r : List UInt8} (h : WordsAt L X (32 :: r)) : WordsAt L (X ++ [⟨#[]⟩]) r := by
  obtain ⟨X0, z, rfl, h⟩ := h
  refine ⟨X0 ++ [z], ⟨#[]⟩, rfl, ?_⟩
  rw [← h, spl, if_pos rfl, con_cons]
  simp
theorem words_more {L : List (List UInt8)} {X0 : List ByteArray} {z y : ByteArray} {c : UInt8} {r : List UInt8} (h : WordsAt L (X0 ++ [z]) (c :: r)) (hc : c ≠ 32) (hy : y.data.toList = z.data.toList ++ [c]) : WordsAt L (X0 ++ [y]) r := by
  obtain ⟨X1, z1, e, h⟩ := h
  obtain ⟨rfl, rfl⟩ : X0 = X1 ∧ z = z1 := by
    have := List.append_inj' e rfl
    exact ⟨this.1, by simpa using this.2⟩
  refine ⟨X0, y, rfl, ?_⟩
  rw [← h, spl, if_neg hc, hy, List.foldr_append]
  rfl
set_option maxHeartbeats 4000000 in
theorem rwords_code (s : ByteArray) (hs : s.size < 4294967281) (w : World) : Calls Tryd.prog 64 #[.string s] w fun e w' => ∃ (v : Value) (X : List ByteArray), e = .returned v ∧ X.map (·.data.toList) = spl s.data.toList ∧ w'.ownsRow w.heap.size 9 1 v X.length (X.map .string) ∧ Upd [] w w' ∧ ∀ x ∈ X, x.size ≤ s.size := by
  obtain ⟨i5, hi5, hz5, hs5, hy5⟩ := info_parts info_strs
  refine calls_all fun K hK => ?_
  go_enter Tryd.func64, Tryd.ntmps64
  go_wp2_with fail
  have HO0 := Lib.hid (show World.ownsRow (w.alloc (.cells #[.string ⟨#[]⟩] 9)) w.heap.size 9 1 (.slice (some ⟨w.heap.size, 0, none⟩) 1 1) ([⟨#[]⟩] : List ByteArray).length (([⟨#[]⟩] : List ByteArray).map .string) from
    ⟨rfl, .inr ⟨w.heap.size, 1, #[.string ⟨#[]⟩], rfl, Nat.le_refl _, heap_alloc_new w (.cells #[.string ⟨#[]⟩] 9), Nat.le_refl _, by unfold maxLen; omega, rfl, rfl⟩⟩)
  have HU0 := Lib.hid (show Upd [] w (w.alloc (.cells #[.string ⟨#[]⟩] 9)) from (Upd.refl _ _).alloc _)
  go_loopw [3, 4] (fun v3 v4 wr => ∃ (k : Nat) (X : List ByteArray), k ≤ s.size ∧ v4 = .int .i64 k ∧ X.length ≤ k + 1 ∧ wr.ownsRow w.heap.size 9 1 v3 X.length (X.map .string) ∧ Upd [] w wr ∧ WordsAt (spl s.data.toList) X (s.data.toList.drop k) ∧ ∀ x ∈ X, x.size ≤ k) (fun _ v4 _ => s.size - (intOf v4).toNat)
  case atStart => exact ⟨0, [⟨#[]⟩], by omega, rfl, by simp, HO0.out, HU0.out, ⟨[], ⟨#[]⟩, rfl, by rw [List.drop_zero]; rfl⟩, fun x hx => by rw [List.mem_singleton] at hx; subst hx; exact Nat.le_refl _⟩
  case round =>
    obtain ⟨k, X, hk, rfl, hXk, ho, hu, hW, hsz⟩ := hrel
    have HO := Lib.hid ho
    have HU := Lib.hid hu
    have HW := Lib.hid hW
    have HZ := Lib.hid hsz
    have hws := hu.size
    clear ho hu hW hsz HO0 HU0
    by_cases hlt : k < s.size
    · have hkl : (k : Int) < (s.size : Int) := by omega
      have hdr := drop_get s k hlt
      obtain ⟨X0, z, hX, _⟩ := HW.out
      have HX := Lib.hid hX
      have hXl : X.length = X0.length + 1 := by rw [hX]; simp
      by_cases hc : s.get! k = 32
      · have hc1 : (((s[k]'hlt).toNat : Int) == 32) = true := by rw [byte_at s k hlt, hc]; rfl
        have HN : Hid (WordsAt (spl s.data.toList) (X ++ [⟨#[]⟩]) (s.data.toList.drop (k + 1))) := Lib.hid (by
          have := HW.out
          rw [hdr, hc] at this
          exact words_blank this)
        clear HW hdr hX HX
        go_wp2_with (at_builtin; refine wpList_append_own _ rfl (.tmp 16) (.tmp 17) 108 rfl w.heap.size 9 i5 (.string ⟨#[]⟩) 1 16 Tryd.underlying108 hi5 hz5 hs5 hy5 rfl (by decide) _ _ _ rfl (World.ownsRow.alloc HO.out _) ⟨_, 0, none⟩ 1 1 _ rfl rfl (news_new _ 9 (by simp)) (by simp [Value.oneCell']) (by unfold maxLen; omega) (by omega) (by simp; omega) ?_; intro v6 w6 ho6 hg6 _)
        have HU6 := Lib.hid ((HU.out.alloc _).tr (U := []) (Upd.own hg6) (by simp) (fun g hg => .inr (own_blocks HO.out g hg).1))
        have HO6 := Lib.hid ho6
        clear ho6 hg6
        go_roundw
        case rel => exact ⟨k + 1, X ++ [⟨#[]⟩], by omega, by go_num, by simp; omega, by rw [List.length_append, List.map_append]; exact HO6.out, HU6.out, HN.out, fun x hx => by rcases List.mem_append.1 hx with h | h; exact Nat.le_succ_of_le (HZ.out x h); simp at h; subst h; exact Nat.zero_le _⟩
        case measure => simp [intOf]; omega
      · have hc1 : (((s[k]'hlt).toNat : Int) == 32) = false := by
          rw [byte_at s k hlt, beq_eq_false_iff_ne]; intro e; exact hc (UInt8.toNat_inj.1 (show (s.get! k).toNat = 32 by omega))
        obtain ⟨g, c, rfl⟩ := own_some HO.out (by omega)
        obtain ⟨_, _, sp, hB⟩ := own_openN HO.out
        have hcell : wr.cell? ⟨g, X0.length, none⟩ = some (.string z) := hB.cell _ (by
          rw [hX, List.map_append, List.append_assoc, List.getElem?_append_right (by rw [List.length_map]; exact Nat.le_refl _), List.length_map, Nat.sub_self]
          rfl)
        have HBK := Lib.hid hB
        have HY : Hid ((z ++ s.extract k (k + 1)).data.toList = z.data.toList ++ [s.get! k]) := Lib.hid (by rw [ByteArray.data_append, Array.toList_append, ex_one s k hlt])
        have HN : Hid (WordsAt (spl s.data.toList) (X0 ++ [z ++ s.extract k (k + 1)]) (s.data.toList.drop (k + 1))) := Lib.hid (by
          have h := HW.out
          rw [hdr, hX] at h
          exact words_more h hc HY.out)
        have HNL := Lib.hid (show X0.length + 1 = X.length by omega)
        have hzs := HZ.out z (by rw [hX]; simp)
        obtain ⟨n, hn⟩ : ∃ n, X.length = n := ⟨_, rfl⟩
        obtain ⟨m, hm⟩ : ∃ m, X0.length = m := ⟨_, rfl⟩
        rw [hm] at hcell
        rw [hn]
        have hw1 : IntKind.i64.wrap ((n : Int) - 1) = (m : Int) := by rw [IntKind.wrap_i64]; omega
        have hm0 : 0 ≤ (m : Int) := by omega
        have hm1 : (m : Int) < (n : Int) := by omega
        have hm2 : m < n := by omega
        have hk1 : (k : Int) + 1 ≤ (s.size : Int) := by omega
        have HFREE := Lib.hid (hB.free m)
        have HMN := Lib.hid hm
        have HNN := Lib.hid hn
        clear hm hn hX hXl hdr hB HW hc hkl
        have hb1 : ¬ 9223372036854775807 < z.size + (s.extract k (k + 1)).size := by
          have h1 : (s.extract k (k + 1)).size = 1 := by rw [Lib.size_eq, ex_one s k hlt]; rfl
          omega
        have HZS := Lib.hid hzs
        obtain ⟨k1, hk1e⟩ : ∃ j, k + 1 = j := ⟨_, rfl⟩
        have hwk : IntKind.i64.wrap ((k : Int) + 1) = (k1 : Int) := by rw [IntKind.wrap_i64]; omega
        have hkk : (k : Int) ≤ (k1 : Int) := by omega
        have hks : (k1 : Int) ≤ (s.size : Int) := by omega
        have hkk2 : k ≤ k1 := by omega
        have hks2 : k1 ≤ s.size := by omega
        have hk0 : 0 ≤ (k : Int) := by omega
        have hk10 : 0 ≤ (k1 : Int) := by omega
        rw [hk1e] at HY HN hb1
        have HK1 := Lib.hid hk1e
        have hb2 : ¬ 9223372036854775807 < z.size + (k1 - k) := by omega
        clear hzs hk1 hk1e
        go_wp2_with fail
        have ud : Upd [] wr wr.drew := (Upd.refl _ _).drew
        have HB2 := Lib.hid (HBK.out.upd ud (by simp))
        have HO2 := Lib.hid (own_upd HO.out ud (by simp))
        have HU2 := Lib.hid (HU.out.trans ud)
        obtain ⟨W4, hW4⟩ : ∃ W, wr.drew = W := ⟨_, rfl⟩
        refine wp_region_brT (fun w' => w' = wr.drew) [0, 1, 2, 3, 4, 5, 6, 7, 8, 9, 10, 11, 12, 13, 14, 15, 16, 17] 17 (by kernel_rfl) (by kernel_rfl) (by kernel_rfl) ?_
        have hc4 := ud.cell (by simp) hcell
        have hf4 := HB2.out.free m
        rw [hW4] at HB2 HO2 HU2 hc4 hf4 ⊢
        clear ud hW4 hcell HO HU HBK
        repeat ((refine wpC_take (v := ?_) rfl (by decide) rfl (by kernel_rfl) (by rfl) rfl ?_ ?_); rotate_left 1; (· ((intro w hSw; (try dsimp only at hSw); go_simp); try with_reducible rfl)); try simp only [Act.put, List.setIfInBounds_toArray, List.set_cons_zero, List.set_cons_succ])
        refine wpC_eff rfl (by kernel_rfl) (by rfl) (fun K2 hK2 => ?_)
        go_simp
        refine hK2.out _ _ (.inl (by decide)) ?_
        refine wpC_end (by kernel_rfl) (NoPanic.normal ?_)
        have us : Upd [g] W4 (W4.setCell ⟨g, m, none⟩ (.string (z ++ s.extract k k1))) := (Upd.refl _ _).setCell (.inl (by simp)) _
        have HU6 := Lib.hid (HU2.out.tr (U := []) us (by simp) (fun y hy => by simp at hy; subst hy; exact .inr (own_blocks HO2.out _ (by simp [Value.ownBlock])).1))
        have HO6 := Lib.hid (own_set HO2.out m (.string (z ++ s.extract k k1)))
        have HXS := Lib.hid (show (X.map Value.string).set m (.string (z ++ s.extract k k1)) = (X0 ++ [z ++ s.extract k k1]).map Value.string by
          rw [HX.out, ← HMN.out, List.map_append, List.map_append, List.set_append_right _ _ (by rw [List.length_map]; exact Nat.le_refl _), List.length_map, Nat.sub_self]
          rfl)
        clear hK2 K2 hc4 hf4 us hb2 hb1
        go_wp2_with fail
        go_roundw
        case rel => exact ⟨k1, X0 ++ [z ++ s.extract k k1], hks2, rfl, by have := HNL.out; have := HK1.out; simp; omega, by rw [← HXS.out, show (X0 ++ [z ++ s.extract k k1]).length = n by rw [← HNN.out, ← HNL.out]; simp]; have h := HO6.out; rw [HNN.out] at h; exact h, HU6.out, HN.out, fun x hx => by
          rcases List.mem_append.1 hx with h | h
          · have := HZ.out x (by rw [HX.out]; simp [h]); have := HK1.out; omega
          · rw [List.mem_singleton] at h
            subst h
            have h1 := HZS.out
            have h2 := HK1.out
            have h3 := HY.out
            rw [Lib.size_eq, h3, List.length_append, List.length_singleton, ← Lib.size_eq]
            omega⟩
        case measure => have := HK1.out; simp [intOf, hwk]; omega
    · obtain rfl : k = s.size := by omega
      have HN : Hid (X.map (·.data.toList) = spl s.data.toList) := Lib.hid (by
        obtain ⟨X0, z, rfl, h⟩ := HW.out
        rw [List.drop_eq_nil_of_le (by rw [← Lib.size_eq]; omega), show spl [] = [[]] from rfl, con_cons] at h
        rw [← h]
        simp)
      go_wp2_with fail
      exact ⟨_, X, rfl, HN.out, HO.out, HU.out, HZ.out⟩
end Go.Proofs.YtfldpejifpmapaaDoor
set_option linter.unusedSimpArgs false
set_option linter.unusedVariables false
set_option maxRecDepth 100000
namespace Go.Proofs.YtfldpejifpmapaaDoor
open Go.RowKit
/-- an event, seen from an attempt under way -/
def refNext (x : Try) (i : Nat) (e : Ev) : Try :=
  { x with last := i, snap := if e.kd = 4 then e.wd else x.snap, how := if e.kd = 6 ∨ e.kd = 7 ∨ e.kd = 8 ∨ e.kd = 9 then e.kd else x.how,
           reads := if e.kd = 2 ∧ e.own = false then x.reads + 1 else x.reads, writes := if e.kd = 3 then x.writes + 1 else x.writes }
def refTry (x : Try) (i : Nat) (e : Ev) : Try := if x.how = 0 ∧ e.th = x.th then refNext x i e else x
def refFold : Try → Nat → List Ev → Try
  | x, _, [] => x
  | x, i, e :: l => refFold (refTry x i e) (i + 1) l
def refStart (i : Nat) (e : Ev) : Try := ⟨e.th, i, i, e.wd, 0, 0, 0⟩
/-- the attempts that begin in a list -/
def refTries : Nat → List Ev → List Try
  | _, [] => []
  | i, e :: l => if e.kd = 1 then refFold (refStart i e) (i + 1) l :: refTries (i + 1) l else refTries (i + 1) l
structure OpenS (S : LS) : Prop where
  opn : ∀ k x, S.tries[k]? = some x → x.how = 0 → (0 ≤ x.th ∧ x.th < 8) ∧ ((S.ths x.th.toNat).how = 1 ∨ (S.ths x.th.toNat).how = 2) ∧ (S.ths x.th.toNat).try_ = k
  hold1 : ∀ j, (S.ths j).how = 2 → S.holder = j
  hold2 : 0 ≤ S.holder → (S.ths S.holder.toNat).how = 2
theorem open0 : OpenS ls0 := ⟨fun k x h => by simp [ls0] at h, fun j h => by simp [ls0, th0] at h, fun h => by simp [ls0] at h⟩
theorem turn_hold (h : Nat) (hh : h < 4) (k : Nat) (hk : k ≤ 12) (ht : turnL.getD (13 * h + k) 0 ≠ 0) : (turnL.getD (13 * h + k) 0 = 3 ↔ k = 5) ∧ (h = 2 → k = 6) ∧ (k = 5 → h = 1) := by
  have hc : h = 0 ∨ h = 1 ∨ h = 2 ∨ h = 3 := by omega
  have hd : k = 0 ∨ k = 1 ∨ k = 2 ∨ k = 3 ∨ k = 4 ∨ k = 5 ∨ k = 6 ∨ k = 7 ∨ k = 8 ∨ k = 9 ∨ k = 10 ∨ k = 11 ∨ k = 12 := by omega
  rcases hc with rfl | rfl | rfl | rfl <;> rcases hd with rfl | rfl | rfl | rfl | rfl | rfl | rfl | rfl | rfl | rfl | rfl | rfl | rfl <;> revert ht <;> decide
/-- the attempts behind an event that can be -/
theorem take_tries {S : LS} {i : Nat} {e : Ev} (hS : Going S i) (hO : OpenS S) (hw : wrongE S e = 0) : (takeE S i e).tries = S.tries.map (fun x => refTry x i e) ++ (if e.kd = 1 then [refStart i e] else []) := by
  obtain ⟨hf, ht, _, _, _, _⟩ := wrong_ok hw
  obtain ⟨f1, f2, _⟩ := hf
  have hh := hS.hows e.th.toNat
  obtain ⟨t3, t0, tb, tg⟩ := turn_tab (S.ths e.th.toNat).how (by omega) e.kd.toNat (by omega) ht
  have hid : (S.ths e.th.toNat).how = 0 → S.tries.map (fun x => refTry x i e) = S.tries := fun h0 => by
    refine (List.map_congr_left (g := id) fun x hx => ?_).trans (List.map_id _)
    show refTry x i e = x
    unfold refTry
    rw [if_neg]
    rintro ⟨q1, q2⟩
    obtain ⟨k, hk⟩ := List.getElem?_of_mem hx
    obtain ⟨_, q3, _⟩ := hO.opn k x hk q1
    rw [← q2] at q3
    omega
  by_cases hb : e.kd = 1
  · obtain ⟨h0, h2⟩ := tb (by omega)
    rw [hid h0, if_pos hb]
    unfold takeE
    dsimp only
    rw [if_pos (Or.inr hb), if_pos hb]
    unfold thNext
    dsimp only
    rw [if_pos hb]
    have hst : refStart i e = tryNext ⟨e.th, i, 0, 0, 0, 0, 0⟩ i e := by
      unfold refStart tryNext
      dsimp only
      rw [if_pos (Or.inl hb), if_neg (by omega), if_neg (by omega), if_neg (by omega)]
    rw [hst]
    apply List.ext_getElem?
    intro k
    rw [List.getElem?_modify]
    rcases Nat.lt_trichotomy k S.tries.length with h | h | h
    · rw [List.getElem?_append_left h, List.getElem?_append_left h]; have hne : S.tries.length ≠ k := by omega
      simp [hne]
    · subst h; simp
    · rw [List.getElem?_eq_none (by simp; omega), List.getElem?_eq_none (by simp; omega)]; split <;> rfl
  · have htry : (thNext (S.ths e.th.toNat) S.tries.length e).try_ = (S.ths e.th.toNat).try_ := by unfold thNext; dsimp only; rw [if_neg hb]
    rw [if_neg hb, List.append_nil]
    by_cases h0 : (S.ths e.th.toNat).how = 0
    · rw [hid h0]
      unfold takeE
      dsimp only
      rw [if_neg (by simp [h0, hb]), if_neg hb]
    · have h12 : (S.ths e.th.toNat).how = 1 ∨ (S.ths e.th.toNat).how = 2 := by
        have : (S.ths e.th.toNat).how ≠ 3 := t3
        omega
      obtain ⟨x0, a1, a2, a3⟩ := hS.act _ h12
      have htr : (takeE S i e).tries = S.tries.modify (S.ths e.th.toNat).try_ (fun x => tryNext x i e) := by
        unfold takeE
        dsimp only
        rw [if_pos (Or.inl h0), if_neg hb, htry]
      rw [htr]
      have hnx : ∀ x, refNext x i e = tryNext x i e := fun x => by
        unfold refNext tryNext
        congr 1
        by_cases h4 : e.kd = 4
        · rw [if_pos h4, if_pos (Or.inr h4)]
        · rw [if_neg h4, if_neg (by omega)]
      apply List.ext_getElem?
      intro k
      rw [List.getElem?_modify, List.getElem?_map]
      cases hx : S.tries[k]? with
      | none => simp
      | some x =>
        show some (if (S.ths e.th.toNat).try_ = k then tryNext x i e else x) = some (refTry x i e)
        unfold refTry
        by_cases e1 : (S.ths e.th.toNat).try_ = k
        · subst e1
          obtain rfl : x0 = x := by rw [a1] at hx; exact Option.some.inj hx
          rw [if_pos rfl, if_pos ⟨a3, by omega⟩, hnx]
        · rw [if_neg e1, if_neg]
          rintro ⟨q1, q2⟩
          obtain ⟨_, _, q3⟩ := hO.opn k x hx q1
          rw [← q2] at q3
          exact e1 q3
theorem take_open {S : LS} {i : Nat} {e : Ev} (hS : Going S i) (hO : OpenS S) (hw : wrongE S e = 0) : OpenS (takeE S i e) := by
  have htr := take_tries hS hO hw
  obtain ⟨hf, ht, _, hl, _, _⟩ := wrong_ok hw
  obtain ⟨f1, f2, _⟩ := hf
  have hh := hS.hows e.th.toNat
  obtain ⟨t3, t0, tb, tg⟩ := turn_tab (S.ths e.th.toNat).how (by omega) e.kd.toNat (by omega) ht
  obtain ⟨th3, th2, th5⟩ := turn_hold (S.ths e.th.toNat).how (by omega) e.kd.toNat (by omega) ht
  have hths : (takeE S i e).ths = updT S.ths e.th.toNat (thNext (S.ths e.th.toNat) S.tries.length e) := rfl
  have hhol : (takeE S i e).holder = if e.kd = 5 then e.th else if e.kd = 6 ∧ (S.ths e.th.toNat).how = 2 then -1 else S.holder := rfl
  have hnh : (thNext (S.ths e.th.toNat) S.tries.length e).how = turnL.getD (13 * (S.ths e.th.toNat).how + e.kd.toNat) 0 - 1 := rfl
  have hthn : ((e.th.toNat : Nat) : Int) = e.th := by omega
  refine ⟨fun k x hx hx0 => ?_, fun j hj => ?_, fun hq => ?_⟩
  · rw [htr] at hx
    rw [hths]
    by_cases hb : e.kd = 1
    · obtain ⟨h0, h2⟩ := tb (by omega)
      rw [if_pos hb] at hx
      rcases Nat.lt_trichotomy k S.tries.length with h | h | h
      · rw [List.getElem?_append_left (by rw [List.length_map]; exact h), List.getElem?_map] at hx
        obtain ⟨y, hy, hyx⟩ := Option.map_eq_some_iff.1 hx
        have hyy : refTry y i e = y := by
          unfold refTry
          rw [if_neg]
          rintro ⟨q1, q2⟩
          obtain ⟨_, q3, _⟩ := hO.opn k y hy q1
          rw [← q2] at q3
          omega
        rw [hyy] at hyx
        subst hyx
        obtain ⟨q1, q2, q3⟩ := hO.opn k y hy hx0
        have hne : y.th.toNat ≠ e.th.toNat := fun q => by rw [q] at q2; omega
        unfold updT
        rw [if_neg hne]
        exact ⟨q1, q2, q3⟩
      · subst h
        rw [List.getElem?_append_right (by rw [List.length_map]; omega), List.length_map, Nat.sub_self] at hx
        simp only [List.getElem?_cons_zero, Option.some.injEq] at hx
        subst hx
        unfold updT refStart
        dsimp only
        rw [if_pos rfl]
        refine ⟨f1, .inl ?_, ?_⟩
        · rw [hnh, h2]
        · unfold thNext; dsimp only; rw [if_pos hb]
      · rw [List.getElem?_eq_none (by simp; omega)] at hx; cases hx
    · rw [if_neg hb, List.append_nil, List.getElem?_map] at hx
      obtain ⟨y, hy, hyx⟩ := Option.map_eq_some_iff.1 hx
      have htry : (thNext (S.ths e.th.toNat) S.tries.length e).try_ = (S.ths e.th.toNat).try_ := by unfold thNext; dsimp only; rw [if_neg hb]
      by_cases hc : y.how = 0 ∧ e.th = y.th
      · have : x = refNext y i e := by rw [← hyx]; unfold refTry; rw [if_pos hc]
        subst this
        obtain ⟨q1, q2, q3⟩ := hO.opn k y hy hc.1
        have hxt : (refNext y i e).th = e.th := hc.2.symm
        rw [hxt]
        rw [← hc.2] at q1 q2 q3
        have hend : ¬ (e.kd = 6 ∨ e.kd = 7 ∨ e.kd = 8 ∨ e.kd = 9) := fun q => by
          unfold refNext at hx0
          dsimp only at hx0
          rw [if_pos q] at hx0
          omega
        unfold updT
        rw [if_pos rfl, hnh, htry]
        refine ⟨q1, ?_, q3⟩
        have hkk : ∀ (h : Nat), h = 1 ∨ h = 2 → ∀ k : Nat, k ≤ 12 → ¬ (k = 6 ∨ k = 7 ∨ k = 8 ∨ k = 9) → turnL.getD (13 * h + k) 0 ≠ 0 → turnL.getD (13 * h + k) 0 = 2 ∨ turnL.getD (13 * h + k) 0 = 3 := fun h hh k hk hn ht => by
          have hd : k = 0 ∨ k = 1 ∨ k = 2 ∨ k = 3 ∨ k = 4 ∨ k = 5 ∨ k = 6 ∨ k = 7 ∨ k = 8 ∨ k = 9 ∨ k = 10 ∨ k = 11 ∨ k = 12 := by omega
          rcases hh with rfl | rfl <;> rcases hd with rfl | rfl | rfl | rfl | rfl | rfl | rfl | rfl | rfl | rfl | rfl | rfl | rfl <;> revert ht hn <;> decide
        have := hkk _ q2 e.kd.toNat (by omega) (by omega) ht
        omega
      · have : x = y := by rw [← hyx]; unfold refTry; rw [if_neg hc]
        subst this
        obtain ⟨q1, q2, q3⟩ := hO.opn k x hy hx0
        have hne : x.th.toNat ≠ e.th.toNat := fun q => hc ⟨hx0, by omega⟩
        unfold updT
        rw [if_neg hne]
        exact ⟨q1, q2, q3⟩
  · rw [hths] at hj
    rw [hhol]
    unfold updT at hj
    by_cases hje : j = e.th.toNat
    · subst hje
      rw [if_pos rfl, hnh] at hj
      rw [if_pos (by omega)]
      exact hthn.symm
    · rw [if_neg hje] at hj
      have h1 := hO.hold1 j hj
      rw [if_neg (fun q => by have := hl (.inr (.inr q)); omega), if_neg]
      · exact h1
      · rintro ⟨_, q⟩
        have h2 := hO.hold1 _ q
        omega
  · rw [hhol] at hq ⊢
    rw [hths]
    unfold updT
    by_cases h5 : e.kd = 5
    · rw [if_pos h5, if_pos rfl, hnh]
      have := th3.2 (by omega)
      omega
    · rw [if_neg h5] at hq ⊢
      by_cases h6 : e.kd = 6 ∧ (S.ths e.th.toNat).how = 2
      · rw [if_pos h6] at hq; omega
      · rw [if_neg h6] at hq ⊢
        have h2 := hO.hold2 hq
        have hne : S.holder.toNat ≠ e.th.toNat := fun q => by
          rw [q] at h2
          exact h6 ⟨by have := th2 h2; omega, h2⟩
        rw [if_neg hne]
        exact h2
theorem run_tries : ∀ (l : List Ev) (S : LS) (i : Nat), Going S i → OpenS S → (runE S i l).2.2 = 0 → (runE S i l).1.tries = S.tries.map (fun x => refFold x i l) ++ refTries i l
  | [], S, i, _, _, _ => by
    rw [runE, refTries, List.append_nil]
    exact (List.map_id' S.tries).symm
  | e :: l, S, i, hS, hO, hz => by
    rw [runE] at hz ⊢
    by_cases hw : wrongE S e = 0
    · rw [if_pos hw] at hz ⊢
      rw [run_tries l _ _ (take_going hS hw).2 (take_open hS hO hw) hz, take_tries hS hO hw, List.map_append, List.map_map, List.append_assoc]
      congr 1
      rw [refTries]
      by_cases hb : e.kd = 1
      · rw [if_pos hb, if_pos hb]; rfl
      · rw [if_neg hb, if_neg hb]; rfl
    · rw [if_neg hw] at hz
      exact absurd hz hw
/-- the attempts of a history that can be -/
theorem tries_ref (l : List Ev) (h : (runE ls0 0 l).2.2 = 0) : (runE ls0 0 l).1.tries = refTries 0 l := by
  rw [run_tries l ls0 0 going0 open0 h]
  rfl
end Go.Proofs.YtfldpejifpmapaaDoor
set_option linter.unusedSimpArgs false
set_option linter.unusedVariables false
set_option maxRecDepth 100000
namespace Go.Proofs.YtfldpejifpmapaaDoor
open Go.RowKit
/-- how a thread is behind an event; -1: it may not have it -/
def turnR (h : Nat) (e : Ev) : Int := if turnT h e.kd = 0 ∨ (h = 0 ∧ e.kd = 9 ∧ e.er ≠ 4) then -1 else ((turnT h e.kd - 1 : Nat) : Int)
set_option maxHeartbeats 8000000 in
theorem rturn_code (h : Nat) (e : Ev) (hh : h ≤ 3) (hk : 1 ≤ e.kd ∧ e.kd ≤ 12) (w : World) : Calls Tryd.prog 69 #[.int .i64 (h : Int), e.val] w fun r w' => r = .returned (.int .i64 (turnR h e)) ∧ Upd [] w w' := by
  obtain ⟨th, kd, ad, wd, own, er⟩ := e
  simp only [Ev.val]
  dsimp only at hk
  have hc : h = 0 ∨ h = 1 ∨ h = 2 ∨ h = 3 := by omega
  have hd : kd = 1 ∨ kd = 2 ∨ kd = 3 ∨ kd = 4 ∨ kd = 5 ∨ kd = 6 ∨ kd = 7 ∨ kd = 8 ∨ kd = 9 ∨ kd = 10 ∨ kd = 11 ∨ kd = 12 := by omega
  clear hk hh
  unfold turnR turnT
  dsimp only
  rcases hc with rfl | rfl | rfl | rfl
  · rcases hd with rfl | rfl | rfl | rfl | rfl | rfl | rfl | rfl | rfl | rfl | rfl | rfl
    case inr.inr.inr.inr.inr.inr.inr.inr.inl =>
      by_cases h4 : er = 4
      · subst h4
        refine calls_all fun K hK => ?_
        go_enter Tryd.func69, Tryd.ntmps69
        go_wp2
        all_goals exact ⟨rfl, (Upd.refl _ _).alloc _⟩
      · have h41 : (er == 4) = false := by simpa using h4
        have HE := Lib.hid (show (if turnL.getD (13 * 0 + Int.toNat 9) 0 = 0 ∨ (0 = 0 ∧ (9 : Int) = 9 ∧ er ≠ 4) then (-1 : Int) else ((turnL.getD (13 * 0 + Int.toNat 9) 0 - 1 : Nat) : Int)) = -1 from if_pos (.inr ⟨rfl, rfl, h4⟩))
        rw [HE.out]
        clear h4 HE
        refine calls_all fun K hK => ?_
        go_enter Tryd.func69, Tryd.ntmps69
        go_wp2
        all_goals exact ⟨rfl, (Upd.refl _ _).alloc _⟩
    all_goals
      rw [show (if turnL.getD (13 * 0 + Int.toNat _) 0 = 0 ∨ (0 = 0 ∧ _ ∧ er ≠ 4) then (-1 : Int) else _) = _ from by
        first
          | exact if_pos (.inl rfl)
          | exact if_neg (by rintro (h | ⟨_, h, _⟩); exact absurd h (by decide); exact absurd h (by decide))]
      refine calls_all fun K hK => ?_
      go_enter Tryd.func69, Tryd.ntmps69
      go_wp2
      exact ⟨rfl, (Upd.refl _ _).alloc _⟩
  · rcases hd with rfl | rfl | rfl | rfl | rfl | rfl | rfl | rfl | rfl | rfl | rfl | rfl
    all_goals
      rw [show (if turnL.getD (13 * 1 + Int.toNat _) 0 = 0 ∨ (1 = 0 ∧ _ ∧ er ≠ 4) then (-1 : Int) else _) = _ from by
        first
          | exact if_pos (.inl rfl)
          | exact if_neg (by rintro (h | ⟨h, _⟩); exact absurd h (by decide); exact absurd h (by decide))]
      refine calls_all fun K hK => ?_
      go_enter Tryd.func69, Tryd.ntmps69
      go_wp2
      exact ⟨rfl, (Upd.refl _ _).alloc _⟩
  · rcases hd with rfl | rfl | rfl | rfl | rfl | rfl | rfl | rfl | rfl | rfl | rfl | rfl
    all_goals
      rw [show (if turnL.getD (13 * 2 + Int.toNat _) 0 = 0 ∨ (2 = 0 ∧ _ ∧ er ≠ 4) then (-1 : Int) else _) = _ from by
        first
          | exact if_pos (.inl rfl)
          | exact if_neg (by rintro (h | ⟨h, _⟩); exact absurd h (by decide); exact absurd h (by decide))]
      refine calls_all fun K hK => ?_
      go_enter Tryd.func69, Tryd.ntmps69
      go_wp2
      exact ⟨rfl, (Upd.refl _ _).alloc _⟩
  · rcases hd with rfl | rfl | rfl | rfl | rfl | rfl | rfl | rfl | rfl | rfl | rfl | rfl
    all_goals
      rw [show (if turnL.getD (13 * 3 + Int.toNat _) 0 = 0 ∨ (3 = 0 ∧ _ ∧ er ≠ 4) then (-1 : Int) else _) = _ from by
        exact if_pos (.inl rfl)]
      refine calls_all fun K hK => ?_
      go_enter Tryd.func69, Tryd.ntmps69
      go_wp2
      exact ⟨rfl, (Upd.refl _ _).alloc _⟩
end Go.Proofs.YtfldpejifpmapaaDoor
set_option linter.unusedSimpArgs false
set_option linter.unusedVariables false
set_option maxRecDepth 100000
namespace Go.Proofs.YtfldpejifpmapaaDoor
open Go.RowKit
set_option maxHeartbeats 4000000 in
theorem rlocked_code (w : World) (wb : Nat) (hows : Nat → Nat) (th : Nat) (b : Bool) (hc : ∀ j, j < 8 → w.cell? ⟨wb, j * 3, none⟩ = some (.int .i64 (hows j : Int))) (hb1 : b = true → ∃ j, j < 8 ∧ j ≠ th ∧ hows j = 2) (hb0 : b = false → ∀ j, j < 8 → j ≠ th → hows j ≠ 2) (ht : th < 8) :
    Calls Tryd.prog 70 #[.pointer (some ⟨wb, 0, none⟩), .int .i64 (th : Int)] w fun e w' => e = .returned (.bool b) ∧ Upd [] w w' := by
  have HC := Lib.hid hc
  have HB1 := Lib.hid hb1
  have HB0 := Lib.hid hb0
  clear hc hb1 hb0
  refine calls_all fun K hK => ?_
  go_enter Tryd.func70, Tryd.ntmps70
  go_wp2_with fail
  go_loopw [5] (fun v5 wr => ∃ k : Nat, k ≤ 8 ∧ v5 = .int .i64 k ∧ (∀ j, j < k → j ≠ th → hows j ≠ 2) ∧ w = wr) (fun v5 _ => 8 - (intOf v5).toNat)
  case atStart => exact ⟨0, by omega, rfl, fun j h => by omega, rfl⟩
  case round =>
    obtain ⟨k, hk, rfl, hno, rfl⟩ := hrel
    have HNO := Lib.hid hno
    clear hno
    by_cases hlt : k < 8
    · have hlt' : (k : Int) < 8 := by omega
      have hk0 : 0 ≤ (k : Int) := by omega
      by_cases he : k = th
      · subst he
        go_wp2_with fail
        go_roundw
        case rel => exact ⟨k + 1, by omega, by go_num, fun j h1 h2 => HNO.out j (by omega) h2, trivial⟩
        case measure => simp [intOf]; omega
      · have hne : ((k : Int) != (th : Int)) = true := by simp; omega
        have hc := HC.out k hlt
        by_cases h2 : hows k = 2
        · rw [h2] at hc
          have hbt : b = true := by
            cases b with
            | true => rfl
            | false => exact absurd h2 (HB0.out rfl k hlt he)
          subst hbt
          clear h2 HB0 HB1
          go_wp2_with fail
          exact ⟨rfl, Upd.refl _ _⟩
        · have h21 : ((hows k : Int) == 2) = false := by rw [beq_eq_false_iff_ne]; omega
          have HN := Lib.hid h2
          have HE := Lib.hid he
          clear h2 he
          go_wp2_with fail
          go_roundw
          case rel => exact ⟨k + 1, by omega, by go_num, fun j h1 h2 => by
            rcases Nat.lt_succ_iff_lt_or_eq.1 h1 with h | rfl
            · exact HNO.out j h h2
            · exact HN.out, trivial⟩
          case measure => simp [intOf]; omega
    · obtain rfl : k = 8 := by omega
      have hbf : b = false := by
        cases b with
        | false => rfl
        | true => obtain ⟨j, h1, h2, h3⟩ := HB1.out rfl; exact absurd h3 (HNO.out j h1 h2)
      subst hbf
      go_wp2_with fail
      first | exact ⟨rfl, Upd.refl _ _⟩ | exact Upd.refl _ _
/-- the words written, as a row of cells: the last one last -/
def wcells (l : List (Int × Int)) : List Value := l.reverse.flatMap fun p => [.int .u64 p.1, .int .u64 p.2]
theorem wflat : ∀ (l : List (Int × Int)) (i : Nat) (p : Int × Int), l[i]? = some p → (l.flatMap fun p => [Value.int .u64 p.1, .int .u64 p.2])[i * 2]? = some (.int .u64 p.1) ∧ (l.flatMap fun p => [Value.int .u64 p.1, .int .u64 p.2])[i * 2 + 1]? = some (.int .u64 p.2)
  | [], i, p, h => by simp at h
  | y :: l, 0, p, h => by
    obtain rfl : y = p := by simpa using h
    exact ⟨rfl, rfl⟩
  | y :: l, i + 1, p, h => by
    obtain ⟨h1, h2⟩ := wflat l i p (by simpa using h)
    rw [List.flatMap_cons]
    refine ⟨?_, ?_⟩
    · rw [show (i + 1) * 2 = i * 2 + 1 + 1 by omega]; exact h1
    · rw [show (i + 1) * 2 + 1 = (i * 2 + 1) + 1 + 1 by omega]; exact h2
theorem own_openW {w : World} {base : Nat} {e : TypeId} {size n g c : Nat} {us : List Value} (h : w.ownsRow base e size (.slice (some ⟨g, 0, none⟩) n c) n us) : ∃ sp : List Value, Blk w g (us ++ sp) e := by
  obtain ⟨h1, h2⟩ := h
  rcases h2 with ⟨h2, _⟩ | ⟨g', cap, cur, hv, hb, hh, hn, hm, hs, ht⟩
  · cases h2
  · cases hv
    refine ⟨cur.toList.drop (n * size), ?_⟩
    rw [← ht, List.take_append_drop]
    unfold Blk
    simpa using hh
theorem wrow_at {w : World} {base g n c : Nat} {l : List (Int × Int)} (h : w.ownsRow base 126 2 (.slice (some ⟨g, 0, none⟩) n c) n (wcells l)) (hn : n = l.length) (k : Nat) (p : Int × Int) (hk : l[k]? = some p) : w.cell? ⟨g, (n - 1 - k) * 2, none⟩ = some (.int .u64 p.1) ∧ w.cell? ⟨g, (n - 1 - k) * 2 + 1, none⟩ = some (.int .u64 p.2) := by
  obtain ⟨sp, hB⟩ := own_openW h
  have hkl : k < l.length := (List.getElem?_eq_some_iff.1 hk).1
  have hr : l.reverse[n - 1 - k]? = some p := by
    rw [List.getElem?_reverse (by omega), ← hk]
    congr 1
    omega
  obtain ⟨h1, h2⟩ := wflat _ _ _ hr
  unfold wcells at hB
  have hl : ∀ (i : Nat) (v : Value), (l.reverse.flatMap fun p => [Value.int .u64 p.1, .int .u64 p.2])[i]? = some v → ((l.reverse.flatMap fun p => [Value.int .u64 p.1, .int .u64 p.2]) ++ sp)[i]? = some v := fun i v h => by rw [List.getElem?_append_left (List.getElem?_eq_some_iff.1 h).1]; exact h
  exact ⟨hB.cell _ (hl _ _ h1), hB.cell _ (hl _ _ h2)⟩
theorem lookR_cons (p : Int × Int) (l : List (Int × Int)) (a : Int) : lookW (p :: l) a = if p.1 = a then some p.2 else lookW l a := by
  unfold lookW
  rw [List.find?_cons]
  by_cases h : p.1 = a
  · rw [if_pos h, show (p.1 == a) = true by simpa using h]; rfl
  · rw [if_neg h, show (p.1 == a) = false by simpa using h]
def lookV (l : List (Int × Int)) (a : Int) : Value := match lookW l a with | some x => .tuple #[.int .u64 x, .bool true] | none => .tuple #[.int .u64 0, .bool false]
set_option maxHeartbeats 4000000 in
theorem rwritten_code (w : World) (base : Nat) (v : Value) (l : List (Int × Int)) (a : Int) (ho : w.ownsRow base 126 2 v l.length (wcells l)) (hl : l.length ≤ 1000000000000) :
    Calls Tryd.prog 83 #[v, .int .u64 a] w fun e w' => e = .returned (lookV l a) ∧ Upd [] w w' := by
  obtain ⟨p, c, rfl⟩ := own_form ho
  have HO := Lib.hid ho
  obtain ⟨V, hV⟩ : ∃ V, lookV l a = V := ⟨_, rfl⟩
  rw [hV]
  have HV := Lib.hid hV
  obtain ⟨n, hn⟩ : ∃ n, l.length = n := ⟨_, rfl⟩
  have HN := Lib.hid hn
  rw [hn] at HO hl ⊢
  clear ho hV hn
  have hw0 : IntKind.i64.wrap ((n : Int) - 1) = (n : Int) - 1 := by rw [IntKind.wrap_i64]; omega
  refine calls_all fun K hK => ?_
  go_enter Tryd.func83, Tryd.ntmps83
  go_wp2_with fail
  go_loopw [6] (fun v6 wr => ∃ k : Nat, k ≤ n ∧ v6 = .int .i64 ((n : Int) - 1 - k) ∧ lookV (l.drop k) a = V ∧ w = wr) (fun v6 _ => (intOf v6 + 1).toNat)
  case atStart => exact ⟨0, by omega, by simp, by rw [List.drop_zero]; exact HV.out, rfl⟩
  case round =>
    obtain ⟨k, hk, rfl, hlk, rfl⟩ := hrel
    by_cases hlt : k < n
    · obtain ⟨x, hx⟩ : ∃ x, l[k]? = some x := ⟨_, List.getElem?_eq_getElem (by rw [HN.out]; exact hlt)⟩
      have hd : l.drop k = x :: l.drop (k + 1) := by
        rw [List.drop_eq_getElem_cons (by rw [HN.out]; exact hlt)]
        congr 1
        rw [List.getElem?_eq_getElem (by rw [HN.out]; exact hlt)] at hx
        exact Option.some.inj hx
      obtain ⟨g, c', e⟩ := own_some HO.out (by omega)
      cases e
      obtain ⟨c1, c2⟩ := wrow_at HO.out HN.out.symm k x hx
      obtain ⟨i, hi⟩ : ∃ i, n - 1 - k = i := ⟨_, rfl⟩
      have hi' : (n : Int) - 1 - k = (i : Int) := by omega
      rw [hi] at c1 c2
      have hi0 : 0 ≤ (i : Int) := by omega
      have hin : (i : Int) < (n : Int) := by omega
      have hin2 : i < n := by omega
      obtain ⟨x1, x2⟩ := x
      dsimp only at c1 c2
      rw [hd] at hlk
      unfold lookV at hlk
      rw [lookR_cons] at hlk
      rw [hi']
      by_cases he : x1 = a
      · subst he
        rw [if_pos rfl] at hlk
        have HLK := Lib.hid hlk.symm
        clear hlk hd hx hi hi'
        go_wp2_with fail
        exact ⟨by rw [HLK.out], Upd.refl _ _⟩
      · rw [if_neg he] at hlk
        have he1 : (x1 == a) = false := by simpa using he
        have HLK := Lib.hid (show lookV (l.drop (k + 1)) a = V from hlk)
        have HI := Lib.hid hi'
        clear hlk hd hx hi hi' he
        go_wp2_with fail
        go_roundw
        case rel => exact ⟨k + 1, by omega, by have := HI.out; congr 1; omega, HLK.out, trivial⟩
        case measure => have := HI.out; simp [intOf] <;> omega
    · obtain rfl : k = n := by omega
      rw [show l.drop k = [] from List.drop_eq_nil_of_le (by rw [HN.out]; exact Nat.le_refl _)] at hlk
      have HLK := Lib.hid (show V = .tuple #[.int .u64 0, .bool false] from hlk.symm)
      have hneg : ¬ 0 ≤ (k : Int) - 1 - k := by omega
      clear hlk
      go_wp2_with fail
      exact ⟨by rw [HLK.out], Upd.refl _ _⟩
end Go.Proofs.YtfldpejifpmapaaDoor
set_option linter.unusedSimpArgs false
set_option linter.unusedVariables false
set_option maxRecDepth 100000
namespace Go.Proofs.YtfldpejifpmapaaDoor
open Go.RowKit
-- an event's block
set_option maxHeartbeats 8000000 in
theorem rnum_code (w : World) (wb q : Nat) (S : LS) (t : Th) (e : Ev) (tv : Value) (h0 : w.cell? ⟨wb, q, none⟩ = some (.int .i64 (t.how : Int))) (h1 : w.cell? ⟨wb, q + 1, none⟩ = some (.int .u64 t.snap)) (h2 : w.cell? ⟨wb, q + 2, none⟩ = some tv) (h3 : w.cell? ⟨wb, 24, none⟩ = some (.int .u64 S.num)) (hs : 0 ≤ t.snap ∧ t.snap < 18446744073709551616) (hn : 0 ≤ S.num ∧ S.num ≤ 1000000000000) :
    Calls Tryd.prog 71 #[.pointer (some ⟨wb, 0, none⟩), .pointer (some ⟨wb, q, none⟩), e.val] w fun r w' => r = .returned (.bool (wordOk S t e)) ∧ Upd [] w w' := by
  obtain ⟨th, kd, ad, wd, own, er⟩ := e
  obtain ⟨how, snap, wr, try_⟩ := t
  obtain ⟨ths, num, holder, tries⟩ := S
  unfold wordOk
  dsimp only at h0 h1 h3 hs hn ⊢
  simp only [Ev.val]
  have hw1 : IntKind.u64.wrap (2 * num) = 2 * num := by rw [IntKind.wrap_u64]; omega
  have hw2 : IntKind.u64.wrap (num + 1) = num + 1 := by rw [IntKind.wrap_u64]; omega
  have hq : snap.tdiv 2 = snap / 2 := by rw [Int.tdiv_eq_ediv_of_nonneg hs.1]
  obtain ⟨W1, hW1⟩ : ∃ W, w.alloc (.cells #[.int .i64 th, .int .i64 kd, .int .u64 ad, .int .u64 wd, .bool own, .int .i64 er] 27) = W := ⟨_, rfl⟩
  have hB := (show Blk W1 w.heap.size [.int .i64 th, .int .i64 kd, .int .u64 ad, .int .u64 wd, .bool own, .int .i64 er] 27 by rw [← hW1]; exact Blk.new w _ _)
  have hU := (show Upd [] w W1 by rw [← hW1]; exact (Upd.refl _ _).alloc _)
  obtain ⟨Tf, hTf, g, hg0, hg2⟩ := fam [] W1
  have hg := fun n => hU.trans (hg0 n)
  have HG := Lib.hid hg
  have HU := Lib.hid hU
  have m0 := hB.cell 0 rfl
  have m1 := hB.cell 1 rfl
  have m2 := hB.cell 2 rfl
  have m3 := hB.cell 3 rfl
  have m4 := hB.cell 4 rfl
  have m5 := hB.cell 5 rfl
  have n0 := fun n => (hg0 n).cell (by simp) m0
  have n1 := fun n => (hg0 n).cell (by simp) m1
  have n2 := fun n => (hg0 n).cell (by simp) m2
  have n3 := fun n => (hg0 n).cell (by simp) m3
  have n4 := fun n => (hg0 n).cell (by simp) m4
  have n5 := fun n => (hg0 n).cell (by simp) m5
  have q0 := hU.cell (by simp) h0
  have q1 := hU.cell (by simp) h1
  have q2 := hU.cell (by simp) h2
  have q3 := hU.cell (by simp) h3
  have p0 := fun n => (hg n).cell (by simp) h0
  have p1 := fun n => (hg n).cell (by simp) h1
  have p2 := fun n => (hg n).cell (by simp) h2
  have p3 := fun n => (hg n).cell (by simp) h3
  obtain ⟨eb, heb⟩ : ∃ b, w.heap.size = b := ⟨_, rfl⟩
  rw [heb] at m0 m1 m2 m3 m4 m5 n0 n1 n2 n3 n4 n5
  clear hB hU hg hg0
  obtain ⟨Z, hZ⟩ : ∃ Z, (if kd = 1 then wd == 2 * num else if kd = 4 then wd == 2 * num && decide (snap < wd) else if kd = 5 then snap == 2 * num else if kd = 6 then if how = 2 then wd == num + 1 else wd == snap / 2 else true) = Z := ⟨_, rfl⟩
  rw [hZ]
  have HZ := Lib.hid hZ
  clear hZ
  by_cases k1 : kd = 1
  · obtain rfl : Z = (wd == 2 * num) := by rw [← HZ.out, if_pos k1]
    subst k1
    clear HZ
    refine calls_all fun K hK => ?_
    go_enter Tryd.func71, Tryd.ntmps71
    go_upto_region 3 with fail
    clear hW1 heb
    refine wp_region_fam g (by kernel_rfl) (by kernel_rfl) (hg2 _ ((Upd.refl [] _).drew)) ?_
    repeat (go_big_quiet_step (fail))
    refine wpQuiet_nil ?_
    intro w9 hw9
    obtain ⟨n9, rfl⟩ := hw9
    go_wp2_with fail
    first | exact HG.out n9 | exact ⟨rfl, HG.out n9⟩
  · have k11 : (kd == 1) = false := by simpa using k1
    by_cases k4 : kd = 4
    · have hZ2 : Z = (wd == 2 * num && decide (snap < wd)) := by rw [← HZ.out, if_neg k1, if_pos k4]
      subst k4
      clear HZ k1 k11
      cases hz : (wd == 2 * num) with
      | true =>
        obtain rfl : Z = decide (snap < wd) := by rw [hZ2, hz]; rfl
        clear hZ2
        refine calls_all fun K hK => ?_
        go_enter Tryd.func71, Tryd.ntmps71
        go_upto_region 5 with fail
        clear hW1 heb
        refine wp_region_fam g (by kernel_rfl) (by kernel_rfl) (hg2 _ ((Upd.refl [] _).drew)) ?_
        repeat (go_big_quiet_step (fail))
        refine wpQuiet_nil ?_
        intro w9 hw9
        obtain ⟨n9, rfl⟩ := hw9
        go_wp2_with fail
        first | exact HG.out n9 | exact ⟨rfl, HG.out n9⟩
      | false =>
        obtain rfl : Z = false := by rw [hZ2, hz]; rfl
        clear hZ2
        refine calls_all fun K hK => ?_
        go_enter Tryd.func71, Tryd.ntmps71
        go_upto_region 5 with fail
        clear hW1 heb
        refine wp_region_fam g (by kernel_rfl) (by kernel_rfl) (hg2 _ ((Upd.refl [] _).drew)) ?_
        repeat (go_big_quiet_step (fail))
        refine wpQuiet_nil ?_
        intro w9 hw9
        obtain ⟨n9, rfl⟩ := hw9
        go_wp2_with fail
        first | exact HG.out n9 | exact ⟨rfl, HG.out n9⟩
    · have k41 : (kd == 4) = false := by simpa using k4
      by_cases k5 : kd = 5
      · obtain rfl : Z = (snap == 2 * num) := by rw [← HZ.out, if_neg k1, if_neg k4, if_pos k5]
        subst k5
        clear HZ k1 k4 k11 k41
        refine calls_all fun K hK => ?_
        go_enter Tryd.func71, Tryd.ntmps71
        go_upto_region 7 with fail
        clear hW1 heb
        refine wp_region_fam g (by kernel_rfl) (by kernel_rfl) (hg2 _ ((Upd.refl [] _).drew)) ?_
        repeat (go_big_quiet_step (fail))
        refine wpQuiet_nil ?_
        intro w9 hw9
        obtain ⟨n9, rfl⟩ := hw9
        go_wp2_with fail
        first | exact HG.out n9 | exact ⟨rfl, HG.out n9⟩
      · have k51 : (kd == 5) = false := by simpa using k5
        by_cases k6 : kd = 6
        · have hZ2 : Z = if how = 2 then wd == num + 1 else wd == snap / 2 := by rw [← HZ.out, if_neg k1, if_neg k4, if_neg k5, if_pos k6]
          subst k6
          clear HZ k1 k4 k5 k11 k41 k51
          by_cases h2h : how = 2
          · obtain rfl : Z = (wd == num + 1) := by rw [hZ2, if_pos h2h]
            subst h2h
            clear hZ2
            refine calls_all fun K hK => ?_
            go_enter Tryd.func71, Tryd.ntmps71
            go_upto_region 10 with fail
            clear hW1 heb
            refine wp_region_fam g (by kernel_rfl) (by kernel_rfl) (hg2 _ ((Upd.refl [] _).drew)) ?_
            repeat (go_big_quiet_step (fail))
            refine wpQuiet_nil ?_
            intro w9 hw9
            obtain ⟨n9, rfl⟩ := hw9
            go_wp2_with fail
            first | exact HG.out n9 | exact ⟨rfl, HG.out n9⟩
          · have h21 : ((how : Int) == 2) = false := by rw [beq_eq_false_iff_ne]; omega
            obtain rfl : Z = (wd == snap / 2) := by rw [hZ2, if_neg h2h]
            clear h2h hZ2
            refine calls_all fun K hK => ?_
            go_enter Tryd.func71, Tryd.ntmps71
            go_upto_region 11 with fail
            clear hW1 heb
            refine wp_region_fam g (by kernel_rfl) (by kernel_rfl) (hg2 _ ((Upd.refl [] _).drew)) ?_
            repeat (go_big_quiet_step (fail))
            refine wpQuiet_nil ?_
            intro w9 hw9
            obtain ⟨n9, rfl⟩ := hw9
            go_wp2_with fail
            first | exact HG.out n9 | exact ⟨rfl, HG.out n9⟩
        · have k61 : (kd == 6) = false := by simpa using k6
          obtain rfl : Z = true := by rw [← HZ.out, if_neg k1, if_neg k4, if_neg k5, if_neg k6]
          clear k1 k4 k5 k6 HZ
          refine calls_all fun K hK => ?_
          go_enter Tryd.func71, Tryd.ntmps71
          go_wp2_with fail
          first | exact HU.out | exact ⟨rfl, HU.out⟩
end Go.Proofs.YtfldpejifpmapaaDoor
set_option linter.unusedSimpArgs false
set_option linter.unusedVariables false
set_option maxRecDepth 100000
namespace Go.Proofs.YtfldpejifpmapaaDoor
open Go.RowKit
-- an event's block
set_option maxHeartbeats 8000000 in
theorem rown_code (w : World) (wb q base : Nat) (t : Th) (e : Ev) (tv : Value) (h0 : w.cell? ⟨wb, q, none⟩ = some (.int .i64 (t.how : Int))) (h1 : w.cell? ⟨wb, q + 1, none⟩ = some (.int .u64 t.snap)) (h2 : w.cell? ⟨wb, q + 2, none⟩ = some tv) (ho : w.ownsRow base 126 2 tv t.wr.length (wcells t.wr)) (hl : t.wr.length ≤ 1000000000000) :
    Calls Tryd.prog 72 #[.pointer (some ⟨wb, q, none⟩), e.val] w fun r w' => r = .returned (.bool (ownOk t e)) ∧ Upd [] w w' := by
  obtain ⟨th, kd, ad, wd, own, er⟩ := e
  obtain ⟨how, snap, wr, try_⟩ := t
  dsimp only at h0 h1 ho hl
  simp only [Ev.val]
  have HWT := Lib.hid (fun W (u : Upd [] w W) => rwritten_code W base tv wr ad (own_upd ho u (by simp)) hl)
  obtain ⟨p, c, rfl⟩ := own_form ho
  obtain ⟨Z, hZ⟩ : ∃ Z, ownOk ⟨how, snap, wr, try_⟩ ⟨th, kd, ad, wd, own, er⟩ = Z := ⟨_, rfl⟩
  rw [hZ]
  have hE : wr.isEmpty = decide (wr.length = 0) := by cases wr <;> simp
  have Z5 : kd = 5 → Z = !decide (wr.length = 0) := fun k => by rw [← hZ]; unfold ownOk; dsimp only; rw [if_pos k, hE]
  have Z6 : kd = 6 → Z = if how = 2 then true else decide (wr.length = 0) := fun k => by rw [← hZ]; unfold ownOk; dsimp only; rw [if_neg (by omega), if_pos k, hE]
  have Z2s : kd = 2 → ∀ x, lookW wr ad = some x → Z = (own && x == wd) := fun k x hx => by rw [← hZ]; unfold ownOk; dsimp only; rw [if_neg (by omega), if_neg (by omega), if_pos k, hx]
  have Z2n : kd = 2 → lookW wr ad = none → Z = !own := fun k hx => by rw [← hZ]; unfold ownOk; dsimp only; rw [if_neg (by omega), if_neg (by omega), if_pos k, hx]
  have Z0 : kd ≠ 5 → kd ≠ 6 → kd ≠ 2 → Z = true := fun k k' k'' => by rw [← hZ]; unfold ownOk; dsimp only; rw [if_neg k, if_neg k', if_neg k'']
  have HZ5 := Lib.hid Z5
  have HZ6 := Lib.hid Z6
  have HZ2s := Lib.hid Z2s
  have HZ2n := Lib.hid Z2n
  have HZ0 := Lib.hid Z0
  unfold lookV at HWT
  clear hZ hE ho Z5 Z6 Z2s Z2n Z0
  generalize lookW wr ad = LW at HWT HZ2s HZ2n
  generalize wr.length = N at *
  obtain ⟨W1, hW1⟩ : ∃ W, w.alloc (.cells #[.int .i64 th, .int .i64 kd, .int .u64 ad, .int .u64 wd, .bool own, .int .i64 er] 27) = W := ⟨_, rfl⟩
  have hB := (show Blk W1 w.heap.size [.int .i64 th, .int .i64 kd, .int .u64 ad, .int .u64 wd, .bool own, .int .i64 er] 27 by rw [← hW1]; exact Blk.new w _ _)
  have hU := (show Upd [] w W1 by rw [← hW1]; exact (Upd.refl _ _).alloc _)
  obtain ⟨Tf, hTf, g, hg0, hg2⟩ := fam [] W1
  have hg := fun n => hU.trans (hg0 n)
  have HG := Lib.hid hg
  have HU := Lib.hid hU
  have m0 := hB.cell 0 rfl
  have m1 := hB.cell 1 rfl
  have m2 := hB.cell 2 rfl
  have m3 := hB.cell 3 rfl
  have m4 := hB.cell 4 rfl
  have m5 := hB.cell 5 rfl
  have n0 := fun n => (hg0 n).cell (by simp) m0
  have n1 := fun n => (hg0 n).cell (by simp) m1
  have n2 := fun n => (hg0 n).cell (by simp) m2
  have n3 := fun n => (hg0 n).cell (by simp) m3
  have n4 := fun n => (hg0 n).cell (by simp) m4
  have n5 := fun n => (hg0 n).cell (by simp) m5
  have q0 := hU.cell (by simp) h0
  have q1 := hU.cell (by simp) h1
  have q2 := hU.cell (by simp) h2
  have p0 := fun n => (hg n).cell (by simp) h0
  have p1 := fun n => (hg n).cell (by simp) h1
  have p2 := fun n => (hg n).cell (by simp) h2
  obtain ⟨eb, heb⟩ : ∃ b, w.heap.size = b := ⟨_, rfl⟩
  rw [heb] at m0 m1 m2 m3 m4 m5 n0 n1 n2 n3 n4 n5
  clear hB hU
  by_cases k2 : kd = 2
  · cases LW with
    | some x =>
      have hZ2 := HZ2s.out k2 x rfl
      subst k2
      dsimp only at HWT
      clear HZ2s HZ2n HZ0 HZ5 HZ6
      cases own with
      | false =>
        obtain rfl : Z = false := hZ2
        try clear hZ2
        refine calls_all fun K hK => ?_
        go_enter Tryd.func72, Tryd.ntmps72
        go_upto_region 3 with fail
        clear hW1 heb
        refine wp_region_fam g (by kernel_rfl) (by kernel_rfl) (hg2 _ ((Upd.refl [] _).drew)) ?_
        repeat (go_big_quiet_step ((go_at_call 83; exact Calls.fam_of0 hg0 hg2 (HWT.out _ (hg _)))))
        refine wpQuiet_nil ?_
        intro w9 hw9
        obtain ⟨n9, rfl⟩ := hw9
        go_wp2_with fail
        first | exact HG.out n9 | exact ⟨rfl, HG.out n9⟩
      | true =>
        obtain rfl : Z = (x == wd) := by rw [hZ2]; rfl
        try clear hZ2
        refine calls_all fun K hK => ?_
        go_enter Tryd.func72, Tryd.ntmps72
        go_upto_region 3 with fail
        clear hW1 heb
        refine wp_region_fam g (by kernel_rfl) (by kernel_rfl) (hg2 _ ((Upd.refl [] _).drew)) ?_
        repeat (go_big_quiet_step ((go_at_call 83; exact Calls.fam_of0 hg0 hg2 (HWT.out _ (hg _)))))
        refine wpQuiet_nil ?_
        intro w9 hw9
        obtain ⟨n9, rfl⟩ := hw9
        go_wp2_with fail
        first | exact HG.out n9 | exact ⟨rfl, HG.out n9⟩
    | none =>
      have hZ2 := HZ2n.out k2 rfl
      subst k2
      dsimp only at HWT
      clear HZ2s HZ2n HZ0 HZ5 HZ6
      cases own with
      | false =>
        obtain rfl : Z = true := hZ2
        try clear hZ2
        refine calls_all fun K hK => ?_
        go_enter Tryd.func72, Tryd.ntmps72
        go_upto_region 3 with fail
        clear hW1 heb
        refine wp_region_fam g (by kernel_rfl) (by kernel_rfl) (hg2 _ ((Upd.refl [] _).drew)) ?_
        repeat (go_big_quiet_step ((go_at_call 83; exact Calls.fam_of0 hg0 hg2 (HWT.out _ (hg _)))))
        refine wpQuiet_nil ?_
        intro w9 hw9
        obtain ⟨n9, rfl⟩ := hw9
        go_wp2_with fail
        first | exact HG.out n9 | exact ⟨rfl, HG.out n9⟩
      | true =>
        obtain rfl : Z = false := hZ2
        try clear hZ2
        refine calls_all fun K hK => ?_
        go_enter Tryd.func72, Tryd.ntmps72
        go_upto_region 3 with fail
        clear hW1 heb
        refine wp_region_fam g (by kernel_rfl) (by kernel_rfl) (hg2 _ ((Upd.refl [] _).drew)) ?_
        repeat (go_big_quiet_step ((go_at_call 83; exact Calls.fam_of0 hg0 hg2 (HWT.out _ (hg _)))))
        refine wpQuiet_nil ?_
        intro w9 hw9
        obtain ⟨n9, rfl⟩ := hw9
        go_wp2_with fail
        first | exact HG.out n9 | exact ⟨rfl, HG.out n9⟩
  · have k21 : (kd == 2) = false := by simpa using k2
    by_cases k5 : kd = 5
    · have hZ2 := HZ5.out k5
      subst k5
      clear HZ2s HZ2n HZ0 HZ5 HZ6 k2 k21
      by_cases hN : N = 0
      · subst hN
        obtain rfl : Z = false := hZ2
        refine calls_all fun K hK => ?_
        go_enter Tryd.func72, Tryd.ntmps72
        go_wp2_with fail
        first | exact HU.out | exact ⟨rfl, HU.out⟩
      · have hN1 : 0 < (N : Int) := by omega
        have hN2 : 0 < N := by omega
        obtain rfl : Z = true := by rw [hZ2, decide_eq_false hN]; rfl
        clear hZ2 hN
        refine calls_all fun K hK => ?_
        go_enter Tryd.func72, Tryd.ntmps72
        go_wp2_with fail
        first | exact HU.out | exact ⟨rfl, HU.out⟩
    · have k51 : (kd == 5) = false := by simpa using k5
      by_cases k6 : kd = 6
      · have hZ2 := HZ6.out k6
        subst k6
        clear HZ2s HZ2n HZ0 HZ5 HZ6 k2 k5 k21 k51
        by_cases h2h : how = 2
        · obtain rfl : Z = true := by rw [hZ2, if_pos h2h]
          subst h2h
          clear hZ2
          refine calls_all fun K hK => ?_
          go_enter Tryd.func72, Tryd.ntmps72
          go_wp2_with fail
          first | exact HU.out | exact ⟨rfl, HU.out⟩
        · have h21 : ((how : Int) == 2) = false := by rw [beq_eq_false_iff_ne]; omega
          rw [if_neg h2h] at hZ2
          clear h2h
          by_cases hN : N = 0
          · subst hN
            obtain rfl : Z = true := hZ2
            refine calls_all fun K hK => ?_
            go_enter Tryd.func72, Tryd.ntmps72
            go_wp2_with fail
            first | exact HU.out | exact ⟨rfl, HU.out⟩
          · have hN1 : ((N : Int) == 0) = false := by rw [beq_eq_false_iff_ne]; omega
            have hN2 : (N == 0) = false := by rw [beq_eq_false_iff_ne]; omega
            obtain rfl : Z = false := by rw [hZ2, decide_eq_false hN]
            clear hZ2 hN
            refine calls_all fun K hK => ?_
            go_enter Tryd.func72, Tryd.ntmps72
            go_wp2_with fail
            first | exact HU.out | exact ⟨rfl, HU.out⟩
      · have k61 : (kd == 6) = false := by simpa using k6
        obtain rfl : Z = true := HZ0.out k5 k6 k2
        clear k2 k5 k6 HZ2s HZ2n HZ0 HZ5 HZ6
        refine calls_all fun K hK => ?_
        go_enter Tryd.func72, Tryd.ntmps72
        go_wp2_with fail
        first | exact HU.out | exact ⟨rfl, HU.out⟩
end Go.Proofs.YtfldpejifpmapaaDoor
set_option linter.unusedSimpArgs false
set_option linter.unusedVariables false
set_option maxRecDepth 100000
namespace Go.Proofs.YtfldpejifpmapaaDoor
open Go.RowKit
open Go.Maps
def rlist (S : LS) (wv : Nat → Value) : List Value := [.int .i64 (S.ths 0).how, .int .u64 (S.ths 0).snap, wv 0, .int .i64 (S.ths 1).how, .int .u64 (S.ths 1).snap, wv 1, .int .i64 (S.ths 2).how, .int .u64 (S.ths 2).snap, wv 2, .int .i64 (S.ths 3).how, .int .u64 (S.ths 3).snap, wv 3, .int .i64 (S.ths 4).how, .int .u64 (S.ths 4).snap, wv 4, .int .i64 (S.ths 5).how, .int .u64 (S.ths 5).snap, wv 5, .int .i64 (S.ths 6).how, .int .u64 (S.ths 6).snap, wv 6, .int .i64 (S.ths 7).how, .int .u64 (S.ths 7).snap, wv 7, .int .u64 S.num]
theorem rl_at (S : LS) (wv : Nat → Value) (t : Nat) (ht : t < 8) : (rlist S wv)[t * 3]? = some (.int .i64 (S.ths t).how) ∧ (rlist S wv)[t * 3 + 1]? = some (.int .u64 (S.ths t).snap) ∧ (rlist S wv)[t * 3 + 2]? = some (wv t) := by
  have hc : t = 0 ∨ t = 1 ∨ t = 2 ∨ t = 3 ∨ t = 4 ∨ t = 5 ∨ t = 6 ∨ t = 7 := by omega
  rcases hc with rfl | rfl | rfl | rfl | rfl | rfl | rfl | rfl <;> exact ⟨rfl, rfl, rfl⟩
def updW (f : Nat → Value) (i : Nat) (v : Value) : Nat → Value := fun j => if j = i then v else f j
/-- a thread's three cells and the number are stored -/
theorem rl_set (S : LS) (wv : Nat → Value) (t : Nat) (ht : t < 8) (h : Nat) (s m : Int) (v : Value) (t2 : Th) (hol : Int) (tr : List Try) (e1 : t2.how = h) (e2 : t2.snap = s) : ((((rlist S wv).set (t * 3 + 2) v).set (t * 3 + 1) (.int .u64 s)).set 24 (.int .u64 m)).set (t * 3) (.int .i64 h) = rlist ⟨updT S.ths t t2, m, hol, tr⟩ (updW wv t v) := by
  subst e1 e2
  have hc : t = 0 ∨ t = 1 ∨ t = 2 ∨ t = 3 ∨ t = 4 ∨ t = 5 ∨ t = 6 ∨ t = 7 := by omega
  rcases hc with rfl | rfl | rfl | rfl | rfl | rfl | rfl | rfl <;> rfl
theorem set_same {L : List Value} {i : Nat} {v : Value} (h : L[i]? = some v) : L.set i v = L := by
  obtain ⟨h1, h2⟩ := List.getElem?_eq_some_iff.1 h
  rw [← h2]
  exact List.set_getElem_self h1
/-- the reference's state in memory -/
structure RAt (W : World) (wb : Nat) (S : LS) (wv : Nat → Value) : Prop where
  blk : Blk W wb (rlist S wv) 105
  row : ∀ j, j < 8 → W.ownsRow (wb + 1) 126 2 (wv j) (S.ths j).wr.length (wcells (S.ths j).wr)
  apart : ∀ i j g, i < 8 → j < 8 → i ≠ j → (wv i).ownBlock = some g → (wv j).ownBlock ≠ some g
theorem RAt.upd0 {W W' : World} {wb : Nat} {S : LS} {wv : Nat → Value} (h : RAt W wb S wv) (u : Upd [] W W') : RAt W' wb S wv := ⟨h.blk.upd u (by simp), fun j hj => own_upd (h.row j hj) u (by simp), h.apart⟩
/-- what every state that a history leads to bears, of Writes -/
def WrLen (S : LS) (k : Nat) : Prop := ∀ j, (S.ths j).wr.length ≤ k
theorem wrlen_take {S : LS} {k : Nat} (h : WrLen S k) (x : Ev) : WrLen (takeE S k x) (k + 1) := by
  intro j
  unfold takeE updT thNext
  dsimp only
  split
  · dsimp only
    split
    · simp
    · split
      · have := h x.th.toNat; simp; omega
      · have := h x.th.toNat; omega
  · have := h j; omega
/-- what Put answers -/
def PutOk (W : World) (wb : Nat) (S : LS) (k : Nat) (x : Ev) (e : Ending) (w' : World) : Prop := e = .returned (.int .i64 (wrongE S x)) ∧ Below wb W w' ∧ (wrongE S x = 0 → ∃ wv, RAt w' wb (takeE S k x) wv)
theorem lock_eq {S : LS} {t : Nat} (hO : OpenS S) (hh : -1 ≤ S.holder ∧ S.holder < 8) (ht : (S.ths t).how ≠ 2) : (decide (0 ≤ S.holder) = true → ∃ j, j < 8 ∧ j ≠ t ∧ (S.ths j).how = 2) ∧ (decide (0 ≤ S.holder) = false → ∀ j, j < 8 → j ≠ t → (S.ths j).how ≠ 2) := by
  refine ⟨fun h => ?_, fun h j hj hne h2 => ?_⟩
  · have h0 := of_decide_eq_true h
    have h2 := hO.hold2 h0
    exact ⟨S.holder.toNat, by omega, fun e => ht (by rw [← e]; exact h2), h2⟩
  · have h0 := of_decide_eq_false h
    have := hO.hold1 j h2
    omega
/-- the turn, as a number -/
theorem turnR_cases (h : Nat) (x : Ev) : ((turnT h x.kd = 0 ∨ (h = 0 ∧ x.kd = 9 ∧ x.er ≠ 4)) ∧ turnR h x = -1) ∨ (¬ (turnT h x.kd = 0 ∨ (h = 0 ∧ x.kd = 9 ∧ x.er ≠ 4)) ∧ turnR h x = ((turnT h x.kd - 1 : Nat) : Int)) := by
  unfold turnR
  by_cases c : turnT h x.kd = 0 ∨ (h = 0 ∧ x.kd = 9 ∧ x.er ≠ 4)
  · exact .inl ⟨c, if_pos c⟩
  · exact .inr ⟨c, if_neg c⟩
theorem info_cell : (Tryd.prog.info? 126).map (fun i => (i.zero, i.size, i.bytes)) = some (some (.agg #[.int .u64 0, .int .u64 0]), 2, 16) := by kernel_rfl
/-- one more word written -/
theorem app_cell {W : World} {base : Nat} {v : Value} {l : List (Int × Int)} (h : W.ownsRow base 126 2 v l.length (wcells l)) (a d : Int) (hn : l.length ≤ 1000000000000) (hb : base ≤ W.heap.size) :
    ∃ v' w', (Builtin.append_ #[100, 100] 100 #[v, .slice (some ⟨W.heap.size, 0, none⟩) 1 1]).run Tryd.prog (W.alloc (.cells #[.int .u64 a, .int .u64 d] 126)) = .ok v' w' ∧ w'.ownsRow base 126 2 v' ((a, d) :: l).length (wcells ((a, d) :: l)) ∧ Upd v.ownBlock.toList (W.alloc (.cells #[.int .u64 a, .int .u64 d] 126)) w' ∧ (v'.ownBlock = v.ownBlock ∨ v'.ownBlock = some (W.heap.size + 1)) := by
  obtain ⟨i0, hi, hz0, hz1, hz2⟩ := info_parts info_cell
  have hW := own_upd h ((Upd.refl [] W).alloc (.cells #[.int .u64 a, .int .u64 d] 126)) (by simp)
  obtain ⟨v', w', hr, ho, hg, _, hat⟩ := run_append_own_at (P := Tryd.prog) (W.alloc (.cells #[.int .u64 a, .int .u64 d] 126)) base 100 100 126 i0 _ 2 16 Tryd.underlying100 hi hz0 hz1 hz2 rfl (by decide) v l.length _ hW
    ⟨W.heap.size, 0, none⟩ 1 1 [.int .u64 a, .int .u64 d] rfl (news_new _ 126 rfl) (by intro u hu; simp at hu; rcases hu with rfl | rfl <;> rfl) (by unfold maxLen; omega) (by omega) (by rw [World.size_alloc]; omega)
  rw [World.size_alloc] at hat
  refine ⟨v', w', hr, ?_, Upd.own hg, hat⟩
  rw [show wcells ((a, d) :: l) = wcells l ++ [.int .u64 a, .int .u64 d] by unfold wcells; simp]
  exact ho
end Go.Proofs.YtfldpejifpmapaaDoor
set_option linter.unusedSimpArgs false
set_option linter.unusedVariables false
set_option maxRecDepth 100000
namespace Go.Proofs.YtfldpejifpmapaaDoor
open Go.RowKit
open Go.Maps
theorem rput_no {W : World} {wb k : Nat} {S : LS} (x : Ev) (hf : formE x = false) (hwb : wb ≤ W.heap.size) : Calls Tryd.prog 55 #[.pointer (some ⟨wb, 0, none⟩), x.val] W (PutOk W wb S k x) := by
  have HFC := Lib.hid (fun W => rformed_code x W)
  have hW : wrongE S x = 201 := by unfold wrongE; rw [if_pos hf]
  unfold PutOk
  rw [hW]
  rw [hf] at HFC
  obtain ⟨th, kd, ad, wd, own, er⟩ := x
  simp only [Ev.val] at HFC ⊢
  clear hW hf
  refine calls_all fun K hK => ?_
  go_enter Tryd.func55, Tryd.ntmps55
  go_wp2_with fail
  refine (HFC.out _).mono ?_
  rintro e W2 ⟨rfl, u2⟩
  have HU2 := Lib.hid (((Upd.refl [] W).alloc (.cells #[.int .i64 th, .int .i64 kd, .int .u64 ad, .int .u64 wd, .bool own, .int .i64 er] 27)).trans u2)
  have HSZ := Lib.hid hwb
  clear u2
  go_wp2_with fail
  exact ⟨rfl, HU2.out.below HSZ.out (by simp), fun h => by cases h⟩
set_option maxHeartbeats 8000000 in
theorem rput_ok {W : World} {wb k : Nat} {S : LS} {wv : Nat → Value} (hR : RAt W wb S wv) (hok : LSOk S k) (hop : OpenS S) (hwl : WrLen S k) (hk : k ≤ 1000000000000) (t : Nat) (kd ad wd er : Int) (own : Bool) (hx : Ev.wide ⟨(t : Int), kd, ad, wd, own, er⟩) (hf : formE ⟨(t : Int), kd, ad, wd, own, er⟩ = true) (ht : t < 8) (hkd : 1 ≤ kd ∧ kd ≤ 12) :
    Calls Tryd.prog 55 #[.pointer (some ⟨wb, 0, none⟩), (⟨(t : Int), kd, ad, wd, own, er⟩ : Ev).val] W (PutOk W wb S k ⟨(t : Int), kd, ad, wd, own, er⟩) := by
  have HFC := Lib.hid (fun W => rformed_code ⟨(t : Int), kd, ad, wd, own, er⟩ W)
  rw [hf] at HFC
  have HF := Lib.hid hf
  have hth : ((t : Int)).toNat = t := Int.toNat_natCast t
  have HTU := Lib.hid (fun W => rturn_code (S.ths t).how ⟨(t : Int), kd, ad, wd, own, er⟩ (hok.hows t) hkd W)
  have HTC := Lib.hid (turnR_cases (S.ths t).how ⟨(t : Int), kd, ad, wd, own, er⟩)
  have HR := Lib.hid hR
  have HOK := Lib.hid hok
  have HOP := Lib.hid hop
  have HWL := Lib.hid hwl
  have HWB := Lib.hid (Nat.le_of_lt hR.blk.lt)
  have HXW := Lib.hid hx
  have hti : (t : Int) < 8 := by omega
  have ht0 : 0 ≤ (t : Int) := by omega
  clear hR hok hop hwl hx hf
  generalize turnR (S.ths t).how ⟨(t : Int), kd, ad, wd, own, er⟩ = T at HTU HTC
  simp only [Ev.val] at HFC HTU ⊢
  refine calls_all fun K hK => ?_
  go_enter Tryd.func55, Tryd.ntmps55
  go_wp2_with fail
  refine (HFC.out _).mono ?_
  rintro e W2 ⟨rfl, u2⟩
  have HB2 := Lib.hid (Blk.upd (Blk.new W [.int .i64 (t : Int), .int .i64 kd, .int .u64 ad, .int .u64 wd, .bool own, .int .i64 er] 27) u2 (by simp))
  have HU2 := Lib.hid (((Upd.refl [] W).alloc (.cells #[.int .i64 (t : Int), .int .i64 kd, .int .u64 ad, .int .u64 wd, .bool own, .int .i64 er] 27)).trans u2)
  obtain ⟨eb, heb⟩ : ∃ b, W.heap.size = b := ⟨_, rfl⟩
  have HEB := Lib.hid heb
  rw [heb] at HB2 ⊢
  clear u2 HFC heb
  go_upto_region 3 with fail
  go_cut [5] from 10 to 15 (fun v5 wx => v5 = .pointer (some ⟨wb, t * 3, none⟩) ∧ Upd [] W2 wx)
  case first =>
    obtain ⟨Tf, hTf, g, hg, hg2⟩ := fam [] W2
    have n0 := fun n => (hg n).cell (by simp) (HB2.out.cell 0 rfl)
    refine wp_region_fam g (by kernel_rfl) (by kernel_rfl) (hg2 _ ((Upd.refl [] _).drew)) ?_
    repeat (go_big_quiet_step (fail))
    refine wpQuiet_nil ?_
    intro w9 hw9
    obtain ⟨n9, rfl⟩ := hw9
    go_wp2_with fail
    go_meet
    exact ⟨rfl, hg n9⟩
  case rest =>
    obtain ⟨rfl, u3⟩ := hcut
    obtain ⟨W3, rfl⟩ : ∃ W, W = wc := ⟨wc, rfl⟩
    have HU3 := Lib.hid (HU2.out.trans u3)
    have HB3 := Lib.hid (HB2.out.upd u3 (by simp))
    clear u3 HU2 HB2
    go_upto_region 4 with fail
    go_cut [6] from 16 to 21 (fun v6 wx => v6 = .int .i64 T ∧ Upd [] W3 wx)
    case first =>
      obtain ⟨Tf, hTf, g, hg, hg2⟩ := fam [] W3
      have n0 := fun n => (hg n).cell (by simp) (HB3.out.cell 0 rfl)
      have n1 := fun n => (hg n).cell (by simp) (HB3.out.cell 1 rfl)
      have n2 := fun n => (hg n).cell (by simp) (HB3.out.cell 2 rfl)
      have n3 := fun n => (hg n).cell (by simp) (HB3.out.cell 3 rfl)
      have n4 := fun n => (hg n).cell (by simp) (HB3.out.cell 4 rfl)
      have n5 := fun n => (hg n).cell (by simp) (HB3.out.cell 5 rfl)
      have hq := (HR.out.upd0 HU3.out).blk.cell _ (rl_at S wv t ht).1
      have q0 := fun n => (hg n).cell (by simp) hq
      clear hq
      refine wp_region_fam g (by kernel_rfl) (by kernel_rfl) (hg2 _ ((Upd.refl [] _).drew)) ?_
      repeat (go_big_quiet_step ((go_at_call 69; exact Calls.fam_of0 hg hg2 (HTU.out _))))
      refine wpQuiet_nil ?_
      intro w9 hw9
      obtain ⟨n9, rfl⟩ := hw9
      go_wp2_with fail
      go_meet
      exact ⟨rfl, hg n9⟩
    case rest =>
      obtain ⟨rfl, u4⟩ := hcut
      obtain ⟨W4, rfl⟩ : ∃ W, W = wc := ⟨wc, rfl⟩
      have HU4 := Lib.hid (HU3.out.trans u4)
      have HB4 := Lib.hid (HB3.out.upd u4 (by simp))
      have HR4 := Lib.hid (HR.out.upd0 HU4.out)
      clear u4 HU3 HB3 HTU
      have m0 := (HB4.out).cell 0 rfl
      have m1 := (HB4.out).cell 1 rfl
      have m2 := (HB4.out).cell 2 rfl
      have m3 := (HB4.out).cell 3 rfl
      have m4 := (HB4.out).cell 4 rfl
      have m5 := (HB4.out).cell 5 rfl
      rcases HTC.out with ⟨hbad, hT⟩ | ⟨hgood, hT⟩
      · have HBAD := Lib.hid hbad
        subst hT
        have HUX := HU4
        clear hbad
        have HWE := Lib.hid (show wrongE S ⟨(t : Int), kd, ad, wd, own, er⟩ = 230 by (unfold wrongE; dsimp only; rw [hth, if_neg (by rw [HF.out]; decide), if_pos HBAD.out]))
        go_wp2_with fail
        exact ⟨by first | (rw [HWE.out]; done) | (rw [HWE.out]; rfl), HUX.out.below HWB.out (by simp), fun h => by rw [HWE.out] at h; cases h⟩
      · have HGOOD := Lib.hid hgood
        obtain ⟨nx, hnx⟩ : ∃ n : Nat, turnT (S.ths t).how kd - 1 = n := ⟨_, rfl⟩
        have hTn : T = (nx : Int) := by rw [hT, ← hnx]
        clear hT
        subst hTn
        have HNX := Lib.hid hnx
        have hT0 : ¬ (nx : Int) < 0 := by omega
        clear hgood hnx
        obtain ⟨lk, hlk⟩ : ∃ b, ((kd == 1 || kd == 4 || kd == 5) && decide (0 ≤ S.holder)) = b := ⟨_, rfl⟩
        have HLB := Lib.hid hlk
        clear hlk
        go_upto_region 7 with fail
        go_cut [25] from 26 to 44 (fun v25 wx => v25 = .bool lk ∧ Upd [] W4 wx)
        case first =>
          obtain ⟨hb1, hb0⟩ : ((kd = 1 ∨ kd = 4 ∨ kd = 5) → (decide (0 ≤ S.holder) = true → ∃ j, j < 8 ∧ j ≠ t ∧ (S.ths j).how = 2)) ∧ ((kd = 1 ∨ kd = 4 ∨ kd = 5) → decide (0 ≤ S.holder) = false → ∀ j, j < 8 → j ≠ t → (S.ths j).how ≠ 2) := by
            have key : (kd = 1 ∨ kd = 4 ∨ kd = 5) → (S.ths t).how ≠ 2 := fun hkk h2 => by
              have hg := HGOOD.out
              have h1 : turnL.getD (13 * (S.ths t).how + kd.toNat) 0 ≠ 0 := fun h => hg (.inl h)
              have := (turn_hold (S.ths t).how (by have := HOK.out.hows t; omega) kd.toNat (by omega) h1).2.1 h2
              omega
            exact ⟨fun h => (lock_eq HOP.out HOK.out.hold (key h)).1, fun h => (lock_eq HOP.out HOK.out.hold (key h)).2⟩
          have HLK := Lib.hid (fun hkk => rlocked_code W4 wb (fun j => (S.ths j).how) t (decide (0 ≤ S.holder)) (fun j hj => HR4.out.blk.cell _ (rl_at S wv j hj).1) (hb1 hkk) (hb0 hkk) ht)
          clear hb1 hb0
          by_cases hkk : kd = 1 ∨ kd = 4 ∨ kd = 5
          · have hz : lk = decide (0 ≤ S.holder) := by
              rw [← HLB.out]
              rcases hkk with rfl | rfl | rfl <;> rfl
            rw [← hz] at HLK
            have HLK2 := Lib.hid (HLK.out hkk)
            clear hz
            rcases hkk with rfl | rfl | rfl
            all_goals
              go_wp2_with fail
              refine HLK2.out.mono ?_
              rintro e W5 ⟨rfl, u5⟩
              go_wp2_with fail
              go_meet
              exact ⟨rfl, u5⟩
          · have k1 : (kd == 1) = false := by rw [beq_eq_false_iff_ne]; omega
            have k4 : (kd == 4) = false := by rw [beq_eq_false_iff_ne]; omega
            have k5 : (kd == 5) = false := by rw [beq_eq_false_iff_ne]; omega
            obtain rfl : lk = false := by rw [← HLB.out, k1, k4, k5]; rfl
            clear hkk
            go_wp2_with fail
            go_meet
            exact ⟨rfl, Upd.refl _ _⟩
        case rest =>
          obtain ⟨rfl, u5⟩ := hcut
          obtain ⟨W5, rfl⟩ : ∃ W, W = wc := ⟨wc, rfl⟩
          have HU5 := Lib.hid (HU4.out.trans u5)
          have HB5 := Lib.hid (HB4.out.upd u5 (by simp))
          have HR5 := Lib.hid (HR.out.upd0 HU5.out)
          clear u5 HU4 HB4 HR4 m0 m1 m2 m3 m4 m5
          have hkl : lk = true ↔ ((kd = 1 ∨ kd = 4 ∨ kd = 5) ∧ 0 ≤ S.holder) := by
            rw [← HLB.out]
            simp only [Bool.and_eq_true, Bool.or_eq_true, beq_iff_eq, decide_eq_true_eq]
            rw [or_assoc]
          have HKL := Lib.hid hkl
          clear hkl HLB
          cases lk with
          | true =>
            have HUX := HU5
            have HWE := Lib.hid (show wrongE S ⟨(t : Int), kd, ad, wd, own, er⟩ = 231 by (unfold wrongE; dsimp only; rw [hth, if_neg (by rw [HF.out]; decide), if_neg HGOOD.out, if_pos (HKL.out.1 rfl)]))
            go_wp2_with fail
            exact ⟨by first | (rw [HWE.out]; done) | (rw [HWE.out]; rfl), HUX.out.below HWB.out (by simp), fun h => by rw [HWE.out] at h; cases h⟩
          | false =>
            have HNL := Lib.hid (show ¬ ((kd = 1 ∨ kd = 4 ∨ kd = 5) ∧ 0 ≤ S.holder) from fun h => by have := HKL.out.2 h; cases this)
            clear HKL
            have HNU := Lib.hid (rnum_code W5 wb (t * 3) S (S.ths t) ⟨(t : Int), kd, ad, wd, own, er⟩ (wv t) (HR5.out.blk.cell _ (rl_at S wv t ht).1) (HR5.out.blk.cell _ (rl_at S wv t ht).2.1) (HR5.out.blk.cell _ (rl_at S wv t ht).2.2) (HR5.out.blk.cell 24 rfl) (HOK.out.snaps t) (by have := HOK.out.num; omega))
            obtain ⟨wk, hwk⟩ : ∃ b, wordOk S (S.ths t) ⟨(t : Int), kd, ad, wd, own, er⟩ = b := ⟨_, rfl⟩
            rw [hwk] at HNU
            have HWK := Lib.hid hwk
            simp only [Ev.val] at HNU
            clear hwk
            have m0 := (HB5.out).cell 0 rfl
            have m1 := (HB5.out).cell 1 rfl
            have m2 := (HB5.out).cell 2 rfl
            have m3 := (HB5.out).cell 3 rfl
            have m4 := (HB5.out).cell 4 rfl
            have m5 := (HB5.out).cell 5 rfl
            go_wp2_with fail
            refine HNU.out.mono ?_
            rintro e W6 ⟨rfl, u6⟩
            have HU6 := Lib.hid (HU5.out.trans u6)
            have HB6 := Lib.hid (HB5.out.upd u6 (by simp))
            have HR6 := Lib.hid (HR.out.upd0 HU6.out)
            clear u6 HU5 HB5 HR5 m0 m1 m2 m3 m4 m5 HNU
            cases wk with
            | false =>
              have HUX := HU6
              have HWE := Lib.hid (show wrongE S ⟨(t : Int), kd, ad, wd, own, er⟩ = 232 by (unfold wrongE; dsimp only; rw [hth, if_neg (by rw [HF.out]; decide), if_neg HGOOD.out, if_neg HNL.out, if_pos HWK.out]))
              go_wp2_with fail
              exact ⟨by first | (rw [HWE.out]; done) | (rw [HWE.out]; rfl), HUX.out.below HWB.out (by simp), fun h => by rw [HWE.out] at h; cases h⟩
            | true =>
              have HOW := Lib.hid (rown_code W6 wb (t * 3) (wb + 1) (S.ths t) ⟨(t : Int), kd, ad, wd, own, er⟩ (wv t) (HR6.out.blk.cell _ (rl_at S wv t ht).1) (HR6.out.blk.cell _ (rl_at S wv t ht).2.1) (HR6.out.blk.cell _ (rl_at S wv t ht).2.2) (HR6.out.row t ht) (by have := HWL.out t; omega))
              obtain ⟨ok, hok⟩ : ∃ b, ownOk (S.ths t) ⟨(t : Int), kd, ad, wd, own, er⟩ = b := ⟨_, rfl⟩
              rw [hok] at HOW
              have HOKK := Lib.hid hok
              simp only [Ev.val] at HOW
              clear hok
              have m0 := (HB6.out).cell 0 rfl
              have m1 := (HB6.out).cell 1 rfl
              have m2 := (HB6.out).cell 2 rfl
              have m3 := (HB6.out).cell 3 rfl
              have m4 := (HB6.out).cell 4 rfl
              have m5 := (HB6.out).cell 5 rfl
              go_wp2_with fail
              refine HOW.out.mono ?_
              rintro e W7 ⟨rfl, u7⟩
              have HU7 := Lib.hid (HU6.out.trans u7)
              have HB7 := Lib.hid (HB6.out.upd u7 (by simp))
              have HR7 := Lib.hid (HR.out.upd0 HU7.out)
              clear u7 HU6 HB6 HR6 m0 m1 m2 m3 m4 m5 HOW
              cases ok with
              | false =>
                have HUX := HU7
                have HWE := Lib.hid (show wrongE S ⟨(t : Int), kd, ad, wd, own, er⟩ = 233 by (unfold wrongE; dsimp only; rw [hth, if_neg (by rw [HF.out]; decide), if_neg HGOOD.out, if_neg HNL.out, if_neg (by rw [HWK.out]; decide), if_pos HOKK.out]))
                go_wp2_with fail
                exact ⟨by first | (rw [HWE.out]; done) | (rw [HWE.out]; rfl), HUX.out.below HWB.out (by simp), fun h => by rw [HWE.out] at h; cases h⟩
              | true =>
                have HWE := Lib.hid (show wrongE S ⟨(t : Int), kd, ad, wd, own, er⟩ = 0 by unfold wrongE; dsimp only; rw [hth, if_neg (by rw [HF.out]; decide), if_neg HGOOD.out, if_neg HNL.out, if_neg (by rw [HWK.out]; decide), if_neg (by rw [HOKK.out]; decide)])
                clear HOKK HWK HNL
                have m0 := (HB7.out).cell 0 rfl
                have m1 := (HB7.out).cell 1 rfl
                have m2 := (HB7.out).cell 2 rfl
                have m3 := (HB7.out).cell 3 rfl
                have m4 := (HB7.out).cell 4 rfl
                have m5 := (HB7.out).cell 5 rfl
                go_upto_if 58 with fail
                have HEL := Lib.hid (show wb < eb by have := HR.out.blk.lt; have := HEB.out; omega)
                have HVB := Lib.hid (show ∀ g, (wv t).ownBlock = some g → wb + 1 ≤ g ∧ g < eb from fun g hg => by
                  have h1 := own_blocks (HR.out.row t ht) g (by rw [hg]; simp)
                  have := HEB.out
                  exact ⟨h1.1, by rw [← this]; exact h1.2⟩)
                have HS7 := Lib.hid (show W.heap.size ≤ W7.heap.size from HU7.out.size)
                obtain ⟨V1, hV1⟩ : ∃ v, (if kd = 1 then Value.slice none 0 0 else wv t) = v := ⟨_, rfl⟩
                have HV1 := Lib.hid hV1
                clear hV1
                go_cut [5] from 59 to 61 (fun v5 wx => v5 = .pointer (some ⟨wb, t * 3, none⟩) ∧ Blk wx wb ((rlist S wv).set (t * 3 + 2) V1) 105 ∧ Upd [wb] W7 wx)
                case first =>
                  by_cases k1 : kd = 1
                  · subst k1
                    obtain rfl : V1 = .slice none 0 0 := by rw [← HV1.out, if_pos rfl]
                    have c2 := HR7.out.blk.cell _ (rl_at S wv t ht).2.2
                    have f2 := HR7.out.blk.free (t * 3 + 2)
                    go_wp2_with fail
                    go_meet
                    exact ⟨rfl, HR7.out.blk.set _ _, (Upd.refl _ _).setCell (.inl (by simp)) _⟩
                  · have k11 : (kd == 1) = false := by simpa using k1
                    obtain rfl : wv t = V1 := by rw [← HV1.out, if_neg k1]
                    clear k1
                    go_wp2_with fail
                    go_meet
                    exact ⟨rfl, by rw [set_same (rl_at S wv t ht).2.2]; exact HR7.out.blk, Upd.refl _ _⟩
                case rest =>
                  obtain ⟨rfl, hbA, huA⟩ := hcut
                  obtain ⟨WA, rfl⟩ : ∃ W, W = wc := ⟨wc, rfl⟩
                  have HBA := Lib.hid hbA
                  have HUA := Lib.hid huA
                  have HEA := Lib.hid (HB7.out.upd huA (by simp; have := HEL.out; omega))
                  clear hbA huA m0 m1 m2 m3 m4 m5
                  have m0 := (HEA.out).cell 0 rfl
                  have m1 := (HEA.out).cell 1 rfl
                  have m2 := (HEA.out).cell 2 rfl
                  have m3 := (HEA.out).cell 3 rfl
                  have m4 := (HEA.out).cell 4 rfl
                  have m5 := (HEA.out).cell 5 rfl
                  go_upto_region 15 with fail
                  go_cut [69] from 62 to 69 (fun v69 wx => v69 = .bool (kd == 1 || kd == 4) ∧ WA = wx)
                  case first =>
                    by_cases k1 : kd = 1
                    · subst k1
                      go_wp2_with fail
                      go_meet
                      exact ⟨rfl, rfl⟩
                    · have k11 : (kd == 1) = false := by simpa using k1
                      have H := Lib.hid (show (kd == 1 || kd == 4) = (kd == 4) by rw [k11]; rfl)
                      clear k1
                      go_wp2_with fail
                      go_meet
                      exact ⟨by rw [H.out], rfl⟩
                  case rest =>
                    obtain ⟨rfl, rfl⟩ := hcut
                    go_upto_if 69 with fail
                    obtain ⟨s1, hs1⟩ : ∃ v, (if kd = 1 ∨ kd = 4 then wd else (S.ths t).snap) = v := ⟨_, rfl⟩
                    have HS1 := Lib.hid hs1
                    clear hs1
                    go_cut [5] from 62 to 74 (fun v5 wx => v5 = .pointer (some ⟨wb, t * 3, none⟩) ∧ Blk wx wb (((rlist S wv).set (t * 3 + 2) V1).set (t * 3 + 1) (.int .u64 s1)) 105 ∧ Upd [wb] WA wx)
                    case first =>
                      have hl1 : ((rlist S wv).set (t * 3 + 2) V1)[t * 3 + 1]? = some (.int .u64 (S.ths t).snap) := by rw [List.getElem?_set_ne (by omega)]; exact (rl_at S wv t ht).2.1
                      cases hz : (kd == 1 || kd == 4) with
                      | true =>
                        obtain rfl : wd = s1 := by rw [← HS1.out, if_pos (by simpa using hz)]
                        have c2 := HBA.out.cell _ hl1
                        have f2 := HBA.out.free (t * 3 + 1)
                        clear hz hl1
                        go_wp2_with fail
                        go_meet
                        exact ⟨rfl, HBA.out.set _ _, (Upd.refl _ _).setCell (.inl (by simp)) _⟩
                      | false =>
                        obtain rfl : (S.ths t).snap = s1 := by rw [← HS1.out, if_neg (by simpa using hz)]
                        have HL1 := Lib.hid hl1
                        clear hz hl1
                        go_wp2_with fail
                        go_meet
                        exact ⟨rfl, by rw [set_same HL1.out]; exact HBA.out, Upd.refl _ _⟩
                    case rest =>
                      obtain ⟨rfl, hbB, huB⟩ := hcut
                      obtain ⟨WB, rfl⟩ : ∃ W, W = wc := ⟨wc, rfl⟩
                      have HBB := Lib.hid hbB
                      have HUB := Lib.hid (HUA.out.trans huB)
                      have HEE := Lib.hid (HEA.out.upd huB (by simp; have := HEL.out; omega))
                      clear hbB huB m0 m1 m2 m3 m4 m5 HBA HUA HEA
                      have m0 := (HEE.out).cell 0 rfl
                      have m1 := (HEE.out).cell 1 rfl
                      have m2 := (HEE.out).cell 2 rfl
                      have m3 := (HEE.out).cell 3 rfl
                      have m4 := (HEE.out).cell 4 rfl
                      have m5 := (HEE.out).cell 5 rfl
                      obtain ⟨wr2, hwr2⟩ : ∃ l, (if kd = 1 then [] else if kd = 3 then (ad, wd) :: (S.ths t).wr else (S.ths t).wr) = l := ⟨_, rfl⟩
                      have HW2 := Lib.hid hwr2
                      clear hwr2
                      have HROW := Lib.hid (show WB.ownsRow (wb + 1) 126 2 (wv t) (S.ths t).wr.length (wcells (S.ths t).wr) from own_upd (HR7.out.row t ht) HUB.out (fun g hg e => by have := (HVB.out g e).1; simp at hg; omega))
                      go_upto_if 77 with fail
                      go_cut [5] from 75 to 91 (fun v5 wx => v5 = .pointer (some ⟨wb, t * 3, none⟩) ∧ ∃ v2, Blk wx wb ((((rlist S wv).set (t * 3 + 2) V1).set (t * 3 + 1) (.int .u64 s1)).set (t * 3 + 2) v2) 105 ∧ wx.ownsRow (wb + 1) 126 2 v2 wr2.length (wcells wr2) ∧ (∀ g, v2.ownBlock = some g → (wv t).ownBlock = some g ∨ W7.heap.size ≤ g) ∧ Upd (wb :: (wv t).ownBlock.toList) W7 wx)
                      case first =>
                        have hl2 : (((rlist S wv).set (t * 3 + 2) V1).set (t * 3 + 1) (.int .u64 s1))[t * 3 + 2]? = some V1 := by
                          rw [List.getElem?_set_ne (by omega), List.getElem?_set_self]
                          exact (List.getElem?_eq_some_iff.1 (rl_at S wv t ht).2.2).1
                        have huw : Upd (wb :: (wv t).ownBlock.toList) W7 WB := HUB.out.mono (by intro x hx; simp at hx; subst hx; simp)
                        have HUW := Lib.hid huw
                        clear huw
                        by_cases k3 : kd = 3
                        · subst k3
                          obtain rfl : wv t = V1 := by rw [← HV1.out, if_neg (by decide)]
                          obtain rfl : (ad, wd) :: (S.ths t).wr = wr2 := by rw [← HW2.out, if_neg (by decide), if_pos rfl]
                          have HL2 := Lib.hid hl2
                          clear hl2
                          go_upto_region 18 with fail
                          have ud : Upd [] WB WB.drew := (Upd.refl _ _).drew
                          have HBD := Lib.hid (HBB.out.upd ud (by simp))
                          have HED := Lib.hid (HEE.out.upd ud (by simp))
                          have HRD := Lib.hid (own_upd HROW.out ud (by simp))
                          have HUD := Lib.hid (HUW.out.tr (U := wb :: (wv t).ownBlock.toList) ud (fun x hx => .inl hx) (by simp))
                          refine wp_region_brT (fun w' => w'.cell? ⟨wb, t * 3 + 2, none⟩ = some (wv t) ∧ w'.cell? ⟨eb, 2, none⟩ = some (.int .u64 ad) ∧ w'.cell? ⟨eb, 3, none⟩ = some (.int .u64 wd)) [0, 1, 2, 3, 4, 5, 6, 7, 8, 9, 10, 11, 12, 13, 14] 14 (by kernel_rfl) (by kernel_rfl) (by kernel_rfl) ?_
                          generalize WB.drew = WD at ud HBD HED HRD HUD ⊢
                          clear ud m0 m1 m2 m3 m4 m5
                          obtain ⟨v2, WC, hrun, ho2, hu2, hat⟩ := app_cell HRD.out ad wd (by have := HWL.out t; omega) (by have := HBD.out.lt; omega)
                          obtain ⟨p2, c2', rfl⟩ := own_form ho2
                          have ua : Upd [] WD (WD.alloc (.cells #[.int .u64 ad, .int .u64 wd] 126)) := (Upd.refl _ _).alloc _
                          have HBa := Lib.hid (HBD.out.upd ua (by simp))
                          have HEa := Lib.hid (HED.out.upd ua (by simp))
                          have hnb : wb ∉ (wv t).ownBlock.toList := fun h => by
                            have := (own_blocks HRD.out wb h).1
                            omega
                          have hne : eb ∉ (wv t).ownBlock.toList := fun h => by
                            have := (HVB.out eb (by simpa using h)).2
                            omega
                          have HBC := Lib.hid (HBa.out.upd hu2 hnb)
                          have HEC := Lib.hid (HEa.out.upd hu2 hne)
                          have HO2 := Lib.hid ho2
                          have HUC := Lib.hid ((HUD.out.tr (U := wb :: (wv t).ownBlock.toList) ua (fun x hx => .inl hx) (by simp)).tr (U := wb :: (wv t).ownBlock.toList) hu2 (fun x hx => .inl hx) (fun x hx => .inl (by simp [hx])))
                          have HAT := Lib.hid (show ∀ g, (Value.slice p2 ((ad, wd) :: (S.ths t).wr).length c2').ownBlock = some g → (wv t).ownBlock = some g ∨ W7.heap.size ≤ g from fun g hg => by
                            rcases hat with h | h
                            · rw [← h]; exact .inl hg
                            · rw [hg] at h
                              have := HUD.out.size
                              have := Option.some.inj h
                              exact .inr (by omega))
                          have HSa := Lib.hid (show (WD.alloc (.cells #[.int .u64 ad, .int .u64 wd] 126)).cell? ⟨wb, t * 3 + 2, none⟩ = some (wv t) ∧ (WD.alloc (.cells #[.int .u64 ad, .int .u64 wd] 126)).cell? ⟨eb, 2, none⟩ = some (.int .u64 ad) ∧ (WD.alloc (.cells #[.int .u64 ad, .int .u64 wd] 126)).cell? ⟨eb, 3, none⟩ = some (.int .u64 wd) from ⟨HBa.out.cell _ HL2.out, HEa.out.cell 2 rfl, HEa.out.cell 3 rfl⟩)
                          have HSC := Lib.hid (show WC.cell? ⟨wb, t * 3 + 2, none⟩ = some (wv t) ∧ WC.cell? ⟨eb, 2, none⟩ = some (.int .u64 ad) ∧ WC.cell? ⟨eb, 3, none⟩ = some (.int .u64 wd) from ⟨HBC.out.cell _ HL2.out, HEC.out.cell 2 rfl, HEC.out.cell 3 rfl⟩)
                          have hS : WD.cell? ⟨wb, t * 3 + 2, none⟩ = some (wv t) ∧ WD.cell? ⟨eb, 2, none⟩ = some (.int .u64 ad) ∧ WD.cell? ⟨eb, 3, none⟩ = some (.int .u64 wd) := ⟨HBD.out.cell _ HL2.out, HED.out.cell 2 rfl, HED.out.cell 3 rfl⟩
                          clear ho2 hu2 hat hnb hne ua
                          repeat ((refine wpC_take (v := ?_) rfl (by decide) rfl (by kernel_rfl) (by rfl) hS ?_ ?_); rotate_left 1; (· ((intro w hSw; (try dsimp only at hSw); go_simp); try with_reducible rfl)); try simp only [Act.put, List.setIfInBounds_toArray, List.set_cons_zero, List.set_cons_succ])
                          refine wpC_eff rfl (by kernel_rfl) (by rfl) (fun K2 hK2 => ?_)
                          go_simp
                          refine hK2.out _ _ (.inr HSa.out) ?_
                          clear hK2 K2 hS
                          refine wpC_append rfl (by kernel_rfl) (by rfl) (.tmp 82) (.tmp 88) 100 100 rfl _ _ _ rfl rfl hrun HSC.out ?_
                          try simp only [Act.put, List.setIfInBounds_toArray, List.set_cons_zero, List.set_cons_succ]
                          have hS := HSC.out
                          repeat ((refine wpC_take (v := ?_) rfl (by decide) rfl (by kernel_rfl) (by rfl) hS ?_ ?_); rotate_left 1; (· ((intro w hSw; (try dsimp only at hSw); go_simp); try with_reducible rfl)); try simp only [Act.put, List.setIfInBounds_toArray, List.set_cons_zero, List.set_cons_succ])
                          have c2 := HBC.out.cell _ HL2.out
                          have f2 := HBC.out.free (t * 3 + 2)
                          refine wpC_eff rfl (by kernel_rfl) (by rfl) (fun K2 hK2 => ?_)
                          go_simp
                          refine hK2.out _ _ (.inl (by decide)) ?_
                          refine wpC_end (by kernel_rfl) (NoPanic.normal ?_)
                          have us : Upd [wb] WC (WC.setCell ⟨wb, t * 3 + 2, none⟩ (Value.slice p2 ((ad, wd) :: (S.ths t).wr).length c2')) := (Upd.refl _ _).setCell (.inl (by simp)) _
                          have HO3 := Lib.hid (show (WC.setCell ⟨wb, t * 3 + 2, none⟩ (Value.slice p2 ((ad, wd) :: (S.ths t).wr).length c2')).ownsRow (wb + 1) 126 2 (Value.slice p2 ((ad, wd) :: (S.ths t).wr).length c2') _ _ from own_upd HO2.out us (fun g hg e => by
                            have := (own_blocks HO2.out g (by rw [e]; simp)).1
                            simp at hg
                            omega))
                          have HU3 := Lib.hid (HUC.out.setCell (p := ⟨wb, t * 3 + 2, none⟩) (.inl (by simp)) (Value.slice p2 ((ad, wd) :: (S.ths t).wr).length c2'))
                          have HB3' := Lib.hid (HBC.out.set (t * 3 + 2) (Value.slice p2 ((ad, wd) :: (S.ths t).wr).length c2'))
                          clear hK2 K2 c2 f2 us hrun
                          go_wp2_with fail
                          go_meet
                          exact ⟨rfl, (Value.slice p2 ((ad, wd) :: (S.ths t).wr).length c2'), HB3'.out, HO3.out, HAT.out, HU3.out⟩
                        · have k31 : (kd == 3) = false := by simpa using k3
                          have HL2 := Lib.hid hl2
                          have HRW := Lib.hid (show WB.ownsRow (wb + 1) 126 2 V1 wr2.length (wcells wr2) by
                            by_cases k1 : kd = 1
                            · rw [← HV1.out, if_pos k1, ← HW2.out, if_pos k1]
                              exact ⟨rfl, .inl ⟨rfl, rfl⟩⟩
                            · rw [← HV1.out, if_neg k1, ← HW2.out, if_neg k1, if_neg k3]
                              exact HROW.out)
                          have HVV := Lib.hid (show ∀ g, V1.ownBlock = some g → (wv t).ownBlock = some g ∨ W7.heap.size ≤ g from fun g hg => by
                            rw [← HV1.out] at hg
                            split at hg
                            · simp [Value.ownBlock] at hg
                            · exact .inl hg)
                          clear k3 hl2
                          go_wp2_with fail
                          go_meet
                          exact ⟨rfl, V1, by rw [set_same HL2.out]; exact HBB.out, HRW.out, HVV.out, HUW.out⟩
                      case rest =>
                        obtain ⟨rfl, v2, hbC, hrC, hvC, huC⟩ := hcut
                        obtain ⟨WC, rfl⟩ : ∃ W, W = wc := ⟨wc, rfl⟩
                        have HBC := Lib.hid hbC
                        have HRC := Lib.hid hrC
                        have HVC := Lib.hid hvC
                        have HUC := Lib.hid huC
                        have HEC := Lib.hid (HB7.out.upd huC (fun h => by
                          rcases List.mem_cons.1 h with h | h
                          · have := HEL.out; omega
                          · have := (HVB.out eb (by simpa using h)).2; omega))
                        have hlq : ((((rlist S wv).set (t * 3 + 2) V1).set (t * 3 + 1) (.int .u64 s1)).set (t * 3 + 2) v2)[t * 3]? = some (.int .i64 (S.ths t).how) := by
                          rw [List.getElem?_set_ne (by omega), List.getElem?_set_ne (by omega), List.getElem?_set_ne (by omega)]
                          exact (rl_at S wv t ht).1
                        have hln : ((((rlist S wv).set (t * 3 + 2) V1).set (t * 3 + 1) (.int .u64 s1)).set (t * 3 + 2) v2)[24]? = some (.int .u64 S.num) := by
                          rw [List.getElem?_set_ne (by omega), List.getElem?_set_ne (by omega), List.getElem?_set_ne (by omega)]
                          rfl
                        have HLQ := Lib.hid hlq
                        have HLN := Lib.hid hln
                        have HL3 := Lib.hid (show ((((rlist S wv).set (t * 3 + 2) V1).set (t * 3 + 1) (.int .u64 s1)).set (t * 3 + 2) v2) = (((rlist S wv).set (t * 3 + 2) v2).set (t * 3 + 1) (.int .u64 s1)) by
                          rw [List.set_comm _ _ (by omega), List.set_set])
                        clear hbC hrC hvC huC m0 m1 m2 m3 m4 m5 hlq hln HEE HBB HROW
                        generalize hL3 : ((((rlist S wv).set (t * 3 + 2) V1).set (t * 3 + 1) (.int .u64 s1)).set (t * 3 + 2) v2) = L3 at HBC HLQ HLN HL3
                        clear hL3
                        have m0 := (HEC.out).cell 0 rfl
                        have m1 := (HEC.out).cell 1 rfl
                        have m2 := (HEC.out).cell 2 rfl
                        have m3 := (HEC.out).cell 3 rfl
                        have m4 := (HEC.out).cell 4 rfl
                        have m5 := (HEC.out).cell 5 rfl
                        have q0 := HBC.out.cell _ HLQ.out
                        go_upto_region 19 with fail
                        go_cut [101] from 92 to 101 (fun v101 wx => v101 = .bool (decide (kd = 6) && decide ((S.ths t).how = 2)) ∧ WC = wx)
                        case first =>
                          by_cases k6 : kd = 6
                          · subst k6
                            by_cases h2 : (S.ths t).how = 2
                            · rw [h2] at q0
                              have H := Lib.hid (show (decide ((6 : Int) = 6) && decide ((S.ths t).how = 2)) = true by rw [decide_eq_true h2]; rfl)
                              clear h2
                              go_wp2_with fail
                              go_meet
                              exact ⟨by rw [H.out], rfl⟩
                            · have h21 : (((S.ths t).how : Int) == 2) = false := by rw [beq_eq_false_iff_ne]; omega
                              have H := Lib.hid (show (decide ((6 : Int) = 6) && decide ((S.ths t).how = 2)) = false by rw [decide_eq_false h2]; rfl)
                              clear h2
                              go_wp2_with fail
                              go_meet
                              exact ⟨by rw [H.out], rfl⟩
                          · have k61 : (kd == 6) = false := by simpa using k6
                            have H := Lib.hid (show (decide (kd = 6) && decide ((S.ths t).how = 2)) = false by rw [decide_eq_false k6]; rfl)
                            clear k6
                            go_wp2_with fail
                            go_meet
                            exact ⟨by rw [H.out], rfl⟩
                        case rest =>
                          obtain ⟨rfl, rfl⟩ := hcut
                          obtain ⟨m2', hm2⟩ : ∃ m, (if kd = 6 ∧ (S.ths t).how = 2 then wd else S.num) = m := ⟨_, rfl⟩
                          have HM2 := Lib.hid hm2
                          clear hm2
                          obtain ⟨z, hz⟩ : ∃ z, (decide (kd = 6) && decide ((S.ths t).how = 2)) = z := ⟨_, rfl⟩
                          rw [hz]
                          have HZ := Lib.hid hz
                          clear hz
                          go_upto_if 101 with fail
                          go_cut [5] from 92 to 106 (fun v5 wx => v5 = .pointer (some ⟨wb, t * 3, none⟩) ∧ Blk wx wb (L3.set 24 (.int .u64 m2')) 105 ∧ Upd [wb] WC wx)
                          case first =>
                            cases z with
                            | true =>
                              have hzz := HZ.out
                              simp only [Bool.and_eq_true, decide_eq_true_eq] at hzz
                              obtain rfl : wd = m2' := by rw [← HM2.out, if_pos hzz]
                              clear hzz
                              have c2 := HBC.out.cell _ HLN.out
                              have f2 := HBC.out.free 24
                              go_wp2_with fail
                              go_meet
                              exact ⟨rfl, HBC.out.set _ _, (Upd.refl _ _).setCell (.inl (by simp)) _⟩
                            | false =>
                              obtain rfl : S.num = m2' := by
                                rw [← HM2.out, if_neg]
                                rintro ⟨h1, h2⟩
                                have := HZ.out
                                rw [decide_eq_true h1, decide_eq_true h2] at this
                                cases this
                              go_wp2_with fail
                              go_meet
                              exact ⟨rfl, by rw [set_same HLN.out]; exact HBC.out, Upd.refl _ _⟩
                          case rest =>
                            obtain ⟨rfl, hbD, huD⟩ := hcut
                            obtain ⟨WD, rfl⟩ : ∃ W, W = wc := ⟨wc, rfl⟩
                            have HBD := Lib.hid hbD
                            have HUD := Lib.hid huD
                            clear hbD huD m0 m1 m2 m3 m4 m5 q0
                            have c0 := HBD.out.cell (t * 3) (by rw [List.getElem?_set_ne (by omega)]; exact HLQ.out)
                            have f0 := HBD.out.free (t * 3)
                            go_wp2_with fail
                            have hTK : ∃ hol trs, takeE S k ⟨(t : Int), kd, ad, wd, own, er⟩ = ⟨updT S.ths t (thNext (S.ths t) S.tries.length ⟨(t : Int), kd, ad, wd, own, er⟩), m2', hol, trs⟩ := ⟨_, _, by unfold takeE; dsimp only; rw [hth, HM2.out]⟩
                            obtain ⟨hol, trs, hTK⟩ := hTK
                            have hus : Upd [wb] WD (WD.setCell ⟨wb, t * 3, none⟩ (.int .i64 (nx : Int))) := (Upd.refl _ _).setCell (.inl (by simp)) _
                            have hwb7 : wb ≤ W7.heap.size := Nat.le_trans HWB.out HS7.out
                            have hge : ∀ x ∈ wb :: (wv t).ownBlock.toList, wb ≤ x := fun x hx => by
                              rcases List.mem_cons.1 hx with h | h
                              · omega
                              · have := (HVB.out x (by simpa using h)).1; omega
                            have hwr : (thNext (S.ths t) S.tries.length ⟨(t : Int), kd, ad, wd, own, er⟩).wr = wr2 := HW2.out
                            have hrows : ∀ j, j < 8 → j ≠ t → (WD.setCell ⟨wb, t * 3, none⟩ (.int .i64 (nx : Int))).ownsRow (wb + 1) 126 2 (wv j) (S.ths j).wr.length (wcells (S.ths j).wr) := fun j hj hjt => by
                              have hr := HR7.out.row j hj
                              have hb : ∀ g, (wv j).ownBlock = some g → wb + 1 ≤ g := fun g e => (own_blocks hr g (by rw [e]; simp)).1
                              refine own_upd (own_upd (own_upd hr HUC.out (fun g hg e => ?_)) HUD.out (fun g hg e => ?_)) hus (fun g hg e => ?_)
                              · rcases List.mem_cons.1 hg with h | h
                                · have := hb g e; omega
                                · exact HR7.out.apart j t g hj ht hjt e (by simpa using h)
                              · have := hb g e; simp at hg; omega
                              · have := hb g e; simp at hg; omega
                            have hrowt : (WD.setCell ⟨wb, t * 3, none⟩ (.int .i64 (nx : Int))).ownsRow (wb + 1) 126 2 v2 wr2.length (wcells wr2) := by
                              have hb : ∀ g, v2.ownBlock = some g → wb + 1 ≤ g := fun g e => (own_blocks HRC.out g (by rw [e]; simp)).1
                              refine own_upd (own_upd HRC.out HUD.out (fun g hg e => ?_)) hus (fun g hg e => ?_)
                              · have := hb g e; simp at hg; omega
                              · have := hb g e; simp at hg; omega
                            have hlt7 : ∀ j, j < 8 → ∀ g, (wv j).ownBlock = some g → g < W7.heap.size := fun j hj g e => (own_blocks (HR7.out.row j hj) g (by rw [e]; simp)).2
                            have hB1 : Below wb W W7 := HU7.out.below HWB.out (by simp)
                            have hB2 : Below wb W WC := Below.then_upd hB1 HUC.out hwb7 hge
                            have hB3 : Below wb W WD := Below.then_upd hB2 HUD.out (by have := HUC.out.size; omega) (fun x hx => by simp at hx; omega)
                            have hB4 := Below.then_upd hB3 hus (by have := HUC.out.size; have := HUD.out.size; omega) (fun x hx => by simp at hx; omega)
                            refine ⟨by rw [HWE.out]; rfl, hB4, fun _ => ⟨updW wv t v2, ?_, fun j hj => ?_, fun i j g hi hj hij e1 e2 => ?_⟩⟩
                            · rw [hTK, ← rl_set S wv t ht nx s1 m2' v2 _ hol trs HNX.out HS1.out, ← HL3.out]
                              exact HBD.out.set (t * 3) _
                            · rw [hTK]
                              unfold updT updW
                              dsimp only
                              by_cases hjt : j = t
                              · rw [if_pos hjt, if_pos hjt, hwr]; exact hrowt
                              · rw [if_neg hjt, if_neg hjt]; exact hrows j hj hjt
                            · unfold updW at e1 e2
                              by_cases hit : i = t
                              · rw [if_pos hit] at e1
                                rw [if_neg (by omega)] at e2
                                rcases HVC.out g e1 with h | h
                                · exact HR7.out.apart t j g ht hj (by omega) h e2
                                · have := hlt7 j hj g e2; omega
                              · rw [if_neg hit] at e1
                                by_cases hjt : j = t
                                · rw [if_pos hjt] at e2
                                  rcases HVC.out g e2 with h | h
                                  · exact HR7.out.apart t i g ht hi (by omega) h e1
                                  · have := hlt7 i hi g e1; omega
                                · rw [if_neg hjt] at e2
                                  exact HR7.out.apart i j g hi hj hij e1 e2
theorem rput_code {W : World} {wb k : Nat} {S : LS} {wv : Nat → Value} (hR : RAt W wb S wv) (hok : LSOk S k) (hop : OpenS S) (hwl : WrLen S k) (hk : k ≤ 1000000000000) (x : Ev) (hx : x.wide) : Calls Tryd.prog 55 #[.pointer (some ⟨wb, 0, none⟩), x.val] W (PutOk W wb S k x) := by
  by_cases hf : formE x = true
  · obtain ⟨th, kd, ad, wd, own, er⟩ := x
    obtain ⟨h1, h2, _⟩ := formE_c hf
    dsimp only at h1 h2
    obtain ⟨t, rfl⟩ : ∃ i : Nat, th = i := ⟨th.toNat, by omega⟩
    exact rput_ok hR hok hop hwl hk t kd ad wd er own hx hf (by omega) h2
  · exact rput_no x (by simpa using hf) (Nat.le_of_lt hR.blk.lt)
end Go.Proofs.YtfldpejifpmapaaDoor
set_option linter.unusedSimpArgs false
set_option linter.unusedVariables false
set_option maxRecDepth 100000
namespace Go.Proofs.YtfldpejifpmapaaDoor
open Go.RowKit
open Go.Maps
theorem r0_at (w : World) : RAt (w.alloc (.cells (rlist ls0 (fun _ => .slice none 0 0)).toArray 105)) w.heap.size ls0 (fun _ => .slice none 0 0) :=
  ⟨Blk.new w _ _, fun j hj => ⟨rfl, .inl ⟨rfl, rfl⟩⟩, fun i j g _ _ _ h => by simp [Value.ownBlock] at h⟩
theorem wrlen0 : WrLen ls0 0 := fun j => by simp [ls0, th0]
set_option maxHeartbeats 4000000 in
theorem rcheck_code (w : World) (po : Option Addr) (cap : Nat) (l : List Ev) (hH : HistAt w po l) (hl : l.length ≤ 1000000000000) (hw : wideL l) : Calls Tryd.prog 29 #[.slice po l.length cap] w fun e w' => e = .returned (.agg #[.int .i64 (oddE l).1, .int .i64 (oddE l).2]) ∧ Upd [] w w' := by
  obtain ⟨W1, hW1⟩ : ∃ W, w.alloc (.cells #[.int .i64 0, .int .i64 0] 46) = W := ⟨_, rfl⟩
  have u1 : Upd [] w W1 := by rw [← hW1]; exact (Upd.refl [] _).alloc _
  have B1 : Blk W1 w.heap.size [.int .i64 0, .int .i64 0] 46 := by rw [← hW1]; exact Blk.new w _ _
  have hs1 : W1.heap.size = w.heap.size + 1 := by rw [← hW1, World.size_alloc]
  obtain ⟨W2, hW2⟩ : ∃ W, W1.alloc (.cells (rlist ls0 (fun _ => .slice none 0 0)).toArray 105) = W := ⟨_, rfl⟩
  have u2 : Upd [] W1 W2 := by rw [← hW2]; exact (Upd.refl [] _).alloc _
  have hra : RAt W2 W1.heap.size ls0 (fun _ => .slice none 0 0) := by rw [← hW2]; exact r0_at W1
  have HR2 := Lib.hid hra
  have HB2 := Lib.hid (B1.upd u2 (by simp))
  have HU2 := Lib.hid (u1.trans u2)
  have HPO := Lib.hid hH.lt
  have HH2 := Lib.hid (hH.upd0 HU2.out)
  have HW := Lib.hid hw
  have hW2' : W1.alloc (.cells #[.int .i64 0, .int .u64 0, .slice none 0 0, .int .i64 0, .int .u64 0, .slice none 0 0, .int .i64 0, .int .u64 0, .slice none 0 0, .int .i64 0, .int .u64 0, .slice none 0 0, .int .i64 0, .int .u64 0, .slice none 0 0, .int .i64 0, .int .u64 0, .slice none 0 0, .int .i64 0, .int .u64 0, .slice none 0 0, .int .i64 0, .int .u64 0, .slice none 0 0, .int .u64 0] 105) = W2 := hW2
  clear hW2
  clear hra u1 u2 hH hw B1
  obtain ⟨ob, hob⟩ : ∃ b, w.heap.size = b := ⟨_, rfl⟩
  obtain ⟨wb, hwb⟩ : ∃ b, W1.heap.size = b := ⟨_, rfl⟩
  have HOB := Lib.hid hob
  have HWB := Lib.hid (show wb = ob + 1 by omega)
  rw [hob] at HB2 HPO
  rw [hwb] at HR2
  clear hs1
  refine calls_all fun K hK => ?_
  go_enter Tryd.func29, Tryd.ntmps29
  go_wp2_with fail
  try rw [hW2']
  clear hW1 hW2' hob hwb
  have hl9 : (l.length : Int) ≤ 1000000000000 := by omega
  go_loopw [4] (fun v4 wr => ∃ (k : Nat) (S : LS) (wv : Nat → Value), k ≤ l.length ∧ v4 = .int .i64 k ∧ runE ls0 0 (l.take k) = (S, k, 0) ∧ RAt wr wb S wv ∧ (LSOk S k ∧ OpenS S ∧ Going S k ∧ WrLen S k) ∧ Below wb W2 wr) (fun v4 _ => l.length - (intOf v4).toNat)
  case atStart => exact ⟨0, ls0, _, by omega, rfl, rfl, HR2.out, ⟨ls0_ok, open0, going0, wrlen0⟩, Below.refl _ _⟩
  case round =>
    obtain ⟨k, S, wv, hk, rfl, hr, hra, hok, hbl⟩ := hrel
    have HR := Lib.hid hr
    have HRA := Lib.hid hra
    have HOK := Lib.hid hok
    have HBL := Lib.hid hbl
    have HBR := Lib.hid (HB2.out.below hbl (by have := HWB.out; omega))
    have HUR := Lib.hid (show Upd [] w wr from Upd.of_below ((HU2.out.below (Nat.le_refl _) (by simp)).trans (hbl.mono (by have := HOB.out; have := HWB.out; omega))))
    clear hr hra hok hbl
    by_cases hlt : k < l.length
    · have hlt' : (k : Int) < (l.length : Int) := by omega
      have hk0 : 0 ≤ (k : Int) := by omega
      obtain ⟨x, hx⟩ : ∃ x, l[k]? = some x := ⟨_, List.getElem?_eq_getElem hlt⟩
      have hhw := HH2.out.below HBL.out (fun b o e hne => by have := HPO.out b o e hne; have := HWB.out; omega)
      obtain ⟨b, o, hpo, h0, h1, h2, h3, h4, h5⟩ := hhw k x hx
      have HX := Lib.hid hx
      have hxw := HW.out x (List.mem_of_getElem? hx)
      have HTK := Lib.hid (show l.take (k + 1) = l.take k ++ [x] by rw [List.take_add_one, hx]; rfl)
      subst hpo
      have HPUT := Lib.hid (rput_code HRA.out HOK.out.1 HOK.out.2.1 HOK.out.2.2.2 (by omega) x hxw)
      have HXW := Lib.hid hxw
      unfold PutOk at HPUT
      clear hx hhw hxw
      obtain ⟨wvv, hwv⟩ : ∃ v, wrongE S x = v := ⟨_, rfl⟩
      rw [hwv] at HPUT
      have HWV := Lib.hid hwv
      have HXE := Lib.hid (rfl : x = x)
      obtain ⟨y, hy⟩ : ∃ y, x = y := ⟨_, rfl⟩
      have HY := Lib.hid hy
      have hval : x.val = .agg #[.int .i64 x.th, .int .i64 x.kd, .int .u64 x.ad, .int .u64 x.wd, .bool x.own, .int .i64 x.er] := rfl
      rw [hval] at HPUT
      generalize x.th = th at HPUT h0
      generalize x.kd = kd at HPUT h1
      generalize x.ad = ad at HPUT h2
      generalize x.wd = wd at HPUT h3
      generalize x.own = own at HPUT h4
      generalize x.er = er at HPUT h5
      clear hval hy hwv HXE
      go_wp2_with fail
      refine HPUT.out.mono ?_
      rintro e W5 ⟨rfl, hb5, hra5⟩
      have HR5 := Lib.hid hra5
      have HBL5 := Lib.hid (HBL.out.trans hb5)
      have HB5 := Lib.hid (HBR.out.below hb5 (by have := HWB.out; omega))
      have HU5 := Lib.hid (show Upd [] w W5 from Upd.of_below ((HUR.out.below (Nat.le_refl _) (by simp)).trans (hb5.mono (by have := HOB.out; have := HWB.out; omega))))
      clear hb5 hra5 h0 h1 h2 h3 h4 h5
      by_cases hz : wvv = 0
      · obtain ⟨wv5, hr5⟩ := HR5.out hz
        have HRN := Lib.hid hr5
        have HZ := Lib.hid (HWV.out.trans hz)
        subst hz
        clear hr5 HR5
        go_wp2_with fail
        go_roundw
        case rel => exact ⟨k + 1, _, wv5, by omega, by go_num, by rw [HTK.out, (runE_snoc HR.out).2, if_pos HZ.out], HRN.out, ⟨take_ok HOK.out.1 HZ.out HXW.out, take_open HOK.out.2.2.1 HOK.out.2.1 HZ.out, (take_going HOK.out.2.2.1 HZ.out).2, wrlen_take HOK.out.2.2.2 x⟩, HBL5.out⟩
        case measure => simp [intOf]; omega
      · have hz1 : (wvv != 0) = true := by simp [hz]
        have HZ := Lib.hid hz
        have HOO := Lib.hid (show oddE l = ((k : Int), wvv) by
          have h1 := runE_more (l := l.drop k) HR.out
          rw [List.take_append_drop] at h1
          have h2 : l.drop k = x :: l.drop (k + 1) := by
            rw [List.drop_eq_getElem_cons hlt]
            congr 1
            have := HX.out
            rw [List.getElem?_eq_getElem hlt] at this
            exact Option.some.inj this
          have hrun : runE ls0 0 l = (S, k, wvv) := by rw [h1, h2, runE, if_neg (by rw [HWV.out]; exact HZ.out), HWV.out]
          unfold oddE
          rw [hrun, if_neg HZ.out])
        have q0 := HB5.out.cell 0 rfl
        have q1 := HB5.out.cell 1 rfl
        have f0 := HB5.out.free 0
        have f1 := HB5.out.free 1
        clear hz
        go_wp2_with fail
        exact bodyPost_ret (odd_results1 rfl _ _ ob _ _ rfl ((HB5.out.set 0 _).set 1 _)) rfl (hK _ _ ⟨by rw [HOO.out], (HU5.out.setCell (.inr (by have := HOB.out; dsimp only; omega)) _).setCell (.inr (by have := HOB.out; dsimp only; omega)) _⟩)
    · obtain rfl : k = l.length := by omega
      have hR := HR.out
      rw [List.take_length] at hR
      have HOO := Lib.hid (show oddE l = (-1, 0) by unfold oddE; rw [hR, if_pos rfl])
      have q0 := HBR.out.cell 0 rfl
      have q1 := HBR.out.cell 1 rfl
      have f0 := HBR.out.free 0
      have f1 := HBR.out.free 1
      clear hR
      go_wp2_with fail
      exact bodyPost_ret (odd_results1 rfl _ _ ob _ _ rfl ((HBR.out.set 0 _).set 1 _)) rfl (hK _ _ ⟨by rw [HOO.out], (HUR.out.setCell (.inr (by have := HOB.out; dsimp only; omega)) _).setCell (.inr (by have := HOB.out; dsimp only; omega)) _⟩)
end Go.Proofs.YtfldpejifpmapaaDoor
set_option linter.unusedSimpArgs false
set_option linter.unusedVariables false
set_option maxRecDepth 100000
namespace Go.Proofs.YtfldpejifpmapaaDoor
open Go.RowKit
open Go.Maps
/-- a thread's events -/
def ofL (l : List Ev) (th : Int) : List Ev := l.filter fun x => x.th == th
theorem of_snoc (l : List Ev) (th : Int) (x : Ev) : ofL (l ++ [x]) th = if x.th = th then ofL l th ++ [x] else ofL l th := by
  unfold ofL
  rw [List.filter_append]
  by_cases h : x.th = th
  · rw [if_pos h]; simp [h]
  · rw [if_neg h]; simp [h]
theorem of_len (l : List Ev) (th : Int) : (ofL l th).length ≤ l.length := List.length_filter_le _ _
def thrI (n : Int) (x : Ev) : Int := if 0 ≤ x.th ∧ x.th < 2147483648 then max n (x.th + 1) else n
def thrN (l : List Ev) : Int := l.foldl thrI 0
theorem thr_snoc (l : List Ev) (x : Ev) : thrN (l ++ [x]) = thrI (thrN l) x := by unfold thrN; rw [List.foldl_append]; rfl
theorem thr_bd (l : List Ev) : 0 ≤ thrN l ∧ thrN l ≤ 2147483648 := by
  unfold thrN
  have : ∀ (l : List Ev) (n : Int), 0 ≤ n ∧ n ≤ 2147483648 → 0 ≤ l.foldl thrI n ∧ l.foldl thrI n ≤ 2147483648 := by
    intro l
    induction l with
    | nil => exact fun n h => h
    | cons x l ih =>
      intro n h
      refine ih _ ?_
      unfold thrI
      split
      · omega
      · exact h
  exact this l 0 (by omega)
set_option maxHeartbeats 4000000 in
theorem eof_code (w : World) (po : Option Addr) (cap : Nat) (l : List Ev) (th : Int) (hH : HistAt w po l) (hl : l.length ≤ 1000000000) : Calls Tryd.prog 25 #[.slice po l.length cap, .int .i64 th] w fun e w' => Upd [] w w' ∧ ∃ v, e = .returned v ∧ w'.ownsRow w.heap.size 27 6 v (ofL l th).length ((ofL l th).flatMap Ev.cells) := by
  have HH := Lib.hid hH
  clear hH
  refine calls_all fun K hK => ?_
  go_enter Tryd.func25, Tryd.ntmps25
  go_wp2_with fail
  have HO0 := Lib.hid (show World.ownsRow (w.alloc (.cells #[] 27)) w.heap.size 27 6 (.slice (some ⟨w.heap.size, 0, none⟩) 0 0) ([] : List Ev).length (([] : List Ev).flatMap Ev.cells) from
    ⟨rfl, .inr ⟨w.heap.size, 0, #[], rfl, Nat.le_refl _, heap_alloc_new w (.cells #[] 27), Nat.le_refl _, by unfold maxLen; omega, rfl, rfl⟩⟩)
  have HU0 := Lib.hid (show Upd [] w (w.alloc (.cells #[] 27)) from (Upd.refl _ _).alloc _)
  go_loopw [5, 11] (fun v5 v11 wr => ∃ k : Nat, k ≤ l.length ∧ v11 = .int .i64 k ∧ wr.ownsRow w.heap.size 27 6 v5 (ofL (l.take k) th).length ((ofL (l.take k) th).flatMap Ev.cells) ∧ Upd [] w wr) (fun _ v11 _ => l.length - (intOf v11).toNat)
  case atStart => exact ⟨0, by omega, rfl, HO0.out, HU0.out⟩
  case round =>
    obtain ⟨k, hk, rfl, ho, hu⟩ := hrel
    have HO := Lib.hid ho
    have HU := Lib.hid hu
    obtain ⟨p5, c5, rfl⟩ := own_form ho
    clear ho hu
    by_cases hlt : k < l.length
    · have hlt' : (k : Int) < (l.length : Int) := by omega
      have hk0 : 0 ≤ (k : Int) := by omega
      obtain ⟨x, hx⟩ : ∃ x, l[k]? = some x := ⟨_, List.getElem?_eq_getElem hlt⟩
      obtain ⟨b, o, hpo, h0, h1, h2, h3, h4, h5⟩ := (HH.out.upd0 HU.out) k x hx
      have HTK := Lib.hid (show l.take (k + 1) = l.take k ++ [x] by rw [List.take_add_one, hx]; rfl)
      subst hpo
      clear hx
      obtain ⟨xt, xk, xa, xd, xo, xe⟩ := x
      dsimp only at h0 h1 h2 h3 h4 h5
      have hol := of_len (l.take k) th
      have hon := of_snoc (l.take k) th ⟨xt, xk, xa, xd, xo, xe⟩
      rw [← HTK.out] at hon
      have htl : (l.take k).length ≤ l.length := by rw [List.length_take]; omega
      have ua : Upd [] wr (wr.alloc (.cells #[.int .i64 xt, .int .i64 xk, .int .u64 xa, .int .u64 xd, .bool xo, .int .i64 xe] 27)) := (Upd.refl _ _).alloc _
      have HO1 := Lib.hid (own_upd HO.out ua (by simp))
      have HU1 := Lib.hid (HU.out.trans ua)
      have HBB := Lib.hid (Blk.new wr [.int .i64 xt, .int .i64 xk, .int .u64 xa, .int .u64 xd, .bool xo, .int .i64 xe] 27)
      by_cases he : xt = th
      · subst he
        rw [if_pos rfl] at hon
        have HON := Lib.hid hon
        have HOL := Lib.hid (show (ofL (l.take k) xt).length ≤ 1000000000 by omega)
        clear hon hol htl ua HO HU
        go_upto_region 6 with fail
        obtain ⟨xb, hxb⟩ : ∃ b, wr.heap.size = b := ⟨_, rfl⟩
        rw [hxb] at HBB ⊢
        clear hxb
        obtain ⟨W3, hW3⟩ : ∃ W, wr.alloc (.cells #[.int .i64 xt, .int .i64 xk, .int .u64 xa, .int .u64 xd, .bool xo, .int .i64 xe] 27) = W := ⟨_, rfl⟩
        rw [hW3] at HU1 HO1 ⊢
        rw [show wr.alloc (.cells [.int .i64 xt, .int .i64 xk, .int .u64 xa, .int .u64 xd, .bool xo, .int .i64 xe].toArray 27) = W3 from hW3] at HBB
        clear hW3 h0 h1 h2 h3 h4 h5
        have m0 := HBB.out.cell 0 rfl
        have m1 := HBB.out.cell 1 rfl
        have m2 := HBB.out.cell 2 rfl
        have m3 := HBB.out.cell 3 rfl
        have m4 := HBB.out.cell 4 rfl
        have m5 := HBB.out.cell 5 rfl
        obtain ⟨v', W10, hrun, ho', hu', _⟩ := app_ev HO1.out ⟨xt, xk, xa, xd, xo, xe⟩ (by have := HOL.out; omega) HU1.out.size
        simp only [Ev.cells] at hrun hu'
        have ub : Upd [] W3 (W3.alloc (.cells #[.int .i64 xt, .int .i64 xk, .int .u64 xa, .int .u64 xd, .bool xo, .int .i64 xe] 27)) := (Upd.refl _ _).alloc _
        have HO10 := Lib.hid ho'
        have HU10 := Lib.hid (show Upd [] w W10 from (HU1.out.trans ub).tr (U := []) hu' (by simp) (fun g hg => .inr (own_blocks HO1.out g hg).1))
        obtain ⟨p', c', rfl⟩ := own_form ho'
        clear ho' hu' ub
        go_wp2_with (at_builtin; refine wpList_append_eq rfl _ _ _ _ rfl _ _ _ rfl rfl hrun ?_)
        go_roundw
        case rel => exact ⟨k + 1, by omega, by go_num, by rw [HON.out, List.length_append, List.length_singleton]; exact HO10.out, HU10.out⟩
        case measure => simp [intOf]; omega
      · have he1 : (xt == th) = false := by simpa using he
        rw [if_neg he] at hon
        have HON := Lib.hid hon
        clear he hon ua hol htl
        go_wp2_with fail
        go_roundw
        case rel => exact ⟨k + 1, by omega, by go_num, by rw [HON.out]; exact HO1.out, HU1.out⟩
        case measure => simp [intOf]; omega
    · obtain rfl : k = l.length := by omega
      have HO2 := HO
      rw [List.take_length] at HO2 ⊢
      go_wp2_with fail
      exact ⟨HU.out, _, rfl, HO2.out⟩
set_option maxHeartbeats 4000000 in
theorem rof_code (w : World) (po : Option Addr) (cap : Nat) (l : List Ev) (th : Int) (hH : HistAt w po l) (hl : l.length ≤ 1000000000) : Calls Tryd.prog 28 #[.slice po l.length cap, .int .i64 th] w fun e w' => Upd [] w w' ∧ ∃ v, e = .returned v ∧ w'.ownsRow w.heap.size 27 6 v (ofL l th).length ((ofL l th).flatMap Ev.cells) := by
  have HH := Lib.hid hH
  clear hH
  refine calls_all fun K hK => ?_
  go_enter Tryd.func28, Tryd.ntmps28
  go_wp2_with fail
  go_loopw [5, 6] (fun v5 v11 wr => ∃ k : Nat, k ≤ l.length ∧ v11 = .int .i64 k ∧ wr.ownsRow w.heap.size 27 6 v5 (ofL (l.take k) th).length ((ofL (l.take k) th).flatMap Ev.cells) ∧ Upd [] w wr) (fun _ v11 _ => l.length - (intOf v11).toNat)
  case atStart => exact ⟨0, by omega, rfl, ⟨rfl, .inl ⟨rfl, rfl⟩⟩, Upd.refl _ _⟩
  case round =>
    obtain ⟨k, hk, rfl, ho, hu⟩ := hrel
    have HO := Lib.hid ho
    have HU := Lib.hid hu
    obtain ⟨p5, c5, rfl⟩ := own_form ho
    clear ho hu
    by_cases hlt : k < l.length
    · have hlt' : (k : Int) < (l.length : Int) := by omega
      have hk0 : 0 ≤ (k : Int) := by omega
      obtain ⟨x, hx⟩ : ∃ x, l[k]? = some x := ⟨_, List.getElem?_eq_getElem hlt⟩
      obtain ⟨b, o, hpo, h0, h1, h2, h3, h4, h5⟩ := (HH.out.upd0 HU.out) k x hx
      have HTK := Lib.hid (show l.take (k + 1) = l.take k ++ [x] by rw [List.take_add_one, hx]; rfl)
      subst hpo
      clear hx
      obtain ⟨xt, xk, xa, xd, xo, xe⟩ := x
      dsimp only at h0 h1 h2 h3 h4 h5
      have hol := of_len (l.take k) th
      have hon := of_snoc (l.take k) th ⟨xt, xk, xa, xd, xo, xe⟩
      rw [← HTK.out] at hon
      have htl : (l.take k).length ≤ l.length := by rw [List.length_take]; omega
      by_cases he : xt = th
      · subst he
        rw [if_pos rfl] at hon
        have HON := Lib.hid hon
        obtain ⟨v', W10, hrun, ho', hu', _⟩ := app_ev HO.out ⟨xt, xk, xa, xd, xo, xe⟩ (by omega) HU.out.size
        simp only [Ev.cells] at hrun hu'
        have ub : Upd [] wr (wr.alloc (.cells #[.int .i64 xt, .int .i64 xk, .int .u64 xa, .int .u64 xd, .bool xo, .int .i64 xe] 27)) := (Upd.refl _ _).alloc _
        have HO10 := Lib.hid ho'
        have HU10 := Lib.hid (show Upd [] w W10 from (HU.out.trans ub).tr (U := []) hu' (by simp) (fun g hg => .inr (own_blocks HO.out g hg).1))
        obtain ⟨p', c', rfl⟩ := own_form ho'
        clear ho' hu' ub hon hol htl
        go_wp2_with (at_builtin; refine wpList_append_eq rfl _ _ _ _ rfl _ _ _ rfl rfl hrun ?_)
        go_roundw
        case rel => exact ⟨k + 1, by omega, by go_num, by rw [HON.out, List.length_append, List.length_singleton]; exact HO10.out, HU10.out⟩
        case measure => simp [intOf]; omega
      · have he1 : (xt == th) = false := by simpa using he
        rw [if_neg he] at hon
        have HON := Lib.hid hon
        clear he hon hol htl
        go_wp2_with fail
        go_roundw
        case rel => exact ⟨k + 1, by omega, by go_num, by rw [HON.out]; exact HO.out, HU.out⟩
        case measure => simp [intOf]; omega
    · obtain rfl : k = l.length := by omega
      have HO2 := HO
      rw [List.take_length] at HO2 ⊢
      go_wp2_with fail
      exact ⟨HU.out, _, rfl, HO2.out⟩
end Go.Proofs.YtfldpejifpmapaaDoor
set_option linter.unusedSimpArgs false
set_option linter.unusedVariables false
set_option maxRecDepth 100000
namespace Go.Proofs.YtfldpejifpmapaaDoor
open Go.RowKit
open Go.Maps
set_option maxHeartbeats 4000000 in
theorem ethreads_code (w : World) (po : Option Addr) (cap : Nat) (l : List Ev) (hH : HistAt w po l) (hl : l.length ≤ 1000000000) : Calls Tryd.prog 32 #[.slice po l.length cap] w fun e w' => e = .returned (.int .i64 (thrN l)) ∧ Upd [] w w' := by
  have HH := Lib.hid hH
  clear hH
  refine calls_all fun K hK => ?_
  go_enter Tryd.func32, Tryd.ntmps32
  go_wp2_with fail
  go_loopw [3, 8] (fun v3 v8 wr => ∃ k : Nat, k ≤ l.length ∧ v8 = .int .i64 k ∧ v3 = .int .i64 (thrN (l.take k)) ∧ Upd [] w wr) (fun _ v8 _ => l.length - (intOf v8).toNat)
  case atStart => exact ⟨0, by omega, rfl, rfl, Upd.refl _ _⟩
  case round =>
    obtain ⟨k, hk, rfl, rfl, hu⟩ := hrel
    have HU := Lib.hid hu
    clear hu
    by_cases hlt : k < l.length
    · have hlt' : (k : Int) < (l.length : Int) := by omega
      have hk0 : 0 ≤ (k : Int) := by omega
      obtain ⟨x, hx⟩ : ∃ x, l[k]? = some x := ⟨_, List.getElem?_eq_getElem hlt⟩
      obtain ⟨b, o, hpo, h0, h1, h2, h3, h4, h5⟩ := (HH.out.upd0 HU.out) k x hx
      have HTK := Lib.hid (show l.take (k + 1) = l.take k ++ [x] by rw [List.take_add_one, hx]; rfl)
      subst hpo
      clear hx
      obtain ⟨xt, xk, xa, xd, xo, xe⟩ := x
      dsimp only at h0 h1 h2 h3 h4 h5
      have htn := thr_snoc (l.take k) ⟨xt, xk, xa, xd, xo, xe⟩
      rw [← HTK.out] at htn
      unfold thrI at htn
      dsimp only at htn
      have hbd := thr_bd (l.take k)
      generalize thrN (l.take k) = n at htn hbd ⊢
      have ua : Upd [] wr (wr.alloc (.cells #[.int .i64 xt, .int .i64 xk, .int .u64 xa, .int .u64 xd, .bool xo, .int .i64 xe] 27)) := (Upd.refl _ _).alloc _
      have HUA := Lib.hid (HU.out.trans ua)
      clear ua
      by_cases h1t : 0 ≤ xt
      · by_cases h2t : xt < 2147483648
        · rw [if_pos ⟨h1t, h2t⟩] at htn
          have HTN := Lib.hid htn
          have hle : xt ≤ 2147483647 := by omega
          have hwx : IntKind.i64.wrap (xt + 1) = xt + 1 := by rw [IntKind.wrap_i64]; omega
          clear htn
          go_wp2_with fail
          go_roundw
          case rel => exact ⟨k + 1, by omega, by go_num, by rw [HTN.out], by first | exact HUA.out | exact HU.out⟩
          case measure => simp [intOf]; omega
        · rw [if_neg (fun q => h2t q.2)] at htn
          have HTN := Lib.hid htn
          have hle : ¬ xt ≤ 2147483647 := by omega
          clear htn
          go_wp2_with fail
          go_roundw
          case rel => exact ⟨k + 1, by omega, by go_num, by rw [HTN.out], by first | exact HUA.out | exact HU.out⟩
          case measure => simp [intOf]; omega
      · rw [if_neg (fun q => h1t q.1)] at htn
        have HTN := Lib.hid htn
        clear htn
        go_wp2_with fail
        go_roundw
        case rel => exact ⟨k + 1, by omega, by go_num, by rw [HTN.out], by first | exact HUA.out | exact HU.out⟩
        case measure => simp [intOf]; omega
    · obtain rfl : k = l.length := by omega
      rw [List.take_length]
      go_wp2_with fail
      exact ⟨rfl, HU.out⟩
set_option maxHeartbeats 4000000 in
theorem rthreads_code (w : World) (po : Option Addr) (cap : Nat) (l : List Ev) (hH : HistAt w po l) (hl : l.length ≤ 1000000000) : Calls Tryd.prog 33 #[.slice po l.length cap] w fun e w' => e = .returned (.int .i64 (thrN l)) ∧ Upd [] w w' := by
  have HH := Lib.hid hH
  clear hH
  refine calls_all fun K hK => ?_
  go_enter Tryd.func33, Tryd.ntmps33
  go_wp2_with fail
  go_loopw [3, 4] (fun v3 v8 wr => ∃ k : Nat, k ≤ l.length ∧ v8 = .int .i64 k ∧ v3 = .int .i64 (thrN (l.take k)) ∧ Upd [] w wr) (fun _ v8 _ => l.length - (intOf v8).toNat)
  case atStart => exact ⟨0, by omega, rfl, rfl, Upd.refl _ _⟩
  case round =>
    obtain ⟨k, hk, rfl, rfl, hu⟩ := hrel
    have HU := Lib.hid hu
    clear hu
    by_cases hlt : k < l.length
    · have hlt' : (k : Int) < (l.length : Int) := by omega
      have hk0 : 0 ≤ (k : Int) := by omega
      obtain ⟨x, hx⟩ : ∃ x, l[k]? = some x := ⟨_, List.getElem?_eq_getElem hlt⟩
      obtain ⟨b, o, hpo, h0, h1, h2, h3, h4, h5⟩ := (HH.out.upd0 HU.out) k x hx
      have HTK := Lib.hid (show l.take (k + 1) = l.take k ++ [x] by rw [List.take_add_one, hx]; rfl)
      subst hpo
      clear hx
      obtain ⟨xt, xk, xa, xd, xo, xe⟩ := x
      dsimp only at h0 h1 h2 h3 h4 h5
      have htn := thr_snoc (l.take k) ⟨xt, xk, xa, xd, xo, xe⟩
      rw [← HTK.out] at htn
      unfold thrI at htn
      dsimp only at htn
      have hbd := thr_bd (l.take k)
      generalize thrN (l.take k) = n at htn hbd ⊢
      have ua : Upd [] wr (wr.alloc (.cells #[.int .i64 xt, .int .i64 xk, .int .u64 xa, .int .u64 xd, .bool xo, .int .i64 xe] 27)) := (Upd.refl _ _).alloc _
      have HUA := Lib.hid (HU.out.trans ua)
      clear ua
      by_cases h1t : 0 ≤ xt
      · by_cases h2t : xt < 2147483648
        · rw [if_pos ⟨h1t, h2t⟩] at htn
          have HTN := Lib.hid htn
          have hle : xt ≤ 2147483647 := by omega
          have hwx : IntKind.i64.wrap (xt + 1) = xt + 1 := by rw [IntKind.wrap_i64]; omega
          clear htn
          go_wp2_with fail
          go_roundw
          case rel => exact ⟨k + 1, by omega, by go_num, by rw [HTN.out], by first | exact HUA.out | exact HU.out⟩
          case measure => simp [intOf]; omega
        · rw [if_neg (fun q => h2t q.2)] at htn
          have HTN := Lib.hid htn
          have hle : ¬ xt ≤ 2147483647 := by omega
          clear htn
          go_wp2_with fail
          go_roundw
          case rel => exact ⟨k + 1, by omega, by go_num, by rw [HTN.out], by first | exact HUA.out | exact HU.out⟩
          case measure => simp [intOf]; omega
      · rw [if_neg (fun q => h1t q.1)] at htn
        have HTN := Lib.hid htn
        clear htn
        go_wp2_with fail
        go_roundw
        case rel => exact ⟨k + 1, by omega, by go_num, by rw [HTN.out], by first | exact HUA.out | exact HU.out⟩
        case measure => simp [intOf]; omega
    · obtain rfl : k = l.length := by omega
      rw [List.take_length]
      go_wp2_with fail
      exact ⟨rfl, HU.out⟩
end Go.Proofs.YtfldpejifpmapaaDoor
