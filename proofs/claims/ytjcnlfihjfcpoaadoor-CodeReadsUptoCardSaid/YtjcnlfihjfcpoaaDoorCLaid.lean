/- What the rows list of the package-level variables, and the world's shape, give the walks. The witness's world. No condition. -/
import Derived.Test.YtjcnlfihjfcpoaaDoorCPre
import Derived.Test.YtjcnlfihjfcpoaaDoorRows
import Derived.Test.YtjcnlfihjfcpoaaDoorOpen
import Derived.LaidLaws
import Derived.Lay
import Derived.Lib.LaidU8
import Derived.Lib.LaidTab
import Derived.MakeChecks
import Derived.Deep.DeepHandedRow
import Derived.Shelf.LaysM
import Derived.HandedShaped
set_option linter.unusedSimpArgs false
set_option linter.unusedVariables false
set_option maxRecDepth 100000
namespace Go.Proofs.YtjcnlfihjfcpoaaDoor
open Go.RowKit
open Go.ChangeShapes Go.WideShapes Go.ChangeAt

theorem tab_reads {W : World} (h : Lib.VarReads Tryd.prog W "internal/strconv.uint64pow10" Rows.laid_internal_strconv_uint64pow10) : Tab W := by
  obtain ⟨g, t, cs, fuel, p, hg, ht, hv, hd⟩ := h
  obtain rfl := Option.some.inj ((show Tryd.prog.globalNamed "internal/strconv.uint64pow10" = some 1 by kernel_rfl).symm.trans hg)
  obtain rfl := Option.some.inj ((show (Tryd.prog.globals[1]?).map (·.type) = some 101 by kernel_rfl).symm.trans ht)
  have hd' : DataW.trod (fun _ => ()) Tryd.prog W 0 (fun _ => true) false fuel 101 cs.toList = some (Lib.tabData .u64 Lib.pow10Tab, p) := hd
  unfold Tab Lib.TabIs
  rw [hv, ← Lib.cells_of_tab Tryd.underlying101 Tryd.underlying36 (by kernel_rfl) (by kernel_rfl) hd']

theorem err_reads {W : World} {n : String} {g : Nat} {d : DataW Unit} {name : String} (hg0 : Tryd.prog.globalNamed n = some g) (ht0 : (Tryd.prog.globals[g]?).map (·.type) = some 87)
    (h : Lib.VarReads Tryd.prog W n (.iface name d)) : ∃ tp p, W.var? Tryd.prog n = some #[.iface tp p] := by
  obtain ⟨g, t, cs, fuel, p, hg, ht, hv, hd⟩ := h
  obtain rfl := Option.some.inj (hg0.symm.trans hg)
  obtain rfl := Option.some.inj (ht0.symm.trans ht)
  obtain ⟨_, u, v, hcs, _⟩ := iface_of_trod (ms := _) Tryd.underlying87 hd
  refine ⟨u, v, ?_⟩
  rw [hv]
  congr 1
  apply Array.ext'
  rw [hcs]

theorem names_reads {W : World} (h : Lib.VarReads Tryd.prog W "parley/code.names" Rows.laid_parley_code_names) : NamesAt W := by
  obtain ⟨g, t, cs, fuel, p, hg, ht, hv, hd⟩ := h
  obtain rfl := Option.some.inj ((show Tryd.prog.globalNamed "parley/code.names" = some 0 by kernel_rfl).symm.trans hg)
  obtain rfl := Option.some.inj ((show (Tryd.prog.globals[0]?).map (·.type) = some 69 by kernel_rfl).symm.trans ht)
  obtain ⟨xs, m, _, ex, _, hl, hel⟩ := DataW.trod_array Tryd.underlying69 hd
  have c5 : Tryd.prog.cellsOf 9 = 1 := by kernel_rfl
  intro k hk
  have hE := hel k hk
  rw [c5, Nat.mul_one, List.getElem?_eq_getElem (by omega)] at hE
  obtain ⟨s, e1, e2, _⟩ := DataW.trod_string Tryd.underlying9 hE
  have e3 : xs.map (·.1) = nameBs.map fun n => .lit (.string n) := (DataW.agg.inj (Prod.mk.inj ex).1).symm
  have e4 : (xs.map (·.1))[k]? = (nameBs.map fun n => (DataW.lit (.string n) : DataW Unit))[k]? := by rw [e3]
  have hnl : nameBs.length = 18 := rfl
  rw [List.getElem?_map, List.getElem?_map, List.getElem?_eq_getElem (by omega : k < xs.length), List.getElem?_eq_getElem (by omega : k < nameBs.length), e2] at e4
  have hz : s.data.toList = nameBs.getD k [] := by
    simp only [Option.map_some, Option.some.injEq, DataW.lit.injEq, Lit.string.injEq] at e4
    rw [e4, List.getD, List.getElem?_eq_getElem (by omega : k < nameBs.length)]; (try rfl)
  have hs : s = ⟨(nameBs.getD k []).toArray⟩ := by
    rw [← hz]
  have h1 := World.var?_cell hg hv k
  rw [h1]
  have : cs.toList[k]? = some (.string s) := by
    have h0 : ((cs.toList.drop k).take 1)[0]? = some (.string s) := by rw [e1]; rfl
    simpa using h0
  rw [hs] at this
  unfold strV
  simpa using this

theorem max_shaped (w : World) (h : w.ShapedOpen Tryd.prog) : ∃ m, w.cell? ⟨2, 0, none⟩ = some (.int .i64 m) :=
  cell_of_shapedOpen_int (zero := #[.int .i64 0]) (t := 3) h (of_decide_eq_true (by kernel_rfl)) (by kernel_rfl) rfl (by kernel_rfl) (by kernel_rfl) Tryd.underlying3

/-- what every row of this layer lists -/
def Lists (l : List (String × DataW Unit)) : Prop :=
  ("internal/strconv.uint64pow10", Rows.laid_internal_strconv_uint64pow10) ∈ l ∧ ("strconv.ErrRange", Rows.laid_strconv_ErrRange) ∈ l ∧ ("strconv.ErrSyntax", Rows.laid_strconv_ErrSyntax) ∈ l ∧ ("parley/code.names", Rows.laid_parley_code_names) ∈ l

theorem pre_laid {W : World} {l : List (String × DataW Unit)} (hl : Lists l) (h : laidMet Tryd.prog l W) (hsh : W.ShapedOpen Tryd.prog) : Pre W :=
  ⟨names_reads (Lib.laidMet.reads h hl.2.2.2), tab_reads (Lib.laidMet.reads h hl.1),
    ⟨err_reads (g := 3) (by kernel_rfl) (by kernel_rfl) (Lib.laidMet.reads h hl.2.2.1), err_reads (g := 4) (by kernel_rfl) (by kernel_rfl) (Lib.laidMet.reads h hl.2.1)⟩,
    max_shaped W hsh⟩

/-- 'there is an input that fits', at the world that lays all that the row lists -/
theorem witness_card {H : Type} {enc : TypeId × Value → H} {os : Os} {f : FuncId} {fn : Func} {s : OpenSpec} {conds : List PathCond} {laid : List (String × DataW Unit)} (args : Array Value)
    (hsh : ((World.laidAll Tryd.prog os laid).forCall (fun _ _ => 0) ⟨#[], args, []⟩).Shaped Tryd.prog)
    (hok : Input.okWideB Tryd.prog ((World.laidAll Tryd.prog os laid).forCall (fun _ _ => 0) ⟨#[], args, []⟩) f ⟨#[], args, []⟩ = true)
    (hrow : s.preRow enc Tryd.prog fn conds false laid ((World.laidAll Tryd.prog os laid).forCall (fun _ _ => 0) ⟨#[], args, []⟩).memory args) :
    ∃ (w : World) (tape : Tape) (i : Input), w.os = os ∧ (w.forCall tape i).Shaped Tryd.prog ∧ i.vars = [] ∧ Input.okWide Tryd.prog (w.forCall tape i) .any w.heap.size f i ∧
      s.preRow enc Tryd.prog fn conds false laid (w.forCall tape i).memory i.args ∧ ({} : Assume).holds Tryd.prog (lone (Frame.enter Tryd.prog f i.args .normal) [] (w.forCall tape i)) :=
  ⟨World.laidAll Tryd.prog os laid, fun _ _ => 0, ⟨#[], args, []⟩, World.laidAll_os _ _ _, hsh, (Input.okWide_of_okWideB (base := 0) hok).1, (Input.okWide_of_okWideB hok).2, hrow, by
    simp only [Assume.holds]
    exact ⟨by simp, by simp, fun _ => Modest.zero, by simp, by simp⟩⟩
end Go.Proofs.YtjcnlfihjfcpoaaDoor
