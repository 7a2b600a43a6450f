/- A struct and the slices within, opened, with what the bound speaks of. No condition. -/
import Derived.Test.YtehopaabfoopeaaGreatTz33
set_option linter.unusedSimpArgs false
set_option linter.unusedVariables false
set_option maxRecDepth 100000
namespace Go.Proofs.YtehopaabfoopeaaGreat
open Go.RowKit
open Go.ChangeShapes Go.WideShapes Go.ChangeAt Go.Deep
section
variable {H:Type} {enc:TypeId × Value → H} {w:World} {base:Nat} {held:Bool}
theorem open_struct2 {P:Program} {t:TypeId} {fs:Array Field} {r:Reach} {b0:Nat} {v:Value} {d:DataW H} {ps:List MemPlace} (ht:P.underlying t=some (.struct fs)) (hone:oneCellFields P fs=true) (hC:P.cellsOf t=fs.size)
  (hval:Value.okWide P w r b0 t v) (h:DataW.Trod enc P w base (fun _=>true) held t v d ps) (hs:Sized P t d) :
  ∃ (cs:Array Value) (parts:List (DataW H)),v=.agg cs∧cs.size=fs.size∧d=.agg parts∧∀ (j:Nat) (f:Field),fs[j]? = some f → ∃ (u:Value) (m:Nat) (y:DataW H × List MemPlace),cs[j]? = some u∧DataW.trod enc P w base (fun _=>true) held m f.type [u]=some y∧Sized P f.type y.1∧y.1 ∈ parts:=by
 obtain ⟨cs,rfl,hsz⟩:=okWide_struct ht hval
 obtain ⟨fuel,hf⟩:=h
 obtain ⟨xs,n,_,hx,hl,hlen,hj⟩:=DataW.trod_struct ht hf
 have hd:d=.agg (xs.map (·.1)):=by simpa using congrArg Prod.fst hx
 refine ⟨cs,xs.map (·.1),rfl,by rw [hsz,hC],hd,fun j f hf2=>?_⟩
 obtain ⟨ho,hc1⟩:=hone_of hone j f hf2
 have hjl:j<fs.size:=by
  by_cases h:j<fs.size
  ·exact h
  ·rw [Array.getElem?_eq_none (by omega)] at hf2; cases hf2
 have hjc:j<cs.size:=by rw [hsz,hC]; exact hjl
 have h1:=hj j f hf2
 rw [ho,hc1] at h1
 have hcells:(Value.agg cs).cells.toList=cs.toList:=rfl
 rw [hcells,take1_drop _ _ undef (by simpa using hjc)] at h1
 obtain ⟨y,hy⟩:∃ y,xs[j]? = some y:=⟨xs[j]'(by omega),List.getElem?_eq_getElem _⟩
 rw [hy] at h1
 refine ⟨_,n,y,by rw [Array.getElem?_eq_getElem hjc],by simpa [List.getD,hjc] using h1,fun k hk=>hs k ?_,List.mem_map.2 ⟨y,List.mem_of_getElem? hy,rfl⟩⟩
 rw [hd]
 simp only [DataW.weights,ht]
 exact DataW.weights_mem_each (j:=j) (t:=f.type) (d:=y.1) (by simp [hf2]) (by simp [hy]) k hk
theorem bulk_part {d:DataW H} {l:List (DataW H)} (h:d ∈ l):Rows.uptoBulk d≤Rows.uptoBulkAll l:=by
 induction l with
 | nil=>cases h
 | cons x r ih =>
  simp only [Rows.uptoBulkAll]
  cases List.mem_cons.1 h with
  | inl e=>subst e; omega
  | inr e=>have:=ih e; omega
theorem slice_bulk {P:Program} {t e:TypeId} {m:Nat} {p:Option Addr} {n cap:Nat} {y:DataW H × List MemPlace} (ht:P.underlying t=some (.slice e)) (h:DataW.trod enc P w base (fun _=>true) held m t [.slice p n cap]=some y):n≤Rows.uptoBulk y.1:=by
 rcases open_slice ht h with ⟨h0,_⟩ | ⟨a,l,c,m',n',D,Pl,hcs,_,hlc,hm,hmm,hx,_⟩
 ·simp at h0
  omega
 ·simp at hcs
  obtain ⟨rfl,rfl,rfl⟩:=hcs
  rw [hx]
  have:=bulk_len ((List.range n).map D)
  simp only [Rows.uptoBulk]
  simp at this
  omega
theorem bulk_agg {parts:List (DataW H)} (h:Rows.uptoSmall H ([.agg parts]:List (DataW H))=true) {d:DataW H} (hd:d ∈ parts):Rows.uptoBulk d≤1048576:=by
 have hk:Rows.uptoBulkAll [DataW.agg parts]≤1048576:=of_decide_eq_true h
 simp only [Rows.uptoBulkAll,Rows.uptoBulk] at hk
 have:=bulk_part hd
 omega
end
end Go.Proofs.YtehopaabfoopeaaGreat
