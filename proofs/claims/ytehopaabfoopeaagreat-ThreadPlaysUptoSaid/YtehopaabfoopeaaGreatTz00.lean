/- Small laws of my own on blocks and worlds: what a block of cells holds, what a step leaves as it was. No condition. An attempt's state, plainly: what may be, what each step makes of it. No program in sight. No conditions. The contracts of the row of cells, function by function: a row that is there. Each says what comes back, what the row holds then, and that nothing else has turned. The closed check that the statements of layer 1 (cells) end with, and CellsNames' walk. No condition. The row's Len, Has, Slice, Words, a row that is there. No condition. -/
import Derived.Test.YtehopaabfoopeaaGreatRows
import Derived.WalkKit
import Derived.WalkSpells
import Derived.WalkLawsBesides
import Derived.Defers
import Derived.Lib.Hide
import Derived.Laws.CopyOwn
set_option linter.unusedSimpArgs false
set_option linter.unusedVariables false
set_option maxRecDepth 100000
namespace Go.Proofs.YtehopaabfoopeaaGreat
open Go.RowKit
structure Upd (S:List Nat) (w w':World):Prop where
 os:w'.os=w.os
 tape:w'.tape=w.tape
 output:w'.output=w.output
 size:w.heap.size≤w'.heap.size
 block:∀ k,k<w.heap.size → k ∉ S → w'.heap[k]? = w.heap[k]?
theorem Upd.refl (S:List Nat) (w:World):Upd S w w:=⟨rfl,rfl,rfl,Nat.le_refl _,fun _ _ _=>rfl⟩
theorem Upd.tr {S T U:List Nat} {a b c:World} (h:Upd S a b) (k:Upd T b c) (hS:∀ x ∈ S,x ∈ U∨a.heap.size≤x) (hT:∀ x ∈ T,x ∈ U∨a.heap.size≤x):Upd U a c:=
 ⟨k.os.trans h.os,k.tape.trans h.tape,k.output.trans h.output,Nat.le_trans h.size k.size,fun i hi hn=>by
  have h1:i ∉ S:=fun m=>by rcases hS i m with e | e; exact hn e; omega
  have h2:i ∉ T:=fun m=>by rcases hT i m with e | e; exact hn e; omega
  exact (k.block i (Nat.lt_of_lt_of_le hi h.size) h2).trans (h.block i hi h1)⟩
theorem Upd.trans {S:List Nat} {a b c:World} (h:Upd S a b) (k:Upd S b c):Upd S a c:=
 h.tr k (fun _ h=>.inl h) (fun _ h=>.inl h)
theorem Upd.mono {S T:List Nat} {a b:World} (h:Upd S a b) (hS:∀ x ∈ S,x ∈ T∨a.heap.size≤x):Upd T a b:=
 h.tr (Upd.refl T b) hS (fun _ h=>.inl h)
theorem Upd.alloc {S:List Nat} {a b:World} (h:Upd S a b) (o:Obj):Upd S a (b.alloc o):=
 h.trans ⟨rfl,rfl,rfl,by simp,fun k hk _=>Below.heap_alloc _ _ _ (by omega)⟩
theorem Upd.drew {S:List Nat} {a b:World} (h:Upd S a b):Upd S a b.drew:=h.trans ⟨rfl,rfl,rfl,Nat.le_refl _,fun _ _ _=>rfl⟩
theorem Upd.setCell {S:List Nat} {a b:World} (h:Upd S a b) {p:Addr} (hp:p.block ∈ S∨a.heap.size≤p.block) (u:Value):Upd S a (b.setCell p u):=
 h.tr (T:=[p.block]) ⟨rfl,rfl,rfl,by simp [World.setCell],fun k _ hn=>Below.heap_setCell _ _ _ _ (by simpa using hn)⟩ (fun _ h=>.inl h) (fun x hx=>by simp at hx; subst hx; exact hp)
theorem Upd.below {S:List Nat} {B:Nat} {a b:World} (h:Upd S a b) (hB:B≤a.heap.size) (hS:∀ x ∈ S,B≤x):Below B a b:=
 ⟨h.os,h.tape,h.output,h.size,fun k hk=>h.block k (by omega) (fun m=>by have:=hS k m; omega)⟩
theorem Upd.of_grown {a b:World} {row:Option Nat} {S:List Nat} (h:a.grownBy b row) (hr:∀ k,row=some k → k ∈ S∨a.heap.size≤k):Upd S a b:=
 ⟨h.os,h.tape,h.output,h.size,fun k hk hn=>h.block k hk (fun e=>by rcases hr k e.symm with x | x; exact hn x; omega)⟩
def Blk (w:World) (b:Nat) (vs:List Value) (t:TypeId):Prop:=w.heap[b]? = some (.cells vs.toArray t (0,0))
theorem Blk.lt {w:World} {b:Nat} {vs:List Value} {t:TypeId} (h:Blk w b vs t):b<w.heap.size:=by
 unfold Blk at h
 by_cases hb:b<w.heap.size
 ·exact hb
 ·rw [Array.getElem?_eq_none (by omega)] at h; cases h
theorem Blk.at {w:World} {b:Nat} {vs:List Value} {t:TypeId} (h:Blk w b vs t) (o:Nat):w.cell? ⟨b,o,none⟩=vs[o]?:=by
 unfold Blk at h; simp [World.cell?,h]
theorem Blk.cell {w:World} {b:Nat} {vs:List Value} {t:TypeId} (h:Blk w b vs t) (o:Nat) {v:Value} (e:vs[o]? = some v):w.cell? ⟨b,o,none⟩=some v:=(h.at o).trans e
theorem Blk.free {w:World} {b:Nat} {vs:List Value} {t:TypeId} (h:Blk w b vs t) (o:Nat):w.frozen? ⟨b,o,none⟩=false:=by
 unfold Blk at h; simp [World.frozen?,h]
theorem Blk.same {w w':World} {b:Nat} {vs:List Value} {t:TypeId} (h:Blk w b vs t) (e:w'.heap[b]? = w.heap[b]?):Blk w' b vs t:=e.trans h
theorem Blk.upd {S:List Nat} {w w':World} {b:Nat} {vs:List Value} {t:TypeId} (h:Blk w b vs t) (k:Upd S w w') (hn:b ∉ S):Blk w' b vs t:=h.same (k.block b h.lt hn)
theorem Blk.alloc {w:World} {b:Nat} {vs:List Value} {t:TypeId} (h:Blk w b vs t) (o:Obj):Blk (w.alloc o) b vs t:=h.same (Below.heap_alloc _ _ _ h.lt)
theorem Blk.new (w:World) (vs:List Value) (t:TypeId):Blk (w.alloc (.cells vs.toArray t)) w.heap.size vs t:=heap_alloc_new w _
theorem Blk.drew {w:World} {b:Nat} {vs:List Value} {t:TypeId} (h:Blk w b vs t):Blk w.drew b vs t:=h
theorem Blk.other {w:World} {b:Nat} {vs:List Value} {t:TypeId} (h:Blk w b vs t) (p:Addr) (u:Value) (hp:b≠p.block):Blk (w.setCell p u) b vs t:=h.same (Below.heap_setCell _ _ _ _ hp)
theorem Blk.set {w:World} {b:Nat} {vs:List Value} {t:TypeId} (h:Blk w b vs t) (o:Nat) (u:Value):Blk (w.setCell ⟨b,o,none⟩ u) b (vs.set o u) t:=by
 unfold Blk at h ⊢
 simp [World.setCell,Array.getElem?_modify,h]
theorem Blk.setRow {w:World} {b:Nat} {vs:List Value} {t:TypeId} (h:Blk w b vs t) (us:List Value):Blk (w.setRow b us.toArray) b us t:=
 setRow_heap w b vs.toArray us.toArray t _ h
theorem Upd.setRow {S:List Nat} {a b:World} (h:Upd S a b) {g:Nat} (hp:g ∈ S∨a.heap.size≤g) (cs:Array Value):Upd S a (b.setRow g cs):=
 h.tr (T:=[g]) ⟨rfl,rfl,rfl,by simp,fun k _ hn=>setRow_other b g k _ (by simpa using hn)⟩ (fun _ h=>.inl h) (fun x hx=>by simp at hx; subst hx; exact hp)
theorem Blk.inj {w:World} {b:Nat} {vs us:List Value} {t u:TypeId} (h:Blk w b vs t) (k:Blk w b us u):vs=us∧t=u:=by
 unfold Blk at h k; rw [h] at k; simp at k; exact k
theorem calls_to {P:Program} {f:FuncId} {args:Array Value} {w:World} {R R':Ending → World → Prop} (h:Calls P f args w R) (hr:∀ e w',R e w' → R' e w'):Calls P f args w R':=
 h.mono fun e w' r=>hr e w' r
theorem calls_all {P:Program} {f:FuncId} {args:Array Value} {w:World} {R:Ending → World → Prop} (h:∀ K:Ending → World → Prop,(∀ e w',R e w' → K e w') → Calls P f args w K):Calls P f args w R:=
 h R fun _ _ r=>r
def wd (ws:List Int) (i:Nat):Int:=ws.getD i 0
theorem wd_get {ws:List Int} {i:Nat} (h:i<ws.length):wd ws i=ws[i]:=by simp [wd,h]
theorem addr_add (b o j:Nat):(⟨b,o,none⟩:Addr).add j=⟨b,o+j,none⟩:=by
 unfold Addr.add; split
 ·rename_i h; subst h; rfl
 ·rfl
structure SlI (w:World) (k:IntKind) (p:Option Addr) (zs:List Int):Prop where
 ne:zs≠[] → ∃ b o,p=some ⟨b,o,none⟩
 cells:∀ b o,p=some ⟨b,o,none⟩ → ∀ i,i<zs.length → w.cell? ⟨b,o+i,none⟩=some (.int k (wd zs i))
theorem SlI.nil (w:World) (k:IntKind) (p:Option Addr):SlI w k p []:=⟨fun h=>absurd rfl h,fun _ _ _ i hi=>by simp at hi⟩
theorem SlI.src {w:World} {k:IntKind} {p:Option Addr} {zs:List Int} (h:SlI w k p zs) (hz:zs≠[]):∃ ad,p=some ad∧∀ j v,(zs.map (Value.int k))[j]? = some v → w.cell? (ad.add j)=some v:=by
 obtain ⟨b,o,rfl⟩:=h.ne hz
 refine ⟨_,rfl,fun j v hj=>?_⟩
 have hl:j<zs.length:=by
  by_cases hl:j<zs.length
  ·exact hl
  ·rw [List.getElem?_eq_none (by simpa using hl)] at hj; cases hj
 rw [List.getElem?_map,List.getElem?_eq_getElem hl] at hj
 simp at hj
 rw [← hj,← wd_get hl]
 rw [addr_add]; exact h.cells b o rfl j hl
theorem SlI.upd {w w':World} {k:IntKind} {p:Option Addr} {zs:List Int} {S:List Nat} (h:SlI w k p zs) (hu:Upd S w w') (hn:∀ b o,p=some ⟨b,o,none⟩ → b ∉ S):SlI w' k p zs:=
 ⟨h.ne,fun b o e i hi=>by
  have hc:=h.cells b o e i hi
  have hb:b<w.heap.size:=World.block_lt_of_cell? w _ hc
  exact (World.cell?_of_block (w:=w) (hu.block b hb (hn b o e))).trans hc⟩
theorem SlI.of_blk {w:World} {k:IntKind} {b:Nat} {zs:List Int} {sp:List Value} {t:TypeId} (h:Blk w b (zs.map (Value.int k) ++ sp) t):SlI w k (some ⟨b,0,none⟩) zs:=
 ⟨fun _=>⟨b,0,rfl⟩,fun b' o e i hi=>by
  simp at e
  obtain ⟨rfl,rfl⟩:=e
  exact h.cell _ (by rw [List.getElem?_append_left (by simpa using hi)]; simp [hi,wd_get])⟩
def zeros (k:IntKind) (n:Nat):Array Value:=((List.replicate n (0:Int)).map (Value.int k)).toArray
theorem zeros_made (k:IntKind) (n:Nat):madeCells (Value.int k 0).cells (n*1)=zeros k n:=by
 have h:(madeCells #[Value.int k 0] n).toList=List.replicate n (Value.int k 0):=toList_madeCells_one _ _
 have h2:madeCells (Value.int k 0).cells (n*1)=madeCells #[Value.int k 0] n:=by rw [Nat.mul_one]; rfl
 rw [h2]
 apply Array.ext'
 rw [h,zeros]
 simp
theorem wpList_append_eq {P:Program} {ops:Array Oper} {rest:List Oper} {o:Oper} {a:Act} {w w':World} {Q:Exit → Act → World → Prop} (hgd:o.guard=none) (s x:Operand) (t u:TypeId)
  (ho:o.op=.call { callee:=.builtin .append,args:=#[s,x],argTypes:=#[t,u] }) (sv xv v:Value) (hs:a.eval s=sv) (hx:a.eval x=xv)
  (hr:(Builtin.append_ #[t,u] o.type #[sv,xv]).run P w=.ok v w') (h:wpList P ops Q rest (a.put o.dst v) w'):wpList P ops Q (o :: rest) a w:=by
 refine wpList_plain hgd fun K hK=>?_
 unfold Oper.wp execOp
 simp only [ho,resolve,invoke,builtin,Sem.run_bind,Sem.run_pure,Result.andThen_ok,List.map_toArray,List.map_cons,List.map_nil,hs,hx,hr]
 exact hK _ _ h
theorem u64_in (n:Int) (h:0≤n∧n<18446744073709551616):IntKind.u64.wrap n=n:=by rw [IntKind.wrap_u64]; omega
end Go.Proofs.YtehopaabfoopeaaGreat
set_option linter.unusedSimpArgs false
set_option linter.unusedVariables false
set_option maxRecDepth 100000
namespace Go.Proofs.YtehopaabfoopeaaGreat
open Go.RowKit
structure AS where
 snap:Int
 reads:List (Int × Int)
 writes:List (Int × Int)
 phase:Int
 thn:Int
 addr:Int
 word:Int
 found:Int
 at_:Int
structure Ev where
 kind:Int
 addr:Int
 word:Int
 own:Bool
structure Trn where
 out:Int
 word:Int
 ev:Ev
def Ev.val (e:Ev):Value:=.agg #[.int .i64 0,.int .i64 e.kind,.int .u64 e.addr,.int .u64 e.word,.bool e.own,.int .i64 0]
def Trn.val (t:Trn):Value:=.agg #[.int .i64 t.out,.int .u64 t.word,.int .i64 0,.int .i64 t.ev.kind,.int .u64 t.ev.addr,.int .u64 t.ev.word,.bool t.ev.own,.int .i64 0]
def Trn.cells (t:Trn):List Value:=[.int .i64 t.out,.int .u64 t.word,.int .i64 0,.int .i64 t.ev.kind,.int .u64 t.ev.addr,.int .u64 t.ev.word,.bool t.ev.own,.int .i64 0]
def evNone:Ev:=⟨0,0,0,false⟩
def trnNone:Trn:=⟨0,0,evNone⟩
def going:Trn:=⟨1,0,evNone⟩
def place (l:List (Int × Int)) (x:Int):Option Nat:=l.findIdx? fun c=>c.1 == x
def fresh (snap:Int):AS:=⟨snap,[],[],1,0,0,0,0,0⟩
def overS:AS:=⟨0,[],[],10,0,0,0,0,0⟩
def getsB (s:AS):Bool:=s.phase == 2 || s.phase == 3 || s.thn == 2
def locksB (s:AS):Bool:=s.phase == 7 || s.phase == 8 || s.phase == 9 || s.thn == 7
def validB (s:AS):Bool:=s.phase == 4 || s.phase == 5 || s.phase == 6
structure Wide (s:AS):Prop where
 snap:0≤s.snap∧s.snap<18446744073709551616
 reads:∀ c ∈ s.reads,(0≤c.1∧c.1<18446744073709551616)∧0≤c.2∧c.2<18446744073709551616
 writes:∀ c ∈ s.writes,(0≤c.1∧c.1<18446744073709551616)∧0≤c.2∧c.2<18446744073709551616
 addr:0≤s.addr∧s.addr<18446744073709551616
 word:0≤s.word∧s.word<18446744073709551616
 found:0≤s.found∧s.found<18446744073709551616
structure May (s:AS):Prop where
 ph:1≤s.phase∧s.phase≤10
 thn:if validB s=true then s.thn=2∨s.thn=7 else s.thn=0
 addr:getsB s=false → s.addr=0
 word:s.phase≠3 → s.word=0
 found:s.phase≠5 → s.phase≠6 → s.found=0
 at0:s.phase≠5 → s.phase≠8 → s.at_=0
 at5:s.phase=5 → 0≤s.at_∧s.at_<s.reads.length
 at8:s.phase=8 → 0≤s.at_∧s.at_<s.writes.length
 over:s.phase=10 → s.snap=0∧s.reads=[]∧s.writes=[]
 even:s.snap % 2=0∧s.found % 2=0
 lenR:s.reads.length≤1024
 lenW:s.writes.length≤1024
 nodup:(s.writes.map (·.1)).Nodup
 locks:locksB s=true → s.writes≠[]
 gets:getsB s=true → s.reads.length<1024∧s.addr ∉ s.writes.map (·.1)
structure Sh where
 row:List Int
 clock:Int
def loadW (row:List Int) (x:Int):Int:=if x<row.length then wd row x.toNat else 0
def storeW (row:List Int) (x v:Int):List Int:=if x<row.length then row.set x.toNat v else row
def loadS (s:AS) (sh:Sh):Trn × AS:=(going,{ s with word:=loadW sh.row s.addr,phase:=3 })
def lookS (s:AS) (sh:Sh):Trn × AS:=
 if sh.clock=s.snap then (⟨2,s.word,⟨2,s.addr,s.word,false⟩⟩,{ s with reads:=s.reads ++ [(s.addr,s.word)],phase:=1,addr:=0,word:=0 })
 else (going,{ s with phase:=4,thn:=2,word:=0 })
def waitS (s:AS) (sh:Sh):Trn × AS:=
 if sh.clock % 2=1 then (going,s) else (going,{ s with found:=sh.clock,phase:=if s.reads=[] then 6 else 5 })
def checkS (s:AS) (sh:Sh):Trn × AS:=
 match s.reads[s.at_.toNat]? with
 | none=>(going,s)
 | some c =>
  if c.1<sh.row.length∧wd sh.row c.1.toNat=c.2 then
   (going,if s.at_+1=s.reads.length then { s with at_:=0,phase:=6 } else { s with at_:=s.at_+1 })
  else (⟨5,0,⟨7,0,0,false⟩⟩,overS)
def closeS (s:AS) (sh:Sh):Trn × AS:=
 if sh.clock=s.found then (⟨1,0,⟨4,0,s.found,false⟩⟩,{ s with snap:=s.found,phase:=s.thn,thn:=0,found:=0 })
 else (going,{ s with phase:=4,found:=0 })
def lockS (s:AS) (sh:Sh):Trn × AS × Sh:=
 if sh.clock=s.snap then (⟨1,0,⟨5,0,0,false⟩⟩,{ s with phase:=8 },{ sh with clock:=sh.clock+1 })
 else (going,{ s with phase:=4,thn:=7 },sh)
def storeS (s:AS) (sh:Sh):Trn × AS × Sh:=
 match s.writes[s.at_.toNat]? with
 | none=>(going,s,sh)
 | some c=>(going,(if s.at_+1=s.writes.length then { s with at_:=0,phase:=9 } else { s with at_:=s.at_+1 }),{ sh with row:=storeW sh.row c.1 c.2 })
def freeS (s:AS) (sh:Sh):Trn × AS × Sh:=
 (⟨4,0,⟨6,0,(s.snap+2) % 18446744073709551616 / 2,false⟩⟩,overS,if sh.clock=s.snap+1 then { sh with clock:=(s.snap+2) % 18446744073709551616 } else sh)
def getS (s:AS) (sh:Sh) (x:Int):Trn × Int × AS:=
 if s.phase≠1 then (trnNone,2,s) else
 match place s.writes x with
 | some k=>(⟨2,(s.writes.getD k (0,0)).2,⟨2,x,(s.writes.getD k (0,0)).2,true⟩⟩,0,s)
 | none=>if ¬ x<sh.row.length then (trnNone,4,s) else if 1024≤s.reads.length then (trnNone,5,s) else
   ((loadS { s with addr:=x } sh).1,0,(loadS { s with addr:=x } sh).2)
def putS (s:AS) (sh:Sh) (x v:Int):Trn × Int × AS:=
 if s.phase≠1 then (trnNone,2,s) else if ¬ x<sh.row.length then (trnNone,4,s) else
 match place s.writes x with
 | some k=>(⟨3,0,⟨3,x,v,false⟩⟩,0,{ s with writes:=s.writes.set k (x,v) })
 | none=>if s.writes.length<1024 then (⟨3,0,⟨3,x,v,false⟩⟩,0,{ s with writes:=s.writes ++ [(x,v)] }) else (trnNone,5,s)
def endS (s:AS) (sh:Sh):Trn × Int × AS × Sh:=
 if s.phase≠1 then (trnNone,2,s,sh) else
 if s.writes=[] then (⟨4,0,⟨6,0,s.snap / 2,false⟩⟩,0,overS,sh) else ((lockS s sh).1,0,(lockS s sh).2.1,(lockS s sh).2.2)
def stepS (s:AS) (sh:Sh):Trn × Int × AS × Sh:=
 if s.phase=2 then (if s.addr<sh.row.length then ((loadS s sh).1,0,(loadS s sh).2,sh) else (trnNone,4,s,sh))
 else if s.phase=3 then ((lookS s sh).1,0,(lookS s sh).2,sh)
 else if s.phase=4 then ((waitS s sh).1,0,(waitS s sh).2,sh)
 else if s.phase=5 then ((checkS s sh).1,0,(checkS s sh).2,sh)
 else if s.phase=6 then ((closeS s sh).1,0,(closeS s sh).2,sh)
 else if s.phase=7 then ((lockS s sh).1,0,(lockS s sh).2.1,(lockS s sh).2.2)
 else if s.phase=8 then ((storeS s sh).1,0,(storeS s sh).2.1,(storeS s sh).2.2)
 else if s.phase=9 then ((freeS s sh).1,0,(freeS s sh).2.1,(freeS s sh).2.2)
 else (trnNone,2,s,sh)
theorem may_over:May overS:=⟨by decide,by decide,fun _=>rfl,fun _=>rfl,fun _ _=>rfl,fun _ _=>rfl,fun h=>by simp [overS] at h,fun h=>by simp [overS] at h,fun _=>⟨rfl,rfl,rfl⟩,by decide,by decide,by decide,by simp [overS],fun h=>by simp [locksB,overS] at h,fun h=>by simp [getsB,overS] at h⟩
theorem may_fresh {n:Int} (h:n % 2=0):May (fresh n):=⟨by simp [fresh],by simp [fresh,validB],fun _=>rfl,fun _=>rfl,fun _ _=>rfl,fun _ _=>rfl,fun h=>by simp [fresh] at h,fun h=>by simp [fresh] at h,fun h=>by simp [fresh] at h,⟨h,by simp [fresh]⟩,by simp [fresh],by simp [fresh],by simp [fresh],fun h=>by simp [locksB,fresh] at h,fun h=>by simp [getsB,fresh] at h⟩
theorem place_none {l:List (Int × Int)} {x:Int} (h:place l x=none):x ∉ l.map (·.1):=by
 unfold place at h
 rw [List.findIdx?_eq_none_iff] at h
 intro hm
 obtain ⟨c,hc,rfl⟩:=List.mem_map.1 hm
 have:=h c hc
 simp at this
theorem place_some {l:List (Int × Int)} {x:Int} {k:Nat} (h:place l x=some k):k<l.length∧∃ v,l[k]? = some (x,v):=by
 unfold place at h
 rw [List.findIdx?_eq_some_iff_getElem] at h
 obtain ⟨hk,h1,_⟩:=h
 refine ⟨hk,(l[k]).2,?_⟩
 rw [List.getElem?_eq_getElem hk]
 have:(l[k]).1=x:=by simpa using h1
 rw [← this]
theorem set_map {l:List (Int × Int)} {x v:Int} {k:Nat} (h:place l x=some k):(l.set k (x,v)).map (·.1)=l.map (·.1):=by
 obtain ⟨hk,u,hu⟩:=place_some h
 rw [List.map_set]
 apply List.ext_getElem?
 intro j
 rw [List.getElem?_set]
 split
 ·rename_i e
  subst e
  rw [List.getElem?_map,hu]
  simp [hk]
 ·rfl
section
variable {s:AS} {sh:Sh}
theorem may_load (h:May s) (hp:s.phase=1∨s.phase=2) (x:Int) (hl:s.reads.length<1024) (hx:x ∉ s.writes.map (·.1)):May (loadS { s with addr:=x } sh).2:=by
 have h1:=h.thn
 have h2:=h.found
 have h3:=h.at0
 have hv:validB s=false:=by unfold validB; rcases hp with e | e <;> simp [e]
 rw [hv,if_neg (by simp)] at h1
 refine ⟨by simp [loadS],by simp [loadS,validB,h1],fun h=>by simp [loadS,getsB] at h,fun h=>by simp [loadS] at h,fun _ _=>h2 (by omega) (by omega),fun _ _=>h3 (by omega) (by omega),fun h=>by simp [loadS] at h,fun h=>by simp [loadS] at h,fun h=>by simp [loadS] at h,h.even,h.lenR,h.lenW,h.nodup,fun hk=>?_,fun _=>⟨hl,hx⟩⟩
 simp [loadS,locksB,h1] at hk
theorem may_look (h:May s) (hp:s.phase=3):May (lookS s sh).2:=by
 have h1:=h.thn
 have hv:validB s=false:=by unfold validB; simp [hp]
 rw [hv,if_neg (by simp)] at h1
 have hg:=h.gets (by simp [getsB,hp])
 unfold lookS
 split
 ·refine ⟨by simp,by simp [validB,h1],fun _=>rfl,fun _=>rfl,fun _ _=>h.found (by omega) (by omega),fun _ _=>h.at0 (by omega) (by omega),fun h=>by simp at h,fun h=>by simp at h,fun h=>by simp at h,h.even,by simp; omega,h.lenW,h.nodup,fun hk=>by simp [locksB,h1] at hk,fun hk=>by simp [getsB,h1] at hk⟩
 ·refine ⟨by simp,by simp [validB],fun hk=>by simp [getsB] at hk,fun _=>rfl,fun _ _=>h.found (by omega) (by omega),fun _ _=>h.at0 (by omega) (by omega),fun h=>by simp at h,fun h=>by simp at h,fun h=>by simp at h,h.even,h.lenR,h.lenW,h.nodup,fun hk=>by simp [locksB] at hk,fun _=>hg⟩
theorem may_wait (h:May s) (hp:s.phase=4) (hc:sh.clock % 2=0∨sh.clock % 2=1):May (waitS s sh).2:=by
 have h1:=h.thn
 have hv:validB s=true:=by unfold validB; simp [hp]
 rw [hv,if_pos rfl] at h1
 unfold waitS
 split
 ·exact h
 ·have h3:=h.at0 (by omega) (by omega)
  have hgt:getsB s=(s.thn == 2):=by simp [getsB,hp]
  have hlk:locksB s=(s.thn == 7):=by simp [locksB,hp]
  split
  ·rename_i he
   refine ⟨by simp,by simp [validB,h1],fun hk=>h.addr (by rw [hgt]; simpa [getsB] using hk),fun _=>h.word (by omega),fun _ h=>by simp at h,fun _ _=>h3,fun h=>by simp at h,fun h=>by simp at h,fun h=>by simp at h,⟨h.even.1,by simp only; omega⟩,h.lenR,h.lenW,h.nodup,fun hk=>h.locks (by rw [hlk]; simpa [locksB] using hk),fun hk=>h.gets (by rw [hgt]; simpa [getsB] using hk)⟩
  ·rename_i he
   refine ⟨by simp,by simp [validB,h1],fun hk=>h.addr (by rw [hgt]; simpa [getsB] using hk),fun _=>h.word (by omega),fun h=>by simp at h,fun h=>by simp at h,fun _=>⟨by simp only; omega,by simp only; rw [h3]; have:=List.length_pos_iff.2 he; omega⟩,fun h=>by simp at h,fun h=>by simp at h,⟨h.even.1,by simp only; omega⟩,h.lenR,h.lenW,h.nodup,fun hk=>h.locks (by rw [hlk]; simpa [locksB] using hk),fun hk=>h.gets (by rw [hgt]; simpa [getsB] using hk)⟩
theorem may_check (h:May s) (hp:s.phase=5):May (checkS s sh).2:=by
 have h1:=h.thn
 have hv:validB s=true:=by unfold validB; simp [hp]
 rw [hv,if_pos rfl] at h1
 have h5:=h.at5 hp
 have hgt:getsB s=(s.thn == 2):=by simp [getsB,hp]
 have hlk:locksB s=(s.thn == 7):=by simp [locksB,hp]
 unfold checkS
 split
 ·exact h
 ·split
  ·simp only
   split
   ·refine ⟨by simp,by simp [validB,h1],fun hk=>h.addr (by rw [hgt]; simpa [getsB] using hk),fun _=>h.word (by omega),fun _ h=>by simp at h,fun _ _=>rfl,fun h=>by simp at h,fun h=>by simp at h,fun h=>by simp at h,h.even,h.lenR,h.lenW,h.nodup,fun hk=>h.locks (by rw [hlk]; simpa [locksB] using hk),fun hk=>h.gets (by rw [hgt]; simpa [getsB] using hk)⟩
   ·rename_i hne
    refine ⟨h.ph,by have hv2:validB { s with at_:=s.at_+1 } = true:=hv; rw [if_pos hv2]; exact h1,fun hk=>h.addr (by simpa [getsB] using hk),fun k=>h.word k,fun k=>absurd hp k,fun k=>absurd hp k,fun _=>⟨by simp only; omega,by simp only; omega⟩,fun k=>by simp only at k; omega,fun k=>by simp only at k; omega,h.even,h.lenR,h.lenW,h.nodup,fun hk=>h.locks (by simpa [locksB] using hk),fun hk=>h.gets (by simpa [getsB] using hk)⟩
  ·exact may_over
theorem may_close (h:May s) (hp:s.phase=6):May (closeS s sh).2:=by
 have h1:=h.thn
 have hv:validB s=true:=by unfold validB; simp [hp]
 rw [hv,if_pos rfl] at h1
 have h3:=h.at0 (by omega) (by omega)
 have hgt:getsB s=(s.thn == 2):=by simp [getsB,hp]
 have hlk:locksB s=(s.thn == 7):=by simp [locksB,hp]
 unfold closeS
 split
 ·rcases h1 with e | e
  ·have hg:=h.gets (by rw [hgt,e]; rfl)
   simp only [e]
   refine ⟨by simp,by simp [validB],fun hk=>by simp [getsB] at hk,fun _=>h.word (by omega),fun _ _=>rfl,fun _ _=>h3,fun h=>by simp at h,fun h=>by simp at h,fun h=>by simp at h,⟨h.even.2,by simp⟩,h.lenR,h.lenW,h.nodup,fun hk=>by simp [locksB] at hk,fun _=>hg⟩
  ·have hk:=h.locks (by rw [hlk,e]; rfl)
   have ha:=h.addr (by rw [hgt,e]; rfl)
   simp only [e]
   refine ⟨by simp,by simp [validB],fun _=>ha,fun _=>h.word (by omega),fun _ _=>rfl,fun _ _=>h3,fun h=>by simp at h,fun h=>by simp at h,fun h=>by simp at h,⟨h.even.2,by simp⟩,h.lenR,h.lenW,h.nodup,fun _=>hk,fun k=>by simp [getsB] at k⟩
 ·refine ⟨by simp,by simp [validB,h1],fun hk=>h.addr (by rw [hgt]; simpa [getsB] using hk),fun _=>h.word (by omega),fun _ _=>rfl,fun _ _=>h3,fun h=>by simp at h,fun h=>by simp at h,fun h=>by simp at h,⟨h.even.1,by simp⟩,h.lenR,h.lenW,h.nodup,fun hk=>h.locks (by rw [hlk]; simpa [locksB] using hk),fun hk=>h.gets (by rw [hgt]; simpa [getsB] using hk)⟩
theorem may_lock (h:May s) (hp:s.phase=1∨s.phase=7) (hw:s.writes≠[]):May (lockS s sh).2.1:=by
 have hv:validB s=false:=by unfold validB; rcases hp with e | e <;> simp [e]
 have h1:=h.thn
 rw [hv,if_neg (by simp)] at h1
 have h3:=h.at0 (by omega) (by omega)
 have hf:=h.found (by omega) (by omega)
 have ha:s.addr=0:=h.addr (by unfold getsB; rcases hp with e | e <;> simp [e,h1])
 unfold lockS
 split
 ·refine ⟨by simp,by simp [validB,h1],fun _=>ha,fun _=>h.word (by omega),fun _ _=>hf,fun _ h=>by simp at h,fun h=>by simp at h,fun _=>⟨by simp only; omega,by simp only; rw [h3]; have:=List.length_pos_iff.2 hw; omega⟩,fun h=>by simp at h,h.even,h.lenR,h.lenW,h.nodup,fun _=>hw,fun hk=>by simp [getsB,h1] at hk⟩
 ·refine ⟨by simp,by simp [validB],fun _=>ha,fun _=>h.word (by omega),fun _ _=>hf,fun _ _=>h3,fun h=>by simp at h,fun h=>by simp at h,fun h=>by simp at h,h.even,h.lenR,h.lenW,h.nodup,fun _=>hw,fun hk=>by simp [getsB] at hk⟩
theorem may_store (h:May s) (hp:s.phase=8):May (storeS s sh).2.1:=by
 have hv:validB s=false:=by unfold validB; simp [hp]
 have h1:=h.thn
 rw [hv,if_neg (by simp)] at h1
 have h8:=h.at8 hp
 have hw:=h.locks (by simp [locksB,hp])
 have hf:=h.found (by omega) (by omega)
 have ha:s.addr=0:=h.addr (by simp [getsB,hp,h1])
 unfold storeS
 split
 ·exact h
 ·simp only
  split
  ·refine ⟨by simp,by simp [validB,h1],fun _=>ha,fun _=>h.word (by omega),fun _ _=>hf,fun _ _=>rfl,fun h=>by simp at h,fun h=>by simp at h,fun h=>by simp at h,h.even,h.lenR,h.lenW,h.nodup,fun _=>hw,fun hk=>by simp [getsB,h1] at hk⟩
  ·refine ⟨h.ph,by have hv2:validB { s with at_:=s.at_+1 } = false:=hv; rw [if_neg (by rw [hv2]; simp)]; exact h1,fun _=>ha,fun k=>h.word k,fun k1 k2=>h.found k1 k2,fun _ k=>absurd hp k,fun k=>by simp only at k; omega,fun _=>⟨by simp only; omega,by simp only; omega⟩,fun k=>by simp only at k; omega,h.even,h.lenR,h.lenW,h.nodup,fun _=>hw,fun hk=>h.gets (by simpa [getsB] using hk)⟩
theorem may_get (h:May s) (x:Int):May (getS s sh x).2.2:=by
 unfold getS
 split
 ·exact h
 ·rename_i hp
  split
  ·exact h
  ·rename_i hpl
   split
   ·exact h
   ·split
    ·exact h
    ·exact may_load h (.inl (by omega)) x (by omega) (place_none hpl)
theorem may_put (h:May s) (x v:Int):May (putS s sh x v).2.2:=by
 unfold putS
 split
 ·exact h
 ·rename_i hp
  have hp1:s.phase=1:=by omega
  have hv:validB s=false:=by unfold validB; simp [hp1]
  have h1:=h.thn
  rw [hv,if_neg (by simp)] at h1
  have hg:getsB s=false:=by simp [getsB,hp1,h1]
  have hl:locksB s=false:=by simp [locksB,hp1,h1]
  split
  ·exact h
  ·split
   ·rename_i k hk
    exact ⟨h.ph,h.thn,h.addr,h.word,h.found,h.at0,fun k=>by simp only at k; omega,fun k=>by simp only at k; omega,fun k=>by simp only at k; omega,h.even,h.lenR,by simpa using h.lenW,by simp only; rw [set_map hk]; exact h.nodup,(fun k=>by have:locksB s=true:=k; rw [hl] at this; cases this),(fun k=>by have:getsB s=true:=k; rw [hg] at this; cases this)⟩
   ·rename_i hk
    split
    ·refine ⟨h.ph,h.thn,h.addr,h.word,h.found,h.at0,fun k=>by simp only at k; omega,fun k=>by simp only at k; omega,fun k=>by simp only at k; omega,h.even,h.lenR,by simp; omega,?_,(fun k=>by have:locksB s=true:=k; rw [hl] at this; cases this),(fun k=>by have:getsB s=true:=k; rw [hg] at this; cases this)⟩
     simp only [List.map_append,List.map_cons,List.map_nil]
     rw [List.nodup_append]
     exact ⟨h.nodup,by simp,fun a ha b hb=>by simp at hb; subst hb; rintro rfl; exact place_none hk ha⟩
    ·exact h
theorem may_end (h:May s):May (endS s sh).2.2.1:=by
 unfold endS
 split
 ·exact h
 ·split
  ·exact may_over
  ·exact may_lock h (.inl (by omega)) (by assumption)
theorem may_step (h:May s) (hc:sh.clock % 2=0∨sh.clock % 2=1):May (stepS s sh).2.2.1:=by
 unfold stepS
 split
 ·rename_i hp
  have hg:=h.gets (by simp [getsB,hp])
  split
  ·exact may_load (sh:=sh) h (.inr hp) s.addr hg.1 hg.2
  ·exact h
 ·split
  ·exact may_look h (by assumption)
  ·split
   ·exact may_wait h (by assumption) hc
   ·split
    ·exact may_check h (by assumption)
    ·split
     ·exact may_close h (by assumption)
     ·split
      ·rename_i hp
       exact may_lock h (.inr hp) (h.locks (by simp [locksB,hp]))
      ·split
       ·exact may_store h (by assumption)
       ·split
        ·exact may_over
        ·exact h
end
structure WideSh (sh:Sh):Prop where
 row:∀ v ∈ sh.row,0≤v∧v<18446744073709551616
 clock:0≤sh.clock∧sh.clock<18446744073709551616
theorem WideSh.par {sh:Sh} (h:WideSh sh):sh.clock % 2=0∨sh.clock % 2=1:=by have:=h.clock; omega
theorem wide_over:Wide overS:=⟨by simp [overS],by simp [overS],by simp [overS],by simp [overS],by simp [overS],by simp [overS]⟩
theorem wide_fresh {n:Int} (h:0≤n∧n<18446744073709551616):Wide (fresh n):=⟨h,by simp [fresh],by simp [fresh],by simp [fresh],by simp [fresh],by simp [fresh]⟩
theorem wd_wide {row:List Int} (h:∀ v ∈ row,0≤v∧v<18446744073709551616) (i:Nat):0≤wd row i∧wd row i<18446744073709551616:=by
 unfold wd
 by_cases hi:i<row.length
 ·rw [List.getD_eq_getElem?_getD,List.getElem?_eq_getElem hi]
  exact h _ (List.getElem_mem hi)
 ·rw [List.getD_eq_getElem?_getD,List.getElem?_eq_none (by omega)]
  exact ⟨by simp,by simp⟩
theorem loadW_wide {row:List Int} (h:∀ v ∈ row,0≤v∧v<18446744073709551616) (x:Int):0≤loadW row x∧loadW row x<18446744073709551616:=by
 unfold loadW
 split
 ·exact wd_wide h _
 ·exact ⟨by simp,by simp⟩
theorem storeW_wide {row:List Int} (h:∀ v ∈ row,0≤v∧v<18446744073709551616) (x v:Int) (hv:0≤v∧v<18446744073709551616):∀ u ∈ storeW row x v,0≤u∧u<18446744073709551616:=by
 unfold storeW
 split
 ·intro u hu
  rcases List.mem_or_eq_of_mem_set hu with h1 | h1
  ·exact h u h1
  ·rw [h1]; exact hv
 ·exact h
section
variable {s:AS} {sh:Sh}
theorem wide_load (h:Wide s) (hs:WideSh sh) {x:Int} (hx:0≤x∧x<18446744073709551616):Wide (loadS { s with addr:=x } sh).2:=
 ⟨h.snap,h.reads,h.writes,hx,loadW_wide hs.row _,h.found⟩
theorem wsh_free (hs:WideSh sh):WideSh (freeS s sh).2.2:=by
 unfold freeS
 simp only
 split
 ·exact ⟨hs.row,by simp only; omega⟩
 ·exact hs
theorem wide_put (h:Wide s) {x v:Int} (hx:0≤x∧x<18446744073709551616) (hv:0≤v∧v<18446744073709551616):Wide (putS s sh x v).2.2:=by
 unfold putS
 split
 ·exact h
 ·split
  ·exact h
  ·split
   ·refine ⟨h.snap,h.reads,fun c hc=>?_,h.addr,h.word,h.found⟩
    rcases List.mem_or_eq_of_mem_set hc with h1 | h1
    ·exact h.writes c h1
    ·rw [h1]; exact ⟨hx,hv⟩
   ·split
    ·refine ⟨h.snap,h.reads,fun c hc=>?_,h.addr,h.word,h.found⟩
     rcases List.mem_append.1 hc with hc | hc
     ·exact h.writes c hc
     ·rw [List.mem_singleton] at hc; subst hc; exact ⟨hx,hv⟩
    ·exact h
theorem len_free:(freeS s sh).2.2.row=sh.row:=by unfold freeS; simp only; split <;> rfl
end
end Go.Proofs.YtehopaabfoopeaaGreat
set_option linter.unusedSimpArgs false
set_option linter.unusedVariables false
set_option maxRecDepth 100000
namespace Go.Proofs.YtehopaabfoopeaaGreat
open Go.RowKit
structure RowAt (w:World) (a b:Nat) (ws:List Int) (acc:Int):Prop where
 head:∃ cap,Blk w a [.slice (some ⟨b,0,none⟩) ws.length cap,.int .u64 acc] 78∧∃ spare:List Value,Blk w b (ws.map (Value.int .u64) ++ spare) 23∧ws.length+spare.length=cap
 len1:1≤ws.length
 len2:ws.length≤65536
 ne:a≠b
section
variable {w w':World} {a b:Nat} {ws:List Int} {acc:Int}
theorem RowAt.lta (h:RowAt w a b ws acc):a<w.heap.size:=let ⟨_,h,_⟩:=h.head; h.lt
theorem RowAt.ltb (h:RowAt w a b ws acc):b<w.heap.size:=let ⟨_,_,_,h,_⟩:=h.head; h.lt
theorem RowAt.c1 (h:RowAt w a b ws acc):w.cell? ⟨a,1,none⟩=some (.int .u64 acc):=let ⟨_,h,_⟩:=h.head; h.cell 1 rfl
theorem RowAt.c0 (h:RowAt w a b ws acc):∃ cap,w.cell? ⟨a,0,none⟩=some (.slice (some ⟨b,0,none⟩) ws.length cap):=let ⟨cap,h,_⟩:=h.head; ⟨cap,h.cell 0 rfl⟩
theorem RowAt.fa (h:RowAt w a b ws acc) (o:Nat):w.frozen? ⟨a,o,none⟩=false:=let ⟨_,h,_⟩:=h.head; h.free o
theorem RowAt.fb (h:RowAt w a b ws acc) (o:Nat):w.frozen? ⟨b,o,none⟩=false:=let ⟨_,_,_,h,_⟩:=h.head; h.free o
theorem RowAt.cw (h:RowAt w a b ws acc) (i:Nat) (hi:i<ws.length):w.cell? ⟨b,i,none⟩=some (.int .u64 (wd ws i)):=
 let ⟨_,_,_,h,_⟩:=h.head; h.cell i (by rw [List.getElem?_append_left (by simpa using hi)]; simp [hi,wd_get])
theorem RowAt.upd {S:List Nat} (h:RowAt w a b ws acc) (k:Upd S w w') (ha:a ∉ S) (hb:b ∉ S):RowAt w' a b ws acc:=
 let ⟨cap,h1,sp,h2,h3⟩:=h.head; ⟨⟨cap,h1.upd k ha,sp,h2.upd k hb,h3⟩,h.len1,h.len2,h.ne⟩
theorem RowAt.acc' (h:RowAt w a b ws acc) (x:Int):RowAt (w.setCell ⟨a,1,none⟩ (.int .u64 x)) a b ws x:=
 let ⟨cap,h1,sp,h2,h3⟩:=h.head; ⟨⟨cap,h1.set 1 _,sp,h2.other _ _ h.ne.symm,h3⟩,h.len1,h.len2,h.ne⟩
theorem RowAt.put (h:RowAt w a b ws acc) (i:Nat) (hi:i<ws.length) (x:Int):RowAt (w.setCell ⟨b,i,none⟩ (.int .u64 x)) a b (ws.set i x) acc:=
 let ⟨cap,h1,sp,h2,h3⟩:=h.head; ⟨⟨cap,by simpa using h1.other _ _ h.ne,sp,by have:=h2.set i (.int .u64 x); rwa [List.set_append_left _ _ (by simpa using hi),← List.map_set] at this,by simpa using h3⟩,by simpa using h.len1,by simpa using h.len2,h.ne⟩
end
def up64 (n:Int):Int:=IntKind.u64.wrap (n+1)
theorem at_in {w:World} {a b:Nat} {ws:List Int} {acc:Int} (h:RowAt w a b ws acc) (i:Int) (hi:0≤i) (hi2:i<ws.length) :
  Calls Tryz.prog 52 #[.pointer (some ⟨a,0,none⟩),.int .u64 i] w fun e w'=>e=.returned (.tuple #[.pointer (some ⟨b,i.toNat,none⟩),.int .i64 0])∧w.setCell ⟨a,1,none⟩ (.int .u64 (up64 acc))=w':=by
 obtain ⟨cap,h0⟩:=h.c0
 have h1:=h.c1
 have hf:=h.fa 1
 have hn:=h.len2
 go_enter Tryz.func52,Tryz.ntmps52
 go_wp2
 go_ret2
 exact ⟨rfl,rfl⟩
theorem at_out {w:World} {a b:Nat} {ws:List Int} {acc:Int} (h:RowAt w a b ws acc) (i:Int) (hi2:ws.length≤i) :
  Calls Tryz.prog 52 #[.pointer (some ⟨a,0,none⟩),.int .u64 i] w fun e w'=>e=.returned (.tuple #[.pointer none,.int .i64 4])∧w.setCell ⟨a,1,none⟩ (.int .u64 (up64 acc))=w':=by
 obtain ⟨cap,h0⟩:=h.c0
 have h1:=h.c1
 have hf:=h.fa 1
 have hn:=h.len2
 have hd:decide (i<(ws.length:Int))=false:=by simpa using hi2
 go_enter Tryz.func52,Tryz.ntmps52
 go_wp2
 go_ret2
 exact ⟨rfl,rfl⟩
def rLoad (ws:List Int) (i:Int):Int × Int:=if i<ws.length then (wd ws i.toNat,0) else (0,4)
theorem load_any {w:World} {a b:Nat} {ws:List Int} {acc:Int} (h:RowAt w a b ws acc) (i:Int) (hi:0≤i) :
  Calls Tryz.prog 29 #[.pointer (some ⟨a,0,none⟩),.int .u64 i] w fun e w'=>e=.returned (.tuple #[.int .u64 (rLoad ws i).1,.int .i64 (rLoad ws i).2])∧RowAt w' a b ws (up64 acc)∧Upd [a] w w':=by
 have hu:Upd [a] w (w.setCell ⟨a,1,none⟩ (.int .u64 (up64 acc))):=(Upd.refl _ _).setCell (.inl (by simp)) _
 have hr:=h.acc' (up64 acc)
 by_cases hi2:i<ws.length
 ·have hc:=h.cw i.toNat (by omega)
  have hne:=h.ne
  have hx:rLoad ws i=(wd ws i.toNat,0):=if_pos hi2
  have HX:=Lib.hid hx
  clear hx
  go_enter Tryz.func29,Tryz.ntmps29
  go_wp2_with (go_at_call 52; refine (at_in h i hi hi2).mono ?_; rintro e w' ⟨rfl,rfl⟩)
  go_ret2
  rw [HX.out]
  exact ⟨rfl,hr,hu⟩
 ·have hx:rLoad ws i=(0,4):=if_neg hi2
  rw [hx]
  go_enter Tryz.func29,Tryz.ntmps29
  go_wp2_with (go_at_call 52; refine (at_out h i (by omega)).mono ?_; rintro e w' ⟨rfl,rfl⟩)
  go_ret2
  exact ⟨rfl,hr,hu⟩
theorem store_any {w:World} {a b:Nat} {ws:List Int} {acc:Int} (h:RowAt w a b ws acc) (i x:Int) (hi:0≤i) :
  Calls Tryz.prog 106 #[.pointer (some ⟨a,0,none⟩),.int .u64 i,.int .u64 x] w fun e w'=>e=.returned (.int .i64 (rLoad ws i).2)∧RowAt w' a b (ws.set i.toNat x) (up64 acc)∧Upd [a,b] w w':=by
 have hu:Upd [a,b] w (w.setCell ⟨a,1,none⟩ (.int .u64 (up64 acc))):=(Upd.refl _ _).setCell (.inl (by simp)) _
 have hr:=h.acc' (up64 acc)
 by_cases hi2:i<ws.length
 ·have hc:=hr.cw i.toNat (by omega)
  have hf:=hr.fb i.toNat
  have hx:rLoad ws i=(wd ws i.toNat,0):=if_pos hi2
  have HX:=Lib.hid hx
  clear hx
  go_enter Tryz.func106,Tryz.ntmps106
  go_wp2_with (go_at_call 52; refine (at_in h i hi hi2).mono ?_; rintro e w' ⟨rfl,rfl⟩)
  go_ret
  rw [HX.out]
  exact ⟨rfl,hr.put i.toNat (by omega) x,hu.setCell (.inl (by simp)) _⟩
 ·have hx:rLoad ws i=(0,4):=if_neg hi2
  rw [hx,List.set_eq_of_length_le (by omega)]
  go_enter Tryz.func106,Tryz.ntmps106
  go_wp2_with (go_at_call 52; refine (at_out h i (by omega)).mono ?_; rintro e w' ⟨rfl,rfl⟩)
  go_ret
  exact ⟨rfl,hr,hu⟩
def rHit (ws:List Int) (i old:Int):Bool:=decide (i<ws.length) && (wd ws i.toNat == old)
theorem swap_any {w:World} {a b:Nat} {ws:List Int} {acc:Int} (h:RowAt w a b ws acc) (i old x:Int) (hi:0≤i) :
  Calls Tryz.prog 117 #[.pointer (some ⟨a,0,none⟩),.int .u64 i,.int .u64 old,.int .u64 x] w fun e w' =>
   e=.returned (.tuple #[.bool (rHit ws i old),.int .i64 (rLoad ws i).2])∧RowAt w' a b (if rHit ws i old then ws.set i.toNat x else ws) (up64 acc)∧Upd [a,b] w w':=by
 have hu:Upd [a,b] w (w.setCell ⟨a,1,none⟩ (.int .u64 (up64 acc))):=(Upd.refl _ _).setCell (.inl (by simp)) _
 have hr:=h.acc' (up64 acc)
 by_cases hi2:i<ws.length
 ·have hc:=hr.cw i.toNat (by omega)
  have hf:=hr.fb i.toNat
  have hx:rLoad ws i=(wd ws i.toNat,0):=if_pos hi2
  have hy:rHit ws i old=(wd ws i.toNat == old):=by simp [rHit,hi2]
  rw [hx,hy]
  clear hx hy
  obtain ⟨v,hv⟩:∃ v,v=wd ws i.toNat:=⟨_,rfl⟩
  rw [← hv] at hc ⊢
  clear hv
  by_cases ho:v=old
  ·subst ho
   refine calls_to (R:=fun e w'=>e=.returned (.tuple #[.bool true,.int .i64 0])∧(w.setCell ⟨a,1,none⟩ (.int .u64 (up64 acc))).setCell ⟨b,i.toNat,none⟩ (.int .u64 x)=w') ?_
    (fun e w' ⟨he,hw⟩=>⟨by rw [he]; simp,by rw [if_pos (by simp),← hw]; exact hr.put i.toNat (by omega) x,by rw [← hw]; exact hu.setCell (.inl (by simp)) _⟩)
   have h2:(v != v)=false:=by simp
   go_enter Tryz.func117,Tryz.ntmps117
   go_wp2_with (go_at_call 52; refine (at_in h i hi hi2).mono ?_; rintro e w' ⟨rfl,rfl⟩)
   go_ret2
   exact ⟨rfl,rfl⟩
  ·have h1:(v == old)=false:=by simp [ho]
   have h2:(v != old)=true:=by simp [ho]
   rw [h1]
   clear h1
   refine calls_to (R:=fun e w'=>e=.returned (.tuple #[.bool false,.int .i64 0])∧w.setCell ⟨a,1,none⟩ (.int .u64 (up64 acc))=w') ?_
    (fun e w' ⟨he,hw⟩=>⟨he,by rw [if_neg (by simp),← hw]; exact hr,by rw [← hw]; exact hu⟩)
   go_enter Tryz.func117,Tryz.ntmps117
   go_wp2_with (go_at_call 52; refine (at_in h i hi hi2).mono ?_; rintro e w' ⟨rfl,rfl⟩)
   go_ret2
   exact ⟨rfl,rfl⟩
 ·have hx:rLoad ws i=(0,4):=if_neg hi2
  have hy:rHit ws i old=false:=by simp [rHit,hi2]
  rw [hx,hy]
  go_enter Tryz.func117,Tryz.ntmps117
  go_wp2_with (go_at_call 52; refine (at_out h i (by omega)).mono ?_; rintro e w' ⟨rfl,rfl⟩)
  go_ret2
  exact ⟨rfl,hr,hu⟩
theorem info_u64:(Tryz.prog.info? 23).map (fun i=>(i.zero,i.size,i.bytes))=some (some (.int .u64 0),1,8):=by kernel_rfl
theorem new_ok (n:Nat) (w:World) (hn:1≤n) (hn2:n≤65536) :
  Calls Tryz.prog 25 #[.int .i64 n] w fun e w'=>e=.returned (.tuple #[.pointer (some ⟨w.heap.size+1,0,none⟩),.int .i64 0]) ∧
   (w.alloc (.cells (zeros .u64 n) 23)).alloc (.cells #[.slice (some ⟨w.heap.size,0,none⟩) n n,.int .u64 0] 78)=w':=by
 have hmk:∀ w,(Instr.makeSlice 22 (.int .i64 n) (.int .i64 n)).run Tryz.prog w=.ok (.slice (some ⟨w.heap.size,0,none⟩) n n) (w.alloc (.cells (zeros .u64 n) 23)):=by
  intro w
  obtain ⟨i0,hi,hz0,hz1,hz2⟩:=info_parts info_u64
  have h:=run_make (P:=Tryz.prog) w 22 23 i0 (.int .u64 0) Tryz.underlying22 hi hz0 .i64 .i64 n n (by omega) (by omega) (by rw [hz2]; omega) (by omega)
  rw [hz1] at h
  simp only [Int.toNat_natCast] at h
  rw [h,zeros_made]
 go_enter Tryz.func25,Tryz.ntmps25
 go_wp2
 go_ret2
 exact ⟨rfl,rfl⟩
theorem new_bad (n:Int) (w:World) (hn:n<1∨65536<n) :
  Calls Tryz.prog 25 #[.int .i64 n] w fun e w'=>e=.returned (.tuple #[.pointer none,.int .i64 2])∧w=w':=by
 rcases hn with hn | hn
 ·have hd:decide (n<1)=true:=by simpa using hn
  go_enter Tryz.func25,Tryz.ntmps25
  go_wp2
  go_ret2
  exact ⟨rfl,rfl⟩
 ·have hd:decide (n<1)=false:=by simp; omega
  have hd2:decide (65536<n)=true:=by simpa using hn
  go_enter Tryz.func25,Tryz.ntmps25
  go_wp2
  go_ret2
  exact ⟨rfl,rfl⟩
theorem of_bad (p:Option Addr) (n cap:Nat) (w:World) (hn:n<1∨65536<n) (hm:n≤maxLen) :
  Calls Tryz.prog 5 #[.slice p n cap] w fun e w'=>e=.returned (.tuple #[.pointer none,.int .i64 2])∧w=w':=by
 unfold maxLen at hm
 go_enter Tryz.func5,Tryz.ntmps5
 go_wp2_with (go_at_call 25; refine (new_bad _ _ (by omega)).mono ?_; rintro e w' ⟨rfl,rfl⟩)
 go_ret2
 exact ⟨rfl,rfl⟩
def MadeRow (w:World) (ws:List Int) (e:Ending) (w':World):Prop:=
 ∃ a b,e=.returned (.tuple #[.pointer (some ⟨a,0,none⟩),.int .i64 0])∧RowAt w' a b ws 0∧w.heap.size≤a∧w.heap.size≤b∧Upd [] w w'
theorem made_row (w:World) (zs:List Int) (hn:1≤zs.length) (hn2:zs.length≤65536) :
  RowAt (((w.alloc (.cells (zeros .u64 zs.length) 23)).alloc (.cells #[.slice (some ⟨w.heap.size,0,none⟩) zs.length zs.length,.int .u64 0] 78)).setRow w.heap.size (zs.map (Value.int .u64)).toArray) (w.heap.size+1) w.heap.size zs 0:=by
 have h0:Blk (w.alloc (.cells (zeros .u64 zs.length) 23)) w.heap.size ((List.replicate zs.length (0:Int)).map (Value.int .u64)) 23:=Blk.new w _ _
 have h1:Blk ((w.alloc (.cells (zeros .u64 zs.length) 23)).alloc (.cells #[.slice (some ⟨w.heap.size,0,none⟩) zs.length zs.length,.int .u64 0] 78)) (w.heap.size+1) [.slice (some ⟨w.heap.size,0,none⟩) zs.length zs.length,.int .u64 0] 78:=by
  have:=Blk.new (w.alloc (.cells (zeros .u64 zs.length) 23)) [.slice (some ⟨w.heap.size,0,none⟩) zs.length zs.length,.int .u64 0] 78
  simpa using this
 have h2:=(h0.alloc (.cells #[.slice (some ⟨w.heap.size,0,none⟩) zs.length zs.length,.int .u64 0] 78)).setRow (zs.map (Value.int .u64))
 refine ⟨⟨zs.length,?_,[],by simpa using h2,by simp⟩,hn,hn2,by omega⟩
 exact h1.same (setRow_other _ _ _ _ (by omega))
theorem of_ok (p:Option Addr) (cap:Nat) (zs:List Int) (w:World) (h:SlI w .u64 p zs) (hn:1≤zs.length) (hn2:zs.length≤65536) :
  Calls Tryz.prog 5 #[.slice p zs.length cap] w (MadeRow w zs):=by
 have hz:zs≠[]:=fun e=>by subst e; simp at hn
 refine calls_to (R:=fun e w'=>e=.returned (.tuple #[.pointer (some ⟨w.heap.size+1,0,none⟩),.int .i64 0]) ∧
  (((w.alloc (.cells (zeros .u64 zs.length) 23)).alloc (.cells #[.slice (some ⟨w.heap.size,0,none⟩) zs.length zs.length,.int .u64 0] 78)).setRow w.heap.size (zs.map (Value.int .u64)).toArray)=w') ?_
  (fun e w' ⟨he,hw⟩=>⟨w.heap.size+1,w.heap.size,he,by rw [← hw]; exact made_row w zs hn hn2,by omega,by omega,by rw [← hw]; exact (((Upd.refl _ _).alloc _).alloc _).setRow (.inr (by omega)) _⟩)
 obtain ⟨ad,hp,hsrc⟩:=h.src hz
 subst hp
 have hcp:=run_copy_row (P:=Tryz.prog) ((w.alloc (.cells (zeros .u64 zs.length) 23)).alloc (.cells #[.slice (some ⟨w.heap.size,0,none⟩) zs.length zs.length,.int .u64 0] 78)) 22 22 3 23 w.heap.size 0 zs.length zs.length ad zs.length cap
  (zeros .u64 zs.length) 23 (zs.map (Value.int .u64)) Tryz.underlying22 (by obtain ⟨i0,hi,hz0,hz1,hz2⟩:=info_parts info_u64; rw [hi]; simp [hz1])
  (((Blk.new w ((List.replicate zs.length (0:Int)).map (Value.int .u64)) 23).alloc _)) (by simp)
  (fun j v hj=>by
   have hc:=hsrc j v hj
   have hb:=World.block_lt_of_cell? w _ hc
   rw [World.cell?_alloc_lt _ _ _ (by simp; omega),World.cell?_alloc_lt _ _ _ hb]
   exact hc)
  (by simp [zeros]) (fun v hv=>by simp at hv; obtain ⟨x,_,rfl⟩:=hv; rfl)
 go_enter Tryz.func5,Tryz.ntmps5
 go_wp2_with (go_at_call 25; refine (new_ok _ _ (by omega) (by omega)).mono ?_; rintro e w' ⟨rfl,rfl⟩)
 go_ret2
 exact ⟨rfl,by simp [zeros]⟩
theorem made_true {w:World} {a b:Nat} {ws:List Int} {acc:Int} (h:RowAt w a b ws acc) :
  Calls Tryz.prog 47 #[.pointer (some ⟨a,0,none⟩)] w fun e w'=>e=.returned (.bool true)∧w=w':=by
 obtain ⟨cap,h0⟩:=h.c0
 go_enter Tryz.func47,Tryz.ntmps47
 go_wp2
 go_ret
 exact ⟨rfl,rfl⟩
def MadeInts (w:World) (zs:List Int) (e:Ending) (w':World):Prop:=
 ∃ g spare,e=.returned (.slice (some ⟨g,0,none⟩) zs.length (zs.length+List.length spare))∧(w.heap.size≤g∧zs.length+List.length spare≤maxLen)∧Blk w' g (zs.map (Value.int .u64) ++ spare) 23∧Upd [] w w'
theorem clone_ok (ad:Addr) (cap:Nat) (zs:List Int) (w:World) (h:SlI w .u64 (some ad) zs) (hn:zs.length*8≤140737488355328) :
  Calls Tryz.prog 48 #[.slice (some ad) zs.length cap] w (MadeInts w zs):=by
 obtain ⟨i0,hi,hz0,hz1,hz2⟩:=info_parts info_u64
 have hnil:∀ (w:World) (ad:Addr) (n c:Nat),(binOp .eql 22 (.slice (some ad) n c) (.slice none 0 0)).run Tryz.prog w=.ok (.bool false) w:=fun w ad n c=>Lib.run_eql_slice_nil w _ _ (some ad) n c 0 0 Tryz.underlying22
 by_cases hz:zs=[]
 ·subst hz
  refine calls_to (R:=fun e w'=>e=.returned (.slice (some ⟨w.heap.size,0,none⟩) 0 0)∧(w.alloc (.cells #[] 23))=w') ?_
   (fun e w' ⟨he,hw⟩=>⟨w.heap.size,[],he,⟨by omega,by simp [maxLen]⟩,by rw [← hw]; exact Blk.new w [] _,by rw [← hw]; exact (Upd.refl _ _).alloc _⟩)
  have hr:=run_append_room (P:=Tryz.prog) (w.alloc (.cells #[] 23)) 22 22 23 i0 Tryz.underlying22 hi w.heap.size 0 0 #[] (heap_alloc_new w _) ad 0 cap [] (by simp) (by simp) (by simp) (by simp) (by simp)
  have hsr:(w.alloc (.cells #[] 23)).setRow w.heap.size #[]=w.alloc (.cells #[] 23):=setRow_self _ _ _ _ _ (heap_alloc_new w _)
  simp only [List.take_nil,List.drop_nil,List.append_nil,Nat.add_zero,Nat.zero_mul,List.length_nil] at hr
  rw [hsr] at hr
  go_enter Tryz.func48,Tryz.ntmps48
  go_wp2_with (at_builtin; refine wpList_append_eq rfl _ _ _ _ rfl _ _ _ rfl rfl hr ?_)
  go_ret
  exact ⟨rfl,rfl⟩
 ·obtain ⟨ad',e,hsrc⟩:=h.src hz
  cases e
  have hpos:0<zs.length:=List.length_pos_iff.2 hz
  have hcap:grownCap (w.alloc (.cells #[] 23)) (0+zs.length) 0 23 ≥ zs.length:=by have:=grownCap_ge (w.alloc (.cells #[] 23)) (0+zs.length) 0 23; omega
  have hr:=run_append_grow (P:=Tryz.prog) (w.alloc (.cells #[] 23)) 22 22 23 i0 (.int .u64 0) Tryz.underlying22 hi hz0 ⟨w.heap.size,0,none⟩ 0 0 [] (by simp) (by simp) ad zs.length cap (zs.map (Value.int .u64)) (by simp [hz1])
   (fun j v hj=>by
    have hc:=hsrc j v hj
    rw [World.cell?_alloc_lt _ _ _ (World.block_lt_of_cell? w _ hc)]
    exact hc) (by omega) (by omega) (growslice_fits (by omega) (by rw [hz2]; omega))
  have hcapm:grownCap (w.alloc (.cells #[] 23)) (0+zs.length) 0 23≤maxLen:=grownCap_le_maxLen _ _ _ _ (by unfold maxLen; omega)
  obtain ⟨cp,hcp⟩:∃ cp,cp=grownCap (w.alloc (.cells #[] 23)) (0+zs.length) 0 23:=⟨_,rfl⟩
  rw [← hcp] at hr hcap hcapm
  clear hcp
  obtain ⟨C,hC⟩:∃ C:Array Value,C=(List.toArray [] ++ (zs.map (Value.int .u64)).toArray ++ Builtin.zeroCells (Value.int .u64 0).cells (cp - (0+zs.length))):=⟨_,rfl⟩
  rw [← hC] at hr
  have hC2:C=(zs.map (Value.int .u64) ++ (Builtin.zeroCells (Value.int .u64 0).cells (cp - zs.length)).toList).toArray:=by rw [hC]; apply Array.ext'; simp
  clear hC
  simp only [Nat.zero_add,World.size_alloc] at hr
  refine calls_to (R:=fun e w'=>e=.returned (.slice (some ⟨w.heap.size+1,0,none⟩) zs.length cp)∧(((w.alloc (.cells #[] 23)).alloc (.cells C 23)).drew)=w') ?_
   (fun e w' ⟨he,hw⟩=>⟨w.heap.size+1,(Builtin.zeroCells (Value.int .u64 0).cells (cp - zs.length)).toList,by
    rw [he]; congr 2
    have:(Builtin.zeroCells (Value.int .u64 0).cells (cp - zs.length)).size=(cp - zs.length)*1:=size_zeroCells _ _
    simp at this; simp [this]; omega,⟨by omega,by
    have:(Builtin.zeroCells (Value.int .u64 0).cells (cp - zs.length)).size=(cp - zs.length)*1:=size_zeroCells _ _
    simp at this; simp [this]; omega⟩,by rw [← hw,hC2]; have:=Blk.new (w.alloc (.cells #[] 23)) (zs.map (Value.int .u64) ++ (Builtin.zeroCells (Value.int .u64 0).cells (cp - zs.length)).toList) 23; simp only [World.size_alloc] at this; exact this.drew,
    by rw [← hw]; exact ((Upd.refl _ _).alloc _ |>.alloc _).drew⟩)
  clear hC2
  go_enter Tryz.func48,Tryz.ntmps48
  go_wp2_with (at_builtin; refine wpList_append_eq rfl _ _ _ _ rfl _ _ _ rfl rfl hr ?_)
  go_ret
  exact ⟨rfl,rfl⟩
end Go.Proofs.YtehopaabfoopeaaGreat
set_option linter.unusedSimpArgs false
set_option linter.unusedVariables false
set_option maxRecDepth 100000
namespace Go.Proofs.YtehopaabfoopeaaGreat
open Go.RowKit
theorem load_is {w:World} {a b:Nat} {ws:List Int} {acc:Int} (h:RowAt w a b ws acc) (i v e0 acc':Int) (hi:0≤i) (hv:rLoad ws i=(v,e0)) (ha:up64 acc=acc') :
  Calls Tryz.prog 29 #[.pointer (some ⟨a,0,none⟩),.int .u64 i] w fun e w'=>e=.returned (.tuple #[.int .u64 v,.int .i64 e0])∧RowAt w' a b ws acc'∧Upd [a] w w':=by
 have k:=load_any h i hi
 rw [hv,ha] at k
 exact k
theorem store_is {w:World} {a b:Nat} {ws:List Int} {acc:Int} (h:RowAt w a b ws acc) (i x e0 acc':Int) (ws':List Int) (hi:0≤i) (hv:(rLoad ws i).2=e0) (hs:ws.set i.toNat x=ws') (ha:up64 acc=acc') :
  Calls Tryz.prog 106 #[.pointer (some ⟨a,0,none⟩),.int .u64 i,.int .u64 x] w fun e w'=>e=.returned (.int .i64 e0)∧RowAt w' a b ws' acc'∧Upd [a,b] w w':=by
 have k:=store_any h i x hi
 rw [hv,hs,ha] at k
 exact k
end Go.Proofs.YtehopaabfoopeaaGreat
set_option linter.unusedSimpArgs false
set_option linter.unusedVariables false
set_option maxRecDepth 100000
namespace Go.Proofs.YtehopaabfoopeaaGreat
open Go.RowKit
theorem len_row {w:World} {a b:Nat} {ws:List Int} {acc:Int} (h:RowAt w a b ws acc) :
  Calls Tryz.prog 62 #[.pointer (some ⟨a,0,none⟩)] w fun e w'=>e=.returned (.int .i64 ws.length)∧w=w':=by
 obtain ⟨cap,h0⟩:=h.c0
 have hn:=h.len2
 refine calls_all fun K hK=>?_
 go_enter Tryz.func62,Tryz.ntmps62
 go_wp2
 all_goals exact ⟨rfl,rfl⟩
theorem has_row {w:World} {a b:Nat} {ws:List Int} {acc:Int} (h:RowAt w a b ws acc) (i:Int) :
  Calls Tryz.prog 80 #[.pointer (some ⟨a,0,none⟩),.int .u64 i] w fun e w'=>e=.returned (.bool (decide (i<ws.length)))∧w=w':=by
 obtain ⟨cap,h0⟩:=h.c0
 have hn:=h.len2
 refine calls_all fun K hK=>?_
 go_enter Tryz.func80,Tryz.ntmps80
 go_wp2
 all_goals exact ⟨rfl,rfl⟩
def SliceOk (w:World) (zs:List Int) (e:Ending) (w':World):Prop:=
 ∃ g spare,e=.returned (.tuple #[.slice (some ⟨g,0,none⟩) zs.length (zs.length+List.length spare),.int .i64 0])∧(w.heap.size≤g∧zs.length+List.length spare≤maxLen)∧Blk w' g (zs.map (Value.int .u64) ++ spare) 23∧Upd [] w w'
theorem slice_row_ok {w:World} {a b:Nat} {ws:List Int} {acc:Int} (h:RowAt w a b ws acc) (x y:Nat) (hxy:x≤y) (hy:y≤ws.length) :
  Calls Tryz.prog 61 #[.pointer (some ⟨a,0,none⟩),.int .u64 x,.int .u64 y] w (SliceOk w ((ws.drop x).take (y - x))):=by
 obtain ⟨cap,hb,sp,hb2,hcap⟩:=h.head
 have h0:=hb.cell 0 rfl
 have hn:=h.len2
 have d1:decide (y<x)=false:=by simp; omega
 have d2:decide (ws.length<y)=false:=by simp; omega
 have hl:((ws.drop x).take (y - x)).length=y - x:=by simp; omega
 have hx:(0:Int)≤(x:Int):=by omega
 have hy0:(0:Int)≤(y:Int):=by omega
 have hcy:(y:Int)≤(cap:Int):=by omega
 have hsl:∀ p,SlI w .u64 p ([]:List Int):=fun p=>SlI.nil _ _ _
 by_cases hz:x=y
 ·subst hz
  rw [Nat.sub_self,List.take_zero]
  refine calls_all fun K hK=>?_
  go_enter Tryz.func61,Tryz.ntmps61
  go_wp2_with fail
  refine (made_true h).mono ?_
  rintro e w' ⟨rfl,rfl⟩
  go_wp2_with fail
  refine (clone_ok _ _ [] _ (hsl _) (by simp)).mono ?_
  rintro e w' ⟨g,spare,rfl,hg,hb',hu⟩
  go_wp2
  exact ⟨g,spare,by simp,hg,hb',hu⟩
 ·have hs:SlI w .u64 (some ⟨b,x,none⟩) ((ws.drop x).take (y - x)):=by
   refine ⟨fun _=>⟨b,x,rfl⟩,fun b' o e i hi=>?_⟩
   simp at e
   obtain ⟨rfl,rfl⟩:=e
   rw [hl] at hi
   refine hb2.cell _ ?_
   rw [List.getElem?_append_left (by simp; omega),wd_get (by rw [hl]; exact hi)]
   simp
  have HS:=Lib.hid (clone_ok _ (y - x) _ _ hs (by rw [hl]; omega))
  rw [hl] at HS
  have hlt:(x:Int)<(y:Int):=by omega
  refine calls_all fun K hK=>?_
  go_enter Tryz.func61,Tryz.ntmps61
  go_wp2_with fail
  refine (made_true h).mono ?_
  rintro e w' ⟨rfl,rfl⟩
  go_wp2_with fail
  refine (HS.out).mono ?_
  rintro e w' ⟨g,spare,rfl,hg,hb',hu⟩
  rw [hl]
  go_wp2
  exact ⟨g,spare,by rw [hl]; rfl,hg,hb',hu⟩
theorem words_row {w:World} {a b:Nat} {ws:List Int} {acc:Int} (h:RowAt w a b ws acc) :
  Calls Tryz.prog 37 #[.pointer (some ⟨a,0,none⟩)] w (MadeInts w ws):=by
 have HS:=Lib.hid (slice_row_ok h 0 ws.length (by omega) (by omega))
 have hn:=h.len2
 rw [List.drop_zero,Nat.sub_zero,List.take_length] at HS
 refine calls_all fun K hK=>?_
 go_enter Tryz.func37,Tryz.ntmps37
 go_wp2_with fail
 refine (len_row h).mono ?_
 rintro e w' ⟨rfl,rfl⟩
 go_wp2_with fail
 refine (HS.out).mono ?_
 rintro e w' ⟨g,spare,rfl,hg,hb',hu⟩
 go_wp2
 exact ⟨g,spare,rfl,hg,hb',hu⟩
end Go.Proofs.YtehopaabfoopeaaGreat
