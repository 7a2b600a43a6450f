/- The document's step is the program's, plainly. No program in sight. No conditions. A new thread: its program copied; a load of many cells in a drawn region. The conditions are sizes. The document's thread: what a step asks; under. No conditions. The document's thread: a step inside. No conditions. -/
import Derived.Test.YtehopaabfoopeaaGreatTz21
import Derived.Test.YtehopaabfoopeaaGreatTz07
import Derived.Test.YtehopaabfoopeaaGreatTz06
import Derived.Deep.MidRow
import Derived.Test.YtehopaabfoopeaaGreatTz22
set_option linter.unusedSimpArgs false
set_option linter.unusedVariables false
set_option maxRecDepth 100000
namespace Go.Proofs.YtehopaabfoopeaaGreat
open Go.RowKit
section
variable {p:List Ins} {t:TS} {sh:Sh} {s:AS}
theorem op_cases {k:Int} (hfp:formedP p=true):(opAt p k=0∧isOp (opAt p k)=false)∨(opAt p k≠0∧isOp (opAt p k)=true∧1≤opAt p k∧opAt p k≤17):=by
 by_cases h0:opAt p k=0
 ·exact .inl ⟨h0,by rw [h0]; rfl⟩
 ·obtain ⟨h1,h2⟩:=opAt_in h0
  have hx:p[k.toNat]? = some (insAt p k):=by
   unfold insAt
   rw [if_neg (by omega),List.getD_eq_getElem?_getD,List.getElem?_eq_getElem (by omega)]
   rfl
  have hf:=formedP_at hfp hx
  have hi:isOp (insAt p k).op=true:=by
   by_cases hi:isOp (insAt p k).op=true
   ·exact hi
   ·exfalso
    simp only [Bool.not_eq_true] at hi
    unfold formed at hf
    rw [hi,Bool.false_and] at hf
    unfold formedF at hf
    simp at hf
  have hb:1≤(insAt p k).op∧(insAt p k).op≤17:=by simpa [isOp] using hi
  exact .inr ⟨h0,hi,hb⟩
theorem form_in {o:Int} (h:10≤o∧o≤17):((formI o).ins=true → o=13∨o=14∨o=15∨o=16)∧((formI o).out=true → o=10∨o=11∨o=12∨o=17):=by
 have hc:o=10∨o=11∨o=12∨o=13∨o=14∨o=15∨o=16∨o=17:=by omega
 rcases hc with rfl | rfl | rfl | rfl | rfl | rfl | rfl | rfl
 all_goals (constructor <;> intro k <;> first | omega | (exact absurd k (by decide)))
theorem idle_eq (hM:TMay p t) (hW:TWide t) (hw:WideSh sh) (hfp:formedP p=true) (hst:t.st=1) (hidle:∀ s,t.att=some s → s.phase=1):stepR p t.rt sh=asR (stepT p t sh):=by
 have hc1:¬ (t.rt.ins=true∧t.rt.a.phase≠1):=by
  rintro ⟨h1,h2⟩
  cases ha:t.att with
  | some s=>rw [rt_a ha] at h2; exact h2 (hidle s ha)
  | none=>have:t.rt.ins=t.ins:=rfl; rw [this] at h1; unfold TS.ins at h1; rw [ha] at h1; simp at h1
 have hc2:¬ (t.ins=true∧(attS t).phase≠1):=by
  rintro ⟨h1,h2⟩
  cases ha:t.att with
  | some s=>rw [show attS t=s from by unfold attS; rw [ha]; rfl] at h2; exact h2 (hidle s ha)
  | none=>unfold TS.ins at h1; rw [ha] at h1; simp at h1
 unfold stepR stepT
 rw [if_neg hc1,if_neg hc2]
 simp only
 rw [show t.rt.at_=t.at_ from rfl,show t.rt.ins=t.ins from rfl,show t.rt.fuel=t.fuel from rfl]
 rcases op_cases (k:=t.at_) hfp with ⟨h0,hi⟩ | ⟨h0,hi,hlo,hhi⟩
 ·rw [if_pos (.inl h0),if_pos (.inl hi),fail_as]
 ·by_cases hb:(t.ins=true∧(formI (opAt p t.at_)).ins=false)∨(t.ins=false∧(formI (opAt p t.at_)).out=false)
  ·rw [if_pos (.inr hb),if_pos (.inr hb),fail_as]
  ·have hb1:¬ (opAt p t.at_=0∨(t.ins=true∧(formI (opAt p t.at_)).ins=false)∨(t.ins=false∧(formI (opAt p t.at_)).out=false)):=fun k=>k.elim h0 hb
   have hb2:¬ (isOp (opAt p t.at_)=false∨(t.ins=true∧(formI (opAt p t.at_)).ins=false)∨(t.ins=false∧(formI (opAt p t.at_)).out=false)):=fun k=>k.elim (by rw [hi]; simp) hb
   rw [if_neg hb1,if_neg hb2]
   by_cases hf:t.ins=true∧t.fuel=4096
   ·rw [if_pos hf,if_pos hf,fail_as]
   ·rw [if_neg hf,if_neg hf,← fuel_rt]
    have hfa:=fuelT_at t
    have hins:(fuelT t).ins=t.ins:=by unfold TS.ins; rw [fuelT_att]
    by_cases h9:opAt p t.at_≤9
    ·obtain ⟨t',h1,h2⟩:=plain_eq (p:=p) (t:=fuelT t) (sh:=sh) (by rw [hfa]; exact ⟨h9,hlo⟩)
     rw [hfa] at h1
     rw [h1,h2]
     rfl
    ·have hr:10≤opAt p t.at_∧opAt p t.at_≤17:=by omega
     obtain ⟨hfi,hfo⟩:=form_in hr
     obtain ⟨h1,h2⟩:=shared_eq (p:=p) (t:=fuelT t) (sh:=sh) (tmay_fuel hM hf) (by rw [fuelT_att]; exact hidle) (by rw [fuelT_att]; exact hW.att) hw (by rw [hfa]; exact hr)
      (by
       rw [hfa,hins]
       intro hk
       exact hfi (by
        cases hq:(formI (opAt p t.at_)).ins with
        | true=>rfl
        | false=>exact absurd (.inl ⟨hk,hq⟩) hb))
      (by
       rw [hfa,hins]
       intro hk
       exact hfo (by
        cases hq:(formI (opAt p t.at_)).out with
        | true=>rfl
        | false=>exact absurd (.inr ⟨hk,hq⟩) hb))
     rw [hfa] at h1 h2
     rw [h1,h2]
theorem step_eq (hM:TMay p t) (hW:TWide t) (hw:WideSh sh) (hfp:formedP p=true):StepR p t.rt sh=asR (StepT p t sh):=by
 unfold StepR StepT
 rw [show t.rt.st=t.st from rfl]
 by_cases hst:t.st=1
 ·have hn:¬ t.st≠1:=fun k=>k hst
  rw [if_neg hn,if_neg hn]
  cases ha:t.att with
  | none=>exact idle_eq hM hW hw hfp hst (fun s h=>by rw [ha] at h; cases h)
  | some s =>
   by_cases h1:s.phase=1
   ·exact idle_eq hM hW hw hfp hst (fun s' h=>by rw [ha] at h; cases h; exact h1)
   ·obtain ⟨_,_,_,hMs,h10,_⟩:=hM.ins s ha
    have hat:attS t=s:=by unfold attS; rw [ha]; rfl
    have hti:t.ins=true:=by unfold TS.ins; rw [ha]; rfl
    unfold stepR stepT
    rw [if_pos ⟨rt_ins ha,by rw [rt_a ha]; exact h1⟩,if_pos ⟨hti,by rw [hat]; exact h1⟩,hat]
    exact under_eq ha hMs h1 h10 hw (hW.att s ha)
 ·have hn:t.st≠1:=hst
  rw [if_pos hn,if_pos hn]
  rfl
end
end Go.Proofs.YtehopaabfoopeaaGreat
set_option linter.unusedSimpArgs false
set_option linter.unusedVariables false
set_option maxRecDepth 100000
namespace Go.Proofs.YtehopaabfoopeaaGreat
open Go.RowKit
open Go.Maps
section
variable {P:Program} {md:Region.Mode} {ops:Array Oper} {Q:Exit → Act → World → Prop} {S:World → Prop} {t:Nat}
theorem wpB_load_mid {l:List Oper} {n i d:Nat} {o:Oper} {rest:List Nat} {L:Array Bool} {a:Act} {w:World} (h0:l[i]? = some o) (hd:o.dst=some d) (hrr:((Region.ready md l.toArray L).contains i && Region.free md l.toArray L i)=true) (hw:Region.wanted o (yielded l.toArray a.tmps)=true) (ty:TypeId) (x:Operand) (ho:o.op=.load ty x)
  (b off:Nat) (hx:a.eval x=.pointer (some ⟨b,off,none⟩)) (cs:List Value) (ds:TypeDesc) (hS:∀ w,S w → w.rangeAt b off cs) (hu:P.underlying ty=some ds) (hr:ds.isRow=true) (hi:(P.info? ty).map (·.size)=some cs.length)
  (h:wpB P md l.toArray Q S n rest (L.setIfInBounds i true) (a.put (some d) (.agg cs.toArray)) w):wpB P md l.toArray Q S (n+1) (i :: rest) L a w:=
 wpB_take h0 hd hrr hw (fun w hw'=>by
  unfold execOp
  simp only [ho,hx,Instr.loadAt,Instr.sureAddr,Sem.run_bind,Sem.run_pure,Result.andThen_ok,run_loadVar_mid w b off ty cs ds (hS w hw') hu hr hi]) h
theorem wpB_append {l:List Oper} {n i:Nat} {o:Oper} {rest:List Nat} {L:Array Bool} {a:Act} {w w':World} (h0:l[i]? = some o) (hr:Region.ready md l.toArray L=[i]) (hw:Region.wanted o (yielded l.toArray a.tmps)=true) (s x:Operand) (ty u:TypeId)
  (hop:o.op=.call { callee:=.builtin .append,args:=#[s,x],argTypes:=#[ty,u] }) (sv xv v:Value) (hs:a.eval s=sv) (hx:a.eval x=xv)
  (hrun:(Builtin.append_ #[ty,u] o.type #[sv,xv]).run P w=.ok v w') (hS:S w') (h:wpB P md l.toArray Q S n rest (L.setIfInBounds i true) (a.put o.dst v) w'):wpB P md l.toArray Q S (n+1) (i :: rest) L a w:=by
 refine wpB_eff h0 hr hw fun K hK=>?_
 unfold Oper.wp execOp
 simp only [hop,resolve,invoke,builtin,Sem.run_bind,Sem.run_pure,Result.andThen_ok,List.map_toArray,List.map_cons,List.map_nil,hs,hx,hrun]
 exact hK.out _ _ hS h
end
theorem info_instr:(Tryz.prog.info? 50).map (fun i=>(i.zero,i.size,i.bytes))=some (some (.agg #[.int .i64 0,.int .i64 0,.int .i64 0,.int .i64 0,.int .u64 0]),5,40):=by kernel_rfl
theorem codeV_one {p:List Ins} {u:Value} (hu:u ∈ codeV p):u.oneCell'=true:=by
 simp only [codeV,List.mem_flatMap] at hu
 obtain ⟨x,_,hx⟩:=hu
 simp only [Ins.cells,List.mem_cons,List.not_mem_nil,or_false] at hx
 rcases hx with rfl | rfl | rfl | rfl | rfl <;> rfl
theorem CodeAt.src {w:World} {po:Option Addr} {p:List Ins} (h:CodeAt w po p) (hl:p≠[]):∃ ad,po=some ad∧∀ j u,(codeV p)[j]? = some u → w.cell? (ad.add j)=some u:=by
 obtain ⟨x,hx⟩:∃ x,p[0]? = some x:=⟨_,List.getElem?_eq_getElem (List.length_pos_iff.2 hl)⟩
 obtain ⟨b,o,rfl,_⟩:=h 0 x hx
 refine ⟨_,rfl,fun j u hj=>?_⟩
 have hjl:j<p.length*5:=by
  by_cases hh:j<p.length*5
  ·exact hh
  ·rw [List.getElem?_eq_none (by rw [codeV_len]; omega)] at hj; cases hj
 obtain ⟨y,hy⟩:∃ y,p[j / 5]? = some y:=⟨_,List.getElem?_eq_getElem (by omega)⟩
 obtain ⟨b',o',e,h0,h1,h2,h3,h4⟩:=h (j / 5) y hy
 cases e
 obtain ⟨c0,c1,c2,c3,c4⟩:=codeV_get p (j / 5) y hy
 rw [addr_add]
 have hm:j=j / 5*5∨j=j / 5*5+1∨j=j / 5*5+2∨j=j / 5*5+3∨j=j / 5*5+4:=by omega
 generalize j / 5=q at *
 rcases hm with rfl | rfl | rfl | rfl | rfl
 ·rw [c0] at hj; cases hj; exact h0
 ·rw [c1] at hj; cases hj; rw [← Nat.add_assoc]; exact h1
 ·rw [c2] at hj; cases hj; rw [← Nat.add_assoc]; exact h2
 ·rw [c3] at hj; cases hj; rw [← Nat.add_assoc]; exact h3
 ·rw [c4] at hj; cases hj; rw [← Nat.add_assoc]; exact h4
theorem app_code (W:World) (po:Option Addr) (cap:Nat) (p:List Ins) (h:CodeAt W po p) (h1:1≤p.length) (h2:p.length≤256) :
  ∃ pb cap' W',(Builtin.append_ #[41,41] 41 #[.slice none 0 0,.slice po p.length cap]).run Tryz.prog W=.ok (.slice (some ⟨pb,0,none⟩) p.length cap') W'∧ProgAt W' pb cap' p∧Upd [] W W'∧W.heap.size≤pb:=by
 obtain ⟨i0,hi,hz0,hz1,hz2⟩:=info_parts info_instr
 obtain ⟨ad,rfl,hsrc⟩:=h.src (List.length_pos_iff.1 h1)
 obtain ⟨v',w',hr,ho,hg,_,hor⟩:=run_append_own_at (P:=Tryz.prog) (w:=W) 0 41 41 50 i0 (.agg #[.int .i64 0,.int .i64 0,.int .i64 0,.int .i64 0,.int .u64 0]) 5 40 Tryz.underlying41 hi hz0 hz1 hz2 rfl (by omega)
  (.slice none 0 0) 0 [] ⟨rfl,.inl ⟨rfl,rfl⟩⟩ ad p.length cap (codeV p) (codeV_len p) hsrc (fun u hu=>codeV_one hu) (by unfold maxLen; omega) (by omega) (Nat.zero_le _)
 rw [Nat.zero_add,List.nil_append] at ho
 obtain ⟨k1,k2⟩:=ho
 rcases k2 with ⟨_,k2⟩ | ⟨g,cap',cur,hv,hb,hh,hn,hm,hs,ht⟩
 ·omega
 ·subst hv
  refine ⟨g,cap',w',hr,⟨h1,h2,cur.toList.drop (p.length*5),?_⟩,Upd.of_grown hg (fun k e=>by simp [Value.ownBlock] at e),?_⟩
  ·unfold Blk
   rw [← ht,List.take_append_drop]
   simpa using hh
  ·rcases hor with e | e
   ·simp [Value.ownBlock] at e
   ·simp [Value.ownBlock] at e; omega
end Go.Proofs.YtehopaabfoopeaaGreat
set_option linter.unusedSimpArgs false
set_option linter.unusedVariables false
set_option maxRecDepth 100000
namespace Go.Proofs.YtehopaabfoopeaaGreat
open Go.RowKit
open Go.Maps
theorem rset_regs {r:RT} (h8:r.regs.length=8) (k8:r.saved.length=8) (rv wv:Value) (rz:List Int) (hz:rz.length=8):rowSet (r.cells rv wv) 3 (rz.map (Value.int .u64))=({ r with regs:=rz }:RT).cells rv wv:=by
 obtain ⟨st,er,at_,rs,ins,sta,sv,fu,⟨sn,rd,wl,ph,th,ad,wo,fo,at2⟩⟩:=r
 obtain ⟨r0,r1,r2,r3,r4,r5,r6,r7,rfl⟩:=list8 h8
 obtain ⟨s0,s1,s2,s3,s4,s5,s6,s7,rfl⟩:=list8 k8
 obtain ⟨z0,z1,z2,z3,z4,z5,z6,z7,rfl⟩:=list8 hz
 rfl
theorem rset_fuel {r:RT} (h8:r.regs.length=8) (k8:r.saved.length=8) (rv wv:Value) (x:Int):(r.cells rv wv).set 21 (.int .i64 x)=({ r with fuel:=x }:RT).cells rv wv:=by
 obtain ⟨st,er,at_,rs,ins,sta,sv,fu,⟨sn,rd,wl,ph,th,ad,wo,fo,at2⟩⟩:=r
 obtain ⟨r0,r1,r2,r3,r4,r5,r6,r7,rfl⟩:=list8 h8
 obtain ⟨s0,s1,s2,s3,s4,s5,s6,s7,rfl⟩:=list8 k8
 rfl
theorem rcells_len {r:RT} (h8:r.regs.length=8) (k8:r.saved.length=8) (rv wv:Value):(r.cells rv wv).length=31:=by
 obtain ⟨st,er,at_,rs,ins,sta,sv,fu,⟨sn,rd,wl,ph,th,ad,wo,fo,at2⟩⟩:=r
 obtain ⟨r0,r1,r2,r3,r4,r5,r6,r7,rfl⟩:=list8 h8
 obtain ⟨s0,s1,s2,s3,s4,s5,s6,s7,rfl⟩:=list8 k8
 rfl
section
variable {w w':World} {rb wb qb:Nat} {r:RT} {sh:Sh} {rv wv:Value} {po:Option Addr} {cap:Nat} {p:List Ins}
theorem RS.regs (h:RS w rb wb qb r sh rv wv) (rz:List Int) (hz:rz.length=8):RS (w.setCells rb 3 (rz.map (Value.int .u64))) rb wb qb { r with regs:=rz } sh rv wv:=by
 have u:Upd [rb] w (w.setCells rb 3 (rz.map (Value.int .u64))):=Upd.rows _ 3 (Upd.refl _ _) (.inl (by simp))
 have hB:=Blk.rows (rz.map (Value.int .u64)) 3 h.th.head (by rw [rcells_len h.th.r8 h.th.s8]; simp [hz])
 rw [rset_regs h.th.r8 h.th.s8 rv wv rz hz] at hB
 exact ⟨h.th.own u hB rfl rfl hz h.th.s8,h.wo.upd u (by simpa using h.ne.1.symm) (by simpa using h.ne.2.symm),h.ap⟩
theorem RS.regsAt (h:RS w rb wb qb r sh rv wv):w.rangeAt rb 3 (r.regs.map (Value.int .u64)):=fun j v hj=>by
 have hl:j<8:=by have:=(List.getElem?_eq_some_iff.1 hj).1; rw [List.length_map,h.th.r8] at this; exact this
 have hc:=h.th.head.cell _ (rcell_reg h.th.r8 rv wv hl)
 rw [List.getElem?_map,List.getElem?_eq_getElem (by rw [h.th.r8]; exact hl)] at hj
 rw [hc,List.getD_eq_getElem?_getD,List.getElem?_eq_getElem (by rw [h.th.r8]; exact hl)]
 exact hj
structure Fit (p:List Ins) (r:RT):Prop where
 fp:formedP p=true
 num:∀ i ∈ p,0≤i.n∧i.n<18446744073709551616
 rw:∀ x ∈ r.regs,W64 x
 wide:r.ins=true → Wide r.a
 lens:r.ins=true → r.a.reads.length≤1024∧r.a.writes.length≤1024
 fuel:r.ins=true → 0≤r.fuel∧r.fuel≤4096
 under:r.ins=true → r.a.phase≠1 → May r.a∧r.a.phase≠10∧0≤r.at_∧r.at_<p.length
theorem fit_ins (hfp:formedP p=true) (hnum:∀ i ∈ p,0≤i.n∧i.n<18446744073709551616) {k:Int} (h0:0≤k) (h1:k<p.length) :
  ((0≤(insAt p k).a∧(insAt p k).a<8)∧(0≤(insAt p k).b∧(insAt p k).b<8)∧0≤(insAt p k).c∧(insAt p k).c<8)∧(0≤(insAt p k).n∧(insAt p k).n<18446744073709551616)∧1≤opAt p k∧opAt p k≤17∧p[k.toNat]? = some (insAt p k):=by
 have hx:p[k.toNat]? = some (insAt p k):=by
  unfold insAt
  rw [if_neg (by omega),List.getD_eq_getElem?_getD,List.getElem?_eq_getElem (by omega)]
  rfl
 have hf:=formedP_at hfp hx
 have hm:=List.mem_of_getElem? hx
 have ho:1≤(insAt p k).op∧(insAt p k).op≤17:=by
  by_cases hi:isOp (insAt p k).op=true
  ·simpa [isOp] using hi
  ·exfalso
   simp only [Bool.not_eq_true] at hi
   unfold formed at hf
   rw [hi,Bool.false_and] at hf
   unfold formedF at hf
   simp at hf
 exact ⟨formed_regs hf,hnum _ hm,ho.1,ho.2,hx⟩
set_option maxHeartbeats 1000000 in
theorem xunder_code (h:RS w rb wb qb r sh rv wv) (hF:Fit p r) (hi:r.ins=true) (h1:r.a.phase≠1) (hc:CodeAt w po p) (hpb:∀ b o,po=some ⟨b,o,none⟩ → b≠rb∧b≠wb∧b≠qb) :
  Calls Tryz.prog 56 #[.slice po p.length cap,.pointer (some ⟨rb,0,none⟩),.pointer (some ⟨wb,0,none⟩)] w (RSOk w rb wb qb rv wv (underR p r sh)):=by
 obtain ⟨hM,h10,hat⟩:=hF.under hi h1
 have hW:=hF.wide hi
 have hph:=hM.ph
 have hpl:=(formedP_len hF.fp).2
 obtain ⟨⟨hA,_,_⟩,_⟩:=fit_ins hF.fp hF.num hat.1 hat.2
 unfold underR
 rcases (by omega:r.a.phase=2∨r.a.phase=3∨r.a.phase=4∨r.a.phase=5∨r.a.phase=6∨r.a.phase=7∨r.a.phase=8∨r.a.phase=9) with e | e | e | e | e | e | e | e
 ·rw [if_pos e]
  exact xunder_pass h _ (.inl ⟨e,fun W1 u=>xload_code (h.upd0 u) hW.addr.1⟩)
 ·rw [if_neg (by omega),if_pos e]
  have hg:=hM.gets (by simp [getsB,e])
  exact xunder_pass h _ (.inr (.inl ⟨e,fun W1 u=>xlook_code (h.upd0 u) (hc.upd0 u) hpl hat hA (by omega) hpb⟩))
 ·rw [if_neg (by omega),if_neg (by omega),if_pos (by omega)]
  exact xunder_pass h _ (.inr (.inr (.inl ⟨by omega,fun W1 u=>xagain4 (h.upd0 u) e hM.lenR⟩)))
 ·rw [if_neg (by omega),if_neg (by omega),if_pos (by omega)]
  exact xunder_pass h _ (.inr (.inr (.inl ⟨by omega,fun W1 u=>xagain5 (h.upd0 u) e hM.lenR (hM.at5 e) (fun c hc=>(hW.reads c hc).1.1)⟩)))
 ·rw [if_neg (by omega),if_neg (by omega),if_pos (by omega)]
  exact xunder_pass h _ (.inr (.inr (.inl ⟨by omega,fun W1 u=>xagain6 (h.upd0 u) (by omega) (by omega)⟩)))
 ·rw [if_neg (by omega),if_neg (by omega),if_neg (by omega),if_pos e]
  exact xunder_pass h _ (.inr (.inr (.inr ⟨e,fun W1 u=>xlock_code (h.upd0 u)⟩)))
 ·rw [if_neg (by omega),if_neg (by omega),if_neg (by omega),if_neg (by omega),if_pos e]
  exact xunder8 h _ e hM.lenW (hM.at8 e) (fun c hc=>⟨(hW.writes c hc).1.1,(hW.writes c hc).2⟩)
 ·rw [if_neg (by omega),if_neg (by omega),if_neg (by omega),if_neg (by omega),if_neg (by omega)]
  exact xunder9 h _ e ⟨hat.1,by omega⟩ hW.snap
theorem plainR_len (i:Ins) (rs:List Int) (k:Int):(plainR i rs k).1.length=rs.length:=by
 unfold plainR
 simp only
 repeat (first | rfl | (split; simp))
theorem plainR_no {i:Ins} {rs:List Int} {k:Int} (h:(plainR i rs k).2.2=false) (h1:1≤i.op):10≤i.op:=by
 by_cases hc:10≤i.op
 ·exact hc
 ·exfalso
  have:i.op=1∨i.op=2∨i.op=3∨i.op=4∨i.op=5∨i.op=6∨i.op=7∨i.op=8∨i.op=9:=by omega
  obtain ⟨op,a,b,c,n⟩:=i
  dsimp only at this
  rcases this with rfl | rfl | rfl | rfl | rfl | rfl | rfl | rfl | rfl <;> exact absurd h (by simp [plainR])
end
end Go.Proofs.YtehopaabfoopeaaGreat
set_option linter.unusedSimpArgs false
set_option linter.unusedVariables false
set_option maxRecDepth 100000
namespace Go.Proofs.YtehopaabfoopeaaGreat
open Go.RowKit
open Go.Maps
section
variable {w w':World} {rb wb qb:Nat} {r:RT} {sh:Sh} {rv wv:Value} {po:Option Addr} {cap:Nat} {p:List Ins}
set_option maxHeartbeats 8000000 in
theorem xStep_in (h:RS w rb wb qb r sh rv wv) (hF0:Fit p r) (hc:CodeAt w po p) (hpb:∀ b o,po=some ⟨b,o,none⟩ → b≠rb∧b≠wb∧b≠qb) (hst:r.st=1) (hu:¬ (r.ins=true∧r.a.phase≠1)) (hb:¬ (opAt p r.at_=0∨(r.ins=true∧(formI (opAt p r.at_)).ins=false)∨(r.ins=false∧(formI (opAt p r.at_)).out=false))) (hi:r.ins=true) :
  Calls Tryz.prog 35 #[.slice po p.length cap,.pointer (some ⟨rb,0,none⟩),.pointer (some ⟨wb,0,none⟩)] w (RSOk w rb wb qb rv wv (StepR p r sh)):=by
 obtain ⟨T,hT⟩:∃ T,StepR p r sh=T:=⟨_,rfl⟩
 rw [hT]
 have HT:=Lib.hid hT
 clear hT
 have HF:=Lib.hid hF0
 have HPB:=Lib.hid hpb
 have HC0:=Lib.hid hc
 have hpl:=(formedP_len hF0.fp).2
 have hpl4:p.length≤4611686018427387904:=by omega
 have HU0:Hid (Upd [] w (w.alloc (.cells #[.int .i64 0,.int .i64 0,.int .u64 0,.int .u64 0,.bool false,.int .i64 0] 86))):=Lib.hid ((Upd.refl [] _).alloc _)
 clear hF0 hc hpb
 obtain ⟨W1,hW1⟩:∃ W,w.alloc (.cells #[.int .i64 0,.int .i64 0,.int .u64 0,.int .u64 0,.bool false,.int .i64 0] 86)=W:=⟨_,rfl⟩
 have u1:Upd [] w W1:=by rw [← hW1]; exact (Upd.refl [] _).alloc _
 have EB:Blk W1 w.heap.size (TE.cells ⟨0,0,0,false,0⟩) 86:=by rw [← hW1]; exact Blk.new w _ _
 have hlt1:=h.th.lt
 have hlt2:=h.wo.lt
 have hnes:=h.ne
 have hnew:=h.wo.ne
 have HNB:=Lib.hid (show rb≠w.heap.size∧wb≠w.heap.size∧qb≠w.heap.size from ⟨by omega,by omega,by omega⟩)
 have HNL:=Lib.hid (show ∀ g,rv.ownBlock=some g∨wv.ownBlock=some g → g≠w.heap.size from fun g hg=>by have:=(h.th.ap g hg).2; omega)
 have HN:=Lib.hid (show ∀ g,rv.ownBlock=some g∨wv.ownBlock=some g → (rv.ownBlock=some g∨wv.ownBlock=some g)∨w.heap.size≤g from fun g hg=>.inl hg)
 have HS:=Lib.hid (h.upd0 u1)
 have HE:=Lib.hid EB
 have HU:=Lib.hid (show Upd [rb,wb,qb] w W1 from u1.mono (by simp))
 have hne1:rb≠w.heap.size:=by omega
 have hne2:wb≠w.heap.size:=by omega
 have hne3:qb≠w.heap.size:=by omega
 have hne4:rb≠wb:=hnes.1
 have hne5:rb≠qb:=hnes.2
 clear EB u1 h hlt1 hlt2
 rw [hW1] at HU0
 have HCD:=Lib.hid (HC0.out.upd0 HU0.out)
 clear HC0
 have k8:=HS.out.th.r8
 have j8:=HS.out.th.s8
 have c0:=HS.out.th.head.cell 0 (rcells k8 j8 rv wv).1
 have c11:=HS.out.th.head.cell 11 (rcells k8 j8 rv wv).2.2.1
 have c25:=HS.out.th.head.cell 25 (rcells k8 j8 rv wv).2.2.2.2.2.1
 rw [hst] at c0
 have hT1:T=stepR p r sh:=by rw [← HT.out]; unfold StepR; rw [if_neg (fun k=>k hst)]
 obtain ⟨F,hF⟩:∃ F,formI (opAt p r.at_)=F:=⟨_,rfl⟩
 obtain ⟨FR,fn,ft,fo,fi⟩:=F
 have hT2:T=(if r.ins=true∧r.fuel=4096 then ((failR r 6).1,(failR r 6).2,sh) else goR p (fuelR r) sh):=by
  rw [hT1]; unfold stepR; rw [if_neg hu,if_neg hb]
 have ho:opAt p r.at_≠0:=fun k=>hb (.inl k)
 have bo:(opAt p r.at_ == 0)=false:=by simp [ho]
 have hatp:=opAt_in ho
 obtain ⟨hABC,hN,hO1,hO2,hPK⟩:=fit_ins HF.out.fp HF.out.num hatp.1 hatp.2
 obtain ⟨k,hk⟩:∃ k:Nat,r.at_=k:=⟨r.at_.toNat,by omega⟩
 have HO:=Lib.hid ho
 rw [hF] at hb
 dsimp only at hb
 clear HT hT1
 have hph:r.a.phase=1:=Classical.byContradiction fun k=>hu ⟨hi,k⟩
 rw [hi] at c11
 rw [hph] at c25
 have hfi:fi=true:=by
  cases fi with
  | true=>rfl
  | false=>exact absurd (.inr (.inl ⟨hi,rfl⟩)) hb
 subst hfi
 by_cases hfu:r.fuel=4096
 ·have hT3:T=((failR r 6).1,(failR r 6).2,sh):=by rw [hT2,if_pos ⟨hi,hfu⟩]
  subst hT3
  have bf:(r.fuel == 4096)=true:=by simp [hfu]
  have HFU:=Lib.hid hfu
  clear hT2 hb ho hu hph hst hfu hABC hN hO1 hO2 hPK hk hatp
  have c2:=HS.out.th.head.cell 2 (rcells k8 j8 rv wv).2.1
  have HIN:=Lib.hid (rinfo (opAt p r.at_))
  rw [hF] at HIN
  simp only [Form.val] at HIN
  refine calls_all fun K hK=>?_
  go_enter Tryz.func35,Tryz.ntmps35
  go_wp2_with fail
  refine (xop_code HCD.out hpl4 r.at_).mono ?_
  rintro e w2 ⟨rfl,rfl⟩
  go_wp2_with fail
  refine (HIN.out _).mono ?_
  rintro e W2 ⟨rfl,u2⟩
  clear HIN
  go_upto_region 6 with (fail)
  obtain ⟨W3,hW3⟩:∃ W,W2.alloc (.cells #[.int .i64 (FR:Int),.bool fn,.bool ft,.bool fo,.bool true] 116)=W:=⟨_,rfl⟩
  rw [hW3]
  have u3:Upd [] W1 W3:=by rw [← hW3]; exact u2.alloc _
  have FB:Blk W3 W2.heap.size [.int .i64 (FR:Int),.bool fn,.bool ft,.bool fo,.bool true] 116:=by rw [← hW3]; exact Blk.new _ _ _
  have g3:=FB.cell 3 rfl
  have g4:=FB.cell 4 rfl
  have HS3:=Lib.hid (HS.out.upd0 u3)
  have HE3:=Lib.hid (HE.out.upd u3 (by simp))
  have HU3:=Lib.hid (HU.out.trans (u3.mono (by simp)))
  have HC3:=Lib.hid (HCD.out.upd0 u3)
  clear HS HE HU HCD FB c2 u2 u3 c0 c11 c25 hW3
  have HS:=HS3
  have HE:=HE3
  have HU:=HU3
  have HCD:=HC3
  clear HS3 HE3 HU3 HC3
  have c11:=HS.out.th.head.cell 11 (rcells k8 j8 rv wv).2.2.1
  rw [hi] at c11
  have c2:=HS.out.th.head.cell 2 (rcells k8 j8 rv wv).2.1
  have c21:=HS.out.th.head.cell 21 (rcells k8 j8 rv wv).2.2.2.2.1
  go_wp2_with fail
  refine (xop_code HCD.out hpl4 r.at_).mono ?_
  rintro e w2 ⟨rfl,rfl⟩
  go_wp2_with fail
  clear c11 c2 c21 g3 g4 hW1
  have HFL:=Lib.hid (HS.out.fail 6)
  refine HFL.out.mono ?_
  rintro e W8 ⟨rfl,rv8,wv8,h8,u8,hn8⟩
  have hs8:=HU.out.size
  simp only [failR,TE.val]
  have HE8:=Lib.hid (HE.out.upd u8 (by have:=HNB.out; simp; omega))
  have HNL8:=Lib.hid (show ∀ g,rv8.ownBlock=some g∨wv8.ownBlock=some g → g≠w.heap.size from fun g hg=>by
   rcases hn8 g hg with k | k
   ·exact HNL.out g k
   ·have:=HE.out.lt; omega)
  have HN8:=Lib.hid (show ∀ g,rv8.ownBlock=some g∨wv8.ownBlock=some g → (rv.ownBlock=some g∨wv.ownBlock=some g)∨w.heap.size≤g from fun g hg=>by
   rcases hn8 g hg with k | k
   ·exact HN.out g k
   ·exact .inr (by omega))
  have HS8:=Lib.hid h8
  have HU8:=Lib.hid (HU.out.trans u8)
  clear HS HE HU HNL HN h8 u8 hn8 HFL
  have HS:=HS8
  have HE:=HE8
  have HU:=HU8
  have HNL:=HNL8
  have HN:=HN8
  have q0:=(HE.out).cell 0 rfl
  have q1:=(HE.out).cell 1 rfl
  have q2:=(HE.out).cell 2 rfl
  have q3:=(HE.out).cell 3 rfl
  have q4:=(HE.out).cell 4 rfl
  have q5:=(HE.out).cell 5 rfl
  have f0:=(HE.out).free 0
  have f1:=(HE.out).free 1
  have f2:=(HE.out).free 2
  have f3:=(HE.out).free 3
  have f4:=(HE.out).free 4
  have f5:=(HE.out).free 5
  dsimp only at q0 q1 q2 q3 q4 q5
  go_wp2_with fail
  refine bodyPost_ret (ev_results2 6 7 rfl _ _ w.heap.size (⟨9,0,0,false,6⟩:TE) (.bool true) rfl rfl (ev_set HE.out (⟨9,0,0,false,6⟩:TE))) rfl (hK _ _ ?_)
  refine ⟨rfl,_,_,HS.out.box (ev_upd (S:=[w.heap.size]) (Upd.refl _ _) (.inl (by simp)) _ _ _ _ _ _) HNB.out HNL.out,ev_upd HU.out (.inr (Nat.le_refl _)) _ _ _ _ _ _,HN.out⟩
 ·have bf:(r.fuel == 4096)=false:=by simp [hfu]
  have hfl:=HF.out.fuel hi
  have hwf:wrap64 (r.fuel+1)=r.fuel+1:=by unfold wrap64; omega
  obtain ⟨ra,hra⟩:∃ ra,fuelR r=ra:=⟨_,rfl⟩
  have hra2:ra = { r with fuel:=r.fuel+1 }:=by rw [← hra]; unfold fuelR; rw [if_pos hi]
  have HT:Hid (goR p ra sh=T):=Lib.hid (by rw [hT2,if_neg (fun k=>hfu k.2),hra])
  have hlens:=HF.out.lens hi
  have hwide:=HF.out.wide hi
  have hrw:=HF.out.rw
  obtain ⟨⟨io,ia,ib,ic,ni⟩,hI⟩:∃ I,insAt p r.at_=I:=⟨_,rfl⟩
  rw [hI] at hABC hN hPK
  have hIo:io=opAt p r.at_:=by unfold opAt; rw [hI]
  have HMOP:=Lib.hid (show ∀ W,RS W rb wb qb ra sh rv wv → (io=13∨io=14∨io=15∨io=16) → Calls Tryz.prog 59 #[.agg #[.int .i64 io,.int .i64 ia,.int .i64 ib,.int .i64 ic,.int .u64 ni],.pointer (some ⟨rb,0,none⟩),.pointer (some ⟨wb,0,none⟩)] W (RSOk W rb wb qb rv wv (insideR ⟨io,ia,ib,ic,ni⟩ ra sh)) from fun W hW hio=>xinside_code hW ⟨io,ia,ib,ic,ni⟩ hio hABC.1 hABC.2.1 hABC.2.2 hN (by rw [hra2]; exact ⟨hatp.1,show r.at_≤1000000 by omega⟩) (by rw [hra2]; exact hrw) (by rw [hra2]; exact hlens.1) (by rw [hra2]; exact hlens.2) (by rw [hra2]; exact hwide.snap))
  have HIN2:Hid (ra.ins=true):=Lib.hid (by rw [hra2]; exact hi)
  have hop13:(plainR ⟨io,ia,ib,ic,ni⟩ r.regs k).2.2=false → io=13∨io=14∨io=15∨io=16:=fun hp=>by
   have h10:10≤io:=plainR_no hp (show 1≤io by omega)
   have:=(form_in (o:=io) ⟨h10,by omega⟩).1 (by rw [hIo,hF])
   exact this
  clear hwide hlens hfl hI
  obtain ⟨⟨rz,kz,okz⟩,hpr⟩:∃ x,plainR ⟨io,ia,ib,ic,ni⟩ r.regs k=x:=⟨_,rfl⟩
  have hz:rz.length=8:=by have:=plainR_len ⟨io,ia,ib,ic,ni⟩ r.regs k; rw [hpr] at this; rw [this]; exact k8
  rw [hpr] at hop13
  have HOP:=Lib.hid hop13
  have hpc:∀ W,Calls Tryz.prog 58 #[.agg #[.int .i64 io,.int .i64 ia,.int .i64 ib,.int .i64 ic,.int .u64 ni],.agg (r.regs.map (Value.int .u64)).toArray,.int .i64 k] W fun e w'=>e=.returned (.tuple #[.agg (rz.map (Value.int .u64)).toArray,.int .i64 kz,.bool okz])∧Upd [] W w':=fun W=>by
   have h9:=xplain_code W ⟨io,ia,ib,ic,ni⟩ r.regs k k8 hABC.1 hABC.2.1 hABC.2.2 hN ⟨by omega,by omega⟩ hrw
   rw [hpr] at h9
   exact h9
  have hreg:ra.regs=r.regs:=by rw [hra2]
  have hraat:ra.at_=r.at_:=by rw [hra2]
  rw [← hreg] at hpc hpr
  have HPL:=Lib.hid hpc
  have HPR:=Lib.hid hpr
  have HIA:Hid (insAt p ra.at_=⟨io,ia,ib,ic,ni⟩):=Lib.hid (by rw [hraat,hk]; rw [hk] at hPK; unfold insAt; rw [if_neg (by omega),List.getD_eq_getElem?_getD,hPK]; rfl)
  have HPK:Hid (p[k]? = some ⟨io,ia,ib,ic,ni⟩):=Lib.hid (by rw [hk] at hPK; exact hPK)
  have HK:=Lib.hid (show ra.at_=k from hraat.trans hk)
  have HR2:=Lib.hid hra2
  have hkn:(k:Int)<(p.length:Int):=by omega
  clear hT2 hb ho hu hph hst hfu hABC hN hO1 hO2 hPK hk hatp hpc hpr hop13 hrw hreg hraat hra hra2 hIo
  have c2:=HS.out.th.head.cell 2 (rcells k8 j8 rv wv).2.1
  have HIN:=Lib.hid (rinfo (opAt p r.at_))
  rw [hF] at HIN
  simp only [Form.val] at HIN
  refine calls_all fun K hK=>?_
  go_enter Tryz.func35,Tryz.ntmps35
  go_wp2_with fail
  refine (xop_code HCD.out hpl4 r.at_).mono ?_
  rintro e w2 ⟨rfl,rfl⟩
  go_wp2_with fail
  refine (HIN.out _).mono ?_
  rintro e W2 ⟨rfl,u2⟩
  clear HIN
  go_upto_region 6 with (fail)
  obtain ⟨W3,hW3⟩:∃ W,W2.alloc (.cells #[.int .i64 (FR:Int),.bool fn,.bool ft,.bool fo,.bool true] 116)=W:=⟨_,rfl⟩
  rw [hW3]
  have u3:Upd [] W1 W3:=by rw [← hW3]; exact u2.alloc _
  have FB:Blk W3 W2.heap.size [.int .i64 (FR:Int),.bool fn,.bool ft,.bool fo,.bool true] 116:=by rw [← hW3]; exact Blk.new _ _ _
  have g3:=FB.cell 3 rfl
  have g4:=FB.cell 4 rfl
  have HS3:=Lib.hid (HS.out.upd0 u3)
  have HE3:=Lib.hid (HE.out.upd u3 (by simp))
  have HU3:=Lib.hid (HU.out.trans (u3.mono (by simp)))
  have HC3:=Lib.hid (HCD.out.upd0 u3)
  clear HS HE HU HCD FB c2 u2 u3 c0 c11 c25 hW3
  have HS:=HS3
  have HE:=HE3
  have HU:=HU3
  have HCD:=HC3
  clear HS3 HE3 HU3 HC3
  have c11:=HS.out.th.head.cell 11 (rcells k8 j8 rv wv).2.2.1
  rw [hi] at c11
  have c2:=HS.out.th.head.cell 2 (rcells k8 j8 rv wv).2.1
  have c21:=HS.out.th.head.cell 21 (rcells k8 j8 rv wv).2.2.2.2.1
  go_wp2_with fail
  refine (xop_code HCD.out hpl4 r.at_).mono ?_
  rintro e w2 ⟨rfl,rfl⟩
  have f21:=HS.out.th.head.free 21
  go_upto_region 12 with (fail)
  clear c11 c2 c21 g3 g4 hW1
  have hs4:=HS.out.one (r':={ r with fuel:=r.fuel+1 }) 21 (.int .i64 (r.fuel+1)) (rset_fuel k8 j8 rv wv _) rfl rfl k8 j8
  obtain ⟨W4,hW4⟩:∃ W,W3.setCell ⟨rb,21,none⟩ (.int .i64 (r.fuel+1))=W:=⟨_,rfl⟩
  have u4:Upd [rb] W3 W4:=by rw [← hW4]; exact (Upd.refl [rb] _).setCell (.inl (by simp)) _
  rw [hW4,← HR2.out] at hs4
  rw [hW4]
  have HE4:=Lib.hid (HE.out.upd u4 (by have:=HNB.out; simp; omega))
  have HU4:=Lib.hid (HU.out.trans (u4.mono (by simp)))
  have HC4:=Lib.hid (HCD.out.upd u4 (fun b o e=>by simpa using (HPB.out b o e).1))
  have HS4:=Lib.hid hs4
  clear HS HE HU HCD hs4 u4 hW4 f21
  have HS:=HS4
  have HE:=HE4
  have HU:=HU4
  have HCD:=HC4
  clear HS4 HE4 HU4 HC4
  have m8:=HS.out.th.r8
  have n8:=HS.out.th.s8
  have HIA2:=HIA.out
  obtain ⟨pb,o,hpo,q0,q1,q2,q3,q4⟩:=HCD.out k ⟨io,ia,ib,ic,ni⟩ HPK.out
  have HPO:=Lib.hid hpo
  subst hpo
  clear HIA2
  dsimp only at q0 q1 q2 q3 q4
  have c2:=HS.out.th.head.cell 2 (rcells m8 n8 rv wv).2.1
  rw [HK.out] at c2
  refine wp_region_br (fun w'=>w'.cell? ⟨rb,2,none⟩=some (.int .i64 (k:Int))∧(w'.cell? ⟨pb,o+k*5,none⟩=some (.int .i64 io)∧w'.cell? ⟨pb,o+k*5+1,none⟩=some (.int .i64 ia)∧w'.cell? ⟨pb,o+k*5+2,none⟩=some (.int .i64 ib)∧w'.cell? ⟨pb,o+k*5+3,none⟩=some (.int .i64 ic)∧w'.cell? ⟨pb,o+k*5+4,none⟩=some (.int .u64 ni))∧w'.rangeAt rb 3 (ra.regs.map (Value.int .u64))) [0,1,2,3,4,5,6,7,8,9,10,11,12,13,14,15,16,17,18,19,20,21,22,23] (by kernel_rfl) (by kernel_rfl) ⟨c2,⟨q0,q1,q2,q3,q4⟩,HS.out.regsAt⟩ ?_
  have ud:Upd [] W4 W4.drew:=(Upd.refl [] _).drew
  obtain ⟨W5,hW5⟩:∃ W,W4.drew=W:=⟨_,rfl⟩
  rw [hW5] at ud ⊢
  have HSU:=Lib.hid (show ∀ W,Upd [] W5 W → W.cell? ⟨rb,2,none⟩=some (.int .i64 (k:Int))∧(W.cell? ⟨pb,o+k*5,none⟩=some (.int .i64 io)∧W.cell? ⟨pb,o+k*5+1,none⟩=some (.int .i64 ia)∧W.cell? ⟨pb,o+k*5+2,none⟩=some (.int .i64 ib)∧W.cell? ⟨pb,o+k*5+3,none⟩=some (.int .i64 ic)∧W.cell? ⟨pb,o+k*5+4,none⟩=some (.int .u64 ni))∧W.rangeAt rb 3 (ra.regs.map (Value.int .u64)) from fun W u=>⟨(ud.trans u).cell (by simp) c2,⟨(ud.trans u).cell (by simp) q0,(ud.trans u).cell (by simp) q1,(ud.trans u).cell (by simp) q2,(ud.trans u).cell (by simp) q3,(ud.trans u).cell (by simp) q4⟩,(HS.out.upd0 (ud.trans u)).regsAt⟩)
  have HS5:=Lib.hid (HS.out.upd0 ud)
  have HE5:=Lib.hid (HE.out.upd ud (by simp))
  have HU5:=Lib.hid (HU.out.trans (ud.mono (by simp)))
  clear HS HE HU HCD ud hW5 c2 q0 q1 q2 q3 q4
  have HS:=HS5
  have HE:=HE5
  have HU:=HU5
  clear HS5 HE5 HU5
  repeat
   first
    | (refine wpB_skip rfl (by kernel_rfl) (by rfl) ?_)
    | ((refine wpB_take (v:=?_) rfl rfl (by kernel_rfl) (by rfl) ?_ ?_); rotate_left 1; (· ((intro w hSw; (try dsimp only at hSw); go_simp); try with_reducible rfl)))
   try simp only [Act.put,List.setIfInBounds_toArray,List.set_cons_zero,List.set_cons_succ]
  refine wpB_load_mid rfl rfl (by kernel_rfl) (by rfl) 52 _ rfl rb 3 rfl (ra.regs.map (Value.int .u64)) _ (fun _ h=>h.2.2) Tryz.underlying52 (by rfl) (by rw [List.length_map,m8]; kernel_rfl) ?_
  try simp only [Act.put,List.setIfInBounds_toArray,List.set_cons_zero,List.set_cons_succ]
  repeat
   first
    | (refine wpB_skip rfl (by kernel_rfl) (by rfl) ?_)
    | ((refine wpB_take (v:=?_) rfl rfl (by kernel_rfl) (by rfl) ?_ ?_); rotate_left 1; (· ((intro w hSw; (try dsimp only at hSw); go_simp); try with_reducible rfl)))
   try simp only [Act.put,List.setIfInBounds_toArray,List.set_cons_zero,List.set_cons_succ]
  have hbz:rb<W5.heap.size:=HS.out.th.lt
  refine wpB_two (i:=15) (j:=20) [15,16,17,18,19,21,22,23] (by kernel_rfl) rfl rfl (by rfl) (by rfl) (fun K2 hK2=>?_) (fun K2 hK2=>?_)
  ·go_simp
   refine (HPL.out _).mono ?_
   rintro e W6 ⟨rfl,u6⟩
   refine hK2.out _ _ (HSU.out _ u6) ?_
   clear hK2 K2
   repeat
    first
     | (refine wpB_skip rfl (by kernel_rfl) (by rfl) ?_)
     | ((refine wpB_take (v:=?_) rfl rfl (by kernel_rfl) (by rfl) ?_ ?_); rotate_left 1; (· ((intro w hSw; (try dsimp only at hSw); go_simp); try with_reducible rfl)))
    try simp only [Act.put,List.setIfInBounds_toArray,List.set_cons_zero,List.set_cons_succ]
   refine wpB_eff rfl (by kernel_rfl) (by rfl) (fun K2 hK2=>?_)
   go_simp
   refine hK2.out _ _ (HSU.out _ (u6.alloc _)) ?_
   clear hK2 K2
   try simp only [Act.put,List.setIfInBounds_toArray,List.set_cons_zero,List.set_cons_succ]
   have BX:=Blk.new W6 [.int .u64 0,.int .u64 0,.int .u64 0,.int .u64 0,.int .u64 0,.int .u64 0,.int .u64 0,.int .u64 0] 52
   have hbx:W5.heap.size≤W6.heap.size:=u6.size
   have uz:=u6.alloc (.cells #[.int .u64 0,.int .u64 0,.int .u64 0,.int .u64 0,.int .u64 0,.int .u64 0,.int .u64 0,.int .u64 0] 52)
   obtain ⟨Wx,hWx⟩:∃ W,W6.alloc (.cells #[.int .u64 0,.int .u64 0,.int .u64 0,.int .u64 0,.int .u64 0,.int .u64 0,.int .u64 0,.int .u64 0] 52)=W:=⟨_,rfl⟩
   rw [hWx] at BX uz ⊢
   generalize W6.heap.size=bx at BX hbx ⊢
   clear u6 hWx
   have h13:(rz.map (Value.int .u64)).toArray.all (·.oneCell')=true:=all_oneCell_toArray fun v hv=>by obtain ⟨x,_,rfl⟩:=List.mem_map.1 hv; rfl
   have hl3:(rz.map (Value.int .u64)).length=8:=by simp [hz]
   have hth:=BX.there 0 8 (by simp)
   refine wpB_eff rfl (by kernel_rfl) (by rfl) (fun K2 hK2=>?_)
   refine wp_store_mid 52 _ _ rfl bx 0 (rz.map (Value.int .u64)).toArray rfl rfl (by simpa [hl3] using hth) (by simp only [List.size_toArray,hl3]; kernel_rfl) h13 ?_
   have u7:Upd [] W5 (Wx.setCells bx 0 (rz.map (Value.int .u64))):=Upd.rows _ 0 uz (.inr hbx)
   have r7:(Wx.setCells bx 0 (rz.map (Value.int .u64))).rangeAt bx 0 (rz.map (Value.int .u64)):=World.rangeAt_setCells_same Wx _ 0 _ (by rw [hl3]; exact hth)
   refine hK2.out _ _ (HSU.out _ u7) ?_
   clear hK2 K2
   try simp only [Act.put,List.setIfInBounds_toArray,List.set_cons_zero,List.set_cons_succ]
   repeat
    first
     | (refine wpB_skip rfl (by kernel_rfl) (by rfl) ?_)
     | ((refine wpB_take (v:=?_) rfl rfl (by kernel_rfl) (by rfl) ?_ ?_); rotate_left 1; (· ((intro w hSw; (try dsimp only at hSw); go_simp); try with_reducible rfl)))
    try simp only [Act.put,List.setIfInBounds_toArray,List.set_cons_zero,List.set_cons_succ]
   refine wpB_end (by kernel_rfl) (NoPanic.normal ?_)
   obtain ⟨W7,hW7⟩:∃ W,Wx.setCells bx 0 (rz.map (Value.int .u64))=W:=⟨_,rfl⟩
   rw [show Wx.setCells bx 0 (rz.map (Value.int .u64)).toArray.toList=W7 from hW7]
   rw [hW7] at u7 r7
   have hs7:=HSU.out _ u7
   have HS7:=Lib.hid (HS.out.upd0 u7)
   have HE7:=Lib.hid (HE.out.upd u7 (by simp))
   have HU7:=Lib.hid (HU.out.trans (u7.mono (by simp)))
   have HRG:=Lib.hid r7
   have HBN:=Lib.hid (show bx≠rb from by omega)
   clear HS HE HU HSU hW7 uz BX hth u7 r7 hbx hbz
   have HS:=HS7
   have HE:=HE7
   have HU:=HU7
   clear HS7 HE7 HU7
   cases hok:okz with
   | true =>
    subst hok
    have hT9:T=(quiet,{ ra with regs:=rz,at_:=kz },sh):=by
     rw [← HT.out]
     unfold goR
     rw [HIA.out,HK.out,HPR.out]
     rfl
    subst hT9
    clear HT hs7
    have HTR:=Lib.hid (HS.out.th.head.there 3 8 (by rw [rcells_len m8 n8]; omega))
    go_upto_region 15 with (first
     | ((with_reducible refine wpList_load_mid (op:=⟨some 123,.load 52 (.tmp 10),_,_,_,_⟩) rfl 52 _ rfl bx 0 ?_ (rz.map (Value.int .u64)) _ HRG.out Tryz.underlying52 (by rfl) (by rw [hl3]; kernel_rfl) ?_); (· rfl))
     | ((with_reducible refine wpList_store_mid (op:=⟨none,.store 52 (.tmp 125) (.tmp 123),_,_,_,_⟩) rfl 52 _ _ rfl rb 3 (rz.map (Value.int .u64)).toArray ?_ ?_ (by simpa [hl3] using HTR.out) (by simp only [List.size_toArray,hl3]; kernel_rfl) h13 ?_); (· rfl); (· rfl)))
    obtain ⟨W8,hW8⟩:∃ W,W7.setCells rb 3 (rz.map (Value.int .u64))=W:=⟨_,rfl⟩
    rw [show W7.setCells rb 3 (rz.map (Value.int .u64)).toArray.toList=W8 from hW8]
    have hs8:=HS.out.regs rz hz
    have u8:Upd [rb] W7 (W7.setCells rb 3 (rz.map (Value.int .u64))):=Upd.rows _ 3 (Upd.refl _ _) (.inl (by simp))
    rw [hW8] at hs8 u8
    have HE8:=Lib.hid (HE.out.upd u8 (by have:=HNB.out; simp; omega))
    have HU8:=Lib.hid (HU.out.trans (u8.mono (by simp)))
    have HS8:=Lib.hid hs8
    clear HS HE HU HTR HRG hW8 hs8 u8
    have HS:=HS8
    have HE:=HE8
    have HU:=HU8
    clear HS8 HE8 HU8
    have y8:=HS.out.th.r8
    have c2:=HS.out.th.head.cell 2 (rcells (r:={ ra with regs:=rz }) y8 n8 rv wv).2.1
    have f2:=HS.out.th.head.free 2
    go_upto_region 16 with (fail)
    clear c2 f2
    obtain ⟨W9,hW2⟩:∃ W,W8.setCell ⟨rb,2,none⟩ (.int .i64 kz)=W:=⟨_,rfl⟩
    have hs2:=HS.out.one (r':={ ra with regs:=rz,at_:=kz }) 2 (.int .i64 kz) rfl rfl rfl y8 n8
    rw [hW2] at hs2
    have uu:Upd [rb,wb,qb] W8 W9:=by
     rw [← hW2]
     repeat (first | refine Upd.drew ?_ | refine Upd.setCell ?_ (.inl (by simp)) _ | with_reducible exact Upd.refl _ _)
    have HE2:=Lib.hid (HE.out.upd uu (by have:=HNB.out; simp; omega))
    have HU2:=Lib.hid (HU.out.trans uu)
    have HS2:=Lib.hid hs2
    clear HS HE HU uu hs2
    have HS:=HS2
    have HE:=HE2
    have HU:=HU2
    clear HS2 HE2 HU2
    rw [hW2]
    clear hW2
    have q0:=(HE.out).cell 0 rfl
    have q1:=(HE.out).cell 1 rfl
    have q2:=(HE.out).cell 2 rfl
    have q3:=(HE.out).cell 3 rfl
    have q4:=(HE.out).cell 4 rfl
    have q5:=(HE.out).cell 5 rfl
    have f0:=(HE.out).free 0
    have f1:=(HE.out).free 1
    have f2:=(HE.out).free 2
    have f3:=(HE.out).free 3
    have f4:=(HE.out).free 4
    have f5:=(HE.out).free 5
    dsimp only at q0 q1 q2 q3 q4 q5
    go_wp2_with fail
    refine bodyPost_ret (ev_results2 6 7 rfl _ _ w.heap.size (⟨0,0,0,false,0⟩:TE) (.bool false) rfl rfl (ev_set HE.out (⟨0,0,0,false,0⟩:TE))) rfl (hK _ _ ?_)
    refine ⟨rfl,_,_,HS.out.box (ev_upd (S:=[w.heap.size]) (Upd.refl _ _) (.inl (by simp)) _ _ _ _ _ _) HNB.out HNL.out,ev_upd HU.out (.inr (Nat.le_refl _)) _ _ _ _ _ _,HN.out⟩
   | false =>
    subst hok
    clear HRG HBN h13 hl3
    obtain ⟨_,⟨q0,q1,q2,q3,q4⟩,_⟩:=hs7
    have c11:=HS.out.th.head.cell 11 (rcells m8 n8 rv wv).2.2.1
    rw [HIN2.out] at c11
    have c2:=HS.out.th.head.cell 2 (rcells m8 n8 rv wv).2.1
    rw [HK.out] at c2
    obtain ⟨R,hR⟩:∃ R,insideR ⟨io,ia,ib,ic,ni⟩ ra sh=R:=⟨_,rfl⟩
    have hT9:T=R:=by
     rw [← HT.out,← hR]
     unfold goR
     rw [HIA.out,HK.out,HPR.out,if_neg (by simp),if_pos HIN2.out]
    replace hT9:=hT9.symm
    subst hT9
    have HR:=Lib.hid hR
    have HC:=Lib.hid (HMOP.out _ HS.out (HOP.out rfl))
    rw [HR.out] at HC
    clear HT hR
    go_wp2_with fail
    clear c11 c2 q0 q1 q2 q3 q4
    refine HC.out.mono ?_
    rintro e W8 ⟨rfl,rv8,wv8,h8,u8,hn8⟩
    obtain ⟨⟨⟨ek,ea,ew,eo,ee⟩,tl⟩,r9,sh9⟩:=R
    have hs8:=HU.out.size
    simp only [TE.val]
    have HE8:=Lib.hid (HE.out.upd u8 (by have:=HNB.out; simp; omega))
    have HNL8:=Lib.hid (show ∀ g,rv8.ownBlock=some g∨wv8.ownBlock=some g → g≠w.heap.size from fun g hg=>by
     rcases hn8 g hg with k | k
     ·exact HNL.out g k
     ·have:=HE.out.lt; omega)
    have HN8:=Lib.hid (show ∀ g,rv8.ownBlock=some g∨wv8.ownBlock=some g → (rv.ownBlock=some g∨wv.ownBlock=some g)∨w.heap.size≤g from fun g hg=>by
     rcases hn8 g hg with k | k
     ·exact HN.out g k
     ·exact .inr (by omega))
    have HS8:=Lib.hid h8
    have HU8:=Lib.hid (HU.out.trans u8)
    clear HS HE HU HNL HN h8 u8 hn8 HC
    have HS:=HS8
    have HE:=HE8
    have HU:=HU8
    have HNL:=HNL8
    have HN:=HN8
    dsimp only at HS
    have q0:=(HE.out).cell 0 rfl
    have q1:=(HE.out).cell 1 rfl
    have q2:=(HE.out).cell 2 rfl
    have q3:=(HE.out).cell 3 rfl
    have q4:=(HE.out).cell 4 rfl
    have q5:=(HE.out).cell 5 rfl
    have f0:=(HE.out).free 0
    have f1:=(HE.out).free 1
    have f2:=(HE.out).free 2
    have f3:=(HE.out).free 3
    have f4:=(HE.out).free 4
    have f5:=(HE.out).free 5
    dsimp only at q0 q1 q2 q3 q4 q5
    go_wp2_with fail
    refine bodyPost_ret (ev_results2 6 7 rfl _ _ w.heap.size (⟨ek,ea,ew,eo,ee⟩:TE) (.bool tl) rfl rfl (ev_set HE.out (⟨ek,ea,ew,eo,ee⟩:TE))) rfl (hK _ _ ?_)
    refine ⟨rfl,_,_,HS.out.box (ev_upd (S:=[w.heap.size]) (Upd.refl _ _) (.inl (by simp)) _ _ _ _ _ _) HNB.out HNL.out,ev_upd HU.out (.inr (Nat.le_refl _)) _ _ _ _ _ _,HN.out⟩
  ·go_simp
   have BX0:=Blk.new W5 [.int .u64 0,.int .u64 0,.int .u64 0,.int .u64 0,.int .u64 0,.int .u64 0,.int .u64 0,.int .u64 0] 52
   have uy:Upd [] W5 (W5.alloc (.cells #[.int .u64 0,.int .u64 0,.int .u64 0,.int .u64 0,.int .u64 0,.int .u64 0,.int .u64 0,.int .u64 0] 52)):=(Upd.refl [] _).alloc _
   refine hK2.out _ _ (HSU.out _ uy) ?_
   clear hK2 K2
   refine wpB_eff rfl (by kernel_rfl) (by rfl) (fun K2 hK2=>?_)
   go_simp
   refine (HPL.out _).mono ?_
   rintro e Wx ⟨rfl,u6⟩
   have uz:=uy.trans u6
   refine hK2.out _ _ (HSU.out _ uz) ?_
   clear hK2 K2
   have BX:=BX0.upd u6 (by simp)
   have hbx:W5.heap.size≤W5.heap.size:=Nat.le_refl _
   clear BX0 u6 uy
   try simp only [Act.put,List.setIfInBounds_toArray,List.set_cons_zero,List.set_cons_succ]
   repeat
    first
     | (refine wpB_skip rfl (by kernel_rfl) (by rfl) ?_)
     | ((refine wpB_take (v:=?_) rfl rfl (by kernel_rfl) (by rfl) ?_ ?_); rotate_left 1; (· ((intro w hSw; (try dsimp only at hSw); go_simp); try with_reducible rfl)))
    try simp only [Act.put,List.setIfInBounds_toArray,List.set_cons_zero,List.set_cons_succ]
   generalize hbxx:W5.heap.size=bx at BX ⊢
   replace hbx:W5.heap.size≤bx:=by omega
   clear hbxx
   have h13:(rz.map (Value.int .u64)).toArray.all (·.oneCell')=true:=all_oneCell_toArray fun v hv=>by obtain ⟨x,_,rfl⟩:=List.mem_map.1 hv; rfl
   have hl3:(rz.map (Value.int .u64)).length=8:=by simp [hz]
   have hth:=BX.there 0 8 (by simp)
   refine wpB_eff rfl (by kernel_rfl) (by rfl) (fun K2 hK2=>?_)
   refine wp_store_mid 52 _ _ rfl bx 0 (rz.map (Value.int .u64)).toArray rfl rfl (by simpa [hl3] using hth) (by simp only [List.size_toArray,hl3]; kernel_rfl) h13 ?_
   have u7:Upd [] W5 (Wx.setCells bx 0 (rz.map (Value.int .u64))):=Upd.rows _ 0 uz (.inr hbx)
   have r7:(Wx.setCells bx 0 (rz.map (Value.int .u64))).rangeAt bx 0 (rz.map (Value.int .u64)):=World.rangeAt_setCells_same Wx _ 0 _ (by rw [hl3]; exact hth)
   refine hK2.out _ _ (HSU.out _ u7) ?_
   clear hK2 K2
   try simp only [Act.put,List.setIfInBounds_toArray,List.set_cons_zero,List.set_cons_succ]
   repeat
    first
     | (refine wpB_skip rfl (by kernel_rfl) (by rfl) ?_)
     | ((refine wpB_take (v:=?_) rfl rfl (by kernel_rfl) (by rfl) ?_ ?_); rotate_left 1; (· ((intro w hSw; (try dsimp only at hSw); go_simp); try with_reducible rfl)))
    try simp only [Act.put,List.setIfInBounds_toArray,List.set_cons_zero,List.set_cons_succ]
   refine wpB_end (by kernel_rfl) (NoPanic.normal ?_)
   obtain ⟨W7,hW7⟩:∃ W,Wx.setCells bx 0 (rz.map (Value.int .u64))=W:=⟨_,rfl⟩
   rw [show Wx.setCells bx 0 (rz.map (Value.int .u64)).toArray.toList=W7 from hW7]
   rw [hW7] at u7 r7
   have hs7:=HSU.out _ u7
   have HS7:=Lib.hid (HS.out.upd0 u7)
   have HE7:=Lib.hid (HE.out.upd u7 (by simp))
   have HU7:=Lib.hid (HU.out.trans (u7.mono (by simp)))
   have HRG:=Lib.hid r7
   have HBN:=Lib.hid (show bx≠rb from by omega)
   clear HS HE HU HSU hW7 uz BX hth u7 r7 hbx hbz
   have HS:=HS7
   have HE:=HE7
   have HU:=HU7
   clear HS7 HE7 HU7
   cases hok:okz with
   | true =>
    subst hok
    have hT9:T=(quiet,{ ra with regs:=rz,at_:=kz },sh):=by
     rw [← HT.out]
     unfold goR
     rw [HIA.out,HK.out,HPR.out]
     rfl
    subst hT9
    clear HT hs7
    have HTR:=Lib.hid (HS.out.th.head.there 3 8 (by rw [rcells_len m8 n8]; omega))
    go_upto_region 15 with (first
     | ((with_reducible refine wpList_load_mid (op:=⟨some 123,.load 52 (.tmp 10),_,_,_,_⟩) rfl 52 _ rfl bx 0 ?_ (rz.map (Value.int .u64)) _ HRG.out Tryz.underlying52 (by rfl) (by rw [hl3]; kernel_rfl) ?_); (· rfl))
     | ((with_reducible refine wpList_store_mid (op:=⟨none,.store 52 (.tmp 125) (.tmp 123),_,_,_,_⟩) rfl 52 _ _ rfl rb 3 (rz.map (Value.int .u64)).toArray ?_ ?_ (by simpa [hl3] using HTR.out) (by simp only [List.size_toArray,hl3]; kernel_rfl) h13 ?_); (· rfl); (· rfl)))
    obtain ⟨W8,hW8⟩:∃ W,W7.setCells rb 3 (rz.map (Value.int .u64))=W:=⟨_,rfl⟩
    rw [show W7.setCells rb 3 (rz.map (Value.int .u64)).toArray.toList=W8 from hW8]
    have hs8:=HS.out.regs rz hz
    have u8:Upd [rb] W7 (W7.setCells rb 3 (rz.map (Value.int .u64))):=Upd.rows _ 3 (Upd.refl _ _) (.inl (by simp))
    rw [hW8] at hs8 u8
    have HE8:=Lib.hid (HE.out.upd u8 (by have:=HNB.out; simp; omega))
    have HU8:=Lib.hid (HU.out.trans (u8.mono (by simp)))
    have HS8:=Lib.hid hs8
    clear HS HE HU HTR HRG hW8 hs8 u8
    have HS:=HS8
    have HE:=HE8
    have HU:=HU8
    clear HS8 HE8 HU8
    have y8:=HS.out.th.r8
    have c2:=HS.out.th.head.cell 2 (rcells (r:={ ra with regs:=rz }) y8 n8 rv wv).2.1
    have f2:=HS.out.th.head.free 2
    go_upto_region 16 with (fail)
    clear c2 f2
    obtain ⟨W9,hW2⟩:∃ W,W8.setCell ⟨rb,2,none⟩ (.int .i64 kz)=W:=⟨_,rfl⟩
    have hs2:=HS.out.one (r':={ ra with regs:=rz,at_:=kz }) 2 (.int .i64 kz) rfl rfl rfl y8 n8
    rw [hW2] at hs2
    have uu:Upd [rb,wb,qb] W8 W9:=by
     rw [← hW2]
     repeat (first | refine Upd.drew ?_ | refine Upd.setCell ?_ (.inl (by simp)) _ | with_reducible exact Upd.refl _ _)
    have HE2:=Lib.hid (HE.out.upd uu (by have:=HNB.out; simp; omega))
    have HU2:=Lib.hid (HU.out.trans uu)
    have HS2:=Lib.hid hs2
    clear HS HE HU uu hs2
    have HS:=HS2
    have HE:=HE2
    have HU:=HU2
    clear HS2 HE2 HU2
    rw [hW2]
    clear hW2
    have q0:=(HE.out).cell 0 rfl
    have q1:=(HE.out).cell 1 rfl
    have q2:=(HE.out).cell 2 rfl
    have q3:=(HE.out).cell 3 rfl
    have q4:=(HE.out).cell 4 rfl
    have q5:=(HE.out).cell 5 rfl
    have f0:=(HE.out).free 0
    have f1:=(HE.out).free 1
    have f2:=(HE.out).free 2
    have f3:=(HE.out).free 3
    have f4:=(HE.out).free 4
    have f5:=(HE.out).free 5
    dsimp only at q0 q1 q2 q3 q4 q5
    go_wp2_with fail
    refine bodyPost_ret (ev_results2 6 7 rfl _ _ w.heap.size (⟨0,0,0,false,0⟩:TE) (.bool false) rfl rfl (ev_set HE.out (⟨0,0,0,false,0⟩:TE))) rfl (hK _ _ ?_)
    refine ⟨rfl,_,_,HS.out.box (ev_upd (S:=[w.heap.size]) (Upd.refl _ _) (.inl (by simp)) _ _ _ _ _ _) HNB.out HNL.out,ev_upd HU.out (.inr (Nat.le_refl _)) _ _ _ _ _ _,HN.out⟩
   | false =>
    subst hok
    clear HRG HBN h13 hl3
    obtain ⟨_,⟨q0,q1,q2,q3,q4⟩,_⟩:=hs7
    have c11:=HS.out.th.head.cell 11 (rcells m8 n8 rv wv).2.2.1
    rw [HIN2.out] at c11
    have c2:=HS.out.th.head.cell 2 (rcells m8 n8 rv wv).2.1
    rw [HK.out] at c2
    obtain ⟨R,hR⟩:∃ R,insideR ⟨io,ia,ib,ic,ni⟩ ra sh=R:=⟨_,rfl⟩
    have hT9:T=R:=by
     rw [← HT.out,← hR]
     unfold goR
     rw [HIA.out,HK.out,HPR.out,if_neg (by simp),if_pos HIN2.out]
    replace hT9:=hT9.symm
    subst hT9
    have HR:=Lib.hid hR
    have HC:=Lib.hid (HMOP.out _ HS.out (HOP.out rfl))
    rw [HR.out] at HC
    clear HT hR
    go_wp2_with fail
    clear c11 c2 q0 q1 q2 q3 q4
    refine HC.out.mono ?_
    rintro e W8 ⟨rfl,rv8,wv8,h8,u8,hn8⟩
    obtain ⟨⟨⟨ek,ea,ew,eo,ee⟩,tl⟩,r9,sh9⟩:=R
    have hs8:=HU.out.size
    simp only [TE.val]
    have HE8:=Lib.hid (HE.out.upd u8 (by have:=HNB.out; simp; omega))
    have HNL8:=Lib.hid (show ∀ g,rv8.ownBlock=some g∨wv8.ownBlock=some g → g≠w.heap.size from fun g hg=>by
     rcases hn8 g hg with k | k
     ·exact HNL.out g k
     ·have:=HE.out.lt; omega)
    have HN8:=Lib.hid (show ∀ g,rv8.ownBlock=some g∨wv8.ownBlock=some g → (rv.ownBlock=some g∨wv.ownBlock=some g)∨w.heap.size≤g from fun g hg=>by
     rcases hn8 g hg with k | k
     ·exact HN.out g k
     ·exact .inr (by omega))
    have HS8:=Lib.hid h8
    have HU8:=Lib.hid (HU.out.trans u8)
    clear HS HE HU HNL HN h8 u8 hn8 HC
    have HS:=HS8
    have HE:=HE8
    have HU:=HU8
    have HNL:=HNL8
    have HN:=HN8
    dsimp only at HS
    have q0:=(HE.out).cell 0 rfl
    have q1:=(HE.out).cell 1 rfl
    have q2:=(HE.out).cell 2 rfl
    have q3:=(HE.out).cell 3 rfl
    have q4:=(HE.out).cell 4 rfl
    have q5:=(HE.out).cell 5 rfl
    have f0:=(HE.out).free 0
    have f1:=(HE.out).free 1
    have f2:=(HE.out).free 2
    have f3:=(HE.out).free 3
    have f4:=(HE.out).free 4
    have f5:=(HE.out).free 5
    dsimp only at q0 q1 q2 q3 q4 q5
    go_wp2_with fail
    refine bodyPost_ret (ev_results2 6 7 rfl _ _ w.heap.size (⟨ek,ea,ew,eo,ee⟩:TE) (.bool tl) rfl rfl (ev_set HE.out (⟨ek,ea,ew,eo,ee⟩:TE))) rfl (hK _ _ ?_)
    refine ⟨rfl,_,_,HS.out.box (ev_upd (S:=[w.heap.size]) (Upd.refl _ _) (.inl (by simp)) _ _ _ _ _ _) HNB.out HNL.out,ev_upd HU.out (.inr (Nat.le_refl _)) _ _ _ _ _ _,HN.out⟩
end
end Go.Proofs.YtehopaabfoopeaaGreat
