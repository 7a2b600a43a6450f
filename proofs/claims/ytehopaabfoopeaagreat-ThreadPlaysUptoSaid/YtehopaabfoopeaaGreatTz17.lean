/- The document's thread: a get. No conditions. The document's thread: its logs are copied, grow. The conditions are sizes. The document's thread: a put. No conditions. -/
import Derived.Test.YtehopaabfoopeaaGreatTz16
set_option linter.unusedSimpArgs false
set_option linter.unusedVariables false
set_option maxRecDepth 100000
namespace Go.Proofs.YtehopaabfoopeaaGreat
open Go.RowKit
open Go.Maps
def getR (i:Ins) (r:RT) (sh:Sh):Told × RT × Sh:=
 match place r.a.writes (rgR r i.b) with
 | some k=>((⟨2,rgR r i.b,(r.a.writes.getD k (0,0)).2,true,0⟩,true),nextR (setRR r i.a (r.a.writes.getD k (0,0)).2),sh)
 | none=>if ¬ rgR r i.b<sh.row.length then ((failR r 4).1,(failR r 4).2,sh)
  else if r.a.reads.length=1024 then ((failR r 5).1,(failR r 5).2,sh)
  else loadR (withR r { r.a with addr:=rgR r i.b }) sh
theorem rset_addr {r:RT} (h8:r.regs.length=8) (k8:r.saved.length=8) (rv wv:Value) (x:Int):(r.cells rv wv).set 27 (.int .u64 x)=(withR r { r.a with addr:=x }).cells rv wv:=by
 obtain ⟨st,er,at_,rs,ins,sta,sv,fu,⟨sn,rd,wl,ph,th,ad,wo,fo,at2⟩⟩:=r
 obtain ⟨r0,r1,r2,r3,r4,r5,r6,r7,rfl⟩:=list8 h8
 obtain ⟨s0,s1,s2,s3,s4,s5,s6,s7,rfl⟩:=list8 k8
 rfl
section
variable {v w w':World} {rb wb qb:Nat} {r:RT} {sh:Sh} {rv wv:Value} {po:Option Addr} {cap:Nat} {p:List Ins}
set_option maxHeartbeats 4000000 in
theorem xinside_get (h0:RS v rb wb qb r sh rv wv) (A B C:Nat) (ni:Int) (hA:A<8) (hB:B<8) (hat:0≤r.at_∧r.at_≤1000000) (hrw:∀ x ∈ r.regs,W64 x) (hlr:r.a.reads.length≤1024) (hlw:r.a.writes.length≤1024) :
  Calls Tryz.prog 59 #[(⟨13,A,B,C,ni⟩:Ins).val,.pointer (some ⟨rb,0,none⟩),.pointer (some ⟨wb,0,none⟩)] v (RSOk v rb wb qb rv wv (getR ⟨13,A,B,C,ni⟩ r sh)):=by
 simp only [Ins.val]
 obtain ⟨io,hio⟩:∃ io:Int,(13:Int)=io:=⟨_,rfl⟩
 rw [hio]
 obtain ⟨T,hT⟩:∃ T,getR ⟨io,A,B,C,ni⟩ r sh=T:=⟨_,rfl⟩
 have HT:=Lib.hid hT
 rw [hT]
 clear hT
 obtain ⟨w,hw⟩:∃ W,v.alloc (.cells #[.int .i64 io,.int .i64 (A:Int),.int .i64 (B:Int),.int .i64 (C:Int),.int .u64 ni] 50)=W:=⟨_,rfl⟩
 have u0:Upd [] v w:=by rw [← hw]; exact (Upd.refl [] _).alloc _
 have IB:Blk w v.heap.size [.int .i64 io,.int .i64 (A:Int),.int .i64 (B:Int),.int .i64 (C:Int),.int .u64 ni] 50:=by rw [← hw]; exact Blk.new v _ _
 have hib:=IB.lt
 have hl1:=h0.th.lt
 have hl2:=h0.wo.lt
 have HIN:=Lib.hid (show v.heap.size ∉ [rb,wb,qb] from by simp; omega)
 have h:=h0.upd0 u0
 refine (?_:Calls Tryz.prog _ _ v (RSOk w rb wb qb rv wv T)).mono (fun e w2 k=>k.base u0)
 clear h0 u0 hl1 hl2
 obtain ⟨W1,hW1⟩:∃ W,w.alloc (.cells #[.int .i64 0,.int .i64 0,.int .u64 0,.int .u64 0,.bool false,.int .i64 0] 86)=W:=⟨_,rfl⟩
 have u1:Upd [] w W1:=by rw [← hW1]; exact (Upd.refl [] _).alloc _
 have EB:Blk W1 w.heap.size (TE.cells ⟨0,0,0,false,0⟩) 86:=by rw [← hW1]; exact Blk.new w _ _
 have hlt1:=h.th.lt
 have hlt2:=h.wo.lt
 have hnes:=h.ne
 have hnew:=h.wo.ne
 have HNB:=Lib.hid (show rb≠w.heap.size∧wb≠w.heap.size∧qb≠w.heap.size from ⟨by omega,by omega,by omega⟩)
 have HNL:=Lib.hid (show ∀ g,rv.ownBlock=some g∨wv.ownBlock=some g → g≠w.heap.size from fun g hg=>by have:=(h.th.ap g hg).2; omega)
 have HN:=Lib.hid (show ∀ g,rv.ownBlock=some g∨wv.ownBlock=some g → (rv.ownBlock=some g∨wv.ownBlock=some g)∨w.heap.size≤g from fun g hg=>.inl hg)
 have HS:=Lib.hid (h.upd0 u1)
 have HE:=Lib.hid EB
 have HU:=Lib.hid (show Upd [rb,wb,qb] w W1 from u1.mono (by simp))
 have hne1:rb≠w.heap.size:=by omega
 have hne2:wb≠w.heap.size:=by omega
 have hne3:qb≠w.heap.size:=by omega
 have hne4:rb≠wb:=hnes.1
 have hne5:rb≠qb:=hnes.2
 clear EB u1 h hlt1 hlt2
 have hlen:=HS.out.wo.len
 have hul:IntKind.u64.wrap (sh.row.length:Int)=sh.row.length:=by rw [IntKind.wrap_u64]; omega
 have hwa:wrap64 (r.at_+1)=r.at_+1:=by unfold wrap64; omega
 have hr8:=HS.out.th.r8
 have hs8:=HS.out.th.s8
 have dA:=HS.out.th.head.cell _ (rcell_reg hr8 rv wv hA)
 have dB:=HS.out.th.head.cell _ (rcell_reg hr8 rv wv hB)
 have c2:=HS.out.th.head.cell 2 (rcells hr8 hs8 rv wv).2.1
 have fA:=HS.out.th.head.free (3+A)
 have g2:=HS.out.th.head.free 2
 have hwB:W64 (r.regs.getD B 0):=by
  rw [List.getD_eq_getElem?_getD,List.getElem?_eq_getElem (by omega)]; exact hrw _ (List.getElem_mem _)
 have hwA:W64 (r.regs.getD A 0):=by
  rw [List.getD_eq_getElem?_getD,List.getElem?_eq_getElem (by omega)]; exact hrw _ (List.getElem_mem _)
 obtain ⟨x,hx⟩:∃ x:Nat,r.regs.getD B 0=x:=⟨(r.regs.getD B 0).toNat,by have:=hwB.1; omega⟩
 obtain ⟨y,hy⟩:∃ y:Int,r.regs.getD A 0=y:=⟨_,rfl⟩
 rw [hx] at dB
 rw [hy] at dA hwA
 have HX:=Lib.hid (show rgR r (B:Int)=x from hx)
 have HY:=Lib.hid (show rgR r (A:Int)=y from hy)
 have hAi:(A:Int)<8:=by omega
 have hBi:(B:Int)<8:=by omega
 have i0:=HU.out.cell HIN.out (IB.cell 0 rfl)
 have i1:=HU.out.cell HIN.out (IB.cell 1 rfl)
 have i2:=HU.out.cell HIN.out (IB.cell 2 rfl)
 have i4:=HU.out.cell HIN.out (IB.cell 4 rfl)
 obtain ⟨pw,cw,hwv,_⟩:=HS.out.th.wr
 have HWV:=Lib.hid hwv
 clear hx hy hwB hwv hr8 hs8
 subst hio
 cases hpl:place r.a.writes (x:Int) with
 | some k =>
  obtain ⟨hk,u,hu⟩:=place_some hpl
  have hTT:T=((⟨2,x,u,true,0⟩,true),nextR (setRR r (A:Int) u),sh):=by
   rw [← HT.out]
   unfold getR
   rw [HX.out,hpl]
   simp only
   have hg:(r.a.writes.getD k (0,0)).2=u:=by rw [List.getD_eq_getElem?_getD,hu]; rfl
   rw [hg]
  subst hTT
  have HPL:=Lib.hid (show placeI r.a.writes (x:Int)=(k:Int) from by unfold placeI; rw [hpl])
  have HKU:=Lib.hid hu
  have hki:(k:Int)<(r.a.writes.length:Int):=by omega
  clear HT hpl hu
  refine calls_all fun K hK=>?_
  go_enter Tryz.func59,Tryz.ntmps59
  go_upto_region 2 with (fail)
  refine wp_region_br (fun w'=>w'.cell? ⟨v.heap.size,2,none⟩=some (.int .i64 (B:Int))∧w'.cell? ⟨rb,3+B,none⟩=some (.int .u64 (x:Int))) [0,1,2,3,4,5,6,7] (by kernel_rfl) (by kernel_rfl) ⟨i2,dB⟩ ?_
  repeat
   first
    | (refine wpB_skip rfl (by kernel_rfl) (by rfl) ?_)
    | ((refine wpB_take (v:=?_) rfl rfl (by kernel_rfl) (by rfl) ?_ ?_); rotate_left 1; (· ((intro w hSw; (try dsimp only at hSw); go_simp); try with_reducible rfl)))
   try simp only [Act.put,List.setIfInBounds_toArray,List.set_cons_zero,List.set_cons_succ]
  refine wpB_end (by kernel_rfl) (NoPanic.normal ?_)
  obtain ⟨W2,hdr⟩:∃ W,(W1).drew=W:=⟨_,rfl⟩
  have udr:Upd [] W1 W2:=by rw [← hdr]; exact (Upd.refl [] _).drew
  have HS2:=Lib.hid (HS.out.upd0 udr)
  have HE2:=Lib.hid (HE.out.upd udr (by simp))
  have HU2:=Lib.hid (HU.out.trans (udr.mono (by simp)))
  have UW2:=Lib.hid udr
  clear HS HE HU udr
  have HS:=HS2
  have HE:=HE2
  have HU:=HU2
  clear HS2 HE2 HU2
  rw [hdr]
  clear hdr
  replace i0:=UW2.out.cell (by simp) i0
  replace i1:=UW2.out.cell (by simp) i1
  replace i4:=UW2.out.cell (by simp) i4
  replace dA:=UW2.out.cell (by simp) dA
  clear dB i2 c2 fA g2 hw hW1
  have hr8:=HS.out.th.r8
  have hs8:=HS.out.th.s8
  have c24:=HS.out.th.head.cell 24 (rcells hr8 hs8 rv wv).2.2.2.2.2.2.2.1
  have hfi:=xfind_code (x:Int) HS.out.th.wr (by omega)
  rw [HWV.out] at c24 hfi
  rw [HPL.out] at hfi
  have HFI:=Lib.hid hfi
  clear hfi
  go_wp2_with fail
  refine HFI.out.mono ?_
  rintro e w2 ⟨rfl,rfl⟩
  clear HFI
  have hcell:=HS.out.th.wr
  rw [HWV.out] at hcell
  obtain ⟨p2,c2,e2,hcell⟩:=hcell
  obtain ⟨pb,po,hp2,_,m1⟩:=hcell k _ _ HKU.out
  have hpw:pw=some ⟨pb,po,none⟩:=by cases e2; exact hp2
  subst hpw
  clear hcell e2 hp2
  go_upto_region 7 with (fail)
  refine wp_region_ordT (fun w'=>w'.cell? ⟨v.heap.size,1,none⟩=some (.int .i64 (A:Int))∧w'.cell? ⟨rb,24,none⟩=some (.slice (some ⟨pb,po,none⟩) r.a.writes.length cw)∧w'.cell? ⟨pb,po+k*2+1,none⟩=some (.int .u64 u)) [0,1,2,3,4,5,6,7,8,9,10,11,12,13,14] [14] (by kernel_rfl) (by kernel_rfl) ?_
  obtain ⟨W3,hdr⟩:∃ W,(W2).drew=W:=⟨_,rfl⟩
  have udr:Upd [] W2 W3:=by rw [← hdr]; exact (Upd.refl [] _).drew
  have HS2:=Lib.hid (HS.out.upd0 udr)
  have HE2:=Lib.hid (HE.out.upd udr (by simp))
  have HU2:=Lib.hid (HU.out.trans (udr.mono (by simp)))
  have UW3:=Lib.hid udr
  clear HS HE HU udr
  have HS:=HS2
  have HE:=HE2
  have HU:=HU2
  clear HS2 HE2 HU2
  rw [hdr]
  clear hdr
  have hS:W3.cell? ⟨v.heap.size,1,none⟩=some (.int .i64 (A:Int))∧W3.cell? ⟨rb,24,none⟩=some (.slice (some ⟨pb,po,none⟩) r.a.writes.length cw)∧W3.cell? ⟨pb,po+k*2+1,none⟩=some (.int .u64 u):=⟨UW3.out.cell (by simp) i1,UW3.out.cell (by simp) c24,UW3.out.cell (by simp) m1⟩
  replace dA:=UW3.out.cell (by simp) dA
  have fA:=HS.out.th.head.free (3+A)
  clear i0 i1 i4 m1 c24
  repeat
   first
    | (refine wpT_skip rfl (by decide) (by assumption) (by rfl) ?_)
    | ((refine wpT_take (v:=?_) rfl (by decide) (by assumption) rfl (by rfl) ?_ ?_); rotate_left 1; (· ((intro w hSw; (try dsimp only at hSw); go_simp); try with_reducible rfl)))
   try simp only [Act.put,List.setIfInBounds_toArray,List.set_cons_zero,List.set_cons_succ]
  refine wpT_last rfl (by decide) (by kernel_rfl) (by rfl) (fun K2 hK2=>?_)
  go_simp
  refine hK2.out _ _ ?_
  refine wpT_end (NoPanic.normal ?_)
  clear hK2 K2
  clear hS dA fA hr8 hs8
  have hr8:=HS.out.th.r8
  have hs8:=HS.out.th.s8
  have hl8:(setRR r (A:Int) u).regs.length=8:=by unfold setRR; simp [hr8]
  obtain ⟨W4,hW2⟩:∃ W,W3.setCell ⟨rb,3+A,none⟩ (.int .u64 u)=W:=⟨_,rfl⟩
  have hs2:=HS.out.one (r':=setRR r (A:Int) u) (3+A) (.int .u64 u) (rset_reg hr8 rv wv hA u) rfl rfl hl8 hs8
  rw [hW2] at hs2
  have uu:Upd [rb,wb,qb] W3 W4:=by
   rw [← hW2]
   repeat (first | refine Upd.drew ?_ | refine Upd.setCell ?_ (.inl (by simp)) _ | with_reducible exact Upd.refl _ _)
  have HE2:=Lib.hid (HE.out.upd uu (by have:=HNB.out; simp; omega))
  have HU2:=Lib.hid (HU.out.trans uu)
  have HS2:=Lib.hid hs2
  clear HS HE HU uu hs2
  have HS:=HS2
  have HE:=HE2
  have HU:=HU2
  clear HS2 HE2 HU2
  rw [hW2]
  clear hW2
  clear hr8
  have hr8:=HS.out.th.r8
  have c2:W4.cell? ⟨rb,2,none⟩=some (.int .i64 r.at_):=HS.out.th.head.cell 2 (rcells hr8 hs8 rv wv).2.1
  have g2:=HS.out.th.head.free 2
  go_upto_region 9 with (fail)
  clear c2 g2
  obtain ⟨W5,hW2⟩:∃ W,W4.setCell ⟨rb,2,none⟩ (.int .i64 (r.at_+1))=W:=⟨_,rfl⟩
  have hs2:=HS.out.one (r':=nextR (setRR r (A:Int) u)) 2 (.int .i64 (r.at_+1)) rfl rfl rfl hr8 hs8
  rw [hW2] at hs2
  have uu:Upd [rb,wb,qb] W4 W5:=by
   rw [← hW2]
   repeat (first | refine Upd.drew ?_ | refine Upd.setCell ?_ (.inl (by simp)) _ | with_reducible exact Upd.refl _ _)
  have HE2:=Lib.hid (HE.out.upd uu (by have:=HNB.out; simp; omega))
  have HU2:=Lib.hid (HU.out.trans uu)
  have HS2:=Lib.hid hs2
  clear HS HE HU uu hs2
  have HS:=HS2
  have HE:=HE2
  have HU:=HU2
  clear HS2 HE2 HU2
  rw [hW2]
  clear hW2
  have c24:=HS.out.th.head.cell 24 (rcells (r:=nextR (setRR r (A:Int) u)) hr8 hs8 rv wv).2.2.2.2.2.2.2.1
  have hcell:=HS.out.th.wr
  rw [HWV.out] at hcell c24
  obtain ⟨p2,c2,e2,hcell⟩:=hcell
  obtain ⟨pb2,po2,hp2,_,m1⟩:=hcell k _ _ HKU.out
  cases e2
  cases hp2
  clear hcell hr8 hs8 hl8
  have q0:=(HE.out).cell 0 rfl
  have q1:=(HE.out).cell 1 rfl
  have q2:=(HE.out).cell 2 rfl
  have q3:=(HE.out).cell 3 rfl
  have q4:=(HE.out).cell 4 rfl
  have q5:=(HE.out).cell 5 rfl
  have f0:=(HE.out).free 0
  have f1:=(HE.out).free 1
  have f2:=(HE.out).free 2
  have f3:=(HE.out).free 3
  have f4:=(HE.out).free 4
  have f5:=(HE.out).free 5
  dsimp only at q0 q1 q2 q3 q4 q5
  go_wp2_with fail
  refine bodyPost_ret (ev_results2 6 7 rfl _ _ w.heap.size (⟨2,x,u,true,0⟩:TE) (.bool true) rfl rfl (ev_set HE.out (⟨2,x,u,true,0⟩:TE))) rfl (hK _ _ ?_)
  refine ⟨rfl,_,_,HS.out.box (ev_upd (S:=[w.heap.size]) (Upd.refl _ _) (.inl (by simp)) _ _ _ _ _ _) HNB.out HNL.out,ev_upd HU.out (.inr (Nat.le_refl _)) _ _ _ _ _ _,HN.out⟩
 | none =>
  have HPL:=Lib.hid (show placeI r.a.writes (x:Int) = -1 from by unfold placeI; rw [hpl])
  obtain ⟨cap,hW⟩:=HS.out.wo.head
  have d0:=hW.cell 0 rfl
  clear hW
  have hT0:T=(if ¬ (x:Int)<sh.row.length then ((failR r 4).1,(failR r 4).2,sh)
   else if r.a.reads.length=1024 then ((failR r 5).1,(failR r 5).2,sh)
   else loadR (withR r { r.a with addr:=x }) sh):=by
   rw [← HT.out]
   unfold getR
   rw [HX.out,hpl]
  clear hpl HT
  by_cases hxl:(x:Int)<sh.row.length
  ·rw [if_neg (fun h=>h hxl)] at hT0
   have b:decide ((sh.row.length:Int)≤(x:Int))=false:=decide_eq_false (by omega)
   have b2:decide (sh.row.length≤x)=false:=decide_eq_false (by omega)
   obtain ⟨pr,cr,hrv,_⟩:=HS.out.th.rd
   have HRV:=Lib.hid hrv
   clear hrv
   by_cases hrl:r.a.reads.length=1024
   ·rw [if_pos hrl] at hT0
    subst hT0
    have b3:((r.a.reads.length:Int) == 1024)=true:=by simp [hrl]
    have HRL:=Lib.hid hrl
    clear hrl hxl
    refine calls_all fun K hK=>?_
    go_enter Tryz.func59,Tryz.ntmps59
    go_upto_region 2 with (fail)
    refine wp_region_br (fun w'=>w'.cell? ⟨v.heap.size,2,none⟩=some (.int .i64 (B:Int))∧w'.cell? ⟨rb,3+B,none⟩=some (.int .u64 (x:Int))) [0,1,2,3,4,5,6,7] (by kernel_rfl) (by kernel_rfl) ⟨i2,dB⟩ ?_
    repeat
     first
      | (refine wpB_skip rfl (by kernel_rfl) (by rfl) ?_)
      | ((refine wpB_take (v:=?_) rfl rfl (by kernel_rfl) (by rfl) ?_ ?_); rotate_left 1; (· ((intro w hSw; (try dsimp only at hSw); go_simp); try with_reducible rfl)))
     try simp only [Act.put,List.setIfInBounds_toArray,List.set_cons_zero,List.set_cons_succ]
    refine wpB_end (by kernel_rfl) (NoPanic.normal ?_)
    obtain ⟨W2,hdr⟩:∃ W,(W1).drew=W:=⟨_,rfl⟩
    have udr:Upd [] W1 W2:=by rw [← hdr]; exact (Upd.refl [] _).drew
    have HS2:=Lib.hid (HS.out.upd0 udr)
    have HE2:=Lib.hid (HE.out.upd udr (by simp))
    have HU2:=Lib.hid (HU.out.trans (udr.mono (by simp)))
    have UW2:=Lib.hid udr
    clear HS HE HU udr
    have HS:=HS2
    have HE:=HE2
    have HU:=HU2
    clear HS2 HE2 HU2
    rw [hdr]
    clear hdr
    replace i0:=UW2.out.cell (by simp) i0
    replace i1:=UW2.out.cell (by simp) i1
    replace i4:=UW2.out.cell (by simp) i4
    replace dA:=UW2.out.cell (by simp) dA
    clear dB i2 c2 fA g2 hw hW1
    have hr8:=HS.out.th.r8
    have hs8:=HS.out.th.s8
    have c24:=HS.out.th.head.cell 24 (rcells hr8 hs8 rv wv).2.2.2.2.2.2.2.1
    have hfi:=xfind_code (x:Int) HS.out.th.wr (by omega)
    rw [HWV.out] at c24 hfi
    rw [HPL.out] at hfi
    have HFI:=Lib.hid hfi
    clear hfi
    go_wp2_with fail
    refine HFI.out.mono ?_
    rintro e w2 ⟨rfl,rfl⟩
    clear HFI
    replace d0:=UW2.out.cell (by simp) d0
    have c23:=HS.out.th.head.cell 23 (rcells hr8 hs8 rv wv).2.2.2.2.2.2.2.2
    rw [HRV.out] at c23
    go_wp2_with fail
    clear i0 i1 i4 d0 c23 c24 dA hr8 hs8
    have HFL:=Lib.hid (HS.out.fail 5)
    refine HFL.out.mono ?_
    rintro e W8 ⟨rfl,rv8,wv8,h8,u8,hn8⟩
    have hs8:=HU.out.size
    simp only [failR,TE.val]
    have HE8:=Lib.hid (HE.out.upd u8 (by have:=HNB.out; simp; omega))
    have HNL8:=Lib.hid (show ∀ g,rv8.ownBlock=some g∨wv8.ownBlock=some g → g≠w.heap.size from fun g hg=>by
     rcases hn8 g hg with k | k
     ·exact HNL.out g k
     ·have:=HE.out.lt; omega)
    have HN8:=Lib.hid (show ∀ g,rv8.ownBlock=some g∨wv8.ownBlock=some g → (rv.ownBlock=some g∨wv.ownBlock=some g)∨w.heap.size≤g from fun g hg=>by
     rcases hn8 g hg with k | k
     ·exact HN.out g k
     ·exact .inr (by omega))
    have HS8:=Lib.hid h8
    have HU8:=Lib.hid (HU.out.trans u8)
    clear HS HE HU HNL HN h8 u8 hn8 HFL
    have HS:=HS8
    have HE:=HE8
    have HU:=HU8
    have HNL:=HNL8
    have HN:=HN8
    have q0:=(HE.out).cell 0 rfl
    have q1:=(HE.out).cell 1 rfl
    have q2:=(HE.out).cell 2 rfl
    have q3:=(HE.out).cell 3 rfl
    have q4:=(HE.out).cell 4 rfl
    have q5:=(HE.out).cell 5 rfl
    have f0:=(HE.out).free 0
    have f1:=(HE.out).free 1
    have f2:=(HE.out).free 2
    have f3:=(HE.out).free 3
    have f4:=(HE.out).free 4
    have f5:=(HE.out).free 5
    dsimp only at q0 q1 q2 q3 q4 q5
    go_wp2_with fail
    refine bodyPost_ret (ev_results2 6 7 rfl _ _ w.heap.size (⟨9,0,0,false,5⟩:TE) (.bool true) rfl rfl (ev_set HE.out (⟨9,0,0,false,5⟩:TE))) rfl (hK _ _ ?_)
    refine ⟨rfl,_,_,HS.out.box (ev_upd (S:=[w.heap.size]) (Upd.refl _ _) (.inl (by simp)) _ _ _ _ _ _) HNB.out HNL.out,ev_upd HU.out (.inr (Nat.le_refl _)) _ _ _ _ _ _,HN.out⟩
   ·rw [if_neg hrl] at hT0
    obtain ⟨R,hR⟩:∃ R,loadR (withR r { r.a with addr:=(x:Int) }) sh=R:=⟨_,rfl⟩
    rw [hR] at hT0
    replace hT0:=hT0.symm
    subst hT0
    have HR:=Lib.hid hR
    have b3:((r.a.reads.length:Int) == 1024)=false:=by simp; omega
    clear hrl hxl hR
    refine calls_all fun K hK=>?_
    go_enter Tryz.func59,Tryz.ntmps59
    go_upto_region 2 with (fail)
    refine wp_region_br (fun w'=>w'.cell? ⟨v.heap.size,2,none⟩=some (.int .i64 (B:Int))∧w'.cell? ⟨rb,3+B,none⟩=some (.int .u64 (x:Int))) [0,1,2,3,4,5,6,7] (by kernel_rfl) (by kernel_rfl) ⟨i2,dB⟩ ?_
    repeat
     first
      | (refine wpB_skip rfl (by kernel_rfl) (by rfl) ?_)
      | ((refine wpB_take (v:=?_) rfl rfl (by kernel_rfl) (by rfl) ?_ ?_); rotate_left 1; (· ((intro w hSw; (try dsimp only at hSw); go_simp); try with_reducible rfl)))
     try simp only [Act.put,List.setIfInBounds_toArray,List.set_cons_zero,List.set_cons_succ]
    refine wpB_end (by kernel_rfl) (NoPanic.normal ?_)
    obtain ⟨W2,hdr⟩:∃ W,(W1).drew=W:=⟨_,rfl⟩
    have udr:Upd [] W1 W2:=by rw [← hdr]; exact (Upd.refl [] _).drew
    have HS2:=Lib.hid (HS.out.upd0 udr)
    have HE2:=Lib.hid (HE.out.upd udr (by simp))
    have HU2:=Lib.hid (HU.out.trans (udr.mono (by simp)))
    have UW2:=Lib.hid udr
    clear HS HE HU udr
    have HS:=HS2
    have HE:=HE2
    have HU:=HU2
    clear HS2 HE2 HU2
    rw [hdr]
    clear hdr
    replace i0:=UW2.out.cell (by simp) i0
    replace i1:=UW2.out.cell (by simp) i1
    replace i4:=UW2.out.cell (by simp) i4
    replace dA:=UW2.out.cell (by simp) dA
    clear dB i2 c2 fA g2 hw hW1
    have hr8:=HS.out.th.r8
    have hs8:=HS.out.th.s8
    have c24:=HS.out.th.head.cell 24 (rcells hr8 hs8 rv wv).2.2.2.2.2.2.2.1
    have hfi:=xfind_code (x:Int) HS.out.th.wr (by omega)
    rw [HWV.out] at c24 hfi
    rw [HPL.out] at hfi
    have HFI:=Lib.hid hfi
    clear hfi
    go_wp2_with fail
    refine HFI.out.mono ?_
    rintro e w2 ⟨rfl,rfl⟩
    clear HFI
    replace d0:=UW2.out.cell (by simp) d0
    have c23:=HS.out.th.head.cell 23 (rcells hr8 hs8 rv wv).2.2.2.2.2.2.2.2
    rw [HRV.out] at c23
    have hB2:=HS.out.th.head
    have c27:∃ q,W2.cell? ⟨rb,27,none⟩=some q:=⟨_,hB2.cell 27 (List.getElem?_eq_getElem (by rw [show (r.cells rv wv).length=31 from by unfold RT.cells; rw [List.length_append,RT.fore_len hr8 hs8]; rfl]; omega))⟩
    obtain ⟨q27,c27⟩:=c27
    have g27:=hB2.free 27
    clear hB2
    go_upto_region 15 with (fail)
    clear i0 i1 i4 d0 c23 c24 dA c27 g27
    obtain ⟨W3,hW2⟩:∃ W,W2.setCell ⟨rb,27,none⟩ (.int .u64 (x:Int))=W:=⟨_,rfl⟩
    have hs2:=HS.out.one (r':=withR r { r.a with addr:=(x:Int) }) 27 (.int .u64 (x:Int)) (rset_addr hr8 hs8 rv wv x) rfl rfl hr8 hs8
    rw [hW2] at hs2
    have uu:Upd [rb,wb,qb] W2 W3:=by
     rw [← hW2]
     repeat (first | refine Upd.drew ?_ | refine Upd.setCell ?_ (.inl (by simp)) _ | with_reducible exact Upd.refl _ _)
    have HE2:=Lib.hid (HE.out.upd uu (by have:=HNB.out; simp; omega))
    have HU2:=Lib.hid (HU.out.trans uu)
    have HS2:=Lib.hid hs2
    clear HS HE HU uu hs2
    have HS:=HS2
    have HE:=HE2
    have HU:=HU2
    clear HS2 HE2 HU2
    rw [hW2]
    clear hW2
    have HC:=Lib.hid (xload_code HS.out (by simp [withR]))
    rw [HR.out] at HC
    clear hr8 hs8
    go_wp2_with fail
    refine HC.out.mono ?_
    rintro e W8 ⟨rfl,rv8,wv8,h8,u8,hn8⟩
    obtain ⟨⟨⟨ek,ea,ew,eo,ee⟩,tl⟩,r9,sh9⟩:=R
    have hs8:=HU.out.size
    simp only [TE.val]
    have HE8:=Lib.hid (HE.out.upd u8 (by have:=HNB.out; simp; omega))
    have HNL8:=Lib.hid (show ∀ g,rv8.ownBlock=some g∨wv8.ownBlock=some g → g≠w.heap.size from fun g hg=>by
     rcases hn8 g hg with k | k
     ·exact HNL.out g k
     ·have:=HE.out.lt; omega)
    have HN8:=Lib.hid (show ∀ g,rv8.ownBlock=some g∨wv8.ownBlock=some g → (rv.ownBlock=some g∨wv.ownBlock=some g)∨w.heap.size≤g from fun g hg=>by
     rcases hn8 g hg with k | k
     ·exact HN.out g k
     ·exact .inr (by omega))
    have HS8:=Lib.hid h8
    have HU8:=Lib.hid (HU.out.trans u8)
    clear HS HE HU HNL HN h8 u8 hn8 HC
    have HS:=HS8
    have HE:=HE8
    have HU:=HU8
    have HNL:=HNL8
    have HN:=HN8
    dsimp only at HS
    have q0:=(HE.out).cell 0 rfl
    have q1:=(HE.out).cell 1 rfl
    have q2:=(HE.out).cell 2 rfl
    have q3:=(HE.out).cell 3 rfl
    have q4:=(HE.out).cell 4 rfl
    have q5:=(HE.out).cell 5 rfl
    have f0:=(HE.out).free 0
    have f1:=(HE.out).free 1
    have f2:=(HE.out).free 2
    have f3:=(HE.out).free 3
    have f4:=(HE.out).free 4
    have f5:=(HE.out).free 5
    dsimp only at q0 q1 q2 q3 q4 q5
    go_wp2_with fail
    refine bodyPost_ret (ev_results2 6 7 rfl _ _ w.heap.size (⟨ek,ea,ew,eo,ee⟩:TE) (.bool tl) rfl rfl (ev_set HE.out (⟨ek,ea,ew,eo,ee⟩:TE))) rfl (hK _ _ ?_)
    refine ⟨rfl,_,_,HS.out.box (ev_upd (S:=[w.heap.size]) (Upd.refl _ _) (.inl (by simp)) _ _ _ _ _ _) HNB.out HNL.out,ev_upd HU.out (.inr (Nat.le_refl _)) _ _ _ _ _ _,HN.out⟩
  ·rw [if_pos hxl] at hT0
   subst hT0
   have b:decide ((sh.row.length:Int)≤(x:Int))=true:=decide_eq_true (by omega)
   have b2:decide (sh.row.length≤x)=true:=decide_eq_true (by omega)
   clear hxl
   refine calls_all fun K hK=>?_
   go_enter Tryz.func59,Tryz.ntmps59
   go_upto_region 2 with (fail)
   refine wp_region_br (fun w'=>w'.cell? ⟨v.heap.size,2,none⟩=some (.int .i64 (B:Int))∧w'.cell? ⟨rb,3+B,none⟩=some (.int .u64 (x:Int))) [0,1,2,3,4,5,6,7] (by kernel_rfl) (by kernel_rfl) ⟨i2,dB⟩ ?_
   repeat
    first
     | (refine wpB_skip rfl (by kernel_rfl) (by rfl) ?_)
     | ((refine wpB_take (v:=?_) rfl rfl (by kernel_rfl) (by rfl) ?_ ?_); rotate_left 1; (· ((intro w hSw; (try dsimp only at hSw); go_simp); try with_reducible rfl)))
    try simp only [Act.put,List.setIfInBounds_toArray,List.set_cons_zero,List.set_cons_succ]
   refine wpB_end (by kernel_rfl) (NoPanic.normal ?_)
   obtain ⟨W2,hdr⟩:∃ W,(W1).drew=W:=⟨_,rfl⟩
   have udr:Upd [] W1 W2:=by rw [← hdr]; exact (Upd.refl [] _).drew
   have HS2:=Lib.hid (HS.out.upd0 udr)
   have HE2:=Lib.hid (HE.out.upd udr (by simp))
   have HU2:=Lib.hid (HU.out.trans (udr.mono (by simp)))
   have UW2:=Lib.hid udr
   clear HS HE HU udr
   have HS:=HS2
   have HE:=HE2
   have HU:=HU2
   clear HS2 HE2 HU2
   rw [hdr]
   clear hdr
   replace i0:=UW2.out.cell (by simp) i0
   replace i1:=UW2.out.cell (by simp) i1
   replace i4:=UW2.out.cell (by simp) i4
   replace dA:=UW2.out.cell (by simp) dA
   clear dB i2 c2 fA g2 hw hW1
   have hr8:=HS.out.th.r8
   have hs8:=HS.out.th.s8
   have c24:=HS.out.th.head.cell 24 (rcells hr8 hs8 rv wv).2.2.2.2.2.2.2.1
   have hfi:=xfind_code (x:Int) HS.out.th.wr (by omega)
   rw [HWV.out] at c24 hfi
   rw [HPL.out] at hfi
   have HFI:=Lib.hid hfi
   clear hfi
   go_wp2_with fail
   refine HFI.out.mono ?_
   rintro e w2 ⟨rfl,rfl⟩
   clear HFI
   replace d0:=UW2.out.cell (by simp) d0
   go_wp2_with fail
   clear i0 i1 i4 d0 c24 dA hr8 hs8
   have HFL:=Lib.hid (HS.out.fail 4)
   refine HFL.out.mono ?_
   rintro e W8 ⟨rfl,rv8,wv8,h8,u8,hn8⟩
   have hs8:=HU.out.size
   simp only [failR,TE.val]
   have HE8:=Lib.hid (HE.out.upd u8 (by have:=HNB.out; simp; omega))
   have HNL8:=Lib.hid (show ∀ g,rv8.ownBlock=some g∨wv8.ownBlock=some g → g≠w.heap.size from fun g hg=>by
    rcases hn8 g hg with k | k
    ·exact HNL.out g k
    ·have:=HE.out.lt; omega)
   have HN8:=Lib.hid (show ∀ g,rv8.ownBlock=some g∨wv8.ownBlock=some g → (rv.ownBlock=some g∨wv.ownBlock=some g)∨w.heap.size≤g from fun g hg=>by
    rcases hn8 g hg with k | k
    ·exact HN.out g k
    ·exact .inr (by omega))
   have HS8:=Lib.hid h8
   have HU8:=Lib.hid (HU.out.trans u8)
   clear HS HE HU HNL HN h8 u8 hn8 HFL
   have HS:=HS8
   have HE:=HE8
   have HU:=HU8
   have HNL:=HNL8
   have HN:=HN8
   have q0:=(HE.out).cell 0 rfl
   have q1:=(HE.out).cell 1 rfl
   have q2:=(HE.out).cell 2 rfl
   have q3:=(HE.out).cell 3 rfl
   have q4:=(HE.out).cell 4 rfl
   have q5:=(HE.out).cell 5 rfl
   have f0:=(HE.out).free 0
   have f1:=(HE.out).free 1
   have f2:=(HE.out).free 2
   have f3:=(HE.out).free 3
   have f4:=(HE.out).free 4
   have f5:=(HE.out).free 5
   dsimp only at q0 q1 q2 q3 q4 q5
   go_wp2_with fail
   refine bodyPost_ret (ev_results2 6 7 rfl _ _ w.heap.size (⟨9,0,0,false,4⟩:TE) (.bool true) rfl rfl (ev_set HE.out (⟨9,0,0,false,4⟩:TE))) rfl (hK _ _ ?_)
   refine ⟨rfl,_,_,HS.out.box (ev_upd (S:=[w.heap.size]) (Upd.refl _ _) (.inl (by simp)) _ _ _ _ _ _) HNB.out HNL.out,ev_upd HU.out (.inr (Nat.le_refl _)) _ _ _ _ _ _,HN.out⟩
end
end Go.Proofs.YtehopaabfoopeaaGreat
set_option linter.unusedSimpArgs false
set_option linter.unusedVariables false
set_option maxRecDepth 100000
namespace Go.Proofs.YtehopaabfoopeaaGreat
open Go.RowKit
open Go.Maps
def Row2 (w:World) (v:Value) (l:List (Int × Int)):Prop:=w.ownsRow 0 71 2 v l.length (pcells l)
theorem Row2.upd {w w':World} {v:Value} {l:List (Int × Int)} {S:List Nat} (h:Row2 w v l) (u:Upd S w w') (hS:∀ g ∈ S,v.ownBlock≠some g):Row2 w' v l:=own_upd h u hS
theorem app_from0 (W:World) (g:Nat) (hg:Blk W g [] 71) (v:Value) (l:List (Int × Int)) (h:SlC W v l) (hl:l.length*16≤140737488355328) :
  ∃ v' W',(Builtin.append_ #[53,53] 53 #[.slice (some ⟨g,0,none⟩) 0 0,v]).run Tryz.prog W=.ok v' W'∧Row2 W' v' l∧Upd [g] W W'∧(v'.ownBlock=some g∨v'.ownBlock=some W.heap.size):=by
 obtain ⟨i0,hi,hz0,hz1,hz2⟩:=info_parts info_cell
 have hgl:=hg.lt
 have how:W.ownsRow 0 71 2 (.slice (some ⟨g,0,none⟩) 0 0) 0 []:=⟨rfl,.inr ⟨g,0,#[],rfl,Nat.zero_le _,hg,Nat.le_refl _,by decide,rfl,rfl⟩⟩
 obtain ⟨p,cap,rfl,hc⟩:=id h
 by_cases hz:l=[]
 ·subst hz
  refine ⟨.slice (some ⟨g,0,none⟩) 0 0,W,?_,how,Upd.refl _ _,.inl rfl⟩
  cases p with
  | none=>simp [Builtin.append_,run_underlying Tryz.underlying53,sizeOf,typeInfo,hi,Builtin.lenOf,Builtin.firstCells,storeCells,Addr.add]
  | some a=>simp [Builtin.append_,run_underlying Tryz.underlying53,sizeOf,typeInfo,hi,Builtin.lenOf,Builtin.firstCells,loadCells,loadCellsFrom,storeCells,Addr.add]
 ·obtain ⟨ad,rfl,hsrc⟩:=h.srcC hz
  have hpos:=List.length_pos_iff.2 hz
  obtain ⟨v',w',hr,ho,hgr,_,hor⟩:=run_append_own_at (P:=Tryz.prog) (w:=W) 0 53 53 71 i0 (.agg #[.int .u64 0,.int .u64 0]) 2 16 Tryz.underlying53 hi hz0 hz1 hz2 rfl (by omega)
   (.slice (some ⟨g,0,none⟩) 0 0) 0 [] how ad l.length cap (pcells l) (by rw [pcells_len]; omega) hsrc (fun u hu=>pcells_one hu) (by unfold maxLen; omega) (by omega) (Nat.zero_le _)
  rw [Nat.zero_add,List.nil_append] at ho
  exact ⟨v',w',hr,ho,Upd.own hgr,hor⟩
theorem app_row {W:World} {v:Value} {l:List (Int × Int)} (h:Row2 W v l) (x y:Int) (hl:l.length<100000) :
  ∃ v' w',(Builtin.append_ #[53,53] 53 #[v,.slice (some ⟨W.heap.size,0,none⟩) 1 1]).run Tryz.prog (W.alloc (.cells #[.int .u64 x,.int .u64 y] 71))=.ok v' w' ∧
   Row2 w' v' (l ++ [(x,y)])∧Upd v.ownBlock.toList (W.alloc (.cells #[.int .u64 x,.int .u64 y] 71)) w'∧(v'.ownBlock=v.ownBlock∨v'.ownBlock=some (W.heap.size+1)):=by
 obtain ⟨i0,hi,hz0,hz1,hz2⟩:=info_parts info_cell
 have hW:Row2 (W.alloc (.cells #[.int .u64 x,.int .u64 y] 71)) v l:=h.upd ((Upd.refl [] W).alloc _) (by simp)
 obtain ⟨v',w',hr,ho,hg,hn,hat⟩:=run_append_own_at (P:=Tryz.prog) (W.alloc (.cells #[.int .u64 x,.int .u64 y] 71)) 0 53 53 71 i0 (.agg #[.int .u64 0,.int .u64 0]) 2 16 Tryz.underlying53 hi hz0 hz1 hz2 rfl (by decide) v l.length (pcells l) hW
  ⟨W.heap.size,0,none⟩ 1 1 [.int .u64 x,.int .u64 y] rfl (news_new _ 71 rfl) (by simp [Value.oneCell']) (by unfold maxLen; omega) (by omega) (Nat.zero_le _)
 rw [World.size_alloc] at hat
 refine ⟨v',w',hr,?_,Upd.own hg,hat⟩
 unfold Row2
 rw [pcells_snoc]
 simpa using ho
theorem app_row2 {W:World} {v:Value} {l:List (Int × Int)} (h:Row2 W v l) {u:Value} {m:List (Int × Int)} (hm:SlC W u m) (hz:m≠[]) (hl:l.length+m.length<100000) :
  ∃ v' w',(Builtin.append_ #[53,53] 53 #[v,u]).run Tryz.prog W=.ok v' w'∧Row2 w' v' (l ++ m)∧Upd v.ownBlock.toList W w'∧(v'.ownBlock=v.ownBlock∨v'.ownBlock=some W.heap.size):=by
 obtain ⟨i0,hi,hz0,hz1,hz2⟩:=info_parts info_cell
 obtain ⟨p,cap,rfl,_⟩:=id hm
 obtain ⟨ad,rfl,hsrc⟩:=hm.srcC hz
 obtain ⟨v',w',hr,ho,hg,hn,hat⟩:=run_append_own_at (P:=Tryz.prog) (w:=W) 0 53 53 71 i0 (.agg #[.int .u64 0,.int .u64 0]) 2 16 Tryz.underlying53 hi hz0 hz1 hz2 rfl (by decide) v l.length (pcells l) h
  ad m.length cap (pcells m) (by rw [pcells_len]; omega) hsrc (fun u hu=>pcells_one hu) (by unfold maxLen; omega) (by omega) (Nat.zero_le _)
 refine ⟨v',w',hr,?_,Upd.own hg,hat⟩
 unfold Row2
 rw [List.length_append,show pcells (l ++ m)=pcells l ++ pcells m from by simp [pcells]]
 exact ho
theorem slc_of_blk {w:World} {g cap:Nat} {l:List (Int × Int)} {sp:List Value} (h:Blk w g (pcells l ++ sp) 71):SlC w (.slice (some ⟨g,0,none⟩) l.length cap) l:=by
 refine ⟨_,_,rfl,fun j a b hj=>⟨g,0,rfl,?_,?_⟩⟩
 all_goals
  obtain ⟨k0,k1⟩:=pcells_get l j a b hj
  have hjl:=(List.getElem?_eq_some_iff.1 hj).1
  have hlen:=pcells_len l
  rw [Nat.zero_add]
 ·exact h.cell _ (by rw [List.getElem?_append_left (by omega)]; exact k0)
 ·exact h.cell _ (by rw [List.getElem?_append_left (by omega)]; exact k1)
theorem Row2.open {w:World} {v:Value} {l:List (Int × Int)} (h:Row2 w v l) (hl:l≠[]):∃ g cap sp,v=.slice (some ⟨g,0,none⟩) l.length cap∧Blk w g (pcells l ++ sp) 71:=by
 obtain ⟨g,cap,sp,e,_,hB,_⟩:=OwnP.open (F:=v.ownBlock.toList) ⟨h,fun e=>absurd e hl,fun g hg=>by simp [hg]⟩ hl
 exact ⟨g,cap,sp,e,hB⟩
section
variable {w w':World} {rb wb qb:Nat} {r:RT} {sh:Sh} {rv wv:Value}
theorem rset_w {r:RT} (h8:r.regs.length=8) (k8:r.saved.length=8) (rv wv v':Value) (l:List (Int × Int)):(r.cells rv wv).set 24 v'=(withR r { r.a with writes:=l }).cells rv v':=by
 obtain ⟨st,er,at_,rs,ins,sta,sv,fu,⟨sn,rd,wl,ph,th,ad,wo,fo,at2⟩⟩:=r
 obtain ⟨r0,r1,r2,r3,r4,r5,r6,r7,rfl⟩:=list8 h8
 obtain ⟨s0,s1,s2,s3,s4,s5,s6,s7,rfl⟩:=list8 k8
 rfl
theorem rset_r {r:RT} (h8:r.regs.length=8) (k8:r.saved.length=8) (rv wv v':Value) (l:List (Int × Int)):(r.cells rv wv).set 23 v'=(withR r { r.a with reads:=l }).cells v' wv:=by
 obtain ⟨st,er,at_,rs,ins,sta,sv,fu,⟨sn,rd,wl,ph,th,ad,wo,fo,at2⟩⟩:=r
 obtain ⟨r0,r1,r2,r3,r4,r5,r6,r7,rfl⟩:=list8 h8
 obtain ⟨s0,s1,s2,s3,s4,s5,s6,s7,rfl⟩:=list8 k8
 rfl
theorem RS.setW (h:RS w rb wb qb r sh rv wv) (v':Value) (l:List (Int × Int)) (hs:SlC w v' l) (hb:∀ g,v'.ownBlock=some g → g≠rb∧g≠wb∧g≠qb∧g<w.heap.size):RS (w.setCell ⟨rb,24,none⟩ v') rb wb qb (withR r { r.a with writes:=l }) sh rv v':=by
 have u:Upd [rb] w (w.setCell ⟨rb,24,none⟩ v'):=(Upd.refl [rb] w).setCell (.inl (by simp)) _
 have hsz:=u.size
 refine ⟨⟨by rw [← rset_w h.th.r8 h.th.s8 rv wv v' l]; exact h.th.head.set 24 v',h.th.rd.upd u (fun g hg e=>(h.th.ap g (.inl hg)).1 (by simpa using e)),hs.upd u (fun g hg e=>(hb g hg).1 (by simpa using e)),h.th.r8,h.th.s8,fun g hg=>?_⟩,h.wo.upd u (by simpa using h.ne.1.symm) (by simpa using h.ne.2.symm),fun g hg=>?_⟩
 ·rcases hg with k | k
  ·exact ⟨(h.th.ap g (.inl k)).1,by have:=(h.th.ap g (.inl k)).2; omega⟩
  ·exact ⟨(hb g k).1,by have:=(hb g k).2.2.2; omega⟩
 ·rcases hg with k | k
  ·exact h.ap g (.inl k)
  ·exact ⟨(hb g k).2.1,(hb g k).2.2.1⟩
theorem RS.setRd (h:RS w rb wb qb r sh rv wv) (v':Value) (l:List (Int × Int)) (hs:SlC w v' l) (hb:∀ g,v'.ownBlock=some g → g≠rb∧g≠wb∧g≠qb∧g<w.heap.size):RS (w.setCell ⟨rb,23,none⟩ v') rb wb qb (withR r { r.a with reads:=l }) sh v' wv:=by
 have u:Upd [rb] w (w.setCell ⟨rb,23,none⟩ v'):=(Upd.refl [rb] w).setCell (.inl (by simp)) _
 have hsz:=u.size
 refine ⟨⟨by rw [← rset_r h.th.r8 h.th.s8 rv wv v' l]; exact h.th.head.set 23 v',hs.upd u (fun g hg e=>(hb g hg).1 (by simpa using e)),h.th.wr.upd u (fun g hg e=>(h.th.ap g (.inr hg)).1 (by simpa using e)),h.th.r8,h.th.s8,fun g hg=>?_⟩,h.wo.upd u (by simpa using h.ne.1.symm) (by simpa using h.ne.2.symm),fun g hg=>?_⟩
 ·rcases hg with k | k
  ·exact ⟨(hb g k).1,by have:=(hb g k).2.2.2; omega⟩
  ·exact ⟨(h.th.ap g (.inr k)).1,by have:=(h.th.ap g (.inr k)).2; omega⟩
 ·rcases hg with k | k
  ·exact ⟨(hb g k).2.1,(hb g k).2.2.1⟩
  ·exact h.ap g (.inr k)
end
end Go.Proofs.YtehopaabfoopeaaGreat
set_option linter.unusedSimpArgs false
set_option linter.unusedVariables false
set_option maxRecDepth 100000
namespace Go.Proofs.YtehopaabfoopeaaGreat
open Go.RowKit
open Go.Maps
def putR (i:Ins) (r:RT) (sh:Sh):Told × RT × Sh:=
 if ¬ rgR r i.b<sh.row.length then ((failR r 4).1,(failR r 4).2,sh)
 else match place r.a.writes (rgR r i.b) with
 | some k=>(telling 3 (rgR r i.b) (rgR r i.a),nextR (withR r { r.a with writes:=r.a.writes.set k (rgR r i.b,rgR r i.a) }),sh)
 | none=>if r.a.writes.length=1024 then ((failR r 5).1,(failR r 5).2,sh)
  else (telling 3 (rgR r i.b) (rgR r i.a),nextR (withR r { r.a with writes:=r.a.writes ++ [(rgR r i.b,rgR r i.a)] }),sh)
section
variable {v w w':World} {rb wb qb:Nat} {r:RT} {sh:Sh} {rv wv:Value} {po:Option Addr} {cap:Nat} {p:List Ins}
set_option maxHeartbeats 4000000 in
theorem xinside_put1 (h0:RS v rb wb qb r sh rv wv) (A B C:Nat) (ni:Int) (hA:A<8) (hB:B<8) (hat:0≤r.at_∧r.at_≤1000000) (hrw:∀ x ∈ r.regs,W64 x) (hlr:r.a.reads.length≤1024) (hlw:r.a.writes.length≤1024) (hin:rgR r (B:Int)<sh.row.length) {k:Nat} (hpl0:place r.a.writes (rgR r (B:Int))=some k) :
  Calls Tryz.prog 59 #[(⟨14,A,B,C,ni⟩:Ins).val,.pointer (some ⟨rb,0,none⟩),.pointer (some ⟨wb,0,none⟩)] v (RSOk v rb wb qb rv wv (putR ⟨14,A,B,C,ni⟩ r sh)):=by
 simp only [Ins.val]
 obtain ⟨io,hio⟩:∃ io:Int,(14:Int)=io:=⟨_,rfl⟩
 rw [hio]
 obtain ⟨T,hT⟩:∃ T,putR ⟨io,A,B,C,ni⟩ r sh=T:=⟨_,rfl⟩
 have HT:=Lib.hid hT
 rw [hT]
 clear hT
 obtain ⟨w,hw⟩:∃ W,v.alloc (.cells #[.int .i64 io,.int .i64 (A:Int),.int .i64 (B:Int),.int .i64 (C:Int),.int .u64 ni] 50)=W:=⟨_,rfl⟩
 have u0:Upd [] v w:=by rw [← hw]; exact (Upd.refl [] _).alloc _
 have IB:Blk w v.heap.size [.int .i64 io,.int .i64 (A:Int),.int .i64 (B:Int),.int .i64 (C:Int),.int .u64 ni] 50:=by rw [← hw]; exact Blk.new v _ _
 have hib:=IB.lt
 have hl1:=h0.th.lt
 have hl2:=h0.wo.lt
 have HIN:=Lib.hid (show v.heap.size ∉ [rb,wb,qb] from by simp; omega)
 have h:=h0.upd0 u0
 refine (?_:Calls Tryz.prog _ _ v (RSOk w rb wb qb rv wv T)).mono (fun e w2 k=>k.base u0)
 clear h0 u0 hl1 hl2
 obtain ⟨W1,hW1⟩:∃ W,w.alloc (.cells #[.int .i64 0,.int .i64 0,.int .u64 0,.int .u64 0,.bool false,.int .i64 0] 86)=W:=⟨_,rfl⟩
 have u1:Upd [] w W1:=by rw [← hW1]; exact (Upd.refl [] _).alloc _
 have EB:Blk W1 w.heap.size (TE.cells ⟨0,0,0,false,0⟩) 86:=by rw [← hW1]; exact Blk.new w _ _
 have hlt1:=h.th.lt
 have hlt2:=h.wo.lt
 have hnes:=h.ne
 have hnew:=h.wo.ne
 have HNB:=Lib.hid (show rb≠w.heap.size∧wb≠w.heap.size∧qb≠w.heap.size from ⟨by omega,by omega,by omega⟩)
 have HNL:=Lib.hid (show ∀ g,rv.ownBlock=some g∨wv.ownBlock=some g → g≠w.heap.size from fun g hg=>by have:=(h.th.ap g hg).2; omega)
 have HN:=Lib.hid (show ∀ g,rv.ownBlock=some g∨wv.ownBlock=some g → (rv.ownBlock=some g∨wv.ownBlock=some g)∨w.heap.size≤g from fun g hg=>.inl hg)
 have HS:=Lib.hid (h.upd0 u1)
 have HE:=Lib.hid EB
 have HU:=Lib.hid (show Upd [rb,wb,qb] w W1 from u1.mono (by simp))
 have hne1:rb≠w.heap.size:=by omega
 have hne2:wb≠w.heap.size:=by omega
 have hne3:qb≠w.heap.size:=by omega
 have hne4:rb≠wb:=hnes.1
 have hne5:rb≠qb:=hnes.2
 clear EB u1 h hlt1 hlt2
 have hlen:=HS.out.wo.len
 have hul:IntKind.u64.wrap (sh.row.length:Int)=sh.row.length:=by rw [IntKind.wrap_u64]; omega
 have hwa:wrap64 (r.at_+1)=r.at_+1:=by unfold wrap64; omega
 have hr8:=HS.out.th.r8
 have hs8:=HS.out.th.s8
 have dA:=HS.out.th.head.cell _ (rcell_reg hr8 rv wv hA)
 have dB:=HS.out.th.head.cell _ (rcell_reg hr8 rv wv hB)
 have c2:=HS.out.th.head.cell 2 (rcells hr8 hs8 rv wv).2.1
 have fA:=HS.out.th.head.free (3+A)
 have g2:=HS.out.th.head.free 2
 have hwB:W64 (r.regs.getD B 0):=by
  rw [List.getD_eq_getElem?_getD,List.getElem?_eq_getElem (by omega)]; exact hrw _ (List.getElem_mem _)
 have hwA:W64 (r.regs.getD A 0):=by
  rw [List.getD_eq_getElem?_getD,List.getElem?_eq_getElem (by omega)]; exact hrw _ (List.getElem_mem _)
 obtain ⟨x,hx⟩:∃ x:Nat,r.regs.getD B 0=x:=⟨(r.regs.getD B 0).toNat,by have:=hwB.1; omega⟩
 obtain ⟨y,hy⟩:∃ y:Int,r.regs.getD A 0=y:=⟨_,rfl⟩
 rw [hx] at dB
 rw [hy] at dA hwA
 have HX:=Lib.hid (show rgR r (B:Int)=x from hx)
 have HY:=Lib.hid (show rgR r (A:Int)=y from hy)
 have hAi:(A:Int)<8:=by omega
 have hBi:(B:Int)<8:=by omega
 have i0:=HU.out.cell HIN.out (IB.cell 0 rfl)
 have i1:=HU.out.cell HIN.out (IB.cell 1 rfl)
 have i2:=HU.out.cell HIN.out (IB.cell 2 rfl)
 have i4:=HU.out.cell HIN.out (IB.cell 4 rfl)
 obtain ⟨pw,cw,hwv,_⟩:=HS.out.th.wr
 have HWV:=Lib.hid hwv
 clear hx hy hwB hwv hr8 hs8
 subst hio
 have hxl:(x:Int)<sh.row.length:=by rw [← HX.out]; exact hin
 have hpl:place r.a.writes (x:Int)=some k:=by rw [← HX.out]; exact hpl0
 clear hin hpl0
 obtain ⟨cap,hW⟩:=HS.out.wo.head
 have d0:=hW.cell 0 rfl
 clear hW
 have b:decide ((sh.row.length:Int)≤(x:Int))=false:=decide_eq_false (by omega)
 have b2:decide (sh.row.length≤x)=false:=decide_eq_false (by omega)
 obtain ⟨hk,u,hu⟩:=place_some hpl
 have hTT:T=(telling 3 x y,nextR (withR r { r.a with writes:=r.a.writes.set k ((x:Int),y) }),sh):=by
  rw [← HT.out]
  unfold putR
  rw [HX.out,if_neg (fun h=>h hxl),hpl,HY.out]
 subst hTT
 have HPL:=Lib.hid (show placeI r.a.writes (x:Int)=(k:Int) from by unfold placeI; rw [hpl])
 have HKU:=Lib.hid hu
 have hki:(k:Int)<(r.a.writes.length:Int):=by omega
 have hk0:decide ((k:Int)<0)=false:=decide_eq_false (by omega)
 have wl0:r.a.writes≠[]:=fun e=>by rw [e] at hk; simp at hk
 clear HT hpl hu hxl
 refine calls_all fun K hK=>?_
 go_enter Tryz.func59,Tryz.ntmps59
 go_upto_region 2 with (fail)
 refine wp_region_br (fun w'=>w'.cell? ⟨v.heap.size,2,none⟩=some (.int .i64 (B:Int))∧w'.cell? ⟨rb,3+B,none⟩=some (.int .u64 (x:Int))) [0,1,2,3,4,5,6,7] (by kernel_rfl) (by kernel_rfl) ⟨i2,dB⟩ ?_
 repeat
  first
   | (refine wpB_skip rfl (by kernel_rfl) (by rfl) ?_)
   | ((refine wpB_take (v:=?_) rfl rfl (by kernel_rfl) (by rfl) ?_ ?_); rotate_left 1; (· ((intro w hSw; (try dsimp only at hSw); go_simp); try with_reducible rfl)))
  try simp only [Act.put,List.setIfInBounds_toArray,List.set_cons_zero,List.set_cons_succ]
 refine wpB_end (by kernel_rfl) (NoPanic.normal ?_)
 obtain ⟨W2,hdr⟩:∃ W,(W1).drew=W:=⟨_,rfl⟩
 have udr:Upd [] W1 W2:=by rw [← hdr]; exact (Upd.refl [] _).drew
 have HS2:=Lib.hid (HS.out.upd0 udr)
 have HE2:=Lib.hid (HE.out.upd udr (by simp))
 have HU2:=Lib.hid (HU.out.trans (udr.mono (by simp)))
 have UW2:=Lib.hid udr
 clear HS HE HU udr
 have HS:=HS2
 have HE:=HE2
 have HU:=HU2
 clear HS2 HE2 HU2
 rw [hdr]
 clear hdr
 replace i0:=UW2.out.cell (by simp) i0
 replace i1:=UW2.out.cell (by simp) i1
 replace i4:=UW2.out.cell (by simp) i4
 replace dA:=UW2.out.cell (by simp) dA
 clear dB i2 c2 fA g2 hw hW1
 have hr8:=HS.out.th.r8
 have hs8:=HS.out.th.s8
 have c24:=HS.out.th.head.cell 24 (rcells hr8 hs8 rv wv).2.2.2.2.2.2.2.1
 have hfi:=xfind_code (x:Int) HS.out.th.wr (by omega)
 rw [HWV.out] at c24 hfi
 rw [HPL.out] at hfi
 have HFI:=Lib.hid hfi
 clear hfi
 go_wp2_with fail
 refine HFI.out.mono ?_
 rintro e w2 ⟨rfl,rfl⟩
 clear HFI
 replace d0:=UW2.out.cell (by simp) d0
 have hsl:=HS.out.th.wr
 rw [HWV.out] at hsl
 go_upto_region 24 with (fail)
 clear d0
 obtain ⟨Wb,hWb⟩:∃ W,(W2).alloc (.cells #[] 71)=W:=⟨_,rfl⟩
 have ub:Upd [] W2 Wb:=by rw [← hWb]; exact (Upd.refl [] _).alloc _
 have GB:Blk Wb (W2).heap.size [] 71:=by rw [← hWb]; exact Blk.new W2 [] 71
 obtain ⟨vl,Wc,hr,hrow,uc,hor⟩:=app_from0 Wb _ GB _ _ (hsl.upd0 ub) (by omega)
 have hsb:Wb.heap.size=(W2).heap.size+1:=by rw [← hWb]; exact World.size_alloc _ _
 have uac:Upd [] W2 Wc:=ub.tr (U:=[]) uc (fun g hg=>by simp at hg) (fun g hg=>by simp at hg; subst hg; exact .inr (Nat.le_refl _))
 have hgn:∀ g,vl.ownBlock=some g → (W2).heap.size≤g:=fun g hg=>by
  rcases hor with e | e <;> (rw [e] at hg; cases hg; omega)
 obtain ⟨g,cl,sp,hvl,BL⟩:=hrow.open wl0
 subst hvl
 have hga:(W2).heap.size≤g:=hgn g rfl
 have l1:=HS.out.th.lt
 have l2:=HS.out.wo.lt
 have l3:=HE.out.lt
 have HGN:=Lib.hid (show g≠rb∧g≠wb∧g≠qb∧g≠w.heap.size from ⟨by omega,by omega,by omega,by omega⟩)
 have HGW:=Lib.hid (show w.heap.size≤g from by omega)
 have HLG:=Lib.hid (show ∀ q,rv.ownBlock=some q∨(wv).ownBlock=some q → q≠g from fun q hq=>by have:=(HS.out.th.ap q hq).2; omega)
 have HBL:=Lib.hid BL
 have HSc:=Lib.hid (HS.out.upd0 uac)
 have HEc:=Lib.hid (HE.out.upd uac (by simp))
 have HUc:=Lib.hid (HU.out.trans (uac.mono (by simp)))
 have i1c:=uac.cell (by simp) i1
 have dAc:=uac.cell (by simp) dA
 have c24b:=ub.cell (by simp) c24
 go_upto_region 25 with (at_builtin; refine wpList_append_eq rfl _ _ _ _ rfl _ _ _ rfl rfl hr ?_)
 clear hr hrow uc hor uac hgn BL hsb ub GB hWb HS HE HU i1 dA l1 l2 l3 hga hsl c24b c24
 have HS:=HSc
 have HE:=HEc
 have HU:=HUc
 clear HSc HEc HUc
 refine wp_region_ordT (fun w'=>w'.cell? ⟨v.heap.size,1,none⟩=some (.int .i64 (A:Int))∧w'.cell? ⟨rb,3+A,none⟩=some (.int .u64 y)) [0,1,2,3,4,5,6,7,8,9,10,11] [11] (by kernel_rfl) (by kernel_rfl) ?_
 obtain ⟨W5,hdr⟩:∃ W,(Wc).drew=W:=⟨_,rfl⟩
 have udr:Upd [] Wc W5:=by rw [← hdr]; exact (Upd.refl [] _).drew
 have HS2:=Lib.hid (HS.out.upd0 udr)
 have HE2:=Lib.hid (HE.out.upd udr (by simp))
 have HU2:=Lib.hid (HU.out.trans (udr.mono (by simp)))
 have UW5:=Lib.hid udr
 clear HS HE HU udr
 have HS:=HS2
 have HE:=HE2
 have HU:=HU2
 clear HS2 HE2 HU2
 rw [hdr]
 clear hdr
 have hS:(W5).cell? ⟨v.heap.size,1,none⟩=some (.int .i64 (A:Int))∧(W5).cell? ⟨rb,3+A,none⟩=some (.int .u64 y):=⟨(UW5).out.cell (by simp) i1c,(UW5).out.cell (by simp) dAc⟩
 have BL5:=HBL.out.upd (UW5).out (by simp)
 have hplen:=pcells_len (r.a.writes)
 have hkn:k<(r.a.writes).length:=(List.getElem?_eq_some_iff.1 HKU.out).1
 have hg1:=BL5.cell (k*2+1) (by rw [List.getElem?_append_left (by omega)]; exact (pcells_get _ k _ _ HKU.out).2)
 have hf1:=BL5.free (k*2+1)
 clear i1c dAc HBL
 repeat
  first
   | (refine wpT_skip rfl (by decide) (by assumption) (by rfl) ?_)
   | ((refine wpT_take (v:=?_) rfl (by decide) (by assumption) rfl (by rfl) ?_ ?_); rotate_left 1; (· ((intro w hSw; (try dsimp only at hSw); go_simp); try with_reducible rfl)))
  try simp only [Act.put,List.setIfInBounds_toArray,List.set_cons_zero,List.set_cons_succ]
 refine wpT_last rfl (by decide) (by kernel_rfl) (by rfl) (fun K2 hK2=>?_)
 go_simp
 refine hK2.out _ _ ?_
 refine wpT_end (NoPanic.normal ?_)
 clear hK2 K2
 clear hS
 have u6:Upd [g] W5 ((W5).setCell ⟨g,k*2+1,none⟩ (.int .u64 y)):=(Upd.refl [g] _).setCell (.inl (by simp)) _
 obtain ⟨W6,hWc⟩:∃ W,(W5).setCell ⟨g,k*2+1,none⟩ (.int .u64 y)=W:=⟨_,rfl⟩
 have BL6:=BL5.set (k*2+1) (.int .u64 y)
 rw [hWc] at u6 BL6 ⊢
 rw [List.set_append_left _ _ (by omega),pcells_set _ k _ _ y HKU.out] at BL6
 have hgs:=HGN.out
 have HS6:=Lib.hid (HS.out.upd u6 (by simp; omega) (fun q hq=>by simpa using HLG.out q hq))
 have HE6:=Lib.hid (HE.out.upd u6 (by simp; omega))
 have HU6:=Lib.hid (HU.out.tr (U:=[rb,wb,qb]) u6 (fun q hq=>.inl hq) (fun q hq=>by simp at hq; subst hq; exact .inr (by have:=HGW.out; omega)))
 have hsl6:SlC W6 (.slice (some ⟨g,0,none⟩) (r.a.writes).length cl) ((r.a.writes).set k ((x:Int),y)):=by
  have:=slc_of_blk (cap:=cl) BL6
  rwa [List.length_set] at this
 have hg6:=BL6.cell (k*2+1) (by rw [List.getElem?_append_left (by rw [pcells_len,List.length_set]; omega)]; exact (pcells_get _ k _ _ (by rw [List.getElem?_set_self (by omega)])).2)
 have hgl:=BL6.lt
 clear HS HE HU hg1 hf1 BL5 hWc u6
 have HS:=HS6
 have HE:=HE6
 have HU:=HU6
 clear HS6 HE6 HU6
 have k8:=HS.out.th.r8
 have j8:=HS.out.th.s8
 have c24:=HS.out.th.head.cell 24 (rcells k8 j8 rv (wv)).2.2.2.2.2.2.2.1
 have g24:=HS.out.th.head.free 24
 have c2:(W6).cell? ⟨rb,2,none⟩=some (.int .i64 r.at_):=HS.out.th.head.cell 2 (rcells k8 j8 rv (wv)).2.1
 have g2:=HS.out.th.head.free 2
 have hgr:g≠rb:=hgs.1
 have hrg:rb≠g:=hgr.symm
 go_upto_region 28 with (fail)
 have hs7:=(HS.out.setW (.slice (some ⟨g,0,none⟩) (r.a.writes).length cl) _ hsl6 (fun q hq=>by cases hq; exact ⟨hgs.1,hgs.2.1,hgs.2.2.1,hgl⟩)).one (r':=nextR (withR r { r.a with writes:=(r.a.writes).set k ((x:Int),y) })) 2 (.int .i64 (r.at_+1)) rfl rfl rfl k8 j8
 obtain ⟨W7,hWd⟩:∃ W,((W6).setCell ⟨rb,24,none⟩ (.slice (some ⟨g,0,none⟩) (r.a.writes).length cl)).setCell ⟨rb,2,none⟩ (.int .i64 (r.at_+1))=W:=⟨_,rfl⟩
 have u7:Upd [rb] W6 W7:=by rw [← hWd]; exact ((Upd.refl [rb] _).setCell (.inl (by simp)) _).setCell (.inl (by simp)) _
 rw [hWd] at hs7 ⊢
 have hg7:=u7.cell (by simpa using hgr) hg6
 have hnb:=HNB.out
 have HE7:=Lib.hid (HE.out.upd u7 (by simp; omega))
 have HU7:=Lib.hid (HU.out.trans (u7.mono (by simp)))
 have HNL7:=Lib.hid (show ∀ q,rv.ownBlock=some q∨(Value.slice (some ⟨g,0,none⟩) (r.a.writes).length cl).ownBlock=some q → q≠w.heap.size from fun q hq=>by
  rcases hq with e | e
  ·exact HNL.out q (.inl e)
  ·cases e; exact hgs.2.2.2)
 have HN7:=Lib.hid (show ∀ q,rv.ownBlock=some q∨(Value.slice (some ⟨g,0,none⟩) (r.a.writes).length cl).ownBlock=some q → (rv.ownBlock=some q∨wv.ownBlock=some q)∨w.heap.size≤q from fun q hq=>by
  rcases hq with e | e
  ·exact .inl (.inl e)
  ·cases e; exact .inr HGW.out)
 have HS7:=Lib.hid hs7
 clear HS HE HU HNL HN hs7 u7 hWd c24 g24 c2 g2 hsl6 hg6 hgs hnb
 have HS:=HS7
 have HE:=HE7
 have HU:=HU7
 have HNL:=HNL7
 have HN:=HN7
 clear HS7 HE7 HU7 HNL7 HN7
 go_wp2_with fail
 clear hg7
 refine (x11event_any _ _ _ _).mono ?_
 rintro e W9 ⟨rfl,u9⟩
 simp only [TE.val]
 replace HE:=Lib.hid (HE.out.upd u9 (by simp))
 replace HS:=Lib.hid (HS.out.upd0 u9)
 replace HU:=Lib.hid (HU.out.trans (u9.mono (by simp)))
 clear u9
 have q0:=(HE.out).cell 0 rfl
 have q1:=(HE.out).cell 1 rfl
 have q2:=(HE.out).cell 2 rfl
 have q3:=(HE.out).cell 3 rfl
 have q4:=(HE.out).cell 4 rfl
 have q5:=(HE.out).cell 5 rfl
 have f0:=(HE.out).free 0
 have f1:=(HE.out).free 1
 have f2:=(HE.out).free 2
 have f3:=(HE.out).free 3
 have f4:=(HE.out).free 4
 have f5:=(HE.out).free 5
 dsimp only at q0 q1 q2 q3 q4 q5
 go_wp2_with fail
 refine bodyPost_ret (ev_results2 6 7 rfl _ _ w.heap.size (⟨3,x,y,false,0⟩:TE) (.bool true) rfl rfl (ev_set HE.out (⟨3,x,y,false,0⟩:TE))) rfl (hK _ _ ?_)
 refine ⟨rfl,_,_,HS.out.box (ev_upd (S:=[w.heap.size]) (Upd.refl _ _) (.inl (by simp)) _ _ _ _ _ _) HNB.out HNL.out,ev_upd HU.out (.inr (Nat.le_refl _)) _ _ _ _ _ _,HN.out⟩
end
end Go.Proofs.YtehopaabfoopeaaGreat
