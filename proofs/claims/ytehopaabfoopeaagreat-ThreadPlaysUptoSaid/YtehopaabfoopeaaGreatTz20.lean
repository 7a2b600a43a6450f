/- The document's thread: a put that fails, abort, end. No conditions. A step of a thread leaves a state that may be, and words. No program in sight. No conditions. -/
import Derived.Test.YtehopaabfoopeaaGreatTz18
import Derived.Test.YtehopaabfoopeaaGreatTz19
import Derived.Test.YtehopaabfoopeaaGreatTz07
set_option linter.unusedSimpArgs false
set_option linter.unusedVariables false
set_option maxRecDepth 100000
namespace Go.Proofs.YtehopaabfoopeaaGreat
open Go.RowKit
open Go.Maps
def abortR (i:Ins) (r:RT) (sh:Sh):Told × RT × Sh:=(telling 8 0 0,giveR r (targetI i.n),sh)
def endR (r:RT) (sh:Sh):Told × RT × Sh:=if r.a.writes=[] then (telling 6 0 (r.a.snap / 2),outR r (r.at_+1),sh) else lockR r sh
def insideR (i:Ins) (r:RT) (sh:Sh):Told × RT × Sh:=if i.op=13 then getR i r sh else if i.op=14 then putR i r sh else if i.op=16 then abortR i r sh else endR r sh
section
variable {v w w':World} {rb wb qb:Nat} {r:RT} {sh:Sh} {rv wv:Value} {po:Option Addr} {cap:Nat} {p:List Ins}
set_option maxHeartbeats 4000000 in
theorem xinside_put3 (h0:RS v rb wb qb r sh rv wv) (A B C:Nat) (ni:Int) (hA:A<8) (hB:B<8) (hat:0≤r.at_∧r.at_≤1000000) (hrw:∀ x ∈ r.regs,W64 x) (hlr:r.a.reads.length≤1024) (hlw:r.a.writes.length≤1024) (hin:¬ rgR r (B:Int)<sh.row.length) :
  Calls Tryz.prog 59 #[(⟨14,A,B,C,ni⟩:Ins).val,.pointer (some ⟨rb,0,none⟩),.pointer (some ⟨wb,0,none⟩)] v (RSOk v rb wb qb rv wv (putR ⟨14,A,B,C,ni⟩ r sh)):=by
 simp only [Ins.val]
 obtain ⟨io,hio⟩:∃ io:Int,(14:Int)=io:=⟨_,rfl⟩
 rw [hio]
 obtain ⟨T,hT⟩:∃ T,putR ⟨io,A,B,C,ni⟩ r sh=T:=⟨_,rfl⟩
 have HT:=Lib.hid hT
 rw [hT]
 clear hT
 obtain ⟨w,hw⟩:∃ W,v.alloc (.cells #[.int .i64 io,.int .i64 (A:Int),.int .i64 (B:Int),.int .i64 (C:Int),.int .u64 ni] 50)=W:=⟨_,rfl⟩
 have u0:Upd [] v w:=by rw [← hw]; exact (Upd.refl [] _).alloc _
 have IB:Blk w v.heap.size [.int .i64 io,.int .i64 (A:Int),.int .i64 (B:Int),.int .i64 (C:Int),.int .u64 ni] 50:=by rw [← hw]; exact Blk.new v _ _
 have hib:=IB.lt
 have hl1:=h0.th.lt
 have hl2:=h0.wo.lt
 have HIN:=Lib.hid (show v.heap.size ∉ [rb,wb,qb] from by simp; omega)
 have h:=h0.upd0 u0
 refine (?_:Calls Tryz.prog _ _ v (RSOk w rb wb qb rv wv T)).mono (fun e w2 k=>k.base u0)
 clear h0 u0 hl1 hl2
 obtain ⟨W1,hW1⟩:∃ W,w.alloc (.cells #[.int .i64 0,.int .i64 0,.int .u64 0,.int .u64 0,.bool false,.int .i64 0] 86)=W:=⟨_,rfl⟩
 have u1:Upd [] w W1:=by rw [← hW1]; exact (Upd.refl [] _).alloc _
 have EB:Blk W1 w.heap.size (TE.cells ⟨0,0,0,false,0⟩) 86:=by rw [← hW1]; exact Blk.new w _ _
 have hlt1:=h.th.lt
 have hlt2:=h.wo.lt
 have hnes:=h.ne
 have hnew:=h.wo.ne
 have HNB:=Lib.hid (show rb≠w.heap.size∧wb≠w.heap.size∧qb≠w.heap.size from ⟨by omega,by omega,by omega⟩)
 have HNL:=Lib.hid (show ∀ g,rv.ownBlock=some g∨wv.ownBlock=some g → g≠w.heap.size from fun g hg=>by have:=(h.th.ap g hg).2; omega)
 have HN:=Lib.hid (show ∀ g,rv.ownBlock=some g∨wv.ownBlock=some g → (rv.ownBlock=some g∨wv.ownBlock=some g)∨w.heap.size≤g from fun g hg=>.inl hg)
 have HS:=Lib.hid (h.upd0 u1)
 have HE:=Lib.hid EB
 have HU:=Lib.hid (show Upd [rb,wb,qb] w W1 from u1.mono (by simp))
 have hne1:rb≠w.heap.size:=by omega
 have hne2:wb≠w.heap.size:=by omega
 have hne3:qb≠w.heap.size:=by omega
 have hne4:rb≠wb:=hnes.1
 have hne5:rb≠qb:=hnes.2
 clear EB u1 h hlt1 hlt2
 have hlen:=HS.out.wo.len
 have hul:IntKind.u64.wrap (sh.row.length:Int)=sh.row.length:=by rw [IntKind.wrap_u64]; omega
 have hwa:wrap64 (r.at_+1)=r.at_+1:=by unfold wrap64; omega
 have hr8:=HS.out.th.r8
 have hs8:=HS.out.th.s8
 have dA:=HS.out.th.head.cell _ (rcell_reg hr8 rv wv hA)
 have dB:=HS.out.th.head.cell _ (rcell_reg hr8 rv wv hB)
 have c2:=HS.out.th.head.cell 2 (rcells hr8 hs8 rv wv).2.1
 have fA:=HS.out.th.head.free (3+A)
 have g2:=HS.out.th.head.free 2
 have hwB:W64 (r.regs.getD B 0):=by
  rw [List.getD_eq_getElem?_getD,List.getElem?_eq_getElem (by omega)]; exact hrw _ (List.getElem_mem _)
 have hwA:W64 (r.regs.getD A 0):=by
  rw [List.getD_eq_getElem?_getD,List.getElem?_eq_getElem (by omega)]; exact hrw _ (List.getElem_mem _)
 obtain ⟨x,hx⟩:∃ x:Nat,r.regs.getD B 0=x:=⟨(r.regs.getD B 0).toNat,by have:=hwB.1; omega⟩
 obtain ⟨y,hy⟩:∃ y:Int,r.regs.getD A 0=y:=⟨_,rfl⟩
 rw [hx] at dB
 rw [hy] at dA hwA
 have HX:=Lib.hid (show rgR r (B:Int)=x from hx)
 have HY:=Lib.hid (show rgR r (A:Int)=y from hy)
 have hAi:(A:Int)<8:=by omega
 have hBi:(B:Int)<8:=by omega
 have i0:=HU.out.cell HIN.out (IB.cell 0 rfl)
 have i1:=HU.out.cell HIN.out (IB.cell 1 rfl)
 have i2:=HU.out.cell HIN.out (IB.cell 2 rfl)
 have i4:=HU.out.cell HIN.out (IB.cell 4 rfl)
 obtain ⟨pw,cw,hwv,_⟩:=HS.out.th.wr
 have HWV:=Lib.hid hwv
 clear hx hy hwB hwv hr8 hs8
 subst hio
 have hxl:¬ (x:Int)<sh.row.length:=by rw [← HX.out]; exact hin
 clear hin
 obtain ⟨cap,hW⟩:=HS.out.wo.head
 have d0:=hW.cell 0 rfl
 clear hW
 have hT0:T=((failR r 4).1,(failR r 4).2,sh):=by
  rw [← HT.out]
  unfold putR
  rw [HX.out,if_pos hxl]
 subst hT0
 have b:decide ((sh.row.length:Int)≤(x:Int))=true:=decide_eq_true (by omega)
 have b2:decide (sh.row.length≤x)=true:=decide_eq_true (by omega)
 clear hxl HT
 obtain ⟨n,hn⟩:∃ n,placeI r.a.writes (x:Int)=n:=⟨_,rfl⟩
 have HPL:=Lib.hid hn
 clear hn
 refine calls_all fun K hK=>?_
 go_enter Tryz.func59,Tryz.ntmps59
 go_upto_region 2 with (fail)
 refine wp_region_br (fun w'=>w'.cell? ⟨v.heap.size,2,none⟩=some (.int .i64 (B:Int))∧w'.cell? ⟨rb,3+B,none⟩=some (.int .u64 (x:Int))) [0,1,2,3,4,5,6,7] (by kernel_rfl) (by kernel_rfl) ⟨i2,dB⟩ ?_
 repeat
  first
   | (refine wpB_skip rfl (by kernel_rfl) (by rfl) ?_)
   | ((refine wpB_take (v:=?_) rfl rfl (by kernel_rfl) (by rfl) ?_ ?_); rotate_left 1; (· ((intro w hSw; (try dsimp only at hSw); go_simp); try with_reducible rfl)))
  try simp only [Act.put,List.setIfInBounds_toArray,List.set_cons_zero,List.set_cons_succ]
 refine wpB_end (by kernel_rfl) (NoPanic.normal ?_)
 obtain ⟨W2,hdr⟩:∃ W,(W1).drew=W:=⟨_,rfl⟩
 have udr:Upd [] W1 W2:=by rw [← hdr]; exact (Upd.refl [] _).drew
 have HS2:=Lib.hid (HS.out.upd0 udr)
 have HE2:=Lib.hid (HE.out.upd udr (by simp))
 have HU2:=Lib.hid (HU.out.trans (udr.mono (by simp)))
 have UW2:=Lib.hid udr
 clear HS HE HU udr
 have HS:=HS2
 have HE:=HE2
 have HU:=HU2
 clear HS2 HE2 HU2
 rw [hdr]
 clear hdr
 replace i0:=UW2.out.cell (by simp) i0
 replace i1:=UW2.out.cell (by simp) i1
 replace i4:=UW2.out.cell (by simp) i4
 replace dA:=UW2.out.cell (by simp) dA
 clear dB i2 c2 fA g2 hw hW1
 have hr8:=HS.out.th.r8
 have hs8:=HS.out.th.s8
 have c24:=HS.out.th.head.cell 24 (rcells hr8 hs8 rv wv).2.2.2.2.2.2.2.1
 have hfi:=xfind_code (x:Int) HS.out.th.wr (by omega)
 rw [HWV.out] at c24 hfi
 rw [HPL.out] at hfi
 have HFI:=Lib.hid hfi
 clear hfi
 go_wp2_with fail
 refine HFI.out.mono ?_
 rintro e w2 ⟨rfl,rfl⟩
 clear HFI
 replace d0:=UW2.out.cell (by simp) d0
 go_wp2_with fail
 clear i0 i1 i4 d0 c24 dA hr8 hs8
 have HFL:=Lib.hid (HS.out.fail 4)
 refine HFL.out.mono ?_
 rintro e W8 ⟨rfl,rv8,wv8,h8,u8,hn8⟩
 have hs8:=HU.out.size
 simp only [failR,TE.val]
 have HE8:=Lib.hid (HE.out.upd u8 (by have:=HNB.out; simp; omega))
 have HNL8:=Lib.hid (show ∀ g,rv8.ownBlock=some g∨wv8.ownBlock=some g → g≠w.heap.size from fun g hg=>by
  rcases hn8 g hg with k | k
  ·exact HNL.out g k
  ·have:=HE.out.lt; omega)
 have HN8:=Lib.hid (show ∀ g,rv8.ownBlock=some g∨wv8.ownBlock=some g → (rv.ownBlock=some g∨wv.ownBlock=some g)∨w.heap.size≤g from fun g hg=>by
  rcases hn8 g hg with k | k
  ·exact HN.out g k
  ·exact .inr (by omega))
 have HS8:=Lib.hid h8
 have HU8:=Lib.hid (HU.out.trans u8)
 clear HS HE HU HNL HN h8 u8 hn8 HFL
 have HS:=HS8
 have HE:=HE8
 have HU:=HU8
 have HNL:=HNL8
 have HN:=HN8
 have q0:=(HE.out).cell 0 rfl
 have q1:=(HE.out).cell 1 rfl
 have q2:=(HE.out).cell 2 rfl
 have q3:=(HE.out).cell 3 rfl
 have q4:=(HE.out).cell 4 rfl
 have q5:=(HE.out).cell 5 rfl
 have f0:=(HE.out).free 0
 have f1:=(HE.out).free 1
 have f2:=(HE.out).free 2
 have f3:=(HE.out).free 3
 have f4:=(HE.out).free 4
 have f5:=(HE.out).free 5
 dsimp only at q0 q1 q2 q3 q4 q5
 go_wp2_with fail
 refine bodyPost_ret (ev_results2 6 7 rfl _ _ w.heap.size (⟨9,0,0,false,4⟩:TE) (.bool true) rfl rfl (ev_set HE.out (⟨9,0,0,false,4⟩:TE))) rfl (hK _ _ ?_)
 refine ⟨rfl,_,_,HS.out.box (ev_upd (S:=[w.heap.size]) (Upd.refl _ _) (.inl (by simp)) _ _ _ _ _ _) HNB.out HNL.out,ev_upd HU.out (.inr (Nat.le_refl _)) _ _ _ _ _ _,HN.out⟩
set_option maxHeartbeats 4000000 in
theorem xinside_put4 (h0:RS v rb wb qb r sh rv wv) (A B C:Nat) (ni:Int) (hA:A<8) (hB:B<8) (hat:0≤r.at_∧r.at_≤1000000) (hrw:∀ x ∈ r.regs,W64 x) (hlr:r.a.reads.length≤1024) (hlw:r.a.writes.length≤1024) (hin:rgR r (B:Int)<sh.row.length) (hpl0:place r.a.writes (rgR r (B:Int))=none) (hfull:r.a.writes.length=1024) :
  Calls Tryz.prog 59 #[(⟨14,A,B,C,ni⟩:Ins).val,.pointer (some ⟨rb,0,none⟩),.pointer (some ⟨wb,0,none⟩)] v (RSOk v rb wb qb rv wv (putR ⟨14,A,B,C,ni⟩ r sh)):=by
 simp only [Ins.val]
 obtain ⟨io,hio⟩:∃ io:Int,(14:Int)=io:=⟨_,rfl⟩
 rw [hio]
 obtain ⟨T,hT⟩:∃ T,putR ⟨io,A,B,C,ni⟩ r sh=T:=⟨_,rfl⟩
 have HT:=Lib.hid hT
 rw [hT]
 clear hT
 obtain ⟨w,hw⟩:∃ W,v.alloc (.cells #[.int .i64 io,.int .i64 (A:Int),.int .i64 (B:Int),.int .i64 (C:Int),.int .u64 ni] 50)=W:=⟨_,rfl⟩
 have u0:Upd [] v w:=by rw [← hw]; exact (Upd.refl [] _).alloc _
 have IB:Blk w v.heap.size [.int .i64 io,.int .i64 (A:Int),.int .i64 (B:Int),.int .i64 (C:Int),.int .u64 ni] 50:=by rw [← hw]; exact Blk.new v _ _
 have hib:=IB.lt
 have hl1:=h0.th.lt
 have hl2:=h0.wo.lt
 have HIN:=Lib.hid (show v.heap.size ∉ [rb,wb,qb] from by simp; omega)
 have h:=h0.upd0 u0
 refine (?_:Calls Tryz.prog _ _ v (RSOk w rb wb qb rv wv T)).mono (fun e w2 k=>k.base u0)
 clear h0 u0 hl1 hl2
 obtain ⟨W1,hW1⟩:∃ W,w.alloc (.cells #[.int .i64 0,.int .i64 0,.int .u64 0,.int .u64 0,.bool false,.int .i64 0] 86)=W:=⟨_,rfl⟩
 have u1:Upd [] w W1:=by rw [← hW1]; exact (Upd.refl [] _).alloc _
 have EB:Blk W1 w.heap.size (TE.cells ⟨0,0,0,false,0⟩) 86:=by rw [← hW1]; exact Blk.new w _ _
 have hlt1:=h.th.lt
 have hlt2:=h.wo.lt
 have hnes:=h.ne
 have hnew:=h.wo.ne
 have HNB:=Lib.hid (show rb≠w.heap.size∧wb≠w.heap.size∧qb≠w.heap.size from ⟨by omega,by omega,by omega⟩)
 have HNL:=Lib.hid (show ∀ g,rv.ownBlock=some g∨wv.ownBlock=some g → g≠w.heap.size from fun g hg=>by have:=(h.th.ap g hg).2; omega)
 have HN:=Lib.hid (show ∀ g,rv.ownBlock=some g∨wv.ownBlock=some g → (rv.ownBlock=some g∨wv.ownBlock=some g)∨w.heap.size≤g from fun g hg=>.inl hg)
 have HS:=Lib.hid (h.upd0 u1)
 have HE:=Lib.hid EB
 have HU:=Lib.hid (show Upd [rb,wb,qb] w W1 from u1.mono (by simp))
 have hne1:rb≠w.heap.size:=by omega
 have hne2:wb≠w.heap.size:=by omega
 have hne3:qb≠w.heap.size:=by omega
 have hne4:rb≠wb:=hnes.1
 have hne5:rb≠qb:=hnes.2
 clear EB u1 h hlt1 hlt2
 have hlen:=HS.out.wo.len
 have hul:IntKind.u64.wrap (sh.row.length:Int)=sh.row.length:=by rw [IntKind.wrap_u64]; omega
 have hwa:wrap64 (r.at_+1)=r.at_+1:=by unfold wrap64; omega
 have hr8:=HS.out.th.r8
 have hs8:=HS.out.th.s8
 have dA:=HS.out.th.head.cell _ (rcell_reg hr8 rv wv hA)
 have dB:=HS.out.th.head.cell _ (rcell_reg hr8 rv wv hB)
 have c2:=HS.out.th.head.cell 2 (rcells hr8 hs8 rv wv).2.1
 have fA:=HS.out.th.head.free (3+A)
 have g2:=HS.out.th.head.free 2
 have hwB:W64 (r.regs.getD B 0):=by
  rw [List.getD_eq_getElem?_getD,List.getElem?_eq_getElem (by omega)]; exact hrw _ (List.getElem_mem _)
 have hwA:W64 (r.regs.getD A 0):=by
  rw [List.getD_eq_getElem?_getD,List.getElem?_eq_getElem (by omega)]; exact hrw _ (List.getElem_mem _)
 obtain ⟨x,hx⟩:∃ x:Nat,r.regs.getD B 0=x:=⟨(r.regs.getD B 0).toNat,by have:=hwB.1; omega⟩
 obtain ⟨y,hy⟩:∃ y:Int,r.regs.getD A 0=y:=⟨_,rfl⟩
 rw [hx] at dB
 rw [hy] at dA hwA
 have HX:=Lib.hid (show rgR r (B:Int)=x from hx)
 have HY:=Lib.hid (show rgR r (A:Int)=y from hy)
 have hAi:(A:Int)<8:=by omega
 have hBi:(B:Int)<8:=by omega
 have i0:=HU.out.cell HIN.out (IB.cell 0 rfl)
 have i1:=HU.out.cell HIN.out (IB.cell 1 rfl)
 have i2:=HU.out.cell HIN.out (IB.cell 2 rfl)
 have i4:=HU.out.cell HIN.out (IB.cell 4 rfl)
 obtain ⟨pw,cw,hwv,_⟩:=HS.out.th.wr
 have HWV:=Lib.hid hwv
 clear hx hy hwB hwv hr8 hs8
 subst hio
 have hxl:(x:Int)<sh.row.length:=by rw [← HX.out]; exact hin
 have hpl:place r.a.writes (x:Int)=none:=by rw [← HX.out]; exact hpl0
 clear hin hpl0
 obtain ⟨cap,hW⟩:=HS.out.wo.head
 have d0:=hW.cell 0 rfl
 clear hW
 have hT0:T=((failR r 5).1,(failR r 5).2,sh):=by
  rw [← HT.out]
  unfold putR
  rw [HX.out,if_neg (fun h=>h hxl),hpl,HY.out]
  simp only
  rw [if_pos hfull]
 subst hT0
 have b:decide ((sh.row.length:Int)≤(x:Int))=false:=decide_eq_false (by omega)
 have b2:decide (sh.row.length≤x)=false:=decide_eq_false (by omega)
 have b3:((r.a.writes.length:Int) == 1024)=true:=by simp [hfull]
 have HPL:=Lib.hid (show placeI r.a.writes (x:Int) = -1 from by unfold placeI; rw [hpl])
 have HFL:=Lib.hid hfull
 clear hxl HT hpl hfull
 refine calls_all fun K hK=>?_
 go_enter Tryz.func59,Tryz.ntmps59
 go_upto_region 2 with (fail)
 refine wp_region_br (fun w'=>w'.cell? ⟨v.heap.size,2,none⟩=some (.int .i64 (B:Int))∧w'.cell? ⟨rb,3+B,none⟩=some (.int .u64 (x:Int))) [0,1,2,3,4,5,6,7] (by kernel_rfl) (by kernel_rfl) ⟨i2,dB⟩ ?_
 repeat
  first
   | (refine wpB_skip rfl (by kernel_rfl) (by rfl) ?_)
   | ((refine wpB_take (v:=?_) rfl rfl (by kernel_rfl) (by rfl) ?_ ?_); rotate_left 1; (· ((intro w hSw; (try dsimp only at hSw); go_simp); try with_reducible rfl)))
  try simp only [Act.put,List.setIfInBounds_toArray,List.set_cons_zero,List.set_cons_succ]
 refine wpB_end (by kernel_rfl) (NoPanic.normal ?_)
 obtain ⟨W2,hdr⟩:∃ W,(W1).drew=W:=⟨_,rfl⟩
 have udr:Upd [] W1 W2:=by rw [← hdr]; exact (Upd.refl [] _).drew
 have HS2:=Lib.hid (HS.out.upd0 udr)
 have HE2:=Lib.hid (HE.out.upd udr (by simp))
 have HU2:=Lib.hid (HU.out.trans (udr.mono (by simp)))
 have UW2:=Lib.hid udr
 clear HS HE HU udr
 have HS:=HS2
 have HE:=HE2
 have HU:=HU2
 clear HS2 HE2 HU2
 rw [hdr]
 clear hdr
 replace i0:=UW2.out.cell (by simp) i0
 replace i1:=UW2.out.cell (by simp) i1
 replace i4:=UW2.out.cell (by simp) i4
 replace dA:=UW2.out.cell (by simp) dA
 clear dB i2 c2 fA g2 hw hW1
 have hr8:=HS.out.th.r8
 have hs8:=HS.out.th.s8
 have c24:=HS.out.th.head.cell 24 (rcells hr8 hs8 rv wv).2.2.2.2.2.2.2.1
 have hfi:=xfind_code (x:Int) HS.out.th.wr (by omega)
 rw [HWV.out] at c24 hfi
 rw [HPL.out] at hfi
 have HFI:=Lib.hid hfi
 clear hfi
 go_wp2_with fail
 refine HFI.out.mono ?_
 rintro e w2 ⟨rfl,rfl⟩
 clear HFI
 replace d0:=UW2.out.cell (by simp) d0
 go_wp2_with fail
 clear i0 i1 i4 d0 c24 dA hr8 hs8 HFL
 have HFL:=Lib.hid (HS.out.fail 5)
 refine HFL.out.mono ?_
 rintro e W8 ⟨rfl,rv8,wv8,h8,u8,hn8⟩
 have hs8:=HU.out.size
 simp only [failR,TE.val]
 have HE8:=Lib.hid (HE.out.upd u8 (by have:=HNB.out; simp; omega))
 have HNL8:=Lib.hid (show ∀ g,rv8.ownBlock=some g∨wv8.ownBlock=some g → g≠w.heap.size from fun g hg=>by
  rcases hn8 g hg with k | k
  ·exact HNL.out g k
  ·have:=HE.out.lt; omega)
 have HN8:=Lib.hid (show ∀ g,rv8.ownBlock=some g∨wv8.ownBlock=some g → (rv.ownBlock=some g∨wv.ownBlock=some g)∨w.heap.size≤g from fun g hg=>by
  rcases hn8 g hg with k | k
  ·exact HN.out g k
  ·exact .inr (by omega))
 have HS8:=Lib.hid h8
 have HU8:=Lib.hid (HU.out.trans u8)
 clear HS HE HU HNL HN h8 u8 hn8 HFL
 have HS:=HS8
 have HE:=HE8
 have HU:=HU8
 have HNL:=HNL8
 have HN:=HN8
 have q0:=(HE.out).cell 0 rfl
 have q1:=(HE.out).cell 1 rfl
 have q2:=(HE.out).cell 2 rfl
 have q3:=(HE.out).cell 3 rfl
 have q4:=(HE.out).cell 4 rfl
 have q5:=(HE.out).cell 5 rfl
 have f0:=(HE.out).free 0
 have f1:=(HE.out).free 1
 have f2:=(HE.out).free 2
 have f3:=(HE.out).free 3
 have f4:=(HE.out).free 4
 have f5:=(HE.out).free 5
 dsimp only at q0 q1 q2 q3 q4 q5
 go_wp2_with fail
 refine bodyPost_ret (ev_results2 6 7 rfl _ _ w.heap.size (⟨9,0,0,false,5⟩:TE) (.bool true) rfl rfl (ev_set HE.out (⟨9,0,0,false,5⟩:TE))) rfl (hK _ _ ?_)
 refine ⟨rfl,_,_,HS.out.box (ev_upd (S:=[w.heap.size]) (Upd.refl _ _) (.inl (by simp)) _ _ _ _ _ _) HNB.out HNL.out,ev_upd HU.out (.inr (Nat.le_refl _)) _ _ _ _ _ _,HN.out⟩
set_option maxHeartbeats 4000000 in
theorem xinside_abort (h0:RS v rb wb qb r sh rv wv) (A B C:Nat) (ni:Int) (hni:0≤ni∧ni<18446744073709551616) (hA:A<8) (hB:B<8) (hat:0≤r.at_∧r.at_≤1000000) (hrw:∀ x ∈ r.regs,W64 x) (hlr:r.a.reads.length≤1024) (hlw:r.a.writes.length≤1024) :
  Calls Tryz.prog 59 #[(⟨16,A,B,C,ni⟩:Ins).val,.pointer (some ⟨rb,0,none⟩),.pointer (some ⟨wb,0,none⟩)] v (RSOk v rb wb qb rv wv (abortR ⟨16,A,B,C,ni⟩ r sh)):=by
 simp only [Ins.val]
 obtain ⟨io,hio⟩:∃ io:Int,(16:Int)=io:=⟨_,rfl⟩
 rw [hio]
 obtain ⟨T,hT⟩:∃ T,abortR ⟨io,A,B,C,ni⟩ r sh=T:=⟨_,rfl⟩
 have HT:=Lib.hid hT
 rw [hT]
 clear hT
 obtain ⟨w,hw⟩:∃ W,v.alloc (.cells #[.int .i64 io,.int .i64 (A:Int),.int .i64 (B:Int),.int .i64 (C:Int),.int .u64 ni] 50)=W:=⟨_,rfl⟩
 have u0:Upd [] v w:=by rw [← hw]; exact (Upd.refl [] _).alloc _
 have IB:Blk w v.heap.size [.int .i64 io,.int .i64 (A:Int),.int .i64 (B:Int),.int .i64 (C:Int),.int .u64 ni] 50:=by rw [← hw]; exact Blk.new v _ _
 have hib:=IB.lt
 have hl1:=h0.th.lt
 have hl2:=h0.wo.lt
 have HIN:=Lib.hid (show v.heap.size ∉ [rb,wb,qb] from by simp; omega)
 have h:=h0.upd0 u0
 refine (?_:Calls Tryz.prog _ _ v (RSOk w rb wb qb rv wv T)).mono (fun e w2 k=>k.base u0)
 clear h0 u0 hl1 hl2
 obtain ⟨W1,hW1⟩:∃ W,w.alloc (.cells #[.int .i64 0,.int .i64 0,.int .u64 0,.int .u64 0,.bool false,.int .i64 0] 86)=W:=⟨_,rfl⟩
 have u1:Upd [] w W1:=by rw [← hW1]; exact (Upd.refl [] _).alloc _
 have EB:Blk W1 w.heap.size (TE.cells ⟨0,0,0,false,0⟩) 86:=by rw [← hW1]; exact Blk.new w _ _
 have hlt1:=h.th.lt
 have hlt2:=h.wo.lt
 have hnes:=h.ne
 have hnew:=h.wo.ne
 have HNB:=Lib.hid (show rb≠w.heap.size∧wb≠w.heap.size∧qb≠w.heap.size from ⟨by omega,by omega,by omega⟩)
 have HNL:=Lib.hid (show ∀ g,rv.ownBlock=some g∨wv.ownBlock=some g → g≠w.heap.size from fun g hg=>by have:=(h.th.ap g hg).2; omega)
 have HN:=Lib.hid (show ∀ g,rv.ownBlock=some g∨wv.ownBlock=some g → (rv.ownBlock=some g∨wv.ownBlock=some g)∨w.heap.size≤g from fun g hg=>.inl hg)
 have HS:=Lib.hid (h.upd0 u1)
 have HE:=Lib.hid EB
 have HU:=Lib.hid (show Upd [rb,wb,qb] w W1 from u1.mono (by simp))
 have hne1:rb≠w.heap.size:=by omega
 have hne2:wb≠w.heap.size:=by omega
 have hne3:qb≠w.heap.size:=by omega
 have hne4:rb≠wb:=hnes.1
 have hne5:rb≠qb:=hnes.2
 clear EB u1 h hlt1 hlt2
 have hlen:=HS.out.wo.len
 have hul:IntKind.u64.wrap (sh.row.length:Int)=sh.row.length:=by rw [IntKind.wrap_u64]; omega
 have hwa:wrap64 (r.at_+1)=r.at_+1:=by unfold wrap64; omega
 have hr8:=HS.out.th.r8
 have hs8:=HS.out.th.s8
 have dA:=HS.out.th.head.cell _ (rcell_reg hr8 rv wv hA)
 have dB:=HS.out.th.head.cell _ (rcell_reg hr8 rv wv hB)
 have c2:=HS.out.th.head.cell 2 (rcells hr8 hs8 rv wv).2.1
 have fA:=HS.out.th.head.free (3+A)
 have g2:=HS.out.th.head.free 2
 have hwB:W64 (r.regs.getD B 0):=by
  rw [List.getD_eq_getElem?_getD,List.getElem?_eq_getElem (by omega)]; exact hrw _ (List.getElem_mem _)
 have hwA:W64 (r.regs.getD A 0):=by
  rw [List.getD_eq_getElem?_getD,List.getElem?_eq_getElem (by omega)]; exact hrw _ (List.getElem_mem _)
 obtain ⟨x,hx⟩:∃ x:Nat,r.regs.getD B 0=x:=⟨(r.regs.getD B 0).toNat,by have:=hwB.1; omega⟩
 obtain ⟨y,hy⟩:∃ y:Int,r.regs.getD A 0=y:=⟨_,rfl⟩
 rw [hx] at dB
 rw [hy] at dA hwA
 have HX:=Lib.hid (show rgR r (B:Int)=x from hx)
 have HY:=Lib.hid (show rgR r (A:Int)=y from hy)
 have hAi:(A:Int)<8:=by omega
 have hBi:(B:Int)<8:=by omega
 have i0:=HU.out.cell HIN.out (IB.cell 0 rfl)
 have i1:=HU.out.cell HIN.out (IB.cell 1 rfl)
 have i2:=HU.out.cell HIN.out (IB.cell 2 rfl)
 have i4:=HU.out.cell HIN.out (IB.cell 4 rfl)
 obtain ⟨pw,cw,hwv,_⟩:=HS.out.th.wr
 have HWV:=Lib.hid hwv
 clear hx hy hwB hwv hr8 hs8
 subst hio
 have hT0:T=(telling 8 0 0,giveR r (targetI ni),sh):=HT.out.symm
 subst hT0
 clear HT
 obtain ⟨n,hn⟩:∃ n,placeI r.a.writes (x:Int)=n:=⟨_,rfl⟩
 have HPL:=Lib.hid hn
 clear hn
 have HTG:=Lib.hid (fun W=>xtarget_any ni W hni)
 refine calls_all fun K hK=>?_
 go_enter Tryz.func59,Tryz.ntmps59
 go_upto_region 2 with (fail)
 refine wp_region_br (fun w'=>w'.cell? ⟨v.heap.size,2,none⟩=some (.int .i64 (B:Int))∧w'.cell? ⟨rb,3+B,none⟩=some (.int .u64 (x:Int))) [0,1,2,3,4,5,6,7] (by kernel_rfl) (by kernel_rfl) ⟨i2,dB⟩ ?_
 repeat
  first
   | (refine wpB_skip rfl (by kernel_rfl) (by rfl) ?_)
   | ((refine wpB_take (v:=?_) rfl rfl (by kernel_rfl) (by rfl) ?_ ?_); rotate_left 1; (· ((intro w hSw; (try dsimp only at hSw); go_simp); try with_reducible rfl)))
  try simp only [Act.put,List.setIfInBounds_toArray,List.set_cons_zero,List.set_cons_succ]
 refine wpB_end (by kernel_rfl) (NoPanic.normal ?_)
 obtain ⟨W2,hdr⟩:∃ W,(W1).drew=W:=⟨_,rfl⟩
 have udr:Upd [] W1 W2:=by rw [← hdr]; exact (Upd.refl [] _).drew
 have HS2:=Lib.hid (HS.out.upd0 udr)
 have HE2:=Lib.hid (HE.out.upd udr (by simp))
 have HU2:=Lib.hid (HU.out.trans (udr.mono (by simp)))
 have UW2:=Lib.hid udr
 clear HS HE HU udr
 have HS:=HS2
 have HE:=HE2
 have HU:=HU2
 clear HS2 HE2 HU2
 rw [hdr]
 clear hdr
 replace i0:=UW2.out.cell (by simp) i0
 replace i1:=UW2.out.cell (by simp) i1
 replace i4:=UW2.out.cell (by simp) i4
 replace dA:=UW2.out.cell (by simp) dA
 clear dB i2 c2 fA g2 hw hW1
 have hr8:=HS.out.th.r8
 have hs8:=HS.out.th.s8
 have c24:=HS.out.th.head.cell 24 (rcells hr8 hs8 rv wv).2.2.2.2.2.2.2.1
 have hfi:=xfind_code (x:Int) HS.out.th.wr (by omega)
 rw [HWV.out] at c24 hfi
 rw [HPL.out] at hfi
 have HFI:=Lib.hid hfi
 clear hfi
 go_wp2_with fail
 refine HFI.out.mono ?_
 rintro e w2 ⟨rfl,rfl⟩
 clear HFI
 go_wp2_with fail
 clear i0 i1 i4 c24 dA hr8 hs8
 refine (HTG.out _).mono ?_
 rintro e w3 ⟨rfl,rfl⟩
 clear HTG
 go_wp2_with fail
 refine (HS.out.give (targetI ni)).mono ?_
 rintro e W8 ⟨rfl,h8,u8⟩
 have HE8:=Lib.hid (HE.out.upd u8 (by have:=HNB.out; simp; omega))
 have HU8:=Lib.hid (HU.out.trans u8)
 have HS8:=Lib.hid h8
 clear HS HE HU HNL HN h8 u8
 have HS:=HS8
 have HE:=HE8
 have HU:=HU8
 have HNL:=Lib.hid (show ∀ g,(Value.slice none 0 0).ownBlock=some g∨(Value.slice none 0 0).ownBlock=some g → g≠w.heap.size from by simp [Value.ownBlock])
 have HN:=Lib.hid (show ∀ g,(Value.slice none 0 0).ownBlock=some g∨(Value.slice none 0 0).ownBlock=some g → (rv.ownBlock=some g∨wv.ownBlock=some g)∨w.heap.size≤g from by simp [Value.ownBlock])
 clear HS8 HE8 HU8
 go_wp2_with fail
 refine (x11event_any _ _ _ _).mono ?_
 rintro e W9 ⟨rfl,u9⟩
 simp only [TE.val]
 replace HE:=Lib.hid (HE.out.upd u9 (by simp))
 replace HS:=Lib.hid (HS.out.upd0 u9)
 replace HU:=Lib.hid (HU.out.trans (u9.mono (by simp)))
 clear u9
 have q0:=(HE.out).cell 0 rfl
 have q1:=(HE.out).cell 1 rfl
 have q2:=(HE.out).cell 2 rfl
 have q3:=(HE.out).cell 3 rfl
 have q4:=(HE.out).cell 4 rfl
 have q5:=(HE.out).cell 5 rfl
 have f0:=(HE.out).free 0
 have f1:=(HE.out).free 1
 have f2:=(HE.out).free 2
 have f3:=(HE.out).free 3
 have f4:=(HE.out).free 4
 have f5:=(HE.out).free 5
 dsimp only at q0 q1 q2 q3 q4 q5
 go_wp2_with fail
 refine bodyPost_ret (ev_results2 6 7 rfl _ _ w.heap.size (⟨8,0,0,false,0⟩:TE) (.bool true) rfl rfl (ev_set HE.out (⟨8,0,0,false,0⟩:TE))) rfl (hK _ _ ?_)
 refine ⟨rfl,_,_,HS.out.box (ev_upd (S:=[w.heap.size]) (Upd.refl _ _) (.inl (by simp)) _ _ _ _ _ _) HNB.out HNL.out,ev_upd HU.out (.inr (Nat.le_refl _)) _ _ _ _ _ _,HN.out⟩
set_option maxHeartbeats 4000000 in
theorem xinside_end (h0:RS v rb wb qb r sh rv wv) (A B C:Nat) (ni:Int) (hA:A<8) (hB:B<8) (hat:0≤r.at_∧r.at_≤1000000) (hrw:∀ x ∈ r.regs,W64 x) (hlr:r.a.reads.length≤1024) (hlw:r.a.writes.length≤1024) (hsn:0≤r.a.snap∧r.a.snap<18446744073709551616) :
  Calls Tryz.prog 59 #[(⟨15,A,B,C,ni⟩:Ins).val,.pointer (some ⟨rb,0,none⟩),.pointer (some ⟨wb,0,none⟩)] v (RSOk v rb wb qb rv wv (endR r sh)):=by
 simp only [Ins.val]
 obtain ⟨io,hio⟩:∃ io:Int,(15:Int)=io:=⟨_,rfl⟩
 rw [hio]
 obtain ⟨T,hT⟩:∃ T,endR r sh=T:=⟨_,rfl⟩
 have HT:=Lib.hid hT
 rw [hT]
 clear hT
 obtain ⟨w,hw⟩:∃ W,v.alloc (.cells #[.int .i64 io,.int .i64 (A:Int),.int .i64 (B:Int),.int .i64 (C:Int),.int .u64 ni] 50)=W:=⟨_,rfl⟩
 have u0:Upd [] v w:=by rw [← hw]; exact (Upd.refl [] _).alloc _
 have IB:Blk w v.heap.size [.int .i64 io,.int .i64 (A:Int),.int .i64 (B:Int),.int .i64 (C:Int),.int .u64 ni] 50:=by rw [← hw]; exact Blk.new v _ _
 have hib:=IB.lt
 have hl1:=h0.th.lt
 have hl2:=h0.wo.lt
 have HIN:=Lib.hid (show v.heap.size ∉ [rb,wb,qb] from by simp; omega)
 have h:=h0.upd0 u0
 refine (?_:Calls Tryz.prog _ _ v (RSOk w rb wb qb rv wv T)).mono (fun e w2 k=>k.base u0)
 clear h0 u0 hl1 hl2
 obtain ⟨W1,hW1⟩:∃ W,w.alloc (.cells #[.int .i64 0,.int .i64 0,.int .u64 0,.int .u64 0,.bool false,.int .i64 0] 86)=W:=⟨_,rfl⟩
 have u1:Upd [] w W1:=by rw [← hW1]; exact (Upd.refl [] _).alloc _
 have EB:Blk W1 w.heap.size (TE.cells ⟨0,0,0,false,0⟩) 86:=by rw [← hW1]; exact Blk.new w _ _
 have hlt1:=h.th.lt
 have hlt2:=h.wo.lt
 have hnes:=h.ne
 have hnew:=h.wo.ne
 have HNB:=Lib.hid (show rb≠w.heap.size∧wb≠w.heap.size∧qb≠w.heap.size from ⟨by omega,by omega,by omega⟩)
 have HNL:=Lib.hid (show ∀ g,rv.ownBlock=some g∨wv.ownBlock=some g → g≠w.heap.size from fun g hg=>by have:=(h.th.ap g hg).2; omega)
 have HN:=Lib.hid (show ∀ g,rv.ownBlock=some g∨wv.ownBlock=some g → (rv.ownBlock=some g∨wv.ownBlock=some g)∨w.heap.size≤g from fun g hg=>.inl hg)
 have HS:=Lib.hid (h.upd0 u1)
 have HE:=Lib.hid EB
 have HU:=Lib.hid (show Upd [rb,wb,qb] w W1 from u1.mono (by simp))
 have hne1:rb≠w.heap.size:=by omega
 have hne2:wb≠w.heap.size:=by omega
 have hne3:qb≠w.heap.size:=by omega
 have hne4:rb≠wb:=hnes.1
 have hne5:rb≠qb:=hnes.2
 clear EB u1 h hlt1 hlt2
 have hlen:=HS.out.wo.len
 have hul:IntKind.u64.wrap (sh.row.length:Int)=sh.row.length:=by rw [IntKind.wrap_u64]; omega
 have hwa:wrap64 (r.at_+1)=r.at_+1:=by unfold wrap64; omega
 have hr8:=HS.out.th.r8
 have hs8:=HS.out.th.s8
 have dA:=HS.out.th.head.cell _ (rcell_reg hr8 rv wv hA)
 have dB:=HS.out.th.head.cell _ (rcell_reg hr8 rv wv hB)
 have c2:=HS.out.th.head.cell 2 (rcells hr8 hs8 rv wv).2.1
 have fA:=HS.out.th.head.free (3+A)
 have g2:=HS.out.th.head.free 2
 have hwB:W64 (r.regs.getD B 0):=by
  rw [List.getD_eq_getElem?_getD,List.getElem?_eq_getElem (by omega)]; exact hrw _ (List.getElem_mem _)
 have hwA:W64 (r.regs.getD A 0):=by
  rw [List.getD_eq_getElem?_getD,List.getElem?_eq_getElem (by omega)]; exact hrw _ (List.getElem_mem _)
 obtain ⟨x,hx⟩:∃ x:Nat,r.regs.getD B 0=x:=⟨(r.regs.getD B 0).toNat,by have:=hwB.1; omega⟩
 obtain ⟨y,hy⟩:∃ y:Int,r.regs.getD A 0=y:=⟨_,rfl⟩
 rw [hx] at dB
 rw [hy] at dA hwA
 have HX:=Lib.hid (show rgR r (B:Int)=x from hx)
 have HY:=Lib.hid (show rgR r (A:Int)=y from hy)
 have hAi:(A:Int)<8:=by omega
 have hBi:(B:Int)<8:=by omega
 have i0:=HU.out.cell HIN.out (IB.cell 0 rfl)
 have i1:=HU.out.cell HIN.out (IB.cell 1 rfl)
 have i2:=HU.out.cell HIN.out (IB.cell 2 rfl)
 have i4:=HU.out.cell HIN.out (IB.cell 4 rfl)
 obtain ⟨pw,cw,hwv,_⟩:=HS.out.th.wr
 have HWV:=Lib.hid hwv
 clear hx hy hwB hwv hr8 hs8
 subst hio
 obtain ⟨n,hn⟩:∃ n,placeI r.a.writes (x:Int)=n:=⟨_,rfl⟩
 have HPL:=Lib.hid hn
 clear hn
 have hq:0≤r.a.snap / 2:=by omega
 by_cases hwl:r.a.writes=[]
 ·have hT0:T=(telling 6 0 (r.a.snap / 2),outR r (r.at_+1),sh):=by rw [← HT.out]; unfold endR; rw [if_pos hwl]
  subst hT0
  have b3:((r.a.writes.length:Int) == 0)=true:=by simp [hwl]
  clear HT hwl
  refine calls_all fun K hK=>?_
  go_enter Tryz.func59,Tryz.ntmps59
  go_upto_region 2 with (fail)
  refine wp_region_br (fun w'=>w'.cell? ⟨v.heap.size,2,none⟩=some (.int .i64 (B:Int))∧w'.cell? ⟨rb,3+B,none⟩=some (.int .u64 (x:Int))) [0,1,2,3,4,5,6,7] (by kernel_rfl) (by kernel_rfl) ⟨i2,dB⟩ ?_
  repeat
   first
    | (refine wpB_skip rfl (by kernel_rfl) (by rfl) ?_)
    | ((refine wpB_take (v:=?_) rfl rfl (by kernel_rfl) (by rfl) ?_ ?_); rotate_left 1; (· ((intro w hSw; (try dsimp only at hSw); go_simp); try with_reducible rfl)))
   try simp only [Act.put,List.setIfInBounds_toArray,List.set_cons_zero,List.set_cons_succ]
  refine wpB_end (by kernel_rfl) (NoPanic.normal ?_)
  obtain ⟨W2,hdr⟩:∃ W,(W1).drew=W:=⟨_,rfl⟩
  have udr:Upd [] W1 W2:=by rw [← hdr]; exact (Upd.refl [] _).drew
  have HS2:=Lib.hid (HS.out.upd0 udr)
  have HE2:=Lib.hid (HE.out.upd udr (by simp))
  have HU2:=Lib.hid (HU.out.trans (udr.mono (by simp)))
  have UW2:=Lib.hid udr
  clear HS HE HU udr
  have HS:=HS2
  have HE:=HE2
  have HU:=HU2
  clear HS2 HE2 HU2
  rw [hdr]
  clear hdr
  replace i0:=UW2.out.cell (by simp) i0
  replace i1:=UW2.out.cell (by simp) i1
  replace i4:=UW2.out.cell (by simp) i4
  replace dA:=UW2.out.cell (by simp) dA
  clear dB i2 c2 fA g2 hw hW1
  have hr8:=HS.out.th.r8
  have hs8:=HS.out.th.s8
  have c24:=HS.out.th.head.cell 24 (rcells hr8 hs8 rv wv).2.2.2.2.2.2.2.1
  have hfi:=xfind_code (x:Int) HS.out.th.wr (by omega)
  rw [HWV.out] at c24 hfi
  rw [HPL.out] at hfi
  have HFI:=Lib.hid hfi
  clear hfi
  go_wp2_with fail
  refine HFI.out.mono ?_
  rintro e w2 ⟨rfl,rfl⟩
  clear HFI
  have c22:W2.cell? ⟨rb,22,none⟩=some (.int .u64 r.a.snap):=HS.out.th.head.cell 22 (rcells hr8 hs8 rv wv).2.2.2.2.2.2.1
  have c2:W2.cell? ⟨rb,2,none⟩=some (.int .i64 r.at_):=HS.out.th.head.cell 2 (rcells hr8 hs8 rv wv).2.1
  go_wp2_with fail
  clear i0 i1 i4 c24 dA hr8 hs8 c22 c2
  refine (HS.out.out (r.at_+1)).mono ?_
  rintro e W8 ⟨rfl,h8,u8⟩
  have HE8:=Lib.hid (HE.out.upd u8 (by have:=HNB.out; simp; omega))
  have HU8:=Lib.hid (HU.out.trans u8)
  have HS8:=Lib.hid h8
  clear HS HE HU HNL HN h8 u8
  have HS:=HS8
  have HE:=HE8
  have HU:=HU8
  have HNL:=Lib.hid (show ∀ g,(Value.slice none 0 0).ownBlock=some g∨(Value.slice none 0 0).ownBlock=some g → g≠w.heap.size from by simp [Value.ownBlock])
  have HN:=Lib.hid (show ∀ g,(Value.slice none 0 0).ownBlock=some g∨(Value.slice none 0 0).ownBlock=some g → (rv.ownBlock=some g∨wv.ownBlock=some g)∨w.heap.size≤g from by simp [Value.ownBlock])
  clear HS8 HE8 HU8
  go_wp2_with fail
  refine (x11event_any _ _ _ _).mono ?_
  rintro e W9 ⟨rfl,u9⟩
  simp only [TE.val]
  replace HE:=Lib.hid (HE.out.upd u9 (by simp))
  replace HS:=Lib.hid (HS.out.upd0 u9)
  replace HU:=Lib.hid (HU.out.trans (u9.mono (by simp)))
  clear u9
  have q0:=(HE.out).cell 0 rfl
  have q1:=(HE.out).cell 1 rfl
  have q2:=(HE.out).cell 2 rfl
  have q3:=(HE.out).cell 3 rfl
  have q4:=(HE.out).cell 4 rfl
  have q5:=(HE.out).cell 5 rfl
  have f0:=(HE.out).free 0
  have f1:=(HE.out).free 1
  have f2:=(HE.out).free 2
  have f3:=(HE.out).free 3
  have f4:=(HE.out).free 4
  have f5:=(HE.out).free 5
  dsimp only at q0 q1 q2 q3 q4 q5
  go_wp2_with fail
  refine bodyPost_ret (ev_results2 6 7 rfl _ _ w.heap.size (⟨6,0,r.a.snap / 2,false,0⟩:TE) (.bool true) rfl rfl (ev_set HE.out (⟨6,0,r.a.snap / 2,false,0⟩:TE))) rfl (hK _ _ ?_)
  refine ⟨rfl,_,_,HS.out.box (ev_upd (S:=[w.heap.size]) (Upd.refl _ _) (.inl (by simp)) _ _ _ _ _ _) HNB.out HNL.out,ev_upd HU.out (.inr (Nat.le_refl _)) _ _ _ _ _ _,HN.out⟩
 ·obtain ⟨R,hR⟩:∃ R,lockR r sh=R:=⟨_,rfl⟩
  have hT0:T=R:=by rw [← HT.out,← hR]; unfold endR; rw [if_neg hwl]
  replace hT0:=hT0.symm
  subst hT0
  have HR:=Lib.hid hR
  have b3:((r.a.writes.length:Int) == 0)=false:=by rw [beq_eq_false_iff_ne]; intro e; exact hwl (List.length_eq_zero_iff.1 (by omega))
  clear HT hwl hR
  refine calls_all fun K hK=>?_
  go_enter Tryz.func59,Tryz.ntmps59
  go_upto_region 2 with (fail)
  refine wp_region_br (fun w'=>w'.cell? ⟨v.heap.size,2,none⟩=some (.int .i64 (B:Int))∧w'.cell? ⟨rb,3+B,none⟩=some (.int .u64 (x:Int))) [0,1,2,3,4,5,6,7] (by kernel_rfl) (by kernel_rfl) ⟨i2,dB⟩ ?_
  repeat
   first
    | (refine wpB_skip rfl (by kernel_rfl) (by rfl) ?_)
    | ((refine wpB_take (v:=?_) rfl rfl (by kernel_rfl) (by rfl) ?_ ?_); rotate_left 1; (· ((intro w hSw; (try dsimp only at hSw); go_simp); try with_reducible rfl)))
   try simp only [Act.put,List.setIfInBounds_toArray,List.set_cons_zero,List.set_cons_succ]
  refine wpB_end (by kernel_rfl) (NoPanic.normal ?_)
  obtain ⟨W2,hdr⟩:∃ W,(W1).drew=W:=⟨_,rfl⟩
  have udr:Upd [] W1 W2:=by rw [← hdr]; exact (Upd.refl [] _).drew
  have HS2:=Lib.hid (HS.out.upd0 udr)
  have HE2:=Lib.hid (HE.out.upd udr (by simp))
  have HU2:=Lib.hid (HU.out.trans (udr.mono (by simp)))
  have UW2:=Lib.hid udr
  clear HS HE HU udr
  have HS:=HS2
  have HE:=HE2
  have HU:=HU2
  clear HS2 HE2 HU2
  rw [hdr]
  clear hdr
  replace i0:=UW2.out.cell (by simp) i0
  replace i1:=UW2.out.cell (by simp) i1
  replace i4:=UW2.out.cell (by simp) i4
  replace dA:=UW2.out.cell (by simp) dA
  clear dB i2 c2 fA g2 hw hW1
  have hr8:=HS.out.th.r8
  have hs8:=HS.out.th.s8
  have c24:=HS.out.th.head.cell 24 (rcells hr8 hs8 rv wv).2.2.2.2.2.2.2.1
  have hfi:=xfind_code (x:Int) HS.out.th.wr (by omega)
  rw [HWV.out] at c24 hfi
  rw [HPL.out] at hfi
  have HFI:=Lib.hid hfi
  clear hfi
  go_wp2_with fail
  refine HFI.out.mono ?_
  rintro e w2 ⟨rfl,rfl⟩
  clear HFI
  have HC:=Lib.hid (xlock_code HS.out)
  rw [HR.out] at HC
  go_wp2_with fail
  clear i0 i1 i4 c24 dA hr8 hs8
  refine HC.out.mono ?_
  rintro e W8 ⟨rfl,rv8,wv8,h8,u8,hn8⟩
  obtain ⟨⟨⟨ek,ea,ew,eo,ee⟩,tl⟩,r9,sh9⟩:=R
  have hs8:=HU.out.size
  simp only [TE.val]
  have HE8:=Lib.hid (HE.out.upd u8 (by have:=HNB.out; simp; omega))
  have HNL8:=Lib.hid (show ∀ g,rv8.ownBlock=some g∨wv8.ownBlock=some g → g≠w.heap.size from fun g hg=>by
   rcases hn8 g hg with k | k
   ·exact HNL.out g k
   ·have:=HE.out.lt; omega)
  have HN8:=Lib.hid (show ∀ g,rv8.ownBlock=some g∨wv8.ownBlock=some g → (rv.ownBlock=some g∨wv.ownBlock=some g)∨w.heap.size≤g from fun g hg=>by
   rcases hn8 g hg with k | k
   ·exact HN.out g k
   ·exact .inr (by omega))
  have HS8:=Lib.hid h8
  have HU8:=Lib.hid (HU.out.trans u8)
  clear HS HE HU HNL HN h8 u8 hn8 HC
  have HS:=HS8
  have HE:=HE8
  have HU:=HU8
  have HNL:=HNL8
  have HN:=HN8
  dsimp only at HS
  have q0:=(HE.out).cell 0 rfl
  have q1:=(HE.out).cell 1 rfl
  have q2:=(HE.out).cell 2 rfl
  have q3:=(HE.out).cell 3 rfl
  have q4:=(HE.out).cell 4 rfl
  have q5:=(HE.out).cell 5 rfl
  have f0:=(HE.out).free 0
  have f1:=(HE.out).free 1
  have f2:=(HE.out).free 2
  have f3:=(HE.out).free 3
  have f4:=(HE.out).free 4
  have f5:=(HE.out).free 5
  dsimp only at q0 q1 q2 q3 q4 q5
  go_wp2_with fail
  refine bodyPost_ret (ev_results2 6 7 rfl _ _ w.heap.size (⟨ek,ea,ew,eo,ee⟩:TE) (.bool tl) rfl rfl (ev_set HE.out (⟨ek,ea,ew,eo,ee⟩:TE))) rfl (hK _ _ ?_)
  refine ⟨rfl,_,_,HS.out.box (ev_upd (S:=[w.heap.size]) (Upd.refl _ _) (.inl (by simp)) _ _ _ _ _ _) HNB.out HNL.out,ev_upd HU.out (.inr (Nat.le_refl _)) _ _ _ _ _ _,HN.out⟩
set_option maxHeartbeats 1000000 in
theorem xinside_code (h0:RS v rb wb qb r sh rv wv) (i:Ins) (hi:i.op=13∨i.op=14∨i.op=15∨i.op=16) (ha:0≤i.a∧i.a<8) (hb:0≤i.b∧i.b<8) (hc:0≤i.c∧i.c<8) (hni:0≤i.n∧i.n<18446744073709551616) (hat:0≤r.at_∧r.at_≤1000000) (hrw:∀ x ∈ r.regs,W64 x) (hlr:r.a.reads.length≤1024) (hlw:r.a.writes.length≤1024) (hsn:0≤r.a.snap∧r.a.snap<18446744073709551616) :
  Calls Tryz.prog 59 #[i.val,.pointer (some ⟨rb,0,none⟩),.pointer (some ⟨wb,0,none⟩)] v (RSOk v rb wb qb rv wv (insideR i r sh)):=by
 obtain ⟨op,a,b,c,n⟩:=i
 dsimp only at ha hb hc hni hi
 obtain ⟨A,rfl⟩:∃ A:Nat,a=A:=⟨a.toNat,by omega⟩
 obtain ⟨B,rfl⟩:∃ B:Nat,b=B:=⟨b.toNat,by omega⟩
 obtain ⟨C,rfl⟩:∃ C:Nat,c=C:=⟨c.toNat,by omega⟩
 rcases hi with rfl | rfl | rfl | rfl
 ·exact xinside_get h0 A B C n (by omega) (by omega) hat hrw hlr hlw
 ·show Calls Tryz.prog _ _ v (RSOk v rb wb qb rv wv (putR ⟨14,A,B,C,n⟩ r sh))
  by_cases hin:rgR r (B:Int)<sh.row.length
  ·cases hpl:place r.a.writes (rgR r (B:Int)) with
   | some k=>exact xinside_put1 h0 A B C n (by omega) (by omega) hat hrw hlr hlw hin hpl
   | none =>
    by_cases hf:r.a.writes.length=1024
    ·exact xinside_put4 h0 A B C n (by omega) (by omega) hat hrw hlr hlw hin hpl hf
    ·exact xinside_put2 h0 A B C n (by omega) (by omega) hat hrw hlr hlw hin hpl hf
  ·exact xinside_put3 h0 A B C n (by omega) (by omega) hat hrw hlr hlw hin
 ·exact xinside_end h0 A B C n (by omega) (by omega) hat hrw hlr hlw hsn
 ·exact xinside_abort h0 A B C n hni (by omega) (by omega) hat hrw hlr hlw
end
end Go.Proofs.YtehopaabfoopeaaGreat
set_option linter.unusedSimpArgs false
set_option linter.unusedVariables false
set_option maxRecDepth 100000
namespace Go.Proofs.YtehopaabfoopeaaGreat
open Go.RowKit
theorem tmay_leave {p:List Ins} {t:TS} {k:Int} (hs:1≤t.st∧t.st≤3) (he:t.st=3 ↔ t.err≠0) (hk:0≤k∧k≤9223372036854775807):TMay p (leaveT t k):=
 ⟨hs,he,hk,fun _=>⟨rfl,rfl,rfl⟩,fun s h=>by cases h⟩
theorem tmay_give {p:List Ins} {t:TS} {k:Int} (h:TMay p t) (hk:0≤k∧k≤9223372036854775807):TMay p (giveT t k):=tmay_leave (t:={ t with regs:=t.saved }) h.st h.err hk
theorem opAt_in {p:List Ins} {k:Int} (h:opAt p k≠0):0≤k∧k<p.length:=by
 rcases Int.lt_or_le k 0 with h1 | h1
 ·unfold opAt insAt at h; rw [if_pos h1] at h; exact absurd rfl h
 ·rcases Int.lt_or_le k p.length with h2 | h2
  ·exact ⟨h1,h2⟩
  ·unfold opAt insAt at h
   rw [if_neg (by omega),List.getD_eq_getElem?_getD,List.getElem?_eq_none (by omega)] at h
   exact absurd rfl h
theorem TMay.start {p:List Ins} {t:TS} (h:TMay p t) (hp:p.length≤256):0≤t.start∧t.start≤9223372036854775807:=by
 cases ha:t.att with
 | none=>have:=(h.out ha).1; omega
 | some s =>
  have h2:=(h.ins s ha).2.1
  have:=opAt_in (p:=p) (k:=t.start) (by omega)
  omega
theorem tmay_fail {p:List Ins} {t:TS} {k:Int} (h:TMay p t) (hp:p.length≤256) (hk:k≠0):TMay p (failT t k).2:=by
 unfold failT
 split
 ·exact ⟨by simp,by simp [hk],by simpa [giveT,leaveT] using h.start hp,fun _=>⟨rfl,rfl,rfl⟩,fun s h=>by cases h⟩
 ·rename_i hi
  have ha:t.att=none:=by
   unfold TS.ins at hi
   cases ha:t.att with
   | none=>rfl
   | some s=>rw [ha] at hi; simp at hi
  exact ⟨by simp,by simp [hk],h.at0,fun _=>h.out ha,fun s hs=>by rw [show t.att=some s from hs] at ha; cases ha⟩
structure Pre (p:List Ins) (t:TS):Prop where
 st:t.st=1
 err:t.err=0
 at0:0≤t.at_∧t.at_<p.length
 len:p.length≤256
 start:opAt p t.start=12
 fuel:0≤t.fuel∧t.fuel≤4096
theorem Pre.may {p:List Ins} {t:TS} (h:Pre p t) {s:AS} (hM:May s) (h10:s.phase≠10) (hp:placed p t s):TMay p (withA t s):=
 ⟨by have:=h.st; simp only [withA]; omega,by have:=h.st; have:=h.err; simp only [withA]; omega,by have:=h.at0; have:=h.len; simp only [withA]; omega,fun e=>by (cases e),fun s2 e=>by
  cases e
  exact ⟨h.st,h.start,h.fuel,hM,h10,hp⟩⟩
theorem tmay_turned {p:List Ins} {t:TS} (h:Pre p t) {s:AS} {x:Trn} {k:Int} (hM:May s)
  (hg:k=0 → x.out=2∨x.out=3 → s.phase=1)
  (ho:k=0 → ¬ (2≤x.out∧x.out≤5) → s.phase≠10∧placed p t s):TMay p (turnedT p (withA t s) x k).2:=by
 have hlen:=h.len
 have hat:=h.at0
 have hst:=h.st
 have her:=h.err
 unfold turnedT
 by_cases hk:k=0
 ·rw [if_neg (by simpa using hk)]
  by_cases h2:x.out=2
  ·have hp:=hg hk (.inl h2)
   simp only [h2,if_true]
   refine ⟨by simp only [nextT,setR,withA]; omega,by simp only [nextT,setR,withA]; omega,by simp only [nextT,setR,withA]; omega,fun e=>by (cases e),fun s2 e=>?_⟩
   cases e
   exact ⟨h.st,h.start,h.fuel,hM,by omega,.inl hp⟩
  by_cases h3:x.out=3
  ·have hp:=hg hk (.inr h3)
   simp only [h3,if_true]
   refine ⟨by simp only [nextT,setR,withA]; simp; omega,by simp [nextT,withA]; omega,by simp [nextT,withA]; omega,fun e=>by simp [nextT,withA] at e,fun s2 e=>?_⟩
   have e2:s=s2:=by simpa [nextT,withA] using e
   subst e2
   exact ⟨by simpa [nextT,withA] using h.st,by simpa [nextT,withA] using h.start,by simpa [nextT,withA] using h.fuel,hM,by omega,.inl hp⟩
  by_cases h4:x.out=4
  ·simp only [h4]
   exact tmay_leave (t:=withA t s) (by simp only [withA]; omega) (by simp only [withA]; omega) (by simp only [withA]; omega)
  by_cases h5:x.out=5
  ·simp only [h5]
   have hs:=opAt_in (p:=p) (k:=t.start) (by have:=h.start; omega)
   exact tmay_leave (t:={ withA t s with regs:=t.saved }) (by simp only [withA]; omega) (by simp only [withA]; omega) (by simp only [withA]; omega)
  rw [if_neg h2,if_neg h3,if_neg h4,if_neg h5]
  obtain ⟨a,b⟩:=ho hk (by omega)
  exact h.may hM a b
 ·rw [if_pos (by simpa using hk)]
  have hi:(withA t s).ins=true:=rfl
  unfold failT
  simp only [hi,if_true]
  have hs:=opAt_in (p:=p) (k:=t.start) (by have:=h.start; omega)
  exact ⟨by simp,by simp [hk],by simp only [giveT,leaveT,withA]; omega,fun _=>⟨rfl,rfl,rfl⟩,fun s e=>by cases e⟩
theorem target_bound {n:Int} (h:0≤n):0≤targetI n∧targetI n≤9223372036854775807:=by unfold targetI; split <;> omega
def Tale (g:Bool) (x:Trn) (s':AS):Prop:=(x.out=2∨x.out=3 → s'.phase=1)∧(¬ (2≤x.out∧x.out≤5) → s'.phase≠10∧getsB s'=g)
section
variable {s:AS} {sh:Sh}
theorem tale_look (e:s.phase=3):Tale true (lookS s sh).1 (lookS s sh).2:=by
 unfold lookS Tale
 split
 ·exact ⟨fun _=>rfl,fun h=>absurd ⟨by simp,by simp⟩ h⟩
 ·exact ⟨fun h=>by simp [going] at h,fun _=>⟨by simp,rfl⟩⟩
theorem tale_wait (e:s.phase=4):Tale (s.thn == 2) (waitS s sh).1 (waitS s sh).2:=by
 unfold waitS Tale
 split
 ·refine ⟨fun h=>by simp [going] at h,fun _=>⟨by simp only; omega,?_⟩⟩
  unfold getsB
  simp [e]
 ·refine ⟨fun h=>by simp [going] at h,fun _=>⟨by simp only; split <;> omega,?_⟩⟩
  unfold getsB
  simp only
  split <;> simp
theorem tale_check (e:s.phase=5):Tale (s.thn == 2) (checkS s sh).1 (checkS s sh).2:=by
 unfold checkS Tale
 split
 ·refine ⟨fun h=>by simp [going] at h,fun _=>⟨by simp only; omega,?_⟩⟩
  unfold getsB
  simp [e]
 ·split
  ·refine ⟨fun h=>by simp [going] at h,fun _=>⟨by simp only; split <;> simp [e],?_⟩⟩
   unfold getsB
   simp only
   split <;> simp [e]
  ·exact ⟨fun h=>by simp at h,fun h=>absurd ⟨by simp,by simp⟩ h⟩
theorem tale_close (e:s.phase=6) (ht:s.thn=2∨s.thn=7):Tale (s.thn == 2) (closeS s sh).1 (closeS s sh).2:=by
 unfold closeS Tale
 split
 ·refine ⟨fun h=>by simp at h,fun _=>⟨by simp only; omega,?_⟩⟩
  unfold getsB
  rcases ht with k | k <;> simp [k]
 ·refine ⟨fun h=>by simp [going] at h,fun _=>⟨by simp,?_⟩⟩
  unfold getsB
  simp
theorem tale_lock (ht:s.thn=0):Tale false (lockS s sh).1 (lockS s sh).2.1:=by
 unfold lockS Tale
 split
 ·exact ⟨fun h=>by simp at h,fun _=>⟨by simp,by unfold getsB; simp [ht]⟩⟩
 ·exact ⟨fun h=>by simp [going] at h,fun _=>⟨by simp,by unfold getsB; simp⟩⟩
theorem tale_store (e:s.phase=8) (ht:s.thn=0):Tale false (storeS s sh).1 (storeS s sh).2.1:=by
 unfold storeS Tale
 split
 ·exact ⟨fun h=>by simp [going] at h,fun _=>⟨by simp only; omega,by unfold getsB; simp [e,ht]⟩⟩
 ·refine ⟨fun h=>by simp [going] at h,fun _=>⟨by simp only; split <;> simp [e],?_⟩⟩
  unfold getsB
  simp only
  split <;> simp [e,ht]
theorem step2 (e:s.phase=2) (hx:s.addr<sh.row.length):stepS s sh=((loadS s sh).1,0,(loadS s sh).2,sh):=by unfold stepS; rw [if_pos e,if_pos hx]
theorem step2n (e:s.phase=2) (hx:¬ s.addr<sh.row.length):stepS s sh=(trnNone,4,s,sh):=by unfold stepS; rw [if_pos e,if_neg hx]
theorem step3 (e:s.phase=3):stepS s sh=((lookS s sh).1,0,(lookS s sh).2,sh):=by unfold stepS; rw [if_neg (by omega),if_pos e]
theorem step4 (e:s.phase=4):stepS s sh=((waitS s sh).1,0,(waitS s sh).2,sh):=by unfold stepS; rw [if_neg (by omega),if_neg (by omega),if_pos e]
theorem step5 (e:s.phase=5):stepS s sh=((checkS s sh).1,0,(checkS s sh).2,sh):=by unfold stepS; rw [if_neg (by omega),if_neg (by omega),if_neg (by omega),if_pos e]
theorem step6 (e:s.phase=6):stepS s sh=((closeS s sh).1,0,(closeS s sh).2,sh):=by unfold stepS; rw [if_neg (by omega),if_neg (by omega),if_neg (by omega),if_neg (by omega),if_pos e]
theorem step7 (e:s.phase=7):stepS s sh=((lockS s sh).1,0,(lockS s sh).2.1,(lockS s sh).2.2):=by unfold stepS; rw [if_neg (by omega),if_neg (by omega),if_neg (by omega),if_neg (by omega),if_neg (by omega),if_pos e]
theorem step8 (e:s.phase=8):stepS s sh=((storeS s sh).1,0,(storeS s sh).2.1,(storeS s sh).2.2):=by unfold stepS; rw [if_neg (by omega),if_neg (by omega),if_neg (by omega),if_neg (by omega),if_neg (by omega),if_neg (by omega),if_pos e]
theorem step9 (e:s.phase=9):stepS s sh=((freeS s sh).1,0,(freeS s sh).2.1,(freeS s sh).2.2):=by unfold stepS; rw [if_neg (by omega),if_neg (by omega),if_neg (by omega),if_neg (by omega),if_neg (by omega),if_neg (by omega),if_neg (by omega),if_pos e]
end
theorem tale_step {s:AS} {sh:Sh} (hM:May s) (h1:s.phase≠1) (h10:s.phase≠10):(stepS s sh).2.1=0 → Tale (getsB s) (stepS s sh).1 (stepS s sh).2.2.1:=by
 have hph:=hM.ph
 have hthn:=hM.thn
 have hv:validB s=(s.phase == 4 || s.phase == 5 || s.phase == 6):=rfl
 have hg:getsB s=(s.phase == 2 || s.phase == 3 || s.thn == 2):=rfl
 have hc:s.phase=2∨s.phase=3∨s.phase=4∨s.phase=5∨s.phase=6∨s.phase=7∨s.phase=8∨s.phase=9:=by omega
 intro hk
 rw [hv] at hthn
 rcases hc with e | e | e | e | e | e | e | e
 ·have hgt:getsB s=true:=by rw [hg,e]; rfl
  rw [hgt]
  by_cases hx:s.addr<sh.row.length
  ·rw [step2 e hx]
   exact ⟨fun h=>by simp [loadS,going] at h,fun _=>⟨by simp [loadS],rfl⟩⟩
  ·rw [step2n e hx] at hk; simp at hk
 ·rw [show getsB s=true by rw [hg,e]; rfl,step3 e]; exact tale_look e
 ·rw [show getsB s=(s.thn == 2) by rw [hg,e]; rfl,step4 e]; exact tale_wait e
 ·rw [show getsB s=(s.thn == 2) by rw [hg,e]; rfl,step5 e]; exact tale_check e
 ·rw [show getsB s=(s.thn == 2) by rw [hg,e]; rfl,step6 e]; exact tale_close e (by rw [e] at hthn; simpa using hthn)
 ·have ht:s.thn=0:=by rw [e] at hthn; simpa using hthn
  rw [show getsB s=false by rw [hg,e,ht]; rfl,step7 e]; exact tale_lock ht
 ·have ht:s.thn=0:=by rw [e] at hthn; simpa using hthn
  rw [show getsB s=false by rw [hg,e,ht]; rfl,step8 e]; exact tale_store e ht
 ·rw [step9 e]
  exact ⟨fun h=>by simp [freeS] at h,fun h=>absurd ⟨by simp [freeS],by simp [freeS]⟩ h⟩
theorem tmay_turn {p:List Ins} {t:TS} {sh:Sh} (h:TMay p t) (hp:p.length≤256) (hw:WideSh sh) {s:AS} (ha:t.att=some s) (h1:s.phase≠1) :
  TMay p (turnedT p (withA t (stepS s sh).2.2.1) (stepS s sh).1 (stepS s sh).2.1).2:=by
 obtain ⟨hst,hstart,hfuel,hM,h10,hpl⟩:=h.ins s ha
 have herr:t.err=0:=by
  by_cases e:t.err=0
  ·exact e
  ·have:=h.err.2 e; omega
 obtain ⟨hf0,hop⟩:0<t.fuel∧opAt p t.at_=if getsB s=true then 13 else 15:=by
  rcases hpl with k | k
  ·exact absurd k h1
  ·exact k
 have hat:=opAt_in (p:=p) (k:=t.at_) (by rw [hop]; split <;> omega)
 have hpre:Pre p t:=⟨hst,herr,hat,hp,hstart,hfuel⟩
 have hM2:=may_step (sh:=sh) hM hw.par
 exact tmay_turned hpre hM2 (fun hk=>(tale_step hM h1 h10 hk).1) (fun hk ho=>⟨((tale_step hM h1 h10 hk).2 ho).1,.inr ⟨hf0,by rw [((tale_step hM h1 h10 hk).2 ho).2]; exact hop⟩⟩)
end Go.Proofs.YtehopaabfoopeaaGreat
