/- The document's thread: a store of a commit, the lock is freed. No conditions. The document's thread: the lock is freed. No conditions. -/
import Derived.Test.YtehopaabfoopeaaGreatTz14
set_option linter.unusedSimpArgs false
set_option linter.unusedVariables false
set_option maxRecDepth 100000
namespace Go.Proofs.YtehopaabfoopeaaGreat
open Go.RowKit
open Go.Maps
section
variable {w w':World} {rb wb qb:Nat} {r:RT} {sh:Sh} {rv wv:Value} {po:Option Addr} {cap:Nat} {p:List Ins}
set_option maxHeartbeats 2000000 in
theorem xunder8 (h:RS w rb wb qb r sh rv wv) (pv:Value) (hp:r.a.phase=8) (hl:r.a.writes.length≤1024) (hat:0≤r.a.at_∧r.a.at_<r.a.writes.length) (hw:∀ c ∈ r.a.writes,0≤c.1∧0≤c.2∧c.2<18446744073709551616) :
  Calls Tryz.prog 56 #[pv,.pointer (some ⟨rb,0,none⟩),.pointer (some ⟨wb,0,none⟩)] w (RSOk w rb wb qb rv wv (storeR r sh)):=by
 obtain ⟨k,hk⟩:∃ k:Nat,r.a.at_=k:=⟨r.a.at_.toNat,by omega⟩
 obtain ⟨⟨x,v⟩,hxv⟩:∃ c,r.a.writes[k]? = some c:=⟨_,List.getElem?_eq_getElem (by omega)⟩
 have hvw:=(hw _ (List.mem_of_getElem? hxv)).2
 obtain ⟨x,rfl⟩:∃ n:Nat,x=n:=⟨x.toNat,by have:=(hw _ (List.mem_of_getElem? hxv)).1; simp only at this; omega⟩
 dsimp only at hvw
 obtain ⟨W1,hW1⟩:∃ W,w.alloc (.cells #[.int .i64 0,.int .i64 0,.int .u64 0,.int .u64 0,.bool false,.int .i64 0] 86)=W:=⟨_,rfl⟩
 have u1:Upd [] w W1:=by rw [← hW1]; exact (Upd.refl [] _).alloc _
 have EB:Blk W1 w.heap.size (TE.cells ⟨0,0,0,false,0⟩) 86:=by rw [← hW1]; exact Blk.new w _ _
 have hlt1:=h.th.lt
 have hlt2:=h.wo.lt
 have hnes:=h.ne
 have hnew:=h.wo.ne
 have HNB:=Lib.hid (show rb≠w.heap.size∧wb≠w.heap.size∧qb≠w.heap.size from ⟨by omega,by omega,by omega⟩)
 have HNL:=Lib.hid (show ∀ g,rv.ownBlock=some g∨wv.ownBlock=some g → g≠w.heap.size from fun g hg=>by have:=(h.th.ap g hg).2; omega)
 have HN:=Lib.hid (show ∀ g,rv.ownBlock=some g∨wv.ownBlock=some g → (rv.ownBlock=some g∨wv.ownBlock=some g)∨w.heap.size≤g from fun g hg=>.inl hg)
 have HS:=Lib.hid (h.upd0 u1)
 have HE:=Lib.hid EB
 have HU:=Lib.hid (show Upd [rb,wb,qb] w W1 from u1.mono (by simp))
 have hne1:rb≠w.heap.size:=by omega
 have hne2:wb≠w.heap.size:=by omega
 have hne3:qb≠w.heap.size:=by omega
 have hne4:rb≠wb:=hnes.1
 have hne5:rb≠qb:=hnes.2
 clear EB u1 h hlt1 hlt2
 have hlen:=HS.out.wo.len
 obtain ⟨pr,cr,hrv,hcell⟩:=HS.out.th.wr
 obtain ⟨pb,po,rfl,m0,m1⟩:=hcell k _ _ hxv
 have HWV:=Lib.hid hrv
 clear hrv hcell hw
 have hr8:=HS.out.th.r8
 have hs8:=HS.out.th.s8
 obtain ⟨st,er,at_,rs,ins,sta,sv,fu,⟨sn,rd,wl,ph,th,ad,wo,fo,at2⟩⟩:=r
 obtain ⟨r0,r1,r2,r3,r4,r5,r6,r7,rfl⟩:=list8 hr8
 obtain ⟨s0,s1,s2,s3,s4,s5,s6,s7,rfl⟩:=list8 hs8
 have hB:Blk W1 rb [.int .i64 st,.int .i64 er,.int .i64 at_,.int .u64 r0,.int .u64 r1,.int .u64 r2,.int .u64 r3,.int .u64 r4,.int .u64 r5,.int .u64 r6,.int .u64 r7,.bool ins,.int .i64 sta,.int .u64 s0,.int .u64 s1,.int .u64 s2,.int .u64 s3,.int .u64 s4,.int .u64 s5,.int .u64 s6,.int .u64 s7,.int .i64 fu,.int .u64 sn,rv,wv,.int .i64 ph,.int .i64 th,.int .u64 ad,.int .u64 wo,.int .u64 fo,.int .i64 at2] 58:=HS.out.th.head
 clear hr8 hs8
 dsimp only at hp hl hk hxv hat HWV
 subst hp
 subst hk
 have c24:=hB.cell 24 rfl
 have c25:=hB.cell 25 rfl
 have c30:=hB.cell 30 rfl
 rw [HWV.out] at c24
 try dsimp only at c24
 obtain ⟨cap,hW⟩:=HS.out.wo.head
 have d0:=hW.cell 0 rfl
 clear hW hB
 have hul:IntKind.u64.wrap (sh.row.length:Int)=sh.row.length:=by rw [IntKind.wrap_u64]; omega
 have hkl:(k:Int)<(wl.length:Int):=hat.2
 have hw1:wrap64 ((k:Int)+1)=(k:Int)+1:=by unfold wrap64; omega
 have hA:storeR ⟨st,er,at_,[r0,r1,r2,r3,r4,r5,r6,r7],ins,sta,[s0,s1,s2,s3,s4,s5,s6,s7],fu,⟨sn,rd,wl,8,th,ad,wo,fo,(k:Int)⟩⟩ sh=(quiet,withR ⟨st,er,at_,[r0,r1,r2,r3,r4,r5,r6,r7],ins,sta,[s0,s1,s2,s3,s4,s5,s6,s7],fu,⟨sn,rd,wl,8,th,ad,wo,fo,(k:Int)⟩⟩ (if (k:Int)+1=wl.length then ⟨sn,rd,wl,9,th,ad,wo,fo,0⟩ else ⟨sn,rd,wl,8,th,ad,wo,fo,(k:Int)+1⟩),{ sh with row:=storeW sh.row (x:Int) v }):=by
  unfold storeR
  dsimp only
  rw [Int.toNat_natCast,hxv]
 rw [hA]
 have HXV:=Lib.hid hxv
 clear hA hxv hat
 refine calls_all fun K hK=>?_
 go_enter Tryz.func56,Tryz.ntmps56
 go_upto_region 14 with (fail)
 refine wp_region_br (fun w'=>w'.cell? ⟨rb,24,none⟩=some (.slice (some ⟨pb,po,none⟩) wl.length cr)∧w'.cell? ⟨rb,30,none⟩=some (.int .i64 (k:Int))∧w'.cell? ⟨pb,po+k*2,none⟩=some (.int .u64 (x:Int))∧w'.cell? ⟨pb,po+k*2+1,none⟩=some (.int .u64 v)) [0,1,2,3,4,5,6,7,8,9,10,11] (by kernel_rfl) (by kernel_rfl) ⟨c24,c30,m0,m1⟩ ?_
 obtain ⟨W2,hdr⟩:∃ W,(W1).drew=W:=⟨_,rfl⟩
 have udr:Upd [] W1 W2:=by rw [← hdr]; exact (Upd.refl [] _).drew
 have HS2:=Lib.hid (HS.out.upd0 udr)
 have HE2:=Lib.hid (HE.out.upd udr (by simp))
 have HU2:=Lib.hid (HU.out.trans (udr.mono (by simp)))
 have UW2:=Lib.hid udr
 clear HS HE HU udr
 have HS:=HS2
 have HE:=HE2
 have HU:=HU2
 clear HS2 HE2 HU2
 rw [hdr]
 clear hdr
 replace c24:=UW2.out.cell (by simp) c24
 replace c30:=UW2.out.cell (by simp) c30
 replace m0:=UW2.out.cell (by simp) m0
 replace m1:=UW2.out.cell (by simp) m1
 replace d0:=UW2.out.cell (by simp) d0
 repeat
  first
   | (refine wpB_skip rfl (by kernel_rfl) (by rfl) ?_)
   | ((refine wpB_take (v:=?_) rfl rfl (by kernel_rfl) (by rfl) ?_ ?_); rotate_left 1; (· ((intro w hSw; (try dsimp only at hSw); go_simp); try with_reducible rfl)))
  try simp only [Act.put,List.setIfInBounds_toArray,List.set_cons_zero,List.set_cons_succ]
 refine wpB_eff rfl (by kernel_rfl) (by rfl) (fun K2 hK2=>?_)
 go_simp
 have ua:∀ c,Upd [] W2 (W2.alloc c):=fun c=>(Upd.refl [] _).alloc _
 refine hK2.out _ _ ⟨(ua _).cell (by simp) c24,(ua _).cell (by simp) c30,(ua _).cell (by simp) m0,(ua _).cell (by simp) m1⟩ ?_
 clear hK2 K2
 repeat
  first
   | (refine wpB_skip rfl (by kernel_rfl) (by rfl) ?_)
   | ((refine wpB_take (v:=?_) rfl rfl (by kernel_rfl) (by rfl) ?_ ?_); rotate_left 1; (· ((intro w hSw; (try dsimp only at hSw); go_simp); try with_reducible rfl)))
  try simp only [Act.put,List.setIfInBounds_toArray,List.set_cons_zero,List.set_cons_succ]
 refine wpB_eff rfl (by kernel_rfl) (by rfl) (fun K2 hK2=>?_)
 go_simp
 refine hK2.out _ _ ⟨(ua _).cell (by simp) c24,(ua _).cell (by simp) c30,(ua _).cell (by simp) m0,(ua _).cell (by simp) m1⟩ ?_
 clear hK2 K2
 refine wpB_end (by kernel_rfl) (NoPanic.normal ?_)
 obtain ⟨W3,hW3⟩:∃ W,W2.alloc (.cells #[.int .u64 (x:Int),.int .u64 v] 71)=W:=⟨_,rfl⟩
 have u3:Upd [] W2 W3:=by rw [← hW3]; exact (Upd.refl [] _).alloc _
 have CB:Blk W3 W2.heap.size [.int .u64 (x:Int),.int .u64 v] 71:=by rw [← hW3]; exact Blk.new W2 _ _
 rw [hW3]
 replace d0:=u3.cell (by simp) d0
 have e0:=CB.cell 0 rfl
 have e1:=CB.cell 1 rfl
 have HE3:=Lib.hid (HE.out.upd u3 (by simp))
 have HU3:=Lib.hid (HU.out.trans (u3.mono (by simp)))
 have HS3:=Lib.hid (HS.out.upd0 u3)
 clear HS HE HU CB u3 m0 m1 ua hW3 c24 c25 c30
 have HS:=HS3
 have HE:=HE3
 have HU:=HU3
 clear HS3 HE3 HU3
 generalize W2.heap.size=cb at e0 e1 ⊢
 by_cases hx:(x:Int)<sh.row.length
 ·have hxn:x<sh.row.length:=by omega
  have b:decide ((x:Int)<(sh.row.length:Int))=true:=decide_eq_true hx
  have b2:decide (x<sh.row.length)=true:=decide_eq_true hxn
  have hst:storeW sh.row (x:Int) v=sh.row.set x v:=by unfold storeW; rw [if_pos hx]; rfl
  rw [hst] at hK
  have dx:=HS.out.wo.cell hxn
  have gx:∀ W,RS W rb wb qb ⟨st,er,at_,[r0,r1,r2,r3,r4,r5,r6,r7],ins,sta,[s0,s1,s2,s3,s4,s5,s6,s7],fu,⟨sn,rd,wl,8,th,ad,wo,fo,(k:Int)⟩⟩ sh rv wv → W.frozen? ⟨qb,x,none⟩=false:=fun W h=>by obtain ⟨sp,hr⟩:=h.wo.row; exact hr.free x
  go_upto_region 15 with (fail)
  refine wp_region_br (fun w'=>w'.cell? ⟨cb,0,none⟩=some (.int .u64 (x:Int))∧w'.cell? ⟨wb,0,none⟩=some (.slice (some ⟨qb,0,none⟩) sh.row.length cap)) [0,1,2,3,4,5,6,7,8] (by kernel_rfl) (by kernel_rfl) ⟨e0,d0⟩ ?_
  repeat
   first
    | (refine wpB_skip rfl (by kernel_rfl) (by rfl) ?_)
    | ((refine wpB_take (v:=?_) rfl rfl (by kernel_rfl) (by rfl) ?_ ?_); rotate_left 1; (· ((intro w hSw; (try dsimp only at hSw); go_simp); try with_reducible rfl)))
   try simp only [Act.put,List.setIfInBounds_toArray,List.set_cons_zero,List.set_cons_succ]
  refine wpB_end (by kernel_rfl) (NoPanic.normal ?_)
  obtain ⟨W4,hdr⟩:∃ W,(W3).drew=W:=⟨_,rfl⟩
  have udr:Upd [] W3 W4:=by rw [← hdr]; exact (Upd.refl [] _).drew
  have HS2:=Lib.hid (HS.out.upd0 udr)
  have HE2:=Lib.hid (HE.out.upd udr (by simp))
  have HU2:=Lib.hid (HU.out.trans (udr.mono (by simp)))
  have UW4:=Lib.hid udr
  clear HS HE HU udr
  have HS:=HS2
  have HE:=HE2
  have HU:=HU2
  clear HS2 HE2 HU2
  rw [hdr]
  clear hdr
  replace e0:=UW4.out.cell (by simp) e0
  replace e1:=UW4.out.cell (by simp) e1
  replace d0:=UW4.out.cell (by simp) d0
  replace dx:=UW4.out.cell (by simp) dx
  go_upto_region 16 with (fail)
  refine wp_region_ordT (fun w'=>w'.cell? ⟨cb,0,none⟩=some (.int .u64 (x:Int))∧w'.cell? ⟨cb,1,none⟩=some (.int .u64 v)∧w'.cell? ⟨wb,0,none⟩=some (.slice (some ⟨qb,0,none⟩) sh.row.length cap)) [0,1,2,3,4,5,6,7,8,9] [9] (by kernel_rfl) (by kernel_rfl) ?_
  obtain ⟨W5,hdr⟩:∃ W,(W4).drew=W:=⟨_,rfl⟩
  have udr:Upd [] W4 W5:=by rw [← hdr]; exact (Upd.refl [] _).drew
  have HS2:=Lib.hid (HS.out.upd0 udr)
  have HE2:=Lib.hid (HE.out.upd udr (by simp))
  have HU2:=Lib.hid (HU.out.trans (udr.mono (by simp)))
  have UW5:=Lib.hid udr
  clear HS HE HU udr
  have HS:=HS2
  have HE:=HE2
  have HU:=HU2
  clear HS2 HE2 HU2
  rw [hdr]
  clear hdr
  have hS:W5.cell? ⟨cb,0,none⟩=some (.int .u64 (x:Int))∧W5.cell? ⟨cb,1,none⟩=some (.int .u64 v)∧W5.cell? ⟨wb,0,none⟩=some (.slice (some ⟨qb,0,none⟩) sh.row.length cap):=⟨UW5.out.cell (by simp) e0,UW5.out.cell (by simp) e1,UW5.out.cell (by simp) d0⟩
  replace dx:=UW5.out.cell (by simp) dx
  have fx:=gx W5 HS.out
  clear e0 e1 d0 gx
  repeat
   first
    | (refine wpT_skip rfl (by decide) (by assumption) (by rfl) ?_)
    | ((refine wpT_take (v:=?_) rfl (by decide) (by assumption) rfl (by rfl) ?_ ?_); rotate_left 1; (· ((intro w hSw; (try dsimp only at hSw); go_simp); try with_reducible rfl)))
   try simp only [Act.put,List.setIfInBounds_toArray,List.set_cons_zero,List.set_cons_succ]
  refine wpT_last rfl (by decide) (by kernel_rfl) (by rfl) (fun K2 hK2=>?_)
  go_simp
  refine hK2.out _ _ ?_
  refine wpT_end (NoPanic.normal ?_)
  clear hK2 K2
  clear hS
  obtain ⟨W6,hW2⟩:∃ W,W5.setCell ⟨qb,x,none⟩ (.int .u64 v)=W:=⟨_,rfl⟩
  have hs2:=HS.out.cel hxn v hvw
  rw [hW2] at hs2
  have uu:Upd [rb,wb,qb] W5 W6:=by
   rw [← hW2]
   repeat (first | refine Upd.drew ?_ | refine Upd.setCell ?_ (.inl (by simp)) _ | with_reducible exact Upd.refl _ _)
  have HE2:=Lib.hid (HE.out.upd uu (by have:=HNB.out; simp; omega))
  have HU2:=Lib.hid (HU.out.trans uu)
  have HS2:=Lib.hid hs2
  clear HS HE HU uu hs2
  have HS:=HS2
  have HE:=HE2
  have HU:=HU2
  clear HS2 HE2 HU2
  rw [hW2]
  clear hW2
  clear dx fx
  have c30:(W6).cell? ⟨rb,30,none⟩=some (.int .i64 (k:Int)):=HS.out.th.head.cell 30 rfl
  have g30:=HS.out.th.head.free 30
  by_cases hke:(k:Int)+1=wl.length
  ·rw [if_pos hke] at hK
   have be:(((k:Int)+1) == (wl.length:Int))=true:=by simp [hke]
   have HKE:=Lib.hid hke
   clear hke
   go_upto_region 18 with (fail)
   obtain ⟨W7,hW2⟩:∃ W,((W6).setCell ⟨rb,30,none⟩ (.int .i64 ((k:Int)+1)))=W:=⟨_,rfl⟩
   have hs2:=(HS.out.one (r':=⟨st,er,at_,[r0,r1,r2,r3,r4,r5,r6,r7],ins,sta,[s0,s1,s2,s3,s4,s5,s6,s7],fu,⟨sn,rd,wl,8,th,ad,wo,fo,(k:Int)+1⟩⟩) 30 (.int .i64 ((k:Int)+1)) rfl rfl rfl rfl rfl)
   rw [hW2] at hs2
   have uu:Upd [rb,wb,qb] W6 W7:=by
    rw [← hW2]
    repeat (first | refine Upd.drew ?_ | refine Upd.setCell ?_ (.inl (by simp)) _ | with_reducible exact Upd.refl _ _)
   have HE2:=Lib.hid (HE.out.upd uu (by have:=HNB.out; simp; omega))
   have HU2:=Lib.hid (HU.out.trans uu)
   have HS2:=Lib.hid hs2
   clear HS HE HU uu hs2
   have HS:=HS2
   have HE:=HE2
   have HU:=HU2
   clear HS2 HE2 HU2
   rw [hW2]
   clear hW2
   have c30:(W7).cell? ⟨rb,30,none⟩=some (.int .i64 ((k:Int)+1)):=HS.out.th.head.cell 30 rfl
   have g30:=HS.out.th.head.free 30
   have c25:(W7).cell? ⟨rb,25,none⟩=some (.int .i64 8):=HS.out.th.head.cell 25 rfl
   have g25:=HS.out.th.head.free 25
   have c24:=HS.out.th.head.cell 24 rfl
   rw [HWV.out] at c24
   try dsimp only at c24
   refine wp_region_br (fun w'=>w'.cell? ⟨rb,30,none⟩=some (.int .i64 ((k:Int)+1))∧w'.cell? ⟨rb,24,none⟩=some (.slice (some ⟨pb,po,none⟩) wl.length cr)) [0,1,2,3,4,5,6,7,8,9] (by kernel_rfl) (by kernel_rfl) ⟨c30,c24⟩ ?_
   repeat
    first
     | (refine wpB_skip rfl (by kernel_rfl) (by rfl) ?_)
     | ((refine wpB_take (v:=?_) rfl rfl (by kernel_rfl) (by rfl) ?_ ?_); rotate_left 1; (· ((intro w hSw; (try dsimp only at hSw); go_simp); try with_reducible rfl)))
    try simp only [Act.put,List.setIfInBounds_toArray,List.set_cons_zero,List.set_cons_succ]
   refine wpB_end (by kernel_rfl) (NoPanic.normal ?_)
   go_upto_region 21 with (fail)
   obtain ⟨W9,hW2⟩:∃ W,(((W7).setCell ⟨rb,30,none⟩ (.int .i64 0)).setCell ⟨rb,25,none⟩ (.int .i64 9)).drew=W:=⟨_,rfl⟩
   have hs2:=((HS.out.one (r':=⟨st,er,at_,[r0,r1,r2,r3,r4,r5,r6,r7],ins,sta,[s0,s1,s2,s3,s4,s5,s6,s7],fu,⟨sn,rd,wl,8,th,ad,wo,fo,0⟩⟩) 30 (.int .i64 0) rfl rfl rfl rfl rfl).one (r':=⟨st,er,at_,[r0,r1,r2,r3,r4,r5,r6,r7],ins,sta,[s0,s1,s2,s3,s4,s5,s6,s7],fu,⟨sn,rd,wl,9,th,ad,wo,fo,0⟩⟩) 25 (.int .i64 9) rfl rfl rfl rfl rfl).upd0 ((Upd.refl [] _).drew)
   rw [hW2] at hs2
   have uu:Upd [rb,wb,qb] W7 W9:=by
    rw [← hW2]
    repeat (first | refine Upd.drew ?_ | refine Upd.setCell ?_ (.inl (by simp)) _ | with_reducible exact Upd.refl _ _)
   have HE2:=Lib.hid (HE.out.upd uu (by have:=HNB.out; simp; omega))
   have HU2:=Lib.hid (HU.out.trans uu)
   have HS2:=Lib.hid hs2
   clear HS HE HU uu hs2
   have HS:=HS2
   have HE:=HE2
   have HU:=HU2
   clear HS2 HE2 HU2
   rw [hW2]
   clear hW2
   have q0:=(HE.out).cell 0 rfl
   have q1:=(HE.out).cell 1 rfl
   have q2:=(HE.out).cell 2 rfl
   have q3:=(HE.out).cell 3 rfl
   have q4:=(HE.out).cell 4 rfl
   have q5:=(HE.out).cell 5 rfl
   have f0:=(HE.out).free 0
   have f1:=(HE.out).free 1
   have f2:=(HE.out).free 2
   have f3:=(HE.out).free 3
   have f4:=(HE.out).free 4
   have f5:=(HE.out).free 5
   dsimp only at q0 q1 q2 q3 q4 q5
   go_wp2_with fail
   refine bodyPost_ret (ev_results2 6 7 rfl _ _ w.heap.size (⟨0,0,0,false,0⟩:TE) (.bool false) rfl rfl (ev_set HE.out (⟨0,0,0,false,0⟩:TE))) rfl (hK _ _ ?_)
   refine ⟨rfl,_,_,HS.out.box (ev_upd (S:=[w.heap.size]) (Upd.refl _ _) (.inl (by simp)) _ _ _ _ _ _) HNB.out HNL.out,ev_upd HU.out (.inr (Nat.le_refl _)) _ _ _ _ _ _,HN.out⟩
  ·rw [if_neg hke] at hK
   have be:(((k:Int)+1) == (wl.length:Int))=false:=by simp [hke]
   have HKE:=Lib.hid hke
   clear hke
   go_upto_region 18 with (fail)
   obtain ⟨W7,hW2⟩:∃ W,((W6).setCell ⟨rb,30,none⟩ (.int .i64 ((k:Int)+1)))=W:=⟨_,rfl⟩
   have hs2:=(HS.out.one (r':=⟨st,er,at_,[r0,r1,r2,r3,r4,r5,r6,r7],ins,sta,[s0,s1,s2,s3,s4,s5,s6,s7],fu,⟨sn,rd,wl,8,th,ad,wo,fo,(k:Int)+1⟩⟩) 30 (.int .i64 ((k:Int)+1)) rfl rfl rfl rfl rfl)
   rw [hW2] at hs2
   have uu:Upd [rb,wb,qb] W6 W7:=by
    rw [← hW2]
    repeat (first | refine Upd.drew ?_ | refine Upd.setCell ?_ (.inl (by simp)) _ | with_reducible exact Upd.refl _ _)
   have HE2:=Lib.hid (HE.out.upd uu (by have:=HNB.out; simp; omega))
   have HU2:=Lib.hid (HU.out.trans uu)
   have HS2:=Lib.hid hs2
   clear HS HE HU uu hs2
   have HS:=HS2
   have HE:=HE2
   have HU:=HU2
   clear HS2 HE2 HU2
   rw [hW2]
   clear hW2
   have c30:(W7).cell? ⟨rb,30,none⟩=some (.int .i64 ((k:Int)+1)):=HS.out.th.head.cell 30 rfl
   have g30:=HS.out.th.head.free 30
   have c25:(W7).cell? ⟨rb,25,none⟩=some (.int .i64 8):=HS.out.th.head.cell 25 rfl
   have g25:=HS.out.th.head.free 25
   have c24:=HS.out.th.head.cell 24 rfl
   rw [HWV.out] at c24
   try dsimp only at c24
   refine wp_region_br (fun w'=>w'.cell? ⟨rb,30,none⟩=some (.int .i64 ((k:Int)+1))∧w'.cell? ⟨rb,24,none⟩=some (.slice (some ⟨pb,po,none⟩) wl.length cr)) [0,1,2,3,4,5,6,7,8,9] (by kernel_rfl) (by kernel_rfl) ⟨c30,c24⟩ ?_
   repeat
    first
     | (refine wpB_skip rfl (by kernel_rfl) (by rfl) ?_)
     | ((refine wpB_take (v:=?_) rfl rfl (by kernel_rfl) (by rfl) ?_ ?_); rotate_left 1; (· ((intro w hSw; (try dsimp only at hSw); go_simp); try with_reducible rfl)))
    try simp only [Act.put,List.setIfInBounds_toArray,List.set_cons_zero,List.set_cons_succ]
   refine wpB_end (by kernel_rfl) (NoPanic.normal ?_)
   obtain ⟨W9,hdr⟩:∃ W,(W7).drew=W:=⟨_,rfl⟩
   have udr:Upd [] W7 W9:=by rw [← hdr]; exact (Upd.refl [] _).drew
   have HS2:=Lib.hid (HS.out.upd0 udr)
   have HE2:=Lib.hid (HE.out.upd udr (by simp))
   have HU2:=Lib.hid (HU.out.trans (udr.mono (by simp)))
   have UW9:=Lib.hid udr
   clear HS HE HU udr
   have HS:=HS2
   have HE:=HE2
   have HU:=HU2
   clear HS2 HE2 HU2
   rw [hdr]
   clear hdr
   go_upto_region 21 with (fail)
   have q0:=(HE.out).cell 0 rfl
   have q1:=(HE.out).cell 1 rfl
   have q2:=(HE.out).cell 2 rfl
   have q3:=(HE.out).cell 3 rfl
   have q4:=(HE.out).cell 4 rfl
   have q5:=(HE.out).cell 5 rfl
   have f0:=(HE.out).free 0
   have f1:=(HE.out).free 1
   have f2:=(HE.out).free 2
   have f3:=(HE.out).free 3
   have f4:=(HE.out).free 4
   have f5:=(HE.out).free 5
   dsimp only at q0 q1 q2 q3 q4 q5
   go_wp2_with fail
   refine bodyPost_ret (ev_results2 6 7 rfl _ _ w.heap.size (⟨0,0,0,false,0⟩:TE) (.bool false) rfl rfl (ev_set HE.out (⟨0,0,0,false,0⟩:TE))) rfl (hK _ _ ?_)
   refine ⟨rfl,_,_,HS.out.box (ev_upd (S:=[w.heap.size]) (Upd.refl _ _) (.inl (by simp)) _ _ _ _ _ _) HNB.out HNL.out,ev_upd HU.out (.inr (Nat.le_refl _)) _ _ _ _ _ _,HN.out⟩
 ·have b:decide ((x:Int)<(sh.row.length:Int))=false:=decide_eq_false hx
  have b2:decide (x<sh.row.length)=false:=decide_eq_false (by omega)
  have hst:storeW sh.row (x:Int) v=sh.row:=by unfold storeW; rw [if_neg hx]
  rw [hst] at hK
  go_upto_region 15 with (fail)
  refine wp_region_br (fun w'=>w'.cell? ⟨cb,0,none⟩=some (.int .u64 (x:Int))∧w'.cell? ⟨wb,0,none⟩=some (.slice (some ⟨qb,0,none⟩) sh.row.length cap)) [0,1,2,3,4,5,6,7,8] (by kernel_rfl) (by kernel_rfl) ⟨e0,d0⟩ ?_
  repeat
   first
    | (refine wpB_skip rfl (by kernel_rfl) (by rfl) ?_)
    | ((refine wpB_take (v:=?_) rfl rfl (by kernel_rfl) (by rfl) ?_ ?_); rotate_left 1; (· ((intro w hSw; (try dsimp only at hSw); go_simp); try with_reducible rfl)))
   try simp only [Act.put,List.setIfInBounds_toArray,List.set_cons_zero,List.set_cons_succ]
  refine wpB_end (by kernel_rfl) (NoPanic.normal ?_)
  obtain ⟨W4,hdr⟩:∃ W,(W3).drew=W:=⟨_,rfl⟩
  have udr:Upd [] W3 W4:=by rw [← hdr]; exact (Upd.refl [] _).drew
  have HS2:=Lib.hid (HS.out.upd0 udr)
  have HE2:=Lib.hid (HE.out.upd udr (by simp))
  have HU2:=Lib.hid (HU.out.trans (udr.mono (by simp)))
  have UW4:=Lib.hid udr
  clear HS HE HU udr
  have HS:=HS2
  have HE:=HE2
  have HU:=HU2
  clear HS2 HE2 HU2
  rw [hdr]
  clear hdr
  have c30:(W4).cell? ⟨rb,30,none⟩=some (.int .i64 (k:Int)):=HS.out.th.head.cell 30 rfl
  have g30:=HS.out.th.head.free 30
  by_cases hke:(k:Int)+1=wl.length
  ·rw [if_pos hke] at hK
   have be:(((k:Int)+1) == (wl.length:Int))=true:=by simp [hke]
   have HKE:=Lib.hid hke
   clear hke
   go_upto_region 18 with (fail)
   obtain ⟨W7,hW2⟩:∃ W,((W4).setCell ⟨rb,30,none⟩ (.int .i64 ((k:Int)+1)))=W:=⟨_,rfl⟩
   have hs2:=(HS.out.one (r':=⟨st,er,at_,[r0,r1,r2,r3,r4,r5,r6,r7],ins,sta,[s0,s1,s2,s3,s4,s5,s6,s7],fu,⟨sn,rd,wl,8,th,ad,wo,fo,(k:Int)+1⟩⟩) 30 (.int .i64 ((k:Int)+1)) rfl rfl rfl rfl rfl)
   rw [hW2] at hs2
   have uu:Upd [rb,wb,qb] W4 W7:=by
    rw [← hW2]
    repeat (first | refine Upd.drew ?_ | refine Upd.setCell ?_ (.inl (by simp)) _ | with_reducible exact Upd.refl _ _)
   have HE2:=Lib.hid (HE.out.upd uu (by have:=HNB.out; simp; omega))
   have HU2:=Lib.hid (HU.out.trans uu)
   have HS2:=Lib.hid hs2
   clear HS HE HU uu hs2
   have HS:=HS2
   have HE:=HE2
   have HU:=HU2
   clear HS2 HE2 HU2
   rw [hW2]
   clear hW2
   have c30:(W7).cell? ⟨rb,30,none⟩=some (.int .i64 ((k:Int)+1)):=HS.out.th.head.cell 30 rfl
   have g30:=HS.out.th.head.free 30
   have c25:(W7).cell? ⟨rb,25,none⟩=some (.int .i64 8):=HS.out.th.head.cell 25 rfl
   have g25:=HS.out.th.head.free 25
   have c24:=HS.out.th.head.cell 24 rfl
   rw [HWV.out] at c24
   try dsimp only at c24
   refine wp_region_br (fun w'=>w'.cell? ⟨rb,30,none⟩=some (.int .i64 ((k:Int)+1))∧w'.cell? ⟨rb,24,none⟩=some (.slice (some ⟨pb,po,none⟩) wl.length cr)) [0,1,2,3,4,5,6,7,8,9] (by kernel_rfl) (by kernel_rfl) ⟨c30,c24⟩ ?_
   repeat
    first
     | (refine wpB_skip rfl (by kernel_rfl) (by rfl) ?_)
     | ((refine wpB_take (v:=?_) rfl rfl (by kernel_rfl) (by rfl) ?_ ?_); rotate_left 1; (· ((intro w hSw; (try dsimp only at hSw); go_simp); try with_reducible rfl)))
    try simp only [Act.put,List.setIfInBounds_toArray,List.set_cons_zero,List.set_cons_succ]
   refine wpB_end (by kernel_rfl) (NoPanic.normal ?_)
   go_upto_region 21 with (fail)
   obtain ⟨W9,hW2⟩:∃ W,(((W7).setCell ⟨rb,30,none⟩ (.int .i64 0)).setCell ⟨rb,25,none⟩ (.int .i64 9)).drew=W:=⟨_,rfl⟩
   have hs2:=((HS.out.one (r':=⟨st,er,at_,[r0,r1,r2,r3,r4,r5,r6,r7],ins,sta,[s0,s1,s2,s3,s4,s5,s6,s7],fu,⟨sn,rd,wl,8,th,ad,wo,fo,0⟩⟩) 30 (.int .i64 0) rfl rfl rfl rfl rfl).one (r':=⟨st,er,at_,[r0,r1,r2,r3,r4,r5,r6,r7],ins,sta,[s0,s1,s2,s3,s4,s5,s6,s7],fu,⟨sn,rd,wl,9,th,ad,wo,fo,0⟩⟩) 25 (.int .i64 9) rfl rfl rfl rfl rfl).upd0 ((Upd.refl [] _).drew)
   rw [hW2] at hs2
   have uu:Upd [rb,wb,qb] W7 W9:=by
    rw [← hW2]
    repeat (first | refine Upd.drew ?_ | refine Upd.setCell ?_ (.inl (by simp)) _ | with_reducible exact Upd.refl _ _)
   have HE2:=Lib.hid (HE.out.upd uu (by have:=HNB.out; simp; omega))
   have HU2:=Lib.hid (HU.out.trans uu)
   have HS2:=Lib.hid hs2
   clear HS HE HU uu hs2
   have HS:=HS2
   have HE:=HE2
   have HU:=HU2
   clear HS2 HE2 HU2
   rw [hW2]
   clear hW2
   have q0:=(HE.out).cell 0 rfl
   have q1:=(HE.out).cell 1 rfl
   have q2:=(HE.out).cell 2 rfl
   have q3:=(HE.out).cell 3 rfl
   have q4:=(HE.out).cell 4 rfl
   have q5:=(HE.out).cell 5 rfl
   have f0:=(HE.out).free 0
   have f1:=(HE.out).free 1
   have f2:=(HE.out).free 2
   have f3:=(HE.out).free 3
   have f4:=(HE.out).free 4
   have f5:=(HE.out).free 5
   dsimp only at q0 q1 q2 q3 q4 q5
   go_wp2_with fail
   refine bodyPost_ret (ev_results2 6 7 rfl _ _ w.heap.size (⟨0,0,0,false,0⟩:TE) (.bool false) rfl rfl (ev_set HE.out (⟨0,0,0,false,0⟩:TE))) rfl (hK _ _ ?_)
   refine ⟨rfl,_,_,HS.out.box (ev_upd (S:=[w.heap.size]) (Upd.refl _ _) (.inl (by simp)) _ _ _ _ _ _) HNB.out HNL.out,ev_upd HU.out (.inr (Nat.le_refl _)) _ _ _ _ _ _,HN.out⟩
  ·rw [if_neg hke] at hK
   have be:(((k:Int)+1) == (wl.length:Int))=false:=by simp [hke]
   have HKE:=Lib.hid hke
   clear hke
   go_upto_region 18 with (fail)
   obtain ⟨W7,hW2⟩:∃ W,((W4).setCell ⟨rb,30,none⟩ (.int .i64 ((k:Int)+1)))=W:=⟨_,rfl⟩
   have hs2:=(HS.out.one (r':=⟨st,er,at_,[r0,r1,r2,r3,r4,r5,r6,r7],ins,sta,[s0,s1,s2,s3,s4,s5,s6,s7],fu,⟨sn,rd,wl,8,th,ad,wo,fo,(k:Int)+1⟩⟩) 30 (.int .i64 ((k:Int)+1)) rfl rfl rfl rfl rfl)
   rw [hW2] at hs2
   have uu:Upd [rb,wb,qb] W4 W7:=by
    rw [← hW2]
    repeat (first | refine Upd.drew ?_ | refine Upd.setCell ?_ (.inl (by simp)) _ | with_reducible exact Upd.refl _ _)
   have HE2:=Lib.hid (HE.out.upd uu (by have:=HNB.out; simp; omega))
   have HU2:=Lib.hid (HU.out.trans uu)
   have HS2:=Lib.hid hs2
   clear HS HE HU uu hs2
   have HS:=HS2
   have HE:=HE2
   have HU:=HU2
   clear HS2 HE2 HU2
   rw [hW2]
   clear hW2
   have c30:(W7).cell? ⟨rb,30,none⟩=some (.int .i64 ((k:Int)+1)):=HS.out.th.head.cell 30 rfl
   have g30:=HS.out.th.head.free 30
   have c25:(W7).cell? ⟨rb,25,none⟩=some (.int .i64 8):=HS.out.th.head.cell 25 rfl
   have g25:=HS.out.th.head.free 25
   have c24:=HS.out.th.head.cell 24 rfl
   rw [HWV.out] at c24
   try dsimp only at c24
   refine wp_region_br (fun w'=>w'.cell? ⟨rb,30,none⟩=some (.int .i64 ((k:Int)+1))∧w'.cell? ⟨rb,24,none⟩=some (.slice (some ⟨pb,po,none⟩) wl.length cr)) [0,1,2,3,4,5,6,7,8,9] (by kernel_rfl) (by kernel_rfl) ⟨c30,c24⟩ ?_
   repeat
    first
     | (refine wpB_skip rfl (by kernel_rfl) (by rfl) ?_)
     | ((refine wpB_take (v:=?_) rfl rfl (by kernel_rfl) (by rfl) ?_ ?_); rotate_left 1; (· ((intro w hSw; (try dsimp only at hSw); go_simp); try with_reducible rfl)))
    try simp only [Act.put,List.setIfInBounds_toArray,List.set_cons_zero,List.set_cons_succ]
   refine wpB_end (by kernel_rfl) (NoPanic.normal ?_)
   obtain ⟨W9,hdr⟩:∃ W,(W7).drew=W:=⟨_,rfl⟩
   have udr:Upd [] W7 W9:=by rw [← hdr]; exact (Upd.refl [] _).drew
   have HS2:=Lib.hid (HS.out.upd0 udr)
   have HE2:=Lib.hid (HE.out.upd udr (by simp))
   have HU2:=Lib.hid (HU.out.trans (udr.mono (by simp)))
   have UW9:=Lib.hid udr
   clear HS HE HU udr
   have HS:=HS2
   have HE:=HE2
   have HU:=HU2
   clear HS2 HE2 HU2
   rw [hdr]
   clear hdr
   go_upto_region 21 with (fail)
   have q0:=(HE.out).cell 0 rfl
   have q1:=(HE.out).cell 1 rfl
   have q2:=(HE.out).cell 2 rfl
   have q3:=(HE.out).cell 3 rfl
   have q4:=(HE.out).cell 4 rfl
   have q5:=(HE.out).cell 5 rfl
   have f0:=(HE.out).free 0
   have f1:=(HE.out).free 1
   have f2:=(HE.out).free 2
   have f3:=(HE.out).free 3
   have f4:=(HE.out).free 4
   have f5:=(HE.out).free 5
   dsimp only at q0 q1 q2 q3 q4 q5
   go_wp2_with fail
   refine bodyPost_ret (ev_results2 6 7 rfl _ _ w.heap.size (⟨0,0,0,false,0⟩:TE) (.bool false) rfl rfl (ev_set HE.out (⟨0,0,0,false,0⟩:TE))) rfl (hK _ _ ?_)
   refine ⟨rfl,_,_,HS.out.box (ev_upd (S:=[w.heap.size]) (Upd.refl _ _) (.inl (by simp)) _ _ _ _ _ _) HNB.out HNL.out,ev_upd HU.out (.inr (Nat.le_refl _)) _ _ _ _ _ _,HN.out⟩
end
end Go.Proofs.YtehopaabfoopeaaGreat
set_option linter.unusedSimpArgs false
set_option linter.unusedVariables false
set_option maxRecDepth 100000
namespace Go.Proofs.YtehopaabfoopeaaGreat
open Go.RowKit
open Go.Maps
section
variable {w w':World} {rb wb qb:Nat} {r:RT} {sh:Sh} {rv wv:Value} {po:Option Addr} {cap:Nat} {p:List Ins}
set_option maxHeartbeats 2000000 in
theorem xunder9 (h:RS w rb wb qb r sh rv wv) (pv:Value) (hp:r.a.phase=9) (hat:0≤r.at_∧r.at_≤1000000) (hsn:0≤r.a.snap∧r.a.snap<18446744073709551616) :
  Calls Tryz.prog 56 #[pv,.pointer (some ⟨rb,0,none⟩),.pointer (some ⟨wb,0,none⟩)] w (RSOk w rb wb qb rv wv (freeR r sh)):=by
 obtain ⟨W1,hW1⟩:∃ W,w.alloc (.cells #[.int .i64 0,.int .i64 0,.int .u64 0,.int .u64 0,.bool false,.int .i64 0] 86)=W:=⟨_,rfl⟩
 have u1:Upd [] w W1:=by rw [← hW1]; exact (Upd.refl [] _).alloc _
 have EB:Blk W1 w.heap.size (TE.cells ⟨0,0,0,false,0⟩) 86:=by rw [← hW1]; exact Blk.new w _ _
 have hlt1:=h.th.lt
 have hlt2:=h.wo.lt
 have hnes:=h.ne
 have hnew:=h.wo.ne
 have HNB:=Lib.hid (show rb≠w.heap.size∧wb≠w.heap.size∧qb≠w.heap.size from ⟨by omega,by omega,by omega⟩)
 have HNL:=Lib.hid (show ∀ g,rv.ownBlock=some g∨wv.ownBlock=some g → g≠w.heap.size from fun g hg=>by have:=(h.th.ap g hg).2; omega)
 have HN:=Lib.hid (show ∀ g,rv.ownBlock=some g∨wv.ownBlock=some g → (rv.ownBlock=some g∨wv.ownBlock=some g)∨w.heap.size≤g from fun g hg=>.inl hg)
 have HS:=Lib.hid (h.upd0 u1)
 have HE:=Lib.hid EB
 have HU:=Lib.hid (show Upd [rb,wb,qb] w W1 from u1.mono (by simp))
 have hne1:rb≠w.heap.size:=by omega
 have hne2:wb≠w.heap.size:=by omega
 have hne3:qb≠w.heap.size:=by omega
 have hne4:rb≠wb:=hnes.1
 have hne5:rb≠qb:=hnes.2
 clear EB u1 h hlt1 hlt2
 have hwd:=HS.out.wo.wide.clock
 have hr8:=HS.out.th.r8
 have hs8:=HS.out.th.s8
 obtain ⟨st,er,at_,rs,ins,sta,sv,fu,⟨sn,rd,wl,ph,th,ad,wo,fo,at2⟩⟩:=r
 obtain ⟨r0,r1,r2,r3,r4,r5,r6,r7,rfl⟩:=list8 hr8
 obtain ⟨s0,s1,s2,s3,s4,s5,s6,s7,rfl⟩:=list8 hs8
 have hB:Blk W1 rb [.int .i64 st,.int .i64 er,.int .i64 at_,.int .u64 r0,.int .u64 r1,.int .u64 r2,.int .u64 r3,.int .u64 r4,.int .u64 r5,.int .u64 r6,.int .u64 r7,.bool ins,.int .i64 sta,.int .u64 s0,.int .u64 s1,.int .u64 s2,.int .u64 s3,.int .u64 s4,.int .u64 s5,.int .u64 s6,.int .u64 s7,.int .i64 fu,.int .u64 sn,rv,wv,.int .i64 ph,.int .i64 th,.int .u64 ad,.int .u64 wo,.int .u64 fo,.int .i64 at2] 58:=HS.out.th.head
 clear hr8 hs8
 dsimp only at hp hat hsn
 subst hp
 have c22:=hB.cell 22 rfl
 have c25:=hB.cell 25 rfl
 obtain ⟨cap,hW⟩:=HS.out.wo.head
 have d1:=hW.cell 1 rfl
 have g1:=hW.free 1
 clear hW hB
 unfold freeR
 dsimp only
 have h1:IntKind.u64.wrap (sn+1)=(sn+1) % 18446744073709551616:=by rw [IntKind.wrap_u64]
 have h2:IntKind.u64.wrap (sn+2)=(sn+2) % 18446744073709551616:=by rw [IntKind.wrap_u64]
 have hwa:wrap64 (at_+1)=at_+1:=by unfold wrap64; omega
 have hq:0≤(sn+2) % 18446744073709551616 / 2:=by omega
 by_cases hc:sh.clock=(sn+1) % 18446744073709551616
 ·rw [if_pos hc]
  have b:(sh.clock == (sn+1) % 18446744073709551616)=true:=by simp [← hc]
  have HC:=Lib.hid hc
  clear hc
  refine calls_all fun K hK=>?_
  go_enter Tryz.func56,Tryz.ntmps56
  go_upto_region 22 with (fail)
  refine wp_region_br (fun w'=>w'.cell? ⟨rb,22,none⟩=some (.int .u64 sn)∧w'.cell? ⟨wb,1,none⟩=some (.int .u64 sh.clock)) [0,1,2,3,4,5,6,7,8,9] (by kernel_rfl) (by kernel_rfl) ⟨c22,d1⟩ ?_
  repeat
   first
    | (refine wpB_skip rfl (by kernel_rfl) (by rfl) ?_)
    | ((refine wpB_take (v:=?_) rfl rfl (by kernel_rfl) (by rfl) ?_ ?_); rotate_left 1; (· ((intro w hSw; (try dsimp only at hSw); go_simp); try with_reducible rfl)))
   try simp only [Act.put,List.setIfInBounds_toArray,List.set_cons_zero,List.set_cons_succ]
  refine wpB_end (by kernel_rfl) (NoPanic.normal ?_)
  go_upto_region 24 with (fail)
  obtain ⟨W2,hW2⟩:∃ W,(W1.setCell ⟨wb,1,none⟩ (.int .u64 ((sn+2) % 18446744073709551616))).drew=W:=⟨_,rfl⟩
  have hs2:=(HS.out.clk ((sn+2) % 18446744073709551616) ⟨Int.emod_nonneg _ (by omega),Int.emod_lt_of_pos _ (by omega)⟩).upd0 ((Upd.refl [] _).drew)
  rw [hW2] at hs2
  have uu:Upd [rb,wb,qb] W1 W2:=by
   rw [← hW2]
   repeat (first | refine Upd.drew ?_ | refine Upd.setCell ?_ (.inl (by simp)) _ | with_reducible exact Upd.refl _ _)
  have HE2:=Lib.hid (HE.out.upd uu (by have:=HNB.out; simp; omega))
  have HU2:=Lib.hid (HU.out.trans uu)
  have HS2:=Lib.hid hs2
  clear HS HE HU uu hs2
  have HS:=HS2
  have HE:=HE2
  have HU:=HU2
  clear HS2 HE2 HU2
  rw [hW2]
  clear hW2
  have c22:(W2).cell? ⟨rb,22,none⟩=some (.int .u64 sn):=HS.out.th.head.cell 22 rfl
  have c2:(W2).cell? ⟨rb,2,none⟩=some (.int .i64 at_):=HS.out.th.head.cell 2 rfl
  go_wp2_with fail
  clear c22 c2
  refine (HS.out.out (at_+1)).mono ?_
  rintro e W8 ⟨rfl,h8,u8⟩
  have HE8:=Lib.hid (HE.out.upd u8 (by have:=HNB.out; simp; omega))
  have HU8:=Lib.hid (HU.out.trans u8)
  have HS8:=Lib.hid h8
  clear HS HE HU HNL HN h8 u8
  have HS:=HS8
  have HE:=HE8
  have HU:=HU8
  have HNL:=Lib.hid (show ∀ g,(Value.slice none 0 0).ownBlock=some g∨(Value.slice none 0 0).ownBlock=some g → g≠w.heap.size from by simp [Value.ownBlock])
  have HN:=Lib.hid (show ∀ g,(Value.slice none 0 0).ownBlock=some g∨(Value.slice none 0 0).ownBlock=some g → (rv.ownBlock=some g∨wv.ownBlock=some g)∨w.heap.size≤g from by simp [Value.ownBlock])
  clear HS8 HE8 HU8
  go_wp2_with fail
  refine (x11event_any _ _ _ _).mono ?_
  rintro e W9 ⟨rfl,u9⟩
  simp only [TE.val]
  replace HE:=Lib.hid (HE.out.upd u9 (by simp))
  replace HS:=Lib.hid (HS.out.upd0 u9)
  replace HU:=Lib.hid (HU.out.trans (u9.mono (by simp)))
  clear u9
  have q0:=(HE.out).cell 0 rfl
  have q1:=(HE.out).cell 1 rfl
  have q2:=(HE.out).cell 2 rfl
  have q3:=(HE.out).cell 3 rfl
  have q4:=(HE.out).cell 4 rfl
  have q5:=(HE.out).cell 5 rfl
  have f0:=(HE.out).free 0
  have f1:=(HE.out).free 1
  have f2:=(HE.out).free 2
  have f3:=(HE.out).free 3
  have f4:=(HE.out).free 4
  have f5:=(HE.out).free 5
  dsimp only at q0 q1 q2 q3 q4 q5
  go_wp2_with fail
  refine bodyPost_ret (ev_results2 6 7 rfl _ _ w.heap.size (⟨6,0,(sn+2) % 18446744073709551616 / 2,false,0⟩:TE) (.bool true) rfl rfl (ev_set HE.out (⟨6,0,(sn+2) % 18446744073709551616 / 2,false,0⟩:TE))) rfl (hK _ _ ?_)
  refine ⟨rfl,_,_,HS.out.box (ev_upd (S:=[w.heap.size]) (Upd.refl _ _) (.inl (by simp)) _ _ _ _ _ _) HNB.out HNL.out,ev_upd HU.out (.inr (Nat.le_refl _)) _ _ _ _ _ _,HN.out⟩
 ·rw [if_neg hc]
  have b:(sh.clock == (sn+1) % 18446744073709551616)=false:=by simp [hc]
  have HC:=Lib.hid hc
  clear hc
  refine calls_all fun K hK=>?_
  go_enter Tryz.func56,Tryz.ntmps56
  go_upto_region 22 with (fail)
  refine wp_region_br (fun w'=>w'.cell? ⟨rb,22,none⟩=some (.int .u64 sn)∧w'.cell? ⟨wb,1,none⟩=some (.int .u64 sh.clock)) [0,1,2,3,4,5,6,7,8,9] (by kernel_rfl) (by kernel_rfl) ⟨c22,d1⟩ ?_
  repeat
   first
    | (refine wpB_skip rfl (by kernel_rfl) (by rfl) ?_)
    | ((refine wpB_take (v:=?_) rfl rfl (by kernel_rfl) (by rfl) ?_ ?_); rotate_left 1; (· ((intro w hSw; (try dsimp only at hSw); go_simp); try with_reducible rfl)))
   try simp only [Act.put,List.setIfInBounds_toArray,List.set_cons_zero,List.set_cons_succ]
  refine wpB_end (by kernel_rfl) (NoPanic.normal ?_)
  obtain ⟨W2,hdr⟩:∃ W,(W1).drew=W:=⟨_,rfl⟩
  have udr:Upd [] W1 W2:=by rw [← hdr]; exact (Upd.refl [] _).drew
  have HS2:=Lib.hid (HS.out.upd0 udr)
  have HE2:=Lib.hid (HE.out.upd udr (by simp))
  have HU2:=Lib.hid (HU.out.trans (udr.mono (by simp)))
  have UW2:=Lib.hid udr
  clear HS HE HU udr
  have HS:=HS2
  have HE:=HE2
  have HU:=HU2
  clear HS2 HE2 HU2
  rw [hdr]
  clear hdr
  clear c22 d1
  have c22:(W2).cell? ⟨rb,22,none⟩=some (.int .u64 sn):=HS.out.th.head.cell 22 rfl
  have c2:(W2).cell? ⟨rb,2,none⟩=some (.int .i64 at_):=HS.out.th.head.cell 2 rfl
  go_wp2_with fail
  clear c22 c2
  refine (HS.out.out (at_+1)).mono ?_
  rintro e W8 ⟨rfl,h8,u8⟩
  have HE8:=Lib.hid (HE.out.upd u8 (by have:=HNB.out; simp; omega))
  have HU8:=Lib.hid (HU.out.trans u8)
  have HS8:=Lib.hid h8
  clear HS HE HU HNL HN h8 u8
  have HS:=HS8
  have HE:=HE8
  have HU:=HU8
  have HNL:=Lib.hid (show ∀ g,(Value.slice none 0 0).ownBlock=some g∨(Value.slice none 0 0).ownBlock=some g → g≠w.heap.size from by simp [Value.ownBlock])
  have HN:=Lib.hid (show ∀ g,(Value.slice none 0 0).ownBlock=some g∨(Value.slice none 0 0).ownBlock=some g → (rv.ownBlock=some g∨wv.ownBlock=some g)∨w.heap.size≤g from by simp [Value.ownBlock])
  clear HS8 HE8 HU8
  go_wp2_with fail
  refine (x11event_any _ _ _ _).mono ?_
  rintro e W9 ⟨rfl,u9⟩
  simp only [TE.val]
  replace HE:=Lib.hid (HE.out.upd u9 (by simp))
  replace HS:=Lib.hid (HS.out.upd0 u9)
  replace HU:=Lib.hid (HU.out.trans (u9.mono (by simp)))
  clear u9
  have q0:=(HE.out).cell 0 rfl
  have q1:=(HE.out).cell 1 rfl
  have q2:=(HE.out).cell 2 rfl
  have q3:=(HE.out).cell 3 rfl
  have q4:=(HE.out).cell 4 rfl
  have q5:=(HE.out).cell 5 rfl
  have f0:=(HE.out).free 0
  have f1:=(HE.out).free 1
  have f2:=(HE.out).free 2
  have f3:=(HE.out).free 3
  have f4:=(HE.out).free 4
  have f5:=(HE.out).free 5
  dsimp only at q0 q1 q2 q3 q4 q5
  go_wp2_with fail
  refine bodyPost_ret (ev_results2 6 7 rfl _ _ w.heap.size (⟨6,0,(sn+2) % 18446744073709551616 / 2,false,0⟩:TE) (.bool true) rfl rfl (ev_set HE.out (⟨6,0,(sn+2) % 18446744073709551616 / 2,false,0⟩:TE))) rfl (hK _ _ ?_)
  refine ⟨rfl,_,_,HS.out.box (ev_upd (S:=[w.heap.size]) (Upd.refl _ _) (.inl (by simp)) _ _ _ _ _ _) HNB.out HNL.out,ev_upd HU.out (.inr (Nat.le_refl _)) _ _ _ _ _ _,HN.out⟩
end
end Go.Proofs.YtehopaabfoopeaaGreat
