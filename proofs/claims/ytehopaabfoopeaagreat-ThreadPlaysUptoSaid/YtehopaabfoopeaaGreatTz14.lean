/- The document's thread: a check of a validation. No conditions. The document's thread: a step of what is under way, but for the look. No conditions. -/
import Derived.Test.YtehopaabfoopeaaGreatTz13
set_option linter.unusedSimpArgs false
set_option linter.unusedVariables false
set_option maxRecDepth 100000
namespace Go.Proofs.YtehopaabfoopeaaGreat
open Go.RowKit
open Go.Maps
section
variable {w w':World} {rb wb qb:Nat} {r:RT} {sh:Sh} {rv wv:Value}
set_option maxHeartbeats 2000000 in
theorem xagain5 (h:RS w rb wb qb r sh rv wv) (hp:r.a.phase=5) (hl:r.a.reads.length≤1024) (hat:0≤r.a.at_∧r.a.at_<r.a.reads.length) (hw:∀ c ∈ r.a.reads,0≤c.1):Calls Tryz.prog 84 #[.pointer (some ⟨rb,0,none⟩),.pointer (some ⟨wb,0,none⟩)] w (RSOk w rb wb qb rv wv (againR r sh)):=by
 obtain ⟨k,hk⟩:∃ k:Nat,r.a.at_=k:=⟨r.a.at_.toNat,by omega⟩
 obtain ⟨⟨x,v⟩,hxv⟩:∃ c,r.a.reads[k]? = some c:=⟨_,List.getElem?_eq_getElem (by omega)⟩
 obtain ⟨x,rfl⟩:∃ n:Nat,x=n:=⟨x.toNat,by have:=hw _ (List.mem_of_getElem? hxv); simp only at this; omega⟩
 obtain ⟨W1,hW1⟩:∃ W,w.alloc (.cells #[.int .i64 0,.int .i64 0,.int .u64 0,.int .u64 0,.bool false,.int .i64 0] 86)=W:=⟨_,rfl⟩
 have u1:Upd [] w W1:=by rw [← hW1]; exact (Upd.refl [] _).alloc _
 have EB:Blk W1 w.heap.size (TE.cells ⟨0,0,0,false,0⟩) 86:=by rw [← hW1]; exact Blk.new w _ _
 have hlt1:=h.th.lt
 have hlt2:=h.wo.lt
 have hnes:=h.ne
 have hnew:=h.wo.ne
 have HNB:=Lib.hid (show rb≠w.heap.size∧wb≠w.heap.size∧qb≠w.heap.size from ⟨by omega,by omega,by omega⟩)
 have HNL:=Lib.hid (show ∀ g,rv.ownBlock=some g∨wv.ownBlock=some g → g≠w.heap.size from fun g hg=>by have:=(h.th.ap g hg).2; omega)
 have HN:=Lib.hid (show ∀ g,rv.ownBlock=some g∨wv.ownBlock=some g → (rv.ownBlock=some g∨wv.ownBlock=some g)∨w.heap.size≤g from fun g hg=>.inl hg)
 have HS:=Lib.hid (h.upd0 u1)
 have HE:=Lib.hid EB
 have HU:=Lib.hid (show Upd [rb,wb,qb] w W1 from u1.mono (by simp))
 have hne1:rb≠w.heap.size:=by omega
 have hne2:wb≠w.heap.size:=by omega
 have hne3:qb≠w.heap.size:=by omega
 have hne4:rb≠wb:=hnes.1
 have hne5:rb≠qb:=hnes.2
 clear EB u1 h hlt1 hlt2
 have hlen:=HS.out.wo.len
 obtain ⟨pr,cr,hrv,hcell⟩:=HS.out.th.rd
 obtain ⟨pb,po,rfl,m0,m1⟩:=hcell k _ _ hxv
 have HRV:=Lib.hid hrv
 clear hrv hcell hw
 have hr8:=HS.out.th.r8
 have hs8:=HS.out.th.s8
 obtain ⟨st,er,at_,rs,ins,sta,sv,fu,⟨sn,rd,wl,ph,th,ad,wo,fo,at2⟩⟩:=r
 obtain ⟨r0,r1,r2,r3,r4,r5,r6,r7,rfl⟩:=list8 hr8
 obtain ⟨s0,s1,s2,s3,s4,s5,s6,s7,rfl⟩:=list8 hs8
 have hB:Blk W1 rb [.int .i64 st,.int .i64 er,.int .i64 at_,.int .u64 r0,.int .u64 r1,.int .u64 r2,.int .u64 r3,.int .u64 r4,.int .u64 r5,.int .u64 r6,.int .u64 r7,.bool ins,.int .i64 sta,.int .u64 s0,.int .u64 s1,.int .u64 s2,.int .u64 s3,.int .u64 s4,.int .u64 s5,.int .u64 s6,.int .u64 s7,.int .i64 fu,.int .u64 sn,rv,wv,.int .i64 ph,.int .i64 th,.int .u64 ad,.int .u64 wo,.int .u64 fo,.int .i64 at2] 58:=HS.out.th.head
 clear hr8 hs8
 dsimp only at hp hl hk hxv hat HRV
 subst hp
 subst hk
 have c23:=hB.cell 23 rfl
 have c25:=hB.cell 25 rfl
 have c30:=hB.cell 30 rfl
 have c12:=hB.cell 12 rfl
 have g25:=hB.free 25
 have g30:=hB.free 30
 rw [HRV.out] at c23
 try dsimp only at c23
 obtain ⟨cap,hW⟩:=HS.out.wo.head
 have d0:=hW.cell 0 rfl
 clear hW hB
 have hul:IntKind.u64.wrap (sh.row.length:Int)=sh.row.length:=by rw [IntKind.wrap_u64]; omega
 have hkl:(k:Int)<(rd.length:Int):=hat.2
 have hA:againR ⟨st,er,at_,[r0,r1,r2,r3,r4,r5,r6,r7],ins,sta,[s0,s1,s2,s3,s4,s5,s6,s7],fu,⟨sn,rd,wl,5,th,ad,wo,fo,(k:Int)⟩⟩ sh=(if (x:Int)<sh.row.length∧wd sh.row x=v then
   (quiet,withR ⟨st,er,at_,[r0,r1,r2,r3,r4,r5,r6,r7],ins,sta,[s0,s1,s2,s3,s4,s5,s6,s7],fu,⟨sn,rd,wl,5,th,ad,wo,fo,(k:Int)⟩⟩ (if (k:Int)+1=rd.length then ⟨sn,rd,wl,6,th,ad,wo,fo,0⟩ else ⟨sn,rd,wl,5,th,ad,wo,fo,(k:Int)+1⟩),sh)
   else (telling 7 0 0,giveR ⟨st,er,at_,[r0,r1,r2,r3,r4,r5,r6,r7],ins,sta,[s0,s1,s2,s3,s4,s5,s6,s7],fu,⟨sn,rd,wl,5,th,ad,wo,fo,(k:Int)⟩⟩ sta,sh)):=by
  unfold againR
  dsimp only
  rw [if_neg (by decide),if_pos rfl,Int.toNat_natCast,hxv]
  rfl
 rw [hA]
 have HXV:=Lib.hid hxv
 clear hA hxv hat
 refine calls_all fun K hK=>?_
 go_enter Tryz.func84,Tryz.ntmps84
 go_upto_region 12 with (fail)
 refine wp_region_br (fun w'=>w'.cell? ⟨rb,23,none⟩=some (.slice (some ⟨pb,po,none⟩) rd.length cr)∧w'.cell? ⟨rb,30,none⟩=some (.int .i64 (k:Int))∧w'.cell? ⟨pb,po+k*2,none⟩=some (.int .u64 (x:Int))∧w'.cell? ⟨pb,po+k*2+1,none⟩=some (.int .u64 v)) [0,1,2,3,4,5,6,7,8,9,10,11] (by kernel_rfl) (by kernel_rfl) ⟨c23,c30,m0,m1⟩ ?_
 obtain ⟨W2,hdr⟩:∃ W,(W1).drew=W:=⟨_,rfl⟩
 have udr:Upd [] W1 W2:=by rw [← hdr]; exact (Upd.refl [] _).drew
 have HS2:=Lib.hid (HS.out.upd0 udr)
 have HE2:=Lib.hid (HE.out.upd udr (by simp))
 have HU2:=Lib.hid (HU.out.trans (udr.mono (by simp)))
 have UW2:=Lib.hid udr
 clear HS HE HU udr
 have HS:=HS2
 have HE:=HE2
 have HU:=HU2
 clear HS2 HE2 HU2
 rw [hdr]
 clear hdr
 replace c23:=UW2.out.cell (by simp) c23
 replace c30:=UW2.out.cell (by simp) c30
 replace c12:=UW2.out.cell (by simp) c12
 replace m0:=UW2.out.cell (by simp) m0
 replace m1:=UW2.out.cell (by simp) m1
 replace d0:=UW2.out.cell (by simp) d0
 repeat
  first
   | (refine wpB_skip rfl (by kernel_rfl) (by rfl) ?_)
   | ((refine wpB_take (v:=?_) rfl rfl (by kernel_rfl) (by rfl) ?_ ?_); rotate_left 1; (· ((intro w hSw; (try dsimp only at hSw); go_simp); try with_reducible rfl)))
  try simp only [Act.put,List.setIfInBounds_toArray,List.set_cons_zero,List.set_cons_succ]
 refine wpB_eff rfl (by kernel_rfl) (by rfl) (fun K2 hK2=>?_)
 go_simp
 have ua:∀ c,Upd [] W2 (W2.alloc c):=fun c=>(Upd.refl [] _).alloc _
 refine hK2.out _ _ ⟨(ua _).cell (by simp) c23,(ua _).cell (by simp) c30,(ua _).cell (by simp) m0,(ua _).cell (by simp) m1⟩ ?_
 clear hK2 K2
 repeat
  first
   | (refine wpB_skip rfl (by kernel_rfl) (by rfl) ?_)
   | ((refine wpB_take (v:=?_) rfl rfl (by kernel_rfl) (by rfl) ?_ ?_); rotate_left 1; (· ((intro w hSw; (try dsimp only at hSw); go_simp); try with_reducible rfl)))
  try simp only [Act.put,List.setIfInBounds_toArray,List.set_cons_zero,List.set_cons_succ]
 refine wpB_eff rfl (by kernel_rfl) (by rfl) (fun K2 hK2=>?_)
 go_simp
 refine hK2.out _ _ ⟨(ua _).cell (by simp) c23,(ua _).cell (by simp) c30,(ua _).cell (by simp) m0,(ua _).cell (by simp) m1⟩ ?_
 clear hK2 K2
 refine wpB_end (by kernel_rfl) (NoPanic.normal ?_)
 obtain ⟨W3,hW3⟩:∃ W,W2.alloc (.cells #[.int .u64 (x:Int),.int .u64 v] 71)=W:=⟨_,rfl⟩
 have u3:Upd [] W2 W3:=by rw [← hW3]; exact (Upd.refl [] _).alloc _
 have CB:Blk W3 W2.heap.size [.int .u64 (x:Int),.int .u64 v] 71:=by rw [← hW3]; exact Blk.new W2 _ _
 rw [hW3]
 replace c30:=u3.cell (by simp) c30
 replace c12:=u3.cell (by simp) c12
 replace c23:=u3.cell (by simp) c23
 replace d0:=u3.cell (by simp) d0
 have e0:=CB.cell 0 rfl
 have e1:=CB.cell 1 rfl
 have HE3:=Lib.hid (HE.out.upd u3 (by simp))
 have HU3:=Lib.hid (HU.out.trans (u3.mono (by simp)))
 have HS3:=Lib.hid (HS.out.upd0 u3)
 clear HS HE HU CB u3 m0 m1 ua hW3
 have HS:=HS3
 have HE:=HE3
 have HU:=HU3
 clear HS3 HE3 HU3
 generalize W2.heap.size=cb at e0 e1 ⊢
 have stale:∀ (_:¬ ((x:Int)<sh.row.length∧wd sh.row x=v)),True:=fun _=>trivial
 clear stale
 by_cases hx:(x:Int)<sh.row.length
 ·have b:decide ((sh.row.length:Int)≤(x:Int))=false:=decide_eq_false (by omega)
  have b2:decide (sh.row.length≤x)=false:=decide_eq_false (by omega)
  have dx:=HS.out.wo.cell (k:=x) (by omega)
  obtain ⟨u,hu⟩:∃ u,wd sh.row x=u:=⟨_,rfl⟩
  rw [hu] at dx hK
  by_cases huv:u=v
  ·rw [if_pos ⟨hx,huv⟩] at hK
   rw [huv] at dx
   clear hu huv
   go_upto_region 13 with (fail)
   refine wp_region_br (fun w'=>w'.cell? ⟨cb,0,none⟩=some (.int .u64 (x:Int))∧w'.cell? ⟨cb,1,none⟩=some (.int .u64 v)∧w'.cell? ⟨wb,0,none⟩=some (.slice (some ⟨qb,0,none⟩) sh.row.length cap)∧w'.cell? ⟨qb,x,none⟩=some (.int .u64 v)) [0,1,2,3,4,5,6,7,8,9,10,11,12,13,14,15,16,17,18,19,20,21] (by kernel_rfl) (by kernel_rfl) ⟨e0,e1,d0,dx⟩ ?_
   repeat
    first
     | (refine wpB_skip rfl (by kernel_rfl) (by rfl) ?_)
     | ((refine wpB_take (v:=?_) rfl rfl (by kernel_rfl) (by rfl) ?_ ?_); rotate_left 1; (· ((intro w hSw; (try dsimp only at hSw); go_simp); try with_reducible rfl)))
    try simp only [Act.put,List.setIfInBounds_toArray,List.set_cons_zero,List.set_cons_succ]
   refine wpB_end (by kernel_rfl) (NoPanic.normal ?_)
   obtain ⟨W4,hdr⟩:∃ W,(W3).drew=W:=⟨_,rfl⟩
   have udr:Upd [] W3 W4:=by rw [← hdr]; exact (Upd.refl [] _).drew
   have HS2:=Lib.hid (HS.out.upd0 udr)
   have HE2:=Lib.hid (HE.out.upd udr (by simp))
   have HU2:=Lib.hid (HU.out.trans (udr.mono (by simp)))
   have UW4:=Lib.hid udr
   clear HS HE HU udr
   have HS:=HS2
   have HE:=HE2
   have HU:=HU2
   clear HS2 HE2 HU2
   rw [hdr]
   clear hdr
   clear dx e0 e1
   have hB:Blk W4 rb [.int .i64 st,.int .i64 er,.int .i64 at_,.int .u64 r0,.int .u64 r1,.int .u64 r2,.int .u64 r3,.int .u64 r4,.int .u64 r5,.int .u64 r6,.int .u64 r7,.bool ins,.int .i64 sta,.int .u64 s0,.int .u64 s1,.int .u64 s2,.int .u64 s3,.int .u64 s4,.int .u64 s5,.int .u64 s6,.int .u64 s7,.int .i64 fu,.int .u64 sn,rv,wv,.int .i64 5,.int .i64 th,.int .u64 ad,.int .u64 wo,.int .u64 fo,.int .i64 (k:Int)] 58:=HS.out.th.head
   replace c23:=UW4.out.cell (by simp) c23
   have c25:=hB.cell 25 rfl
   have c30:=hB.cell 30 rfl
   have g25:=hB.free 25
   have g30:=hB.free 30
   clear hB
   have hw1:wrap64 ((k:Int)+1)=(k:Int)+1:=by unfold wrap64; omega
   by_cases hke:(k:Int)+1=rd.length
   ·rw [if_pos hke] at hK
    have be:(((k:Int)+1) == (rd.length:Int))=true:=by simp [hke]
    have HKE:=Lib.hid hke
    clear hke
    go_upto_region 17 with (fail)
    obtain ⟨W5,hW2⟩:∃ W,(W4.setCell ⟨rb,30,none⟩ (.int .i64 ((k:Int)+1)))=W:=⟨_,rfl⟩
    have hs2:=(HS.out.one (r':=⟨st,er,at_,[r0,r1,r2,r3,r4,r5,r6,r7],ins,sta,[s0,s1,s2,s3,s4,s5,s6,s7],fu,⟨sn,rd,wl,5,th,ad,wo,fo,(k:Int)+1⟩⟩) 30 (.int .i64 ((k:Int)+1)) rfl rfl rfl rfl rfl)
    rw [hW2] at hs2
    have uu:Upd [rb,wb,qb] W4 W5:=by
     rw [← hW2]
     repeat (first | refine Upd.drew ?_ | refine Upd.setCell ?_ (.inl (by simp)) _ | with_reducible exact Upd.refl _ _)
    have HE2:=Lib.hid (HE.out.upd uu (by have:=HNB.out; simp; omega))
    have HU2:=Lib.hid (HU.out.trans uu)
    have HS2:=Lib.hid hs2
    clear HS HE HU uu hs2
    have HS:=HS2
    have HE:=HE2
    have HU:=HU2
    clear HS2 HE2 HU2
    rw [hW2]
    clear hW2
    have c30:W5.cell? ⟨rb,30,none⟩=some (.int .i64 ((k:Int)+1)):=HS.out.th.head.cell 30 rfl
    have g30:=HS.out.th.head.free 30
    have c25:W5.cell? ⟨rb,25,none⟩=some (.int .i64 5):=HS.out.th.head.cell 25 rfl
    have g25:=HS.out.th.head.free 25
    have c23:=HS.out.th.head.cell 23 rfl
    rw [HRV.out] at c23
    try dsimp only at c23
    refine wp_region_br (fun w'=>w'.cell? ⟨rb,30,none⟩=some (.int .i64 ((k:Int)+1))∧w'.cell? ⟨rb,23,none⟩=some (.slice (some ⟨pb,po,none⟩) rd.length cr)) [0,1,2,3,4,5,6,7,8,9] (by kernel_rfl) (by kernel_rfl) ⟨c30,c23⟩ ?_
    repeat
     first
      | (refine wpB_skip rfl (by kernel_rfl) (by rfl) ?_)
      | ((refine wpB_take (v:=?_) rfl rfl (by kernel_rfl) (by rfl) ?_ ?_); rotate_left 1; (· ((intro w hSw; (try dsimp only at hSw); go_simp); try with_reducible rfl)))
     try simp only [Act.put,List.setIfInBounds_toArray,List.set_cons_zero,List.set_cons_succ]
    refine wpB_end (by kernel_rfl) (NoPanic.normal ?_)
    go_upto_region 20 with (fail)
    obtain ⟨W6,hW2⟩:∃ W,((W5.setCell ⟨rb,30,none⟩ (.int .i64 0)).setCell ⟨rb,25,none⟩ (.int .i64 6)).drew=W:=⟨_,rfl⟩
    have hs2:=((HS.out.one (r':=⟨st,er,at_,[r0,r1,r2,r3,r4,r5,r6,r7],ins,sta,[s0,s1,s2,s3,s4,s5,s6,s7],fu,⟨sn,rd,wl,5,th,ad,wo,fo,0⟩⟩) 30 (.int .i64 0) rfl rfl rfl rfl rfl).one (r':=⟨st,er,at_,[r0,r1,r2,r3,r4,r5,r6,r7],ins,sta,[s0,s1,s2,s3,s4,s5,s6,s7],fu,⟨sn,rd,wl,6,th,ad,wo,fo,0⟩⟩) 25 (.int .i64 6) rfl rfl rfl rfl rfl).upd0 ((Upd.refl [] _).drew)
    rw [hW2] at hs2
    have uu:Upd [rb,wb,qb] W5 W6:=by
     rw [← hW2]
     repeat (first | refine Upd.drew ?_ | refine Upd.setCell ?_ (.inl (by simp)) _ | with_reducible exact Upd.refl _ _)
    have HE2:=Lib.hid (HE.out.upd uu (by have:=HNB.out; simp; omega))
    have HU2:=Lib.hid (HU.out.trans uu)
    have HS2:=Lib.hid hs2
    clear HS HE HU uu hs2
    have HS:=HS2
    have HE:=HE2
    have HU:=HU2
    clear HS2 HE2 HU2
    rw [hW2]
    clear hW2
    have q0:=(HE.out).cell 0 rfl
    have q1:=(HE.out).cell 1 rfl
    have q2:=(HE.out).cell 2 rfl
    have q3:=(HE.out).cell 3 rfl
    have q4:=(HE.out).cell 4 rfl
    have q5:=(HE.out).cell 5 rfl
    have f0:=(HE.out).free 0
    have f1:=(HE.out).free 1
    have f2:=(HE.out).free 2
    have f3:=(HE.out).free 3
    have f4:=(HE.out).free 4
    have f5:=(HE.out).free 5
    dsimp only at q0 q1 q2 q3 q4 q5
    go_wp2_with fail
    refine bodyPost_ret (ev_results2 4 5 rfl _ _ w.heap.size (⟨0,0,0,false,0⟩:TE) (.bool false) rfl rfl (ev_set HE.out (⟨0,0,0,false,0⟩:TE))) rfl (hK _ _ ?_)
    refine ⟨rfl,_,_,HS.out.box (ev_upd (S:=[w.heap.size]) (Upd.refl _ _) (.inl (by simp)) _ _ _ _ _ _) HNB.out HNL.out,ev_upd HU.out (.inr (Nat.le_refl _)) _ _ _ _ _ _,HN.out⟩
   ·rw [if_neg hke] at hK
    have be:(((k:Int)+1) == (rd.length:Int))=false:=by simp [hke]
    have HKE:=Lib.hid hke
    clear hke
    go_upto_region 17 with (fail)
    obtain ⟨W5,hW2⟩:∃ W,(W4.setCell ⟨rb,30,none⟩ (.int .i64 ((k:Int)+1)))=W:=⟨_,rfl⟩
    have hs2:=(HS.out.one (r':=⟨st,er,at_,[r0,r1,r2,r3,r4,r5,r6,r7],ins,sta,[s0,s1,s2,s3,s4,s5,s6,s7],fu,⟨sn,rd,wl,5,th,ad,wo,fo,(k:Int)+1⟩⟩) 30 (.int .i64 ((k:Int)+1)) rfl rfl rfl rfl rfl)
    rw [hW2] at hs2
    have uu:Upd [rb,wb,qb] W4 W5:=by
     rw [← hW2]
     repeat (first | refine Upd.drew ?_ | refine Upd.setCell ?_ (.inl (by simp)) _ | with_reducible exact Upd.refl _ _)
    have HE2:=Lib.hid (HE.out.upd uu (by have:=HNB.out; simp; omega))
    have HU2:=Lib.hid (HU.out.trans uu)
    have HS2:=Lib.hid hs2
    clear HS HE HU uu hs2
    have HS:=HS2
    have HE:=HE2
    have HU:=HU2
    clear HS2 HE2 HU2
    rw [hW2]
    clear hW2
    have c30:W5.cell? ⟨rb,30,none⟩=some (.int .i64 ((k:Int)+1)):=HS.out.th.head.cell 30 rfl
    have g30:=HS.out.th.head.free 30
    have c25:W5.cell? ⟨rb,25,none⟩=some (.int .i64 5):=HS.out.th.head.cell 25 rfl
    have g25:=HS.out.th.head.free 25
    have c23:=HS.out.th.head.cell 23 rfl
    rw [HRV.out] at c23
    try dsimp only at c23
    refine wp_region_br (fun w'=>w'.cell? ⟨rb,30,none⟩=some (.int .i64 ((k:Int)+1))∧w'.cell? ⟨rb,23,none⟩=some (.slice (some ⟨pb,po,none⟩) rd.length cr)) [0,1,2,3,4,5,6,7,8,9] (by kernel_rfl) (by kernel_rfl) ⟨c30,c23⟩ ?_
    repeat
     first
      | (refine wpB_skip rfl (by kernel_rfl) (by rfl) ?_)
      | ((refine wpB_take (v:=?_) rfl rfl (by kernel_rfl) (by rfl) ?_ ?_); rotate_left 1; (· ((intro w hSw; (try dsimp only at hSw); go_simp); try with_reducible rfl)))
     try simp only [Act.put,List.setIfInBounds_toArray,List.set_cons_zero,List.set_cons_succ]
    refine wpB_end (by kernel_rfl) (NoPanic.normal ?_)
    obtain ⟨W6,hdr⟩:∃ W,(W5).drew=W:=⟨_,rfl⟩
    have udr:Upd [] W5 W6:=by rw [← hdr]; exact (Upd.refl [] _).drew
    have HS2:=Lib.hid (HS.out.upd0 udr)
    have HE2:=Lib.hid (HE.out.upd udr (by simp))
    have HU2:=Lib.hid (HU.out.trans (udr.mono (by simp)))
    have UW6:=Lib.hid udr
    clear HS HE HU udr
    have HS:=HS2
    have HE:=HE2
    have HU:=HU2
    clear HS2 HE2 HU2
    rw [hdr]
    clear hdr
    go_upto_region 20 with (fail)
    have q0:=(HE.out).cell 0 rfl
    have q1:=(HE.out).cell 1 rfl
    have q2:=(HE.out).cell 2 rfl
    have q3:=(HE.out).cell 3 rfl
    have q4:=(HE.out).cell 4 rfl
    have q5:=(HE.out).cell 5 rfl
    have f0:=(HE.out).free 0
    have f1:=(HE.out).free 1
    have f2:=(HE.out).free 2
    have f3:=(HE.out).free 3
    have f4:=(HE.out).free 4
    have f5:=(HE.out).free 5
    dsimp only at q0 q1 q2 q3 q4 q5
    go_wp2_with fail
    refine bodyPost_ret (ev_results2 4 5 rfl _ _ w.heap.size (⟨0,0,0,false,0⟩:TE) (.bool false) rfl rfl (ev_set HE.out (⟨0,0,0,false,0⟩:TE))) rfl (hK _ _ ?_)
    refine ⟨rfl,_,_,HS.out.box (ev_upd (S:=[w.heap.size]) (Upd.refl _ _) (.inl (by simp)) _ _ _ _ _ _) HNB.out HNL.out,ev_upd HU.out (.inr (Nat.le_refl _)) _ _ _ _ _ _,HN.out⟩
  ·rw [if_neg (fun h=>huv h.2)] at hK
   have bn:(u != v)=true:=by simp [huv]
   clear hu
   go_upto_region 13 with (fail)
   refine wp_region_br (fun w'=>w'.cell? ⟨cb,0,none⟩=some (.int .u64 (x:Int))∧w'.cell? ⟨cb,1,none⟩=some (.int .u64 v)∧w'.cell? ⟨wb,0,none⟩=some (.slice (some ⟨qb,0,none⟩) sh.row.length cap)∧w'.cell? ⟨qb,x,none⟩=some (.int .u64 u)) [0,1,2,3,4,5,6,7,8,9,10,11,12,13,14,15,16,17,18,19,20,21] (by kernel_rfl) (by kernel_rfl) ⟨e0,e1,d0,dx⟩ ?_
   repeat
    first
     | (refine wpB_skip rfl (by kernel_rfl) (by rfl) ?_)
     | ((refine wpB_take (v:=?_) rfl rfl (by kernel_rfl) (by rfl) ?_ ?_); rotate_left 1; (· ((intro w hSw; (try dsimp only at hSw); go_simp); try with_reducible rfl)))
    try simp only [Act.put,List.setIfInBounds_toArray,List.set_cons_zero,List.set_cons_succ]
   refine wpB_end (by kernel_rfl) (NoPanic.normal ?_)
   obtain ⟨W4,hdr⟩:∃ W,(W3).drew=W:=⟨_,rfl⟩
   have udr:Upd [] W3 W4:=by rw [← hdr]; exact (Upd.refl [] _).drew
   have HS2:=Lib.hid (HS.out.upd0 udr)
   have HE2:=Lib.hid (HE.out.upd udr (by simp))
   have HU2:=Lib.hid (HU.out.trans (udr.mono (by simp)))
   have UW4:=Lib.hid udr
   clear HS HE HU udr
   have HS:=HS2
   have HE:=HE2
   have HU:=HU2
   clear HS2 HE2 HU2
   rw [hdr]
   clear hdr
   replace c12:=UW4.out.cell (by simp) c12
   go_wp2_with fail
   refine (HS.out.give sta).mono ?_
   rintro e W8 ⟨rfl,h8,u8⟩
   have HE8:=Lib.hid (HE.out.upd u8 (by have:=HNB.out; simp; omega))
   have HU8:=Lib.hid (HU.out.trans u8)
   have HS8:=Lib.hid h8
   clear HS HE HU HNL HN h8 u8
   have HS:=HS8
   have HE:=HE8
   have HU:=HU8
   have HNL:=Lib.hid (show ∀ g,(Value.slice none 0 0).ownBlock=some g∨(Value.slice none 0 0).ownBlock=some g → g≠w.heap.size from by simp [Value.ownBlock])
   have HN:=Lib.hid (show ∀ g,(Value.slice none 0 0).ownBlock=some g∨(Value.slice none 0 0).ownBlock=some g → (rv.ownBlock=some g∨wv.ownBlock=some g)∨w.heap.size≤g from by simp [Value.ownBlock])
   clear HS8 HE8 HU8
   go_wp2_with fail
   refine (x11event_any _ _ _ _).mono ?_
   rintro e W9 ⟨rfl,u9⟩
   simp only [TE.val]
   replace HE:=Lib.hid (HE.out.upd u9 (by simp))
   replace HS:=Lib.hid (HS.out.upd0 u9)
   replace HU:=Lib.hid (HU.out.trans (u9.mono (by simp)))
   clear u9
   have q0:=(HE.out).cell 0 rfl
   have q1:=(HE.out).cell 1 rfl
   have q2:=(HE.out).cell 2 rfl
   have q3:=(HE.out).cell 3 rfl
   have q4:=(HE.out).cell 4 rfl
   have q5:=(HE.out).cell 5 rfl
   have f0:=(HE.out).free 0
   have f1:=(HE.out).free 1
   have f2:=(HE.out).free 2
   have f3:=(HE.out).free 3
   have f4:=(HE.out).free 4
   have f5:=(HE.out).free 5
   dsimp only at q0 q1 q2 q3 q4 q5
   go_wp2_with fail
   refine bodyPost_ret (ev_results2 4 5 rfl _ _ w.heap.size (⟨7,0,0,false,0⟩:TE) (.bool true) rfl rfl (ev_set HE.out (⟨7,0,0,false,0⟩:TE))) rfl (hK _ _ ?_)
   refine ⟨rfl,_,_,HS.out.box (ev_upd (S:=[w.heap.size]) (Upd.refl _ _) (.inl (by simp)) _ _ _ _ _ _) HNB.out HNL.out,ev_upd HU.out (.inr (Nat.le_refl _)) _ _ _ _ _ _,HN.out⟩
 ·rw [if_neg (fun h=>hx h.1)] at hK
  have b:decide ((sh.row.length:Int)≤(x:Int))=true:=decide_eq_true (by omega)
  have b2:decide (sh.row.length≤x)=true:=decide_eq_true (by omega)
  go_upto_region 13 with (fail)
  refine wp_region_br (fun w'=>w'.cell? ⟨cb,0,none⟩=some (.int .u64 (x:Int))∧w'.cell? ⟨cb,1,none⟩=some (.int .u64 v)∧w'.cell? ⟨wb,0,none⟩=some (.slice (some ⟨qb,0,none⟩) sh.row.length cap)) [0,1,2,3,4,5,6,7,8,9,10,11,12,13,14,15,16,17,18,19,20,21] (by kernel_rfl) (by kernel_rfl) ⟨e0,e1,d0⟩ ?_
  repeat
   first
    | (refine wpB_skip rfl (by kernel_rfl) (by rfl) ?_)
    | ((refine wpB_take (v:=?_) rfl rfl (by kernel_rfl) (by rfl) ?_ ?_); rotate_left 1; (· ((intro w hSw; (try dsimp only at hSw); go_simp); try with_reducible rfl)))
   try simp only [Act.put,List.setIfInBounds_toArray,List.set_cons_zero,List.set_cons_succ]
  refine wpB_end (by kernel_rfl) (NoPanic.normal ?_)
  obtain ⟨W4,hdr⟩:∃ W,(W3).drew=W:=⟨_,rfl⟩
  have udr:Upd [] W3 W4:=by rw [← hdr]; exact (Upd.refl [] _).drew
  have HS2:=Lib.hid (HS.out.upd0 udr)
  have HE2:=Lib.hid (HE.out.upd udr (by simp))
  have HU2:=Lib.hid (HU.out.trans (udr.mono (by simp)))
  have UW4:=Lib.hid udr
  clear HS HE HU udr
  have HS:=HS2
  have HE:=HE2
  have HU:=HU2
  clear HS2 HE2 HU2
  rw [hdr]
  clear hdr
  replace c12:=UW4.out.cell (by simp) c12
  go_wp2_with fail
  refine (HS.out.give sta).mono ?_
  rintro e W8 ⟨rfl,h8,u8⟩
  have HE8:=Lib.hid (HE.out.upd u8 (by have:=HNB.out; simp; omega))
  have HU8:=Lib.hid (HU.out.trans u8)
  have HS8:=Lib.hid h8
  clear HS HE HU HNL HN h8 u8
  have HS:=HS8
  have HE:=HE8
  have HU:=HU8
  have HNL:=Lib.hid (show ∀ g,(Value.slice none 0 0).ownBlock=some g∨(Value.slice none 0 0).ownBlock=some g → g≠w.heap.size from by simp [Value.ownBlock])
  have HN:=Lib.hid (show ∀ g,(Value.slice none 0 0).ownBlock=some g∨(Value.slice none 0 0).ownBlock=some g → (rv.ownBlock=some g∨wv.ownBlock=some g)∨w.heap.size≤g from by simp [Value.ownBlock])
  clear HS8 HE8 HU8
  go_wp2_with fail
  refine (x11event_any _ _ _ _).mono ?_
  rintro e W9 ⟨rfl,u9⟩
  simp only [TE.val]
  replace HE:=Lib.hid (HE.out.upd u9 (by simp))
  replace HS:=Lib.hid (HS.out.upd0 u9)
  replace HU:=Lib.hid (HU.out.trans (u9.mono (by simp)))
  clear u9
  have q0:=(HE.out).cell 0 rfl
  have q1:=(HE.out).cell 1 rfl
  have q2:=(HE.out).cell 2 rfl
  have q3:=(HE.out).cell 3 rfl
  have q4:=(HE.out).cell 4 rfl
  have q5:=(HE.out).cell 5 rfl
  have f0:=(HE.out).free 0
  have f1:=(HE.out).free 1
  have f2:=(HE.out).free 2
  have f3:=(HE.out).free 3
  have f4:=(HE.out).free 4
  have f5:=(HE.out).free 5
  dsimp only at q0 q1 q2 q3 q4 q5
  go_wp2_with fail
  refine bodyPost_ret (ev_results2 4 5 rfl _ _ w.heap.size (⟨7,0,0,false,0⟩:TE) (.bool true) rfl rfl (ev_set HE.out (⟨7,0,0,false,0⟩:TE))) rfl (hK _ _ ?_)
  refine ⟨rfl,_,_,HS.out.box (ev_upd (S:=[w.heap.size]) (Upd.refl _ _) (.inl (by simp)) _ _ _ _ _ _) HNB.out HNL.out,ev_upd HU.out (.inr (Nat.le_refl _)) _ _ _ _ _ _,HN.out⟩
end
end Go.Proofs.YtehopaabfoopeaaGreat
set_option linter.unusedSimpArgs false
set_option linter.unusedVariables false
set_option maxRecDepth 100000
namespace Go.Proofs.YtehopaabfoopeaaGreat
open Go.RowKit
open Go.Maps
def storeR (r:RT) (sh:Sh):Told × RT × Sh:=
 match r.a.writes[r.a.at_.toNat]? with
 | none=>(quiet,r,sh)
 | some c=>(quiet,withR r (if r.a.at_+1=r.a.writes.length then { r.a with at_:=0,phase:=9 } else { r.a with at_:=r.a.at_+1 }),{ sh with row:=storeW sh.row c.1 c.2 })
def freeR (r:RT) (sh:Sh):Told × RT × Sh:=
 (telling 6 0 ((r.a.snap+2) % 18446744073709551616 / 2),outR r (r.at_+1),if sh.clock=(r.a.snap+1) % 18446744073709551616 then { sh with clock:=(r.a.snap+2) % 18446744073709551616 } else sh)
section
variable {w w':World} {rb wb qb:Nat} {r:RT} {sh:Sh} {rv wv:Value} {po:Option Addr} {cap:Nat} {p:List Ins}
theorem r25 (h:RS w rb wb qb r sh rv wv):w.cell? ⟨rb,25,none⟩=some (.int .i64 r.a.phase):=by
 have hr8:=h.th.r8
 have hs8:=h.th.s8
 obtain ⟨st,er,at_,rs,ins,sta,sv,fu,⟨sn,rd,wl,ph,th,ad,wo,fo,at2⟩⟩:=r
 obtain ⟨r0,r1,r2,r3,r4,r5,r6,r7,rfl⟩:=list8 hr8
 obtain ⟨s0,s1,s2,s3,s4,s5,s6,s7,rfl⟩:=list8 hs8
 exact h.th.head.cell 25 rfl
set_option maxHeartbeats 2000000 in
theorem xunder_pass (h:RS w rb wb qb r sh rv wv) {R:Told × RT × Sh} (pv:Value)
  (hc:(r.a.phase=2∧∀ W1,Upd [] w W1 → Calls Tryz.prog 82 #[.pointer (some ⟨rb,0,none⟩),.pointer (some ⟨wb,0,none⟩)] W1 (RSOk W1 rb wb qb rv wv R))
   ∨ (r.a.phase=3∧∀ W1,Upd [] w W1 → Calls Tryz.prog 83 #[pv,.pointer (some ⟨rb,0,none⟩),.pointer (some ⟨wb,0,none⟩)] W1 (RSOk W1 rb wb qb rv wv R))
   ∨ ((r.a.phase=4∨r.a.phase=5∨r.a.phase=6)∧∀ W1,Upd [] w W1 → Calls Tryz.prog 84 #[.pointer (some ⟨rb,0,none⟩),.pointer (some ⟨wb,0,none⟩)] W1 (RSOk W1 rb wb qb rv wv R))
   ∨ (r.a.phase=7∧∀ W1,Upd [] w W1 → Calls Tryz.prog 85 #[.pointer (some ⟨rb,0,none⟩),.pointer (some ⟨wb,0,none⟩)] W1 (RSOk W1 rb wb qb rv wv R))) :
  Calls Tryz.prog 56 #[pv,.pointer (some ⟨rb,0,none⟩),.pointer (some ⟨wb,0,none⟩)] w (RSOk w rb wb qb rv wv R):=by
 have c25:∀ W1,Upd [] w W1 → W1.cell? ⟨rb,25,none⟩=some (.int .i64 r.a.phase):=fun W1 u=>u.cell (by simp) (r25 h)
 have HU0:Hid (Upd [] w (w.alloc (.cells #[.int .i64 0,.int .i64 0,.int .u64 0,.int .u64 0,.bool false,.int .i64 0] 86))):=Lib.hid ((Upd.refl [] _).alloc _)
 obtain ⟨W1,hW1⟩:∃ W,w.alloc (.cells #[.int .i64 0,.int .i64 0,.int .u64 0,.int .u64 0,.bool false,.int .i64 0] 86)=W:=⟨_,rfl⟩
 have u1:Upd [] w W1:=by rw [← hW1]; exact (Upd.refl [] _).alloc _
 have EB:Blk W1 w.heap.size (TE.cells ⟨0,0,0,false,0⟩) 86:=by rw [← hW1]; exact Blk.new w _ _
 have hlt1:=h.th.lt
 have hlt2:=h.wo.lt
 have hnes:=h.ne
 have hnew:=h.wo.ne
 have HNB:=Lib.hid (show rb≠w.heap.size∧wb≠w.heap.size∧qb≠w.heap.size from ⟨by omega,by omega,by omega⟩)
 have HNL:=Lib.hid (show ∀ g,rv.ownBlock=some g∨wv.ownBlock=some g → g≠w.heap.size from fun g hg=>by have:=(h.th.ap g hg).2; omega)
 have HN:=Lib.hid (show ∀ g,rv.ownBlock=some g∨wv.ownBlock=some g → (rv.ownBlock=some g∨wv.ownBlock=some g)∨w.heap.size≤g from fun g hg=>.inl hg)
 have HS:=Lib.hid (h.upd0 u1)
 have HE:=Lib.hid EB
 have HU:=Lib.hid (show Upd [rb,wb,qb] w W1 from u1.mono (by simp))
 have hne1:rb≠w.heap.size:=by omega
 have hne2:wb≠w.heap.size:=by omega
 have hne3:qb≠w.heap.size:=by omega
 have hne4:rb≠wb:=hnes.1
 have hne5:rb≠qb:=hnes.2
 clear EB u1 h hlt1 hlt2
 rw [hW1] at HU0
 replace c25:=c25 W1 HU0.out
 rcases hc with ⟨hp,hc⟩ | ⟨hp,hc⟩ | ⟨hp,hc⟩ | ⟨hp,hc⟩
 ·have HC:=Lib.hid (hc W1 HU0.out)
  rw [hp] at c25
  clear hc hp HU0
  refine calls_all fun K hK=>?_
  go_enter Tryz.func56,Tryz.ntmps56
  go_wp2_with fail
  clear c25 hW1
  refine HC.out.mono ?_
  rintro e W8 ⟨rfl,rv8,wv8,h8,u8,hn8⟩
  obtain ⟨⟨⟨ek,ea,ew,eo,ee⟩,tl⟩,r9,sh9⟩:=R
  have hs8:=HU.out.size
  simp only [TE.val]
  have HE8:=Lib.hid (HE.out.upd u8 (by have:=HNB.out; simp; omega))
  have HNL8:=Lib.hid (show ∀ g,rv8.ownBlock=some g∨wv8.ownBlock=some g → g≠w.heap.size from fun g hg=>by
   rcases hn8 g hg with k | k
   ·exact HNL.out g k
   ·have:=HE.out.lt; omega)
  have HN8:=Lib.hid (show ∀ g,rv8.ownBlock=some g∨wv8.ownBlock=some g → (rv.ownBlock=some g∨wv.ownBlock=some g)∨w.heap.size≤g from fun g hg=>by
   rcases hn8 g hg with k | k
   ·exact HN.out g k
   ·exact .inr (by omega))
  have HS8:=Lib.hid h8
  have HU8:=Lib.hid (HU.out.trans u8)
  clear HS HE HU HNL HN h8 u8 hn8 HC
  have HS:=HS8
  have HE:=HE8
  have HU:=HU8
  have HNL:=HNL8
  have HN:=HN8
  dsimp only at HS
  have q0:=(HE.out).cell 0 rfl
  have q1:=(HE.out).cell 1 rfl
  have q2:=(HE.out).cell 2 rfl
  have q3:=(HE.out).cell 3 rfl
  have q4:=(HE.out).cell 4 rfl
  have q5:=(HE.out).cell 5 rfl
  have f0:=(HE.out).free 0
  have f1:=(HE.out).free 1
  have f2:=(HE.out).free 2
  have f3:=(HE.out).free 3
  have f4:=(HE.out).free 4
  have f5:=(HE.out).free 5
  dsimp only at q0 q1 q2 q3 q4 q5
  go_wp2_with fail
  refine bodyPost_ret (ev_results2 6 7 rfl _ _ w.heap.size (⟨ek,ea,ew,eo,ee⟩:TE) (.bool tl) rfl rfl (ev_set HE.out (⟨ek,ea,ew,eo,ee⟩:TE))) rfl (hK _ _ ?_)
  refine ⟨rfl,_,_,HS.out.box (ev_upd (S:=[w.heap.size]) (Upd.refl _ _) (.inl (by simp)) _ _ _ _ _ _) HNB.out HNL.out,ev_upd HU.out (.inr (Nat.le_refl _)) _ _ _ _ _ _,HN.out⟩
 ·have HC:=Lib.hid (hc W1 HU0.out)
  rw [hp] at c25
  clear hc hp HU0
  refine calls_all fun K hK=>?_
  go_enter Tryz.func56,Tryz.ntmps56
  go_wp2_with fail
  clear c25 hW1
  refine HC.out.mono ?_
  rintro e W8 ⟨rfl,rv8,wv8,h8,u8,hn8⟩
  obtain ⟨⟨⟨ek,ea,ew,eo,ee⟩,tl⟩,r9,sh9⟩:=R
  have hs8:=HU.out.size
  simp only [TE.val]
  have HE8:=Lib.hid (HE.out.upd u8 (by have:=HNB.out; simp; omega))
  have HNL8:=Lib.hid (show ∀ g,rv8.ownBlock=some g∨wv8.ownBlock=some g → g≠w.heap.size from fun g hg=>by
   rcases hn8 g hg with k | k
   ·exact HNL.out g k
   ·have:=HE.out.lt; omega)
  have HN8:=Lib.hid (show ∀ g,rv8.ownBlock=some g∨wv8.ownBlock=some g → (rv.ownBlock=some g∨wv.ownBlock=some g)∨w.heap.size≤g from fun g hg=>by
   rcases hn8 g hg with k | k
   ·exact HN.out g k
   ·exact .inr (by omega))
  have HS8:=Lib.hid h8
  have HU8:=Lib.hid (HU.out.trans u8)
  clear HS HE HU HNL HN h8 u8 hn8 HC
  have HS:=HS8
  have HE:=HE8
  have HU:=HU8
  have HNL:=HNL8
  have HN:=HN8
  dsimp only at HS
  have q0:=(HE.out).cell 0 rfl
  have q1:=(HE.out).cell 1 rfl
  have q2:=(HE.out).cell 2 rfl
  have q3:=(HE.out).cell 3 rfl
  have q4:=(HE.out).cell 4 rfl
  have q5:=(HE.out).cell 5 rfl
  have f0:=(HE.out).free 0
  have f1:=(HE.out).free 1
  have f2:=(HE.out).free 2
  have f3:=(HE.out).free 3
  have f4:=(HE.out).free 4
  have f5:=(HE.out).free 5
  dsimp only at q0 q1 q2 q3 q4 q5
  go_wp2_with fail
  refine bodyPost_ret (ev_results2 6 7 rfl _ _ w.heap.size (⟨ek,ea,ew,eo,ee⟩:TE) (.bool tl) rfl rfl (ev_set HE.out (⟨ek,ea,ew,eo,ee⟩:TE))) rfl (hK _ _ ?_)
  refine ⟨rfl,_,_,HS.out.box (ev_upd (S:=[w.heap.size]) (Upd.refl _ _) (.inl (by simp)) _ _ _ _ _ _) HNB.out HNL.out,ev_upd HU.out (.inr (Nat.le_refl _)) _ _ _ _ _ _,HN.out⟩
 ·have HC:=Lib.hid (hc W1 HU0.out)
  clear hc HU0
  rcases hp with hp | hp | hp
  all_goals
   rw [hp] at c25
   clear hp
  ·refine calls_all fun K hK=>?_
   go_enter Tryz.func56,Tryz.ntmps56
   go_wp2_with fail
   clear c25 hW1
   refine HC.out.mono ?_
   rintro e W8 ⟨rfl,rv8,wv8,h8,u8,hn8⟩
   obtain ⟨⟨⟨ek,ea,ew,eo,ee⟩,tl⟩,r9,sh9⟩:=R
   have hs8:=HU.out.size
   simp only [TE.val]
   have HE8:=Lib.hid (HE.out.upd u8 (by have:=HNB.out; simp; omega))
   have HNL8:=Lib.hid (show ∀ g,rv8.ownBlock=some g∨wv8.ownBlock=some g → g≠w.heap.size from fun g hg=>by
    rcases hn8 g hg with k | k
    ·exact HNL.out g k
    ·have:=HE.out.lt; omega)
   have HN8:=Lib.hid (show ∀ g,rv8.ownBlock=some g∨wv8.ownBlock=some g → (rv.ownBlock=some g∨wv.ownBlock=some g)∨w.heap.size≤g from fun g hg=>by
    rcases hn8 g hg with k | k
    ·exact HN.out g k
    ·exact .inr (by omega))
   have HS8:=Lib.hid h8
   have HU8:=Lib.hid (HU.out.trans u8)
   clear HS HE HU HNL HN h8 u8 hn8 HC
   have HS:=HS8
   have HE:=HE8
   have HU:=HU8
   have HNL:=HNL8
   have HN:=HN8
   dsimp only at HS
   have q0:=(HE.out).cell 0 rfl
   have q1:=(HE.out).cell 1 rfl
   have q2:=(HE.out).cell 2 rfl
   have q3:=(HE.out).cell 3 rfl
   have q4:=(HE.out).cell 4 rfl
   have q5:=(HE.out).cell 5 rfl
   have f0:=(HE.out).free 0
   have f1:=(HE.out).free 1
   have f2:=(HE.out).free 2
   have f3:=(HE.out).free 3
   have f4:=(HE.out).free 4
   have f5:=(HE.out).free 5
   dsimp only at q0 q1 q2 q3 q4 q5
   go_wp2_with fail
   refine bodyPost_ret (ev_results2 6 7 rfl _ _ w.heap.size (⟨ek,ea,ew,eo,ee⟩:TE) (.bool tl) rfl rfl (ev_set HE.out (⟨ek,ea,ew,eo,ee⟩:TE))) rfl (hK _ _ ?_)
   refine ⟨rfl,_,_,HS.out.box (ev_upd (S:=[w.heap.size]) (Upd.refl _ _) (.inl (by simp)) _ _ _ _ _ _) HNB.out HNL.out,ev_upd HU.out (.inr (Nat.le_refl _)) _ _ _ _ _ _,HN.out⟩
  ·refine calls_all fun K hK=>?_
   go_enter Tryz.func56,Tryz.ntmps56
   go_wp2_with fail
   clear c25 hW1
   refine HC.out.mono ?_
   rintro e W8 ⟨rfl,rv8,wv8,h8,u8,hn8⟩
   obtain ⟨⟨⟨ek,ea,ew,eo,ee⟩,tl⟩,r9,sh9⟩:=R
   have hs8:=HU.out.size
   simp only [TE.val]
   have HE8:=Lib.hid (HE.out.upd u8 (by have:=HNB.out; simp; omega))
   have HNL8:=Lib.hid (show ∀ g,rv8.ownBlock=some g∨wv8.ownBlock=some g → g≠w.heap.size from fun g hg=>by
    rcases hn8 g hg with k | k
    ·exact HNL.out g k
    ·have:=HE.out.lt; omega)
   have HN8:=Lib.hid (show ∀ g,rv8.ownBlock=some g∨wv8.ownBlock=some g → (rv.ownBlock=some g∨wv.ownBlock=some g)∨w.heap.size≤g from fun g hg=>by
    rcases hn8 g hg with k | k
    ·exact HN.out g k
    ·exact .inr (by omega))
   have HS8:=Lib.hid h8
   have HU8:=Lib.hid (HU.out.trans u8)
   clear HS HE HU HNL HN h8 u8 hn8 HC
   have HS:=HS8
   have HE:=HE8
   have HU:=HU8
   have HNL:=HNL8
   have HN:=HN8
   dsimp only at HS
   have q0:=(HE.out).cell 0 rfl
   have q1:=(HE.out).cell 1 rfl
   have q2:=(HE.out).cell 2 rfl
   have q3:=(HE.out).cell 3 rfl
   have q4:=(HE.out).cell 4 rfl
   have q5:=(HE.out).cell 5 rfl
   have f0:=(HE.out).free 0
   have f1:=(HE.out).free 1
   have f2:=(HE.out).free 2
   have f3:=(HE.out).free 3
   have f4:=(HE.out).free 4
   have f5:=(HE.out).free 5
   dsimp only at q0 q1 q2 q3 q4 q5
   go_wp2_with fail
   refine bodyPost_ret (ev_results2 6 7 rfl _ _ w.heap.size (⟨ek,ea,ew,eo,ee⟩:TE) (.bool tl) rfl rfl (ev_set HE.out (⟨ek,ea,ew,eo,ee⟩:TE))) rfl (hK _ _ ?_)
   refine ⟨rfl,_,_,HS.out.box (ev_upd (S:=[w.heap.size]) (Upd.refl _ _) (.inl (by simp)) _ _ _ _ _ _) HNB.out HNL.out,ev_upd HU.out (.inr (Nat.le_refl _)) _ _ _ _ _ _,HN.out⟩
  ·refine calls_all fun K hK=>?_
   go_enter Tryz.func56,Tryz.ntmps56
   go_wp2_with fail
   clear c25 hW1
   refine HC.out.mono ?_
   rintro e W8 ⟨rfl,rv8,wv8,h8,u8,hn8⟩
   obtain ⟨⟨⟨ek,ea,ew,eo,ee⟩,tl⟩,r9,sh9⟩:=R
   have hs8:=HU.out.size
   simp only [TE.val]
   have HE8:=Lib.hid (HE.out.upd u8 (by have:=HNB.out; simp; omega))
   have HNL8:=Lib.hid (show ∀ g,rv8.ownBlock=some g∨wv8.ownBlock=some g → g≠w.heap.size from fun g hg=>by
    rcases hn8 g hg with k | k
    ·exact HNL.out g k
    ·have:=HE.out.lt; omega)
   have HN8:=Lib.hid (show ∀ g,rv8.ownBlock=some g∨wv8.ownBlock=some g → (rv.ownBlock=some g∨wv.ownBlock=some g)∨w.heap.size≤g from fun g hg=>by
    rcases hn8 g hg with k | k
    ·exact HN.out g k
    ·exact .inr (by omega))
   have HS8:=Lib.hid h8
   have HU8:=Lib.hid (HU.out.trans u8)
   clear HS HE HU HNL HN h8 u8 hn8 HC
   have HS:=HS8
   have HE:=HE8
   have HU:=HU8
   have HNL:=HNL8
   have HN:=HN8
   dsimp only at HS
   have q0:=(HE.out).cell 0 rfl
   have q1:=(HE.out).cell 1 rfl
   have q2:=(HE.out).cell 2 rfl
   have q3:=(HE.out).cell 3 rfl
   have q4:=(HE.out).cell 4 rfl
   have q5:=(HE.out).cell 5 rfl
   have f0:=(HE.out).free 0
   have f1:=(HE.out).free 1
   have f2:=(HE.out).free 2
   have f3:=(HE.out).free 3
   have f4:=(HE.out).free 4
   have f5:=(HE.out).free 5
   dsimp only at q0 q1 q2 q3 q4 q5
   go_wp2_with fail
   refine bodyPost_ret (ev_results2 6 7 rfl _ _ w.heap.size (⟨ek,ea,ew,eo,ee⟩:TE) (.bool tl) rfl rfl (ev_set HE.out (⟨ek,ea,ew,eo,ee⟩:TE))) rfl (hK _ _ ?_)
   refine ⟨rfl,_,_,HS.out.box (ev_upd (S:=[w.heap.size]) (Upd.refl _ _) (.inl (by simp)) _ _ _ _ _ _) HNB.out HNL.out,ev_upd HU.out (.inr (Nat.le_refl _)) _ _ _ _ _ _,HN.out⟩
 ·have HC:=Lib.hid (hc W1 HU0.out)
  rw [hp] at c25
  clear hc hp HU0
  refine calls_all fun K hK=>?_
  go_enter Tryz.func56,Tryz.ntmps56
  go_wp2_with fail
  clear c25 hW1
  refine HC.out.mono ?_
  rintro e W8 ⟨rfl,rv8,wv8,h8,u8,hn8⟩
  obtain ⟨⟨⟨ek,ea,ew,eo,ee⟩,tl⟩,r9,sh9⟩:=R
  have hs8:=HU.out.size
  simp only [TE.val]
  have HE8:=Lib.hid (HE.out.upd u8 (by have:=HNB.out; simp; omega))
  have HNL8:=Lib.hid (show ∀ g,rv8.ownBlock=some g∨wv8.ownBlock=some g → g≠w.heap.size from fun g hg=>by
   rcases hn8 g hg with k | k
   ·exact HNL.out g k
   ·have:=HE.out.lt; omega)
  have HN8:=Lib.hid (show ∀ g,rv8.ownBlock=some g∨wv8.ownBlock=some g → (rv.ownBlock=some g∨wv.ownBlock=some g)∨w.heap.size≤g from fun g hg=>by
   rcases hn8 g hg with k | k
   ·exact HN.out g k
   ·exact .inr (by omega))
  have HS8:=Lib.hid h8
  have HU8:=Lib.hid (HU.out.trans u8)
  clear HS HE HU HNL HN h8 u8 hn8 HC
  have HS:=HS8
  have HE:=HE8
  have HU:=HU8
  have HNL:=HNL8
  have HN:=HN8
  dsimp only at HS
  have q0:=(HE.out).cell 0 rfl
  have q1:=(HE.out).cell 1 rfl
  have q2:=(HE.out).cell 2 rfl
  have q3:=(HE.out).cell 3 rfl
  have q4:=(HE.out).cell 4 rfl
  have q5:=(HE.out).cell 5 rfl
  have f0:=(HE.out).free 0
  have f1:=(HE.out).free 1
  have f2:=(HE.out).free 2
  have f3:=(HE.out).free 3
  have f4:=(HE.out).free 4
  have f5:=(HE.out).free 5
  dsimp only at q0 q1 q2 q3 q4 q5
  go_wp2_with fail
  refine bodyPost_ret (ev_results2 6 7 rfl _ _ w.heap.size (⟨ek,ea,ew,eo,ee⟩:TE) (.bool tl) rfl rfl (ev_set HE.out (⟨ek,ea,ew,eo,ee⟩:TE))) rfl (hK _ _ ?_)
  refine ⟨rfl,_,_,HS.out.box (ev_upd (S:=[w.heap.size]) (Upd.refl _ _) (.inl (by simp)) _ _ _ _ _ _) HNB.out HNL.out,ev_upd HU.out (.inr (Nat.le_refl _)) _ _ _ _ _ _,HN.out⟩
end
end Go.Proofs.YtehopaabfoopeaaGreat
