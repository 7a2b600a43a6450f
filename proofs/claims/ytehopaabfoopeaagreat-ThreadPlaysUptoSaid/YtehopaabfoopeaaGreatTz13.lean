/- The document's thread: load, lock, a step of a validation. No conditions. The document's thread: a step of a validation. No conditions. -/
import Derived.Test.YtehopaabfoopeaaGreatTz08
import Derived.Test.YtehopaabfoopeaaGreatTz06
import Derived.Test.YtehopaabfoopeaaGreatTz12
set_option linter.unusedSimpArgs false
set_option linter.unusedVariables false
set_option maxRecDepth 100000
namespace Go.Proofs.YtehopaabfoopeaaGreat
open Go.RowKit
open Go.Maps
def withR (r:RT) (a:AS):RT:={ r with a:=a }
def loadR (r:RT) (sh:Sh):Told × RT × Sh:=
 if r.a.addr<sh.row.length then (quiet,withR r { r.a with word:=wd sh.row r.a.addr.toNat,phase:=3 },sh) else ((failR r 4).1,(failR r 4).2,sh)
def lockR (r:RT) (sh:Sh):Told × RT × Sh:=
 if sh.clock=r.a.snap then (telling 5 0 0,withR r { r.a with phase:=8,at_:=0 },{ sh with clock:=(sh.clock+1) % 18446744073709551616 })
 else (quiet,withR r { r.a with phase:=4,thn:=7 },sh)
section
variable {w w':World} {rb wb qb:Nat} {r:RT} {sh:Sh} {rv wv:Value}
set_option maxHeartbeats 1000000 in
theorem xlock_code (h:RS w rb wb qb r sh rv wv):Calls Tryz.prog 85 #[.pointer (some ⟨rb,0,none⟩),.pointer (some ⟨wb,0,none⟩)] w (RSOk w rb wb qb rv wv (lockR r sh)):=by
 obtain ⟨W1,hW1⟩:∃ W,w.alloc (.cells #[.int .i64 0,.int .i64 0,.int .u64 0,.int .u64 0,.bool false,.int .i64 0] 86)=W:=⟨_,rfl⟩
 have u1:Upd [] w W1:=by rw [← hW1]; exact (Upd.refl [] _).alloc _
 have EB:Blk W1 w.heap.size (TE.cells ⟨0,0,0,false,0⟩) 86:=by rw [← hW1]; exact Blk.new w _ _
 have hlt1:=h.th.lt
 have hlt2:=h.wo.lt
 have hnes:=h.ne
 have hnew:=h.wo.ne
 have HNB:=Lib.hid (show rb≠w.heap.size∧wb≠w.heap.size∧qb≠w.heap.size from ⟨by omega,by omega,by omega⟩)
 have HNL:=Lib.hid (show ∀ g,rv.ownBlock=some g∨wv.ownBlock=some g → g≠w.heap.size from fun g hg=>by have:=(h.th.ap g hg).2; omega)
 have HN:=Lib.hid (show ∀ g,rv.ownBlock=some g∨wv.ownBlock=some g → (rv.ownBlock=some g∨wv.ownBlock=some g)∨w.heap.size≤g from fun g hg=>.inl hg)
 have HS:=Lib.hid (h.upd0 u1)
 have HE:=Lib.hid EB
 have HU:=Lib.hid (show Upd [rb,wb,qb] w W1 from u1.mono (by simp))
 have hne1:rb≠w.heap.size:=by omega
 have hne2:wb≠w.heap.size:=by omega
 have hne3:qb≠w.heap.size:=by omega
 have hne4:rb≠wb:=hnes.1
 have hne5:rb≠qb:=hnes.2
 clear EB u1 h hlt1 hlt2
 have hwd:=HS.out.wo.wide.clock
 have hr8:=HS.out.th.r8
 have hs8:=HS.out.th.s8
 obtain ⟨st,er,at_,rs,ins,sta,sv,fu,⟨sn,rd,wl,ph,th,ad,wo,fo,at2⟩⟩:=r
 obtain ⟨r0,r1,r2,r3,r4,r5,r6,r7,rfl⟩:=list8 hr8
 obtain ⟨s0,s1,s2,s3,s4,s5,s6,s7,rfl⟩:=list8 hs8
 have hB:Blk W1 rb [.int .i64 st,.int .i64 er,.int .i64 at_,.int .u64 r0,.int .u64 r1,.int .u64 r2,.int .u64 r3,.int .u64 r4,.int .u64 r5,.int .u64 r6,.int .u64 r7,.bool ins,.int .i64 sta,.int .u64 s0,.int .u64 s1,.int .u64 s2,.int .u64 s3,.int .u64 s4,.int .u64 s5,.int .u64 s6,.int .u64 s7,.int .i64 fu,.int .u64 sn,rv,wv,.int .i64 ph,.int .i64 th,.int .u64 ad,.int .u64 wo,.int .u64 fo,.int .i64 at2] 58:=HS.out.th.head
 clear hr8 hs8
 have c22:=hB.cell 22 rfl
 have c25:=hB.cell 25 rfl
 have c26:=hB.cell 26 rfl
 have c30:=hB.cell 30 rfl
 have g25:=hB.free 25
 have g26:=hB.free 26
 have g30:=hB.free 30
 obtain ⟨cap,hW⟩:=HS.out.wo.head
 have d1:=hW.cell 1 rfl
 have g1:=hW.free 1
 have HW:=Lib.hid hW
 have HB:=Lib.hid hB
 clear hW hB
 unfold lockR
 dsimp only
 by_cases hc:sh.clock=sn
 ·rw [if_pos hc]
  have b:(sh.clock != sn)=false:=by simp [hc]
  subst hc
  have hup:IntKind.u64.wrap (sh.clock+1)=(sh.clock+1) % 18446744073709551616:=by rw [IntKind.wrap_u64]
  refine calls_all fun K hK=>?_
  go_enter Tryz.func85,Tryz.ntmps85
  go_upto_region 2 with (fail)
  refine wp_region_br (fun w'=>w'.cell? ⟨rb,22,none⟩=some (.int .u64 sh.clock)∧w'.cell? ⟨wb,1,none⟩=some (.int .u64 sh.clock)) [0,1,2,3,4,5,6,7,8] (by kernel_rfl) (by kernel_rfl) ⟨c22,d1⟩ ?_
  repeat
   first
    | (refine wpB_skip rfl (by kernel_rfl) (by rfl) ?_)
    | ((refine wpB_take (v:=?_) rfl rfl (by kernel_rfl) (by rfl) ?_ ?_); rotate_left 1; (· ((intro w hSw; (try dsimp only at hSw); go_simp); try with_reducible rfl)))
   try simp only [Act.put,List.setIfInBounds_toArray,List.set_cons_zero,List.set_cons_succ]
  refine wpB_end (by kernel_rfl) (NoPanic.normal ?_)
  go_upto_region 9 with (fail)
  obtain ⟨W2,hW2⟩:∃ W,(((W1.setCell ⟨wb,1,none⟩ (.int .u64 ((sh.clock+1) % 18446744073709551616))).setCell ⟨rb,25,none⟩ (.int .i64 8)).setCell ⟨rb,30,none⟩ (.int .i64 0)).drew=W:=⟨_,rfl⟩
  have hs2:=(((HS.out.clk ((sh.clock+1) % 18446744073709551616) ⟨Int.emod_nonneg _ (by omega),Int.emod_lt_of_pos _ (by omega)⟩).one (r':=⟨st,er,at_,[r0,r1,r2,r3,r4,r5,r6,r7],ins,sta,[s0,s1,s2,s3,s4,s5,s6,s7],fu,⟨sh.clock,rd,wl,8,th,ad,wo,fo,at2⟩⟩) 25 (.int .i64 8) rfl rfl rfl rfl rfl).one (r':=⟨st,er,at_,[r0,r1,r2,r3,r4,r5,r6,r7],ins,sta,[s0,s1,s2,s3,s4,s5,s6,s7],fu,⟨sh.clock,rd,wl,8,th,ad,wo,fo,0⟩⟩) 30 (.int .i64 0) rfl rfl rfl rfl rfl).upd0 ((Upd.refl [] _).drew)
  rw [hW2] at hs2
  have uu:Upd [rb,wb,qb] W1 W2:=by
   rw [← hW2]
   repeat (first | refine Upd.drew ?_ | refine Upd.setCell ?_ (.inl (by simp)) _ | with_reducible exact Upd.refl _ _)
  have HE2:=Lib.hid (HE.out.upd uu (by have:=HNB.out; simp; omega))
  have HU2:=Lib.hid (HU.out.trans uu)
  have HS2:=Lib.hid hs2
  clear HS HE HU uu hs2
  have HS:=HS2
  have HE:=HE2
  have HU:=HU2
  clear HS2 HE2 HU2
  rw [hW2]
  clear hW2
  go_wp2_with fail
  refine (x11event_any _ _ _ _).mono ?_
  rintro e W9 ⟨rfl,u9⟩
  simp only [TE.val]
  replace HE:=Lib.hid (HE.out.upd u9 (by simp))
  replace HS:=Lib.hid (HS.out.upd0 u9)
  replace HU:=Lib.hid (HU.out.trans (u9.mono (by simp)))
  clear u9
  have q0:=(HE.out).cell 0 rfl
  have q1:=(HE.out).cell 1 rfl
  have q2:=(HE.out).cell 2 rfl
  have q3:=(HE.out).cell 3 rfl
  have q4:=(HE.out).cell 4 rfl
  have q5:=(HE.out).cell 5 rfl
  have f0:=(HE.out).free 0
  have f1:=(HE.out).free 1
  have f2:=(HE.out).free 2
  have f3:=(HE.out).free 3
  have f4:=(HE.out).free 4
  have f5:=(HE.out).free 5
  dsimp only at q0 q1 q2 q3 q4 q5
  go_wp2_with fail
  refine bodyPost_ret (ev_results2 4 5 rfl _ _ w.heap.size (⟨5,0,0,false,0⟩:TE) (.bool true) rfl rfl (ev_set HE.out (⟨5,0,0,false,0⟩:TE))) rfl (hK _ _ ?_)
  refine ⟨rfl,_,_,HS.out.box (ev_upd (S:=[w.heap.size]) (Upd.refl _ _) (.inl (by simp)) _ _ _ _ _ _) HNB.out HNL.out,ev_upd HU.out (.inr (Nat.le_refl _)) _ _ _ _ _ _,HN.out⟩
 ·rw [if_neg hc]
  have b:(sh.clock != sn)=true:=by simp [hc]
  clear hc
  refine calls_all fun K hK=>?_
  go_enter Tryz.func85,Tryz.ntmps85
  go_upto_region 2 with (fail)
  refine wp_region_br (fun w'=>w'.cell? ⟨rb,22,none⟩=some (.int .u64 sn)∧w'.cell? ⟨wb,1,none⟩=some (.int .u64 sh.clock)) [0,1,2,3,4,5,6,7,8] (by kernel_rfl) (by kernel_rfl) ⟨c22,d1⟩ ?_
  repeat
   first
    | (refine wpB_skip rfl (by kernel_rfl) (by rfl) ?_)
    | ((refine wpB_take (v:=?_) rfl rfl (by kernel_rfl) (by rfl) ?_ ?_); rotate_left 1; (· ((intro w hSw; (try dsimp only at hSw); go_simp); try with_reducible rfl)))
   try simp only [Act.put,List.setIfInBounds_toArray,List.set_cons_zero,List.set_cons_succ]
  refine wpB_end (by kernel_rfl) (NoPanic.normal ?_)
  go_upto_region 5 with (fail)
  obtain ⟨W2,hW2⟩:∃ W,((W1.setCell ⟨rb,25,none⟩ (.int .i64 4)).setCell ⟨rb,26,none⟩ (.int .i64 7)).drew=W:=⟨_,rfl⟩
  have hs2:=((HS.out.one (r':=⟨st,er,at_,[r0,r1,r2,r3,r4,r5,r6,r7],ins,sta,[s0,s1,s2,s3,s4,s5,s6,s7],fu,⟨sn,rd,wl,4,th,ad,wo,fo,at2⟩⟩) 25 (.int .i64 4) rfl rfl rfl rfl rfl).one (r':=⟨st,er,at_,[r0,r1,r2,r3,r4,r5,r6,r7],ins,sta,[s0,s1,s2,s3,s4,s5,s6,s7],fu,⟨sn,rd,wl,4,7,ad,wo,fo,at2⟩⟩) 26 (.int .i64 7) rfl rfl rfl rfl rfl).upd0 ((Upd.refl [] _).drew)
  rw [hW2] at hs2
  have uu:Upd [rb,wb,qb] W1 W2:=by
   rw [← hW2]
   repeat (first | refine Upd.drew ?_ | refine Upd.setCell ?_ (.inl (by simp)) _ | with_reducible exact Upd.refl _ _)
  have HE2:=Lib.hid (HE.out.upd uu (by have:=HNB.out; simp; omega))
  have HU2:=Lib.hid (HU.out.trans uu)
  have HS2:=Lib.hid hs2
  clear HS HE HU uu hs2
  have HS:=HS2
  have HE:=HE2
  have HU:=HU2
  clear HS2 HE2 HU2
  rw [hW2]
  clear hW2
  have q0:=(HE.out).cell 0 rfl
  have q1:=(HE.out).cell 1 rfl
  have q2:=(HE.out).cell 2 rfl
  have q3:=(HE.out).cell 3 rfl
  have q4:=(HE.out).cell 4 rfl
  have q5:=(HE.out).cell 5 rfl
  have f0:=(HE.out).free 0
  have f1:=(HE.out).free 1
  have f2:=(HE.out).free 2
  have f3:=(HE.out).free 3
  have f4:=(HE.out).free 4
  have f5:=(HE.out).free 5
  dsimp only at q0 q1 q2 q3 q4 q5
  go_wp2_with fail
  refine bodyPost_ret (ev_results2 4 5 rfl _ _ w.heap.size (⟨0,0,0,false,0⟩:TE) (.bool false) rfl rfl (ev_set HE.out (⟨0,0,0,false,0⟩:TE))) rfl (hK _ _ ?_)
  refine ⟨rfl,_,_,HS.out.box (ev_upd (S:=[w.heap.size]) (Upd.refl _ _) (.inl (by simp)) _ _ _ _ _ _) HNB.out HNL.out,ev_upd HU.out (.inr (Nat.le_refl _)) _ _ _ _ _ _,HN.out⟩
set_option maxHeartbeats 1000000 in
theorem xload_code (h:RS w rb wb qb r sh rv wv) (hx:0≤r.a.addr):Calls Tryz.prog 82 #[.pointer (some ⟨rb,0,none⟩),.pointer (some ⟨wb,0,none⟩)] w (RSOk w rb wb qb rv wv (loadR r sh)):=by
 obtain ⟨W1,hW1⟩:∃ W,w.alloc (.cells #[.int .i64 0,.int .i64 0,.int .u64 0,.int .u64 0,.bool false,.int .i64 0] 86)=W:=⟨_,rfl⟩
 have u1:Upd [] w W1:=by rw [← hW1]; exact (Upd.refl [] _).alloc _
 have EB:Blk W1 w.heap.size (TE.cells ⟨0,0,0,false,0⟩) 86:=by rw [← hW1]; exact Blk.new w _ _
 have hlt1:=h.th.lt
 have hlt2:=h.wo.lt
 have hnes:=h.ne
 have hnew:=h.wo.ne
 have HNB:=Lib.hid (show rb≠w.heap.size∧wb≠w.heap.size∧qb≠w.heap.size from ⟨by omega,by omega,by omega⟩)
 have HNL:=Lib.hid (show ∀ g,rv.ownBlock=some g∨wv.ownBlock=some g → g≠w.heap.size from fun g hg=>by have:=(h.th.ap g hg).2; omega)
 have HN:=Lib.hid (show ∀ g,rv.ownBlock=some g∨wv.ownBlock=some g → (rv.ownBlock=some g∨wv.ownBlock=some g)∨w.heap.size≤g from fun g hg=>.inl hg)
 have HS:=Lib.hid (h.upd0 u1)
 have HE:=Lib.hid EB
 have HU:=Lib.hid (show Upd [rb,wb,qb] w W1 from u1.mono (by simp))
 have hne1:rb≠w.heap.size:=by omega
 have hne2:wb≠w.heap.size:=by omega
 have hne3:qb≠w.heap.size:=by omega
 have hne4:rb≠wb:=hnes.1
 have hne5:rb≠qb:=hnes.2
 clear EB u1 h hlt1 hlt2
 have hlen:=HS.out.wo.len
 obtain ⟨x,hxn⟩:∃ x:Nat,r.a.addr=x:=⟨r.a.addr.toNat,by omega⟩
 have hr8:=HS.out.th.r8
 have hs8:=HS.out.th.s8
 obtain ⟨st,er,at_,rs,ins,sta,sv,fu,⟨sn,rd,wl,ph,th,ad,wo,fo,at2⟩⟩:=r
 obtain ⟨r0,r1,r2,r3,r4,r5,r6,r7,rfl⟩:=list8 hr8
 obtain ⟨s0,s1,s2,s3,s4,s5,s6,s7,rfl⟩:=list8 hs8
 have hB:Blk W1 rb [.int .i64 st,.int .i64 er,.int .i64 at_,.int .u64 r0,.int .u64 r1,.int .u64 r2,.int .u64 r3,.int .u64 r4,.int .u64 r5,.int .u64 r6,.int .u64 r7,.bool ins,.int .i64 sta,.int .u64 s0,.int .u64 s1,.int .u64 s2,.int .u64 s3,.int .u64 s4,.int .u64 s5,.int .u64 s6,.int .u64 s7,.int .i64 fu,.int .u64 sn,rv,wv,.int .i64 ph,.int .i64 th,.int .u64 ad,.int .u64 wo,.int .u64 fo,.int .i64 at2] 58:=HS.out.th.head
 clear hr8 hs8
 dsimp only at hxn
 subst hxn
 clear hx
 have c25:=hB.cell 25 rfl
 have c27:=hB.cell 27 rfl
 have c28:=hB.cell 28 rfl
 have g25:=hB.free 25
 have g28:=hB.free 28
 obtain ⟨cap,hW⟩:=HS.out.wo.head
 have d0:=hW.cell 0 rfl
 clear hW hB
 have hul:IntKind.u64.wrap (sh.row.length:Int)=sh.row.length:=by rw [IntKind.wrap_u64]; omega
 unfold loadR
 dsimp only
 by_cases hc:(x:Int)<sh.row.length
 ·rw [if_pos hc]
  have b:decide ((sh.row.length:Int)≤(x:Int))=false:=decide_eq_false (by omega)
  have dx:=HS.out.wo.cell (k:=x) (by omega)
  rw [Int.toNat_natCast]
  obtain ⟨v,hv⟩:∃ v,wd sh.row x=v:=⟨_,rfl⟩
  rw [hv] at dx ⊢
  clear hv
  refine calls_all fun K hK=>?_
  go_enter Tryz.func82,Tryz.ntmps82
  go_upto_region 1 with (fail)
  refine wp_region_br (fun w'=>w'.cell? ⟨rb,27,none⟩=some (.int .u64 (x:Int))∧w'.cell? ⟨wb,0,none⟩=some (.slice (some ⟨qb,0,none⟩) sh.row.length cap)) [0,1,2,3,4,5,6,7,8,9,10,11] (by kernel_rfl) (by kernel_rfl) ⟨c27,d0⟩ ?_
  repeat
   first
    | (refine wpB_skip rfl (by kernel_rfl) (by rfl) ?_)
    | ((refine wpB_take (v:=?_) rfl rfl (by kernel_rfl) (by rfl) ?_ ?_); rotate_left 1; (· ((intro w hSw; (try dsimp only at hSw); go_simp); try with_reducible rfl)))
   try simp only [Act.put,List.setIfInBounds_toArray,List.set_cons_zero,List.set_cons_succ]
  refine wpB_end (by kernel_rfl) (NoPanic.normal ?_)
  go_upto_region 3 with (fail)
  obtain ⟨W2,hdr⟩:∃ W,(W1).drew=W:=⟨_,rfl⟩
  have udr:Upd [] W1 W2:=by rw [← hdr]; exact (Upd.refl [] _).drew
  have HS2:=Lib.hid (HS.out.upd0 udr)
  have HE2:=Lib.hid (HE.out.upd udr (by simp))
  have HU2:=Lib.hid (HU.out.trans (udr.mono (by simp)))
  have UW2:=Lib.hid udr
  clear HS HE HU udr
  have HS:=HS2
  have HE:=HE2
  have HU:=HU2
  clear HS2 HE2 HU2
  rw [hdr]
  clear hdr
  refine wp_region_ordT (fun w'=>w'.cell? ⟨rb,27,none⟩=some (.int .u64 (x:Int))∧w'.cell? ⟨wb,0,none⟩=some (.slice (some ⟨qb,0,none⟩) sh.row.length cap)∧w'.cell? ⟨qb,x,none⟩=some (.int .u64 v)) [0,1,2,3,4,5,6,7,8,9,10,11,12,13,14,15] [15] (by kernel_rfl) (by kernel_rfl) ?_
  obtain ⟨W3,hdr⟩:∃ W,(W2).drew=W:=⟨_,rfl⟩
  have udr:Upd [] W2 W3:=by rw [← hdr]; exact (Upd.refl [] _).drew
  have HS2:=Lib.hid (HS.out.upd0 udr)
  have HE2:=Lib.hid (HE.out.upd udr (by simp))
  have HU2:=Lib.hid (HU.out.trans (udr.mono (by simp)))
  have UW3:=Lib.hid udr
  clear HS HE HU udr
  have HS:=HS2
  have HE:=HE2
  have HU:=HU2
  clear HS2 HE2 HU2
  rw [hdr]
  clear hdr
  have u13:=UW2.out.trans UW3.out
  have hS:W3.cell? ⟨rb,27,none⟩=some (.int .u64 (x:Int))∧W3.cell? ⟨wb,0,none⟩=some (.slice (some ⟨qb,0,none⟩) sh.row.length cap)∧W3.cell? ⟨qb,x,none⟩=some (.int .u64 v):=⟨u13.cell (by simp) c27,u13.cell (by simp) d0,u13.cell (by simp) dx⟩
  clear c25 c27 c28 g25 g28 d0 dx u13
  have hB:Blk W3 rb [.int .i64 st,.int .i64 er,.int .i64 at_,.int .u64 r0,.int .u64 r1,.int .u64 r2,.int .u64 r3,.int .u64 r4,.int .u64 r5,.int .u64 r6,.int .u64 r7,.bool ins,.int .i64 sta,.int .u64 s0,.int .u64 s1,.int .u64 s2,.int .u64 s3,.int .u64 s4,.int .u64 s5,.int .u64 s6,.int .u64 s7,.int .i64 fu,.int .u64 sn,rv,wv,.int .i64 ph,.int .i64 th,.int .u64 (x:Int),.int .u64 wo,.int .u64 fo,.int .i64 at2] 58:=HS.out.th.head
  have c25:=hB.cell 25 rfl
  have c28:=hB.cell 28 rfl
  have g25:=hB.free 25
  have g28:=hB.free 28
  clear hB
  repeat
   first
    | (refine wpT_skip rfl (by decide) (by assumption) (by rfl) ?_)
    | ((refine wpT_take (v:=?_) rfl (by decide) (by assumption) rfl (by rfl) ?_ ?_); rotate_left 1; (· ((intro w hSw; (try dsimp only at hSw); go_simp); try with_reducible rfl)))
   try simp only [Act.put,List.setIfInBounds_toArray,List.set_cons_zero,List.set_cons_succ]
  refine wpT_last rfl (by decide) (by kernel_rfl) (by rfl) (fun K2 hK2=>?_)
  go_simp
  refine hK2.out _ _ ?_
  refine wpT_end (NoPanic.normal ?_)
  clear hK2 K2
  clear hS
  go_upto_region 5 with (fail)
  obtain ⟨W4,hW2⟩:∃ W,(W3.setCell ⟨rb,28,none⟩ (.int .u64 v)).setCell ⟨rb,25,none⟩ (.int .i64 3)=W:=⟨_,rfl⟩
  have hs2:=(HS.out.one (r':=⟨st,er,at_,[r0,r1,r2,r3,r4,r5,r6,r7],ins,sta,[s0,s1,s2,s3,s4,s5,s6,s7],fu,⟨sn,rd,wl,ph,th,x,v,fo,at2⟩⟩) 28 (.int .u64 v) rfl rfl rfl rfl rfl).one (r':=⟨st,er,at_,[r0,r1,r2,r3,r4,r5,r6,r7],ins,sta,[s0,s1,s2,s3,s4,s5,s6,s7],fu,⟨sn,rd,wl,3,th,x,v,fo,at2⟩⟩) 25 (.int .i64 3) rfl rfl rfl rfl rfl
  rw [hW2] at hs2
  have uu:Upd [rb,wb,qb] W3 W4:=by
   rw [← hW2]
   repeat (first | refine Upd.drew ?_ | refine Upd.setCell ?_ (.inl (by simp)) _ | with_reducible exact Upd.refl _ _)
  have HE2:=Lib.hid (HE.out.upd uu (by have:=HNB.out; simp; omega))
  have HU2:=Lib.hid (HU.out.trans uu)
  have HS2:=Lib.hid hs2
  clear HS HE HU uu hs2
  have HS:=HS2
  have HE:=HE2
  have HU:=HU2
  clear HS2 HE2 HU2
  rw [hW2]
  clear hW2
  have q0:=(HE.out).cell 0 rfl
  have q1:=(HE.out).cell 1 rfl
  have q2:=(HE.out).cell 2 rfl
  have q3:=(HE.out).cell 3 rfl
  have q4:=(HE.out).cell 4 rfl
  have q5:=(HE.out).cell 5 rfl
  have f0:=(HE.out).free 0
  have f1:=(HE.out).free 1
  have f2:=(HE.out).free 2
  have f3:=(HE.out).free 3
  have f4:=(HE.out).free 4
  have f5:=(HE.out).free 5
  dsimp only at q0 q1 q2 q3 q4 q5
  go_wp2_with fail
  refine bodyPost_ret (ev_results2 4 5 rfl _ _ w.heap.size (⟨0,0,0,false,0⟩:TE) (.bool false) rfl rfl (ev_set HE.out (⟨0,0,0,false,0⟩:TE))) rfl (hK _ _ ?_)
  refine ⟨rfl,_,_,HS.out.box (ev_upd (S:=[w.heap.size]) (Upd.refl _ _) (.inl (by simp)) _ _ _ _ _ _) HNB.out HNL.out,ev_upd HU.out (.inr (Nat.le_refl _)) _ _ _ _ _ _,HN.out⟩
 ·rw [if_neg hc]
  have b:decide ((sh.row.length:Int)≤(x:Int))=true:=decide_eq_true (by omega)
  refine calls_all fun K hK=>?_
  go_enter Tryz.func82,Tryz.ntmps82
  go_upto_region 1 with (fail)
  refine wp_region_br (fun w'=>w'.cell? ⟨rb,27,none⟩=some (.int .u64 (x:Int))∧w'.cell? ⟨wb,0,none⟩=some (.slice (some ⟨qb,0,none⟩) sh.row.length cap)) [0,1,2,3,4,5,6,7,8,9,10,11] (by kernel_rfl) (by kernel_rfl) ⟨c27,d0⟩ ?_
  repeat
   first
    | (refine wpB_skip rfl (by kernel_rfl) (by rfl) ?_)
    | ((refine wpB_take (v:=?_) rfl rfl (by kernel_rfl) (by rfl) ?_ ?_); rotate_left 1; (· ((intro w hSw; (try dsimp only at hSw); go_simp); try with_reducible rfl)))
   try simp only [Act.put,List.setIfInBounds_toArray,List.set_cons_zero,List.set_cons_succ]
  refine wpB_end (by kernel_rfl) (NoPanic.normal ?_)
  go_wp2_with fail
  obtain ⟨W2,hdr⟩:∃ W,(W1).drew=W:=⟨_,rfl⟩
  have udr:Upd [] W1 W2:=by rw [← hdr]; exact (Upd.refl [] _).drew
  have HS2:=Lib.hid (HS.out.upd0 udr)
  have HE2:=Lib.hid (HE.out.upd udr (by simp))
  have HU2:=Lib.hid (HU.out.trans (udr.mono (by simp)))
  have UW2:=Lib.hid udr
  clear HS HE HU udr
  have HS:=HS2
  have HE:=HE2
  have HU:=HU2
  clear HS2 HE2 HU2
  rw [hdr]
  clear hdr
  have HFL:=Lib.hid (HS.out.fail 4)
  refine HFL.out.mono ?_
  rintro e W8 ⟨rfl,rv8,wv8,h8,u8,hn8⟩
  have hs8:=HU.out.size
  simp only [failR,TE.val]
  have HE8:=Lib.hid (HE.out.upd u8 (by have:=HNB.out; simp; omega))
  have HNL8:=Lib.hid (show ∀ g,rv8.ownBlock=some g∨wv8.ownBlock=some g → g≠w.heap.size from fun g hg=>by
   rcases hn8 g hg with k | k
   ·exact HNL.out g k
   ·have:=HE.out.lt; omega)
  have HN8:=Lib.hid (show ∀ g,rv8.ownBlock=some g∨wv8.ownBlock=some g → (rv.ownBlock=some g∨wv.ownBlock=some g)∨w.heap.size≤g from fun g hg=>by
   rcases hn8 g hg with k | k
   ·exact HN.out g k
   ·exact .inr (by omega))
  have HS8:=Lib.hid h8
  have HU8:=Lib.hid (HU.out.trans u8)
  clear HS HE HU HNL HN h8 u8 hn8 HFL
  have HS:=HS8
  have HE:=HE8
  have HU:=HU8
  have HNL:=HNL8
  have HN:=HN8
  have q0:=(HE.out).cell 0 rfl
  have q1:=(HE.out).cell 1 rfl
  have q2:=(HE.out).cell 2 rfl
  have q3:=(HE.out).cell 3 rfl
  have q4:=(HE.out).cell 4 rfl
  have q5:=(HE.out).cell 5 rfl
  have f0:=(HE.out).free 0
  have f1:=(HE.out).free 1
  have f2:=(HE.out).free 2
  have f3:=(HE.out).free 3
  have f4:=(HE.out).free 4
  have f5:=(HE.out).free 5
  dsimp only at q0 q1 q2 q3 q4 q5
  go_wp2_with fail
  refine bodyPost_ret (ev_results2 4 5 rfl _ _ w.heap.size (⟨9,0,0,false,4⟩:TE) (.bool true) rfl rfl (ev_set HE.out (⟨9,0,0,false,4⟩:TE))) rfl (hK _ _ ?_)
  refine ⟨rfl,_,_,HS.out.box (ev_upd (S:=[w.heap.size]) (Upd.refl _ _) (.inl (by simp)) _ _ _ _ _ _) HNB.out HNL.out,ev_upd HU.out (.inr (Nat.le_refl _)) _ _ _ _ _ _,HN.out⟩
end
end Go.Proofs.YtehopaabfoopeaaGreat
set_option linter.unusedSimpArgs false
set_option linter.unusedVariables false
set_option maxRecDepth 100000
namespace Go.Proofs.YtehopaabfoopeaaGreat
open Go.RowKit
open Go.Maps
def againR (r:RT) (sh:Sh):Told × RT × Sh:=
 if r.a.phase=4 then (if sh.clock % 2=1 then (quiet,r,sh) else (quiet,withR r { r.a with found:=sh.clock,phase:=if r.a.reads=[] then 6 else 5 },sh))
 else if r.a.phase=5 then
  match r.a.reads[r.a.at_.toNat]? with
  | none=>(quiet,r,sh)
  | some c=>if c.1<sh.row.length∧wd sh.row c.1.toNat=c.2 then
    (quiet,withR r (if r.a.at_+1=r.a.reads.length then { r.a with at_:=0,phase:=6 } else { r.a with at_:=r.a.at_+1 }),sh)
   else (telling 7 0 0,giveR r r.start,sh)
 else if sh.clock≠r.a.found then (quiet,withR r { r.a with found:=0,phase:=4 },sh)
 else (telling 4 0 r.a.found,withR r { r.a with snap:=r.a.found,found:=0,phase:=r.a.thn,thn:=0 },sh)
section
variable {w w':World} {rb wb qb:Nat} {r:RT} {sh:Sh} {rv wv:Value}
set_option maxHeartbeats 2000000 in
theorem xagain4 (h:RS w rb wb qb r sh rv wv) (hp:r.a.phase=4) (hl:r.a.reads.length≤1024):Calls Tryz.prog 84 #[.pointer (some ⟨rb,0,none⟩),.pointer (some ⟨wb,0,none⟩)] w (RSOk w rb wb qb rv wv (againR r sh)):=by
 obtain ⟨W1,hW1⟩:∃ W,w.alloc (.cells #[.int .i64 0,.int .i64 0,.int .u64 0,.int .u64 0,.bool false,.int .i64 0] 86)=W:=⟨_,rfl⟩
 have u1:Upd [] w W1:=by rw [← hW1]; exact (Upd.refl [] _).alloc _
 have EB:Blk W1 w.heap.size (TE.cells ⟨0,0,0,false,0⟩) 86:=by rw [← hW1]; exact Blk.new w _ _
 have hlt1:=h.th.lt
 have hlt2:=h.wo.lt
 have hnes:=h.ne
 have hnew:=h.wo.ne
 have HNB:=Lib.hid (show rb≠w.heap.size∧wb≠w.heap.size∧qb≠w.heap.size from ⟨by omega,by omega,by omega⟩)
 have HNL:=Lib.hid (show ∀ g,rv.ownBlock=some g∨wv.ownBlock=some g → g≠w.heap.size from fun g hg=>by have:=(h.th.ap g hg).2; omega)
 have HN:=Lib.hid (show ∀ g,rv.ownBlock=some g∨wv.ownBlock=some g → (rv.ownBlock=some g∨wv.ownBlock=some g)∨w.heap.size≤g from fun g hg=>.inl hg)
 have HS:=Lib.hid (h.upd0 u1)
 have HE:=Lib.hid EB
 have HU:=Lib.hid (show Upd [rb,wb,qb] w W1 from u1.mono (by simp))
 have hne1:rb≠w.heap.size:=by omega
 have hne2:wb≠w.heap.size:=by omega
 have hne3:qb≠w.heap.size:=by omega
 have hne4:rb≠wb:=hnes.1
 have hne5:rb≠qb:=hnes.2
 clear EB u1 h hlt1 hlt2
 have hwd:=HS.out.wo.wide.clock
 obtain ⟨pr,cr,hrv,_⟩:=HS.out.th.rd
 have HRV:=Lib.hid hrv
 clear hrv
 have hr8:=HS.out.th.r8
 have hs8:=HS.out.th.s8
 obtain ⟨st,er,at_,rs,ins,sta,sv,fu,⟨sn,rd,wl,ph,th,ad,wo,fo,at2⟩⟩:=r
 obtain ⟨r0,r1,r2,r3,r4,r5,r6,r7,rfl⟩:=list8 hr8
 obtain ⟨s0,s1,s2,s3,s4,s5,s6,s7,rfl⟩:=list8 hs8
 have hB:Blk W1 rb [.int .i64 st,.int .i64 er,.int .i64 at_,.int .u64 r0,.int .u64 r1,.int .u64 r2,.int .u64 r3,.int .u64 r4,.int .u64 r5,.int .u64 r6,.int .u64 r7,.bool ins,.int .i64 sta,.int .u64 s0,.int .u64 s1,.int .u64 s2,.int .u64 s3,.int .u64 s4,.int .u64 s5,.int .u64 s6,.int .u64 s7,.int .i64 fu,.int .u64 sn,rv,wv,.int .i64 ph,.int .i64 th,.int .u64 ad,.int .u64 wo,.int .u64 fo,.int .i64 at2] 58:=HS.out.th.head
 clear hr8 hs8
 dsimp only at hp hl
 subst hp
 have c23:=hB.cell 23 rfl
 have c25:=hB.cell 25 rfl
 have c29:=hB.cell 29 rfl
 have g25:=hB.free 25
 have g29:=hB.free 29
 rw [HRV.out] at c23
 dsimp only at c23
 clear HRV
 obtain ⟨cap,hW⟩:=HS.out.wo.head
 have d1:=hW.cell 1 rfl
 clear hW hB
 unfold againR
 dsimp only
 rw [if_pos rfl]
 by_cases hc:sh.clock % 2=1
 ·rw [if_pos hc]
  have b:(sh.clock % 2 == 1)=true:=by simp [hc]
  clear hc
  refine calls_all fun K hK=>?_
  go_enter Tryz.func84,Tryz.ntmps84
  go_upto_region 5 with (fail)
  clear hW1
  have q0:=(HE.out).cell 0 rfl
  have q1:=(HE.out).cell 1 rfl
  have q2:=(HE.out).cell 2 rfl
  have q3:=(HE.out).cell 3 rfl
  have q4:=(HE.out).cell 4 rfl
  have q5:=(HE.out).cell 5 rfl
  have f0:=(HE.out).free 0
  have f1:=(HE.out).free 1
  have f2:=(HE.out).free 2
  have f3:=(HE.out).free 3
  have f4:=(HE.out).free 4
  have f5:=(HE.out).free 5
  dsimp only at q0 q1 q2 q3 q4 q5
  go_wp2_with fail
  refine bodyPost_ret (ev_results2 4 5 rfl _ _ w.heap.size (⟨0,0,0,false,0⟩:TE) (.bool false) rfl rfl (ev_set HE.out (⟨0,0,0,false,0⟩:TE))) rfl (hK _ _ ?_)
  refine ⟨rfl,_,_,HS.out.box (ev_upd (S:=[w.heap.size]) (Upd.refl _ _) (.inl (by simp)) _ _ _ _ _ _) HNB.out HNL.out,ev_upd HU.out (.inr (Nat.le_refl _)) _ _ _ _ _ _,HN.out⟩
 ·rw [if_neg hc]
  have b:(sh.clock % 2 == 1)=false:=by simp [hc]
  clear hc
  by_cases hz:rd=[]
  ·subst hz
   rw [if_pos rfl]
   refine calls_all fun K hK=>?_
   go_enter Tryz.func84,Tryz.ntmps84
   go_upto_region 10 with (fail)
   obtain ⟨W2,hW2⟩:∃ W,(((W1.setCell ⟨rb,29,none⟩ (.int .u64 sh.clock)).setCell ⟨rb,25,none⟩ (.int .i64 5)).setCell ⟨rb,25,none⟩ (.int .i64 6))=W:=⟨_,rfl⟩
   have hs2:=(((HS.out.one (r':=⟨st,er,at_,[r0,r1,r2,r3,r4,r5,r6,r7],ins,sta,[s0,s1,s2,s3,s4,s5,s6,s7],fu,⟨sn,[],wl,4,th,ad,wo,sh.clock,at2⟩⟩) 29 (.int .u64 sh.clock) rfl rfl rfl rfl rfl).one (r':=⟨st,er,at_,[r0,r1,r2,r3,r4,r5,r6,r7],ins,sta,[s0,s1,s2,s3,s4,s5,s6,s7],fu,⟨sn,[],wl,5,th,ad,wo,sh.clock,at2⟩⟩) 25 (.int .i64 5) rfl rfl rfl rfl rfl).one (r':=⟨st,er,at_,[r0,r1,r2,r3,r4,r5,r6,r7],ins,sta,[s0,s1,s2,s3,s4,s5,s6,s7],fu,⟨sn,[],wl,6,th,ad,wo,sh.clock,at2⟩⟩) 25 (.int .i64 6) rfl rfl rfl rfl rfl)
   rw [hW2] at hs2
   have uu:Upd [rb,wb,qb] W1 W2:=by
    rw [← hW2]
    repeat (first | refine Upd.drew ?_ | refine Upd.setCell ?_ (.inl (by simp)) _ | with_reducible exact Upd.refl _ _)
   have HE2:=Lib.hid (HE.out.upd uu (by have:=HNB.out; simp; omega))
   have HU2:=Lib.hid (HU.out.trans uu)
   have HS2:=Lib.hid hs2
   clear HS HE HU uu hs2
   have HS:=HS2
   have HE:=HE2
   have HU:=HU2
   clear HS2 HE2 HU2
   rw [hW2]
   clear hW2
   have q0:=(HE.out).cell 0 rfl
   have q1:=(HE.out).cell 1 rfl
   have q2:=(HE.out).cell 2 rfl
   have q3:=(HE.out).cell 3 rfl
   have q4:=(HE.out).cell 4 rfl
   have q5:=(HE.out).cell 5 rfl
   have f0:=(HE.out).free 0
   have f1:=(HE.out).free 1
   have f2:=(HE.out).free 2
   have f3:=(HE.out).free 3
   have f4:=(HE.out).free 4
   have f5:=(HE.out).free 5
   dsimp only at q0 q1 q2 q3 q4 q5
   go_wp2_with fail
   refine bodyPost_ret (ev_results2 4 5 rfl _ _ w.heap.size (⟨0,0,0,false,0⟩:TE) (.bool false) rfl rfl (ev_set HE.out (⟨0,0,0,false,0⟩:TE))) rfl (hK _ _ ?_)
   refine ⟨rfl,_,_,HS.out.box (ev_upd (S:=[w.heap.size]) (Upd.refl _ _) (.inl (by simp)) _ _ _ _ _ _) HNB.out HNL.out,ev_upd HU.out (.inr (Nat.le_refl _)) _ _ _ _ _ _,HN.out⟩
  ·rw [if_neg hz]
   have bz:((rd.length:Int) == 0)=false:=by simp [hz]
   clear hz
   refine calls_all fun K hK=>?_
   go_enter Tryz.func84,Tryz.ntmps84
   go_upto_region 10 with (fail)
   obtain ⟨W2,hW2⟩:∃ W,((W1.setCell ⟨rb,29,none⟩ (.int .u64 sh.clock)).setCell ⟨rb,25,none⟩ (.int .i64 5))=W:=⟨_,rfl⟩
   have hs2:=((HS.out.one (r':=⟨st,er,at_,[r0,r1,r2,r3,r4,r5,r6,r7],ins,sta,[s0,s1,s2,s3,s4,s5,s6,s7],fu,⟨sn,rd,wl,4,th,ad,wo,sh.clock,at2⟩⟩) 29 (.int .u64 sh.clock) rfl rfl rfl rfl rfl).one (r':=⟨st,er,at_,[r0,r1,r2,r3,r4,r5,r6,r7],ins,sta,[s0,s1,s2,s3,s4,s5,s6,s7],fu,⟨sn,rd,wl,5,th,ad,wo,sh.clock,at2⟩⟩) 25 (.int .i64 5) rfl rfl rfl rfl rfl)
   rw [hW2] at hs2
   have uu:Upd [rb,wb,qb] W1 W2:=by
    rw [← hW2]
    repeat (first | refine Upd.drew ?_ | refine Upd.setCell ?_ (.inl (by simp)) _ | with_reducible exact Upd.refl _ _)
   have HE2:=Lib.hid (HE.out.upd uu (by have:=HNB.out; simp; omega))
   have HU2:=Lib.hid (HU.out.trans uu)
   have HS2:=Lib.hid hs2
   clear HS HE HU uu hs2
   have HS:=HS2
   have HE:=HE2
   have HU:=HU2
   clear HS2 HE2 HU2
   rw [hW2]
   clear hW2
   have q0:=(HE.out).cell 0 rfl
   have q1:=(HE.out).cell 1 rfl
   have q2:=(HE.out).cell 2 rfl
   have q3:=(HE.out).cell 3 rfl
   have q4:=(HE.out).cell 4 rfl
   have q5:=(HE.out).cell 5 rfl
   have f0:=(HE.out).free 0
   have f1:=(HE.out).free 1
   have f2:=(HE.out).free 2
   have f3:=(HE.out).free 3
   have f4:=(HE.out).free 4
   have f5:=(HE.out).free 5
   dsimp only at q0 q1 q2 q3 q4 q5
   go_wp2_with fail
   refine bodyPost_ret (ev_results2 4 5 rfl _ _ w.heap.size (⟨0,0,0,false,0⟩:TE) (.bool false) rfl rfl (ev_set HE.out (⟨0,0,0,false,0⟩:TE))) rfl (hK _ _ ?_)
   refine ⟨rfl,_,_,HS.out.box (ev_upd (S:=[w.heap.size]) (Upd.refl _ _) (.inl (by simp)) _ _ _ _ _ _) HNB.out HNL.out,ev_upd HU.out (.inr (Nat.le_refl _)) _ _ _ _ _ _,HN.out⟩
set_option maxHeartbeats 2000000 in
theorem xagain6 (h:RS w rb wb qb r sh rv wv) (h4:r.a.phase≠4) (h5:r.a.phase≠5):Calls Tryz.prog 84 #[.pointer (some ⟨rb,0,none⟩),.pointer (some ⟨wb,0,none⟩)] w (RSOk w rb wb qb rv wv (againR r sh)):=by
 obtain ⟨W1,hW1⟩:∃ W,w.alloc (.cells #[.int .i64 0,.int .i64 0,.int .u64 0,.int .u64 0,.bool false,.int .i64 0] 86)=W:=⟨_,rfl⟩
 have u1:Upd [] w W1:=by rw [← hW1]; exact (Upd.refl [] _).alloc _
 have EB:Blk W1 w.heap.size (TE.cells ⟨0,0,0,false,0⟩) 86:=by rw [← hW1]; exact Blk.new w _ _
 have hlt1:=h.th.lt
 have hlt2:=h.wo.lt
 have hnes:=h.ne
 have hnew:=h.wo.ne
 have HNB:=Lib.hid (show rb≠w.heap.size∧wb≠w.heap.size∧qb≠w.heap.size from ⟨by omega,by omega,by omega⟩)
 have HNL:=Lib.hid (show ∀ g,rv.ownBlock=some g∨wv.ownBlock=some g → g≠w.heap.size from fun g hg=>by have:=(h.th.ap g hg).2; omega)
 have HN:=Lib.hid (show ∀ g,rv.ownBlock=some g∨wv.ownBlock=some g → (rv.ownBlock=some g∨wv.ownBlock=some g)∨w.heap.size≤g from fun g hg=>.inl hg)
 have HS:=Lib.hid (h.upd0 u1)
 have HE:=Lib.hid EB
 have HU:=Lib.hid (show Upd [rb,wb,qb] w W1 from u1.mono (by simp))
 have hne1:rb≠w.heap.size:=by omega
 have hne2:wb≠w.heap.size:=by omega
 have hne3:qb≠w.heap.size:=by omega
 have hne4:rb≠wb:=hnes.1
 have hne5:rb≠qb:=hnes.2
 clear EB u1 h hlt1 hlt2
 have hwd:=HS.out.wo.wide.clock
 have hr8:=HS.out.th.r8
 have hs8:=HS.out.th.s8
 obtain ⟨st,er,at_,rs,ins,sta,sv,fu,⟨sn,rd,wl,ph,th,ad,wo,fo,at2⟩⟩:=r
 obtain ⟨r0,r1,r2,r3,r4,r5,r6,r7,rfl⟩:=list8 hr8
 obtain ⟨s0,s1,s2,s3,s4,s5,s6,s7,rfl⟩:=list8 hs8
 have hB:Blk W1 rb [.int .i64 st,.int .i64 er,.int .i64 at_,.int .u64 r0,.int .u64 r1,.int .u64 r2,.int .u64 r3,.int .u64 r4,.int .u64 r5,.int .u64 r6,.int .u64 r7,.bool ins,.int .i64 sta,.int .u64 s0,.int .u64 s1,.int .u64 s2,.int .u64 s3,.int .u64 s4,.int .u64 s5,.int .u64 s6,.int .u64 s7,.int .i64 fu,.int .u64 sn,rv,wv,.int .i64 ph,.int .i64 th,.int .u64 ad,.int .u64 wo,.int .u64 fo,.int .i64 at2] 58:=HS.out.th.head
 clear hr8 hs8
 dsimp only at h4 h5
 have c22:=hB.cell 22 rfl
 have c25:=hB.cell 25 rfl
 have c26:=hB.cell 26 rfl
 have c29:=hB.cell 29 rfl
 have g22:=hB.free 22
 have g25:=hB.free 25
 have g26:=hB.free 26
 have g29:=hB.free 29
 obtain ⟨cap,hW⟩:=HS.out.wo.head
 have d1:=hW.cell 1 rfl
 clear hW hB
 unfold againR
 dsimp only
 rw [if_neg h4,if_neg h5]
 have b4:(ph == 4)=false:=by simp [h4]
 have b5:(ph == 5)=false:=by simp [h5]
 clear h4 h5
 by_cases hc:sh.clock=fo
 ·rw [if_neg (by simp [hc])]
  subst hc
  refine calls_all fun K hK=>?_
  go_enter Tryz.func84,Tryz.ntmps84
  go_upto_region 21 with (fail)
  refine wp_region_br (fun w'=>w'.cell? ⟨rb,29,none⟩=some (.int .u64 sh.clock)∧w'.cell? ⟨wb,1,none⟩=some (.int .u64 sh.clock)) [0,1,2,3,4,5,6,7,8] (by kernel_rfl) (by kernel_rfl) ⟨c29,d1⟩ ?_
  repeat
   first
    | (refine wpB_skip rfl (by kernel_rfl) (by rfl) ?_)
    | ((refine wpB_take (v:=?_) rfl rfl (by kernel_rfl) (by rfl) ?_ ?_); rotate_left 1; (· ((intro w hSw; (try dsimp only at hSw); go_simp); try with_reducible rfl)))
   try simp only [Act.put,List.setIfInBounds_toArray,List.set_cons_zero,List.set_cons_succ]
  refine wpB_end (by kernel_rfl) (NoPanic.normal ?_)
  go_upto_region 29 with (fail)
  obtain ⟨W2,hW2⟩:∃ W,((((W1.setCell ⟨rb,22,none⟩ (.int .u64 sh.clock)).setCell ⟨rb,29,none⟩ (.int .u64 0)).setCell ⟨rb,25,none⟩ (.int .i64 th)).setCell ⟨rb,26,none⟩ (.int .i64 0)).drew=W:=⟨_,rfl⟩
  have hs2:=((((HS.out.one (r':=⟨st,er,at_,[r0,r1,r2,r3,r4,r5,r6,r7],ins,sta,[s0,s1,s2,s3,s4,s5,s6,s7],fu,⟨sh.clock,rd,wl,ph,th,ad,wo,sh.clock,at2⟩⟩) 22 (.int .u64 sh.clock) rfl rfl rfl rfl rfl).one (r':=⟨st,er,at_,[r0,r1,r2,r3,r4,r5,r6,r7],ins,sta,[s0,s1,s2,s3,s4,s5,s6,s7],fu,⟨sh.clock,rd,wl,ph,th,ad,wo,0,at2⟩⟩) 29 (.int .u64 0) rfl rfl rfl rfl rfl).one (r':=⟨st,er,at_,[r0,r1,r2,r3,r4,r5,r6,r7],ins,sta,[s0,s1,s2,s3,s4,s5,s6,s7],fu,⟨sh.clock,rd,wl,th,th,ad,wo,0,at2⟩⟩) 25 (.int .i64 th) rfl rfl rfl rfl rfl).one (r':=⟨st,er,at_,[r0,r1,r2,r3,r4,r5,r6,r7],ins,sta,[s0,s1,s2,s3,s4,s5,s6,s7],fu,⟨sh.clock,rd,wl,th,0,ad,wo,0,at2⟩⟩) 26 (.int .i64 0) rfl rfl rfl rfl rfl).upd0 ((Upd.refl [] _).drew)
  rw [hW2] at hs2
  have uu:Upd [rb,wb,qb] W1 W2:=by
   rw [← hW2]
   repeat (first | refine Upd.drew ?_ | refine Upd.setCell ?_ (.inl (by simp)) _ | with_reducible exact Upd.refl _ _)
  have HE2:=Lib.hid (HE.out.upd uu (by have:=HNB.out; simp; omega))
  have HU2:=Lib.hid (HU.out.trans uu)
  have HS2:=Lib.hid hs2
  clear HS HE HU uu hs2
  have HS:=HS2
  have HE:=HE2
  have HU:=HU2
  clear HS2 HE2 HU2
  rw [hW2]
  clear hW2
  have hB:Blk W2 rb [.int .i64 st,.int .i64 er,.int .i64 at_,.int .u64 r0,.int .u64 r1,.int .u64 r2,.int .u64 r3,.int .u64 r4,.int .u64 r5,.int .u64 r6,.int .u64 r7,.bool ins,.int .i64 sta,.int .u64 s0,.int .u64 s1,.int .u64 s2,.int .u64 s3,.int .u64 s4,.int .u64 s5,.int .u64 s6,.int .u64 s7,.int .i64 fu,.int .u64 sh.clock,rv,wv,.int .i64 th,.int .i64 0,.int .u64 ad,.int .u64 wo,.int .u64 0,.int .i64 at2] 58:=HS.out.th.head
  have c22:=hB.cell 22 rfl
  clear hB
  go_wp2_with fail
  refine (x11event_any _ _ _ _).mono ?_
  rintro e W9 ⟨rfl,u9⟩
  simp only [TE.val]
  replace HE:=Lib.hid (HE.out.upd u9 (by simp))
  replace HS:=Lib.hid (HS.out.upd0 u9)
  replace HU:=Lib.hid (HU.out.trans (u9.mono (by simp)))
  clear u9
  have q0:=(HE.out).cell 0 rfl
  have q1:=(HE.out).cell 1 rfl
  have q2:=(HE.out).cell 2 rfl
  have q3:=(HE.out).cell 3 rfl
  have q4:=(HE.out).cell 4 rfl
  have q5:=(HE.out).cell 5 rfl
  have f0:=(HE.out).free 0
  have f1:=(HE.out).free 1
  have f2:=(HE.out).free 2
  have f3:=(HE.out).free 3
  have f4:=(HE.out).free 4
  have f5:=(HE.out).free 5
  dsimp only at q0 q1 q2 q3 q4 q5
  go_wp2_with fail
  refine bodyPost_ret (ev_results2 4 5 rfl _ _ w.heap.size (⟨4,0,sh.clock,false,0⟩:TE) (.bool true) rfl rfl (ev_set HE.out (⟨4,0,sh.clock,false,0⟩:TE))) rfl (hK _ _ ?_)
  refine ⟨rfl,_,_,HS.out.box (ev_upd (S:=[w.heap.size]) (Upd.refl _ _) (.inl (by simp)) _ _ _ _ _ _) HNB.out HNL.out,ev_upd HU.out (.inr (Nat.le_refl _)) _ _ _ _ _ _,HN.out⟩
 ·rw [if_pos hc]
  have b:(sh.clock != fo)=true:=by simp [hc]
  clear hc
  refine calls_all fun K hK=>?_
  go_enter Tryz.func84,Tryz.ntmps84
  go_upto_region 21 with (fail)
  refine wp_region_br (fun w'=>w'.cell? ⟨rb,29,none⟩=some (.int .u64 fo)∧w'.cell? ⟨wb,1,none⟩=some (.int .u64 sh.clock)) [0,1,2,3,4,5,6,7,8] (by kernel_rfl) (by kernel_rfl) ⟨c29,d1⟩ ?_
  repeat
   first
    | (refine wpB_skip rfl (by kernel_rfl) (by rfl) ?_)
    | ((refine wpB_take (v:=?_) rfl rfl (by kernel_rfl) (by rfl) ?_ ?_); rotate_left 1; (· ((intro w hSw; (try dsimp only at hSw); go_simp); try with_reducible rfl)))
   try simp only [Act.put,List.setIfInBounds_toArray,List.set_cons_zero,List.set_cons_succ]
  refine wpB_end (by kernel_rfl) (NoPanic.normal ?_)
  go_upto_region 24 with (fail)
  obtain ⟨W2,hW2⟩:∃ W,((W1.setCell ⟨rb,29,none⟩ (.int .u64 0)).setCell ⟨rb,25,none⟩ (.int .i64 4)).drew=W:=⟨_,rfl⟩
  have hs2:=((HS.out.one (r':=⟨st,er,at_,[r0,r1,r2,r3,r4,r5,r6,r7],ins,sta,[s0,s1,s2,s3,s4,s5,s6,s7],fu,⟨sn,rd,wl,ph,th,ad,wo,0,at2⟩⟩) 29 (.int .u64 0) rfl rfl rfl rfl rfl).one (r':=⟨st,er,at_,[r0,r1,r2,r3,r4,r5,r6,r7],ins,sta,[s0,s1,s2,s3,s4,s5,s6,s7],fu,⟨sn,rd,wl,4,th,ad,wo,0,at2⟩⟩) 25 (.int .i64 4) rfl rfl rfl rfl rfl).upd0 ((Upd.refl [] _).drew)
  rw [hW2] at hs2
  have uu:Upd [rb,wb,qb] W1 W2:=by
   rw [← hW2]
   repeat (first | refine Upd.drew ?_ | refine Upd.setCell ?_ (.inl (by simp)) _ | with_reducible exact Upd.refl _ _)
  have HE2:=Lib.hid (HE.out.upd uu (by have:=HNB.out; simp; omega))
  have HU2:=Lib.hid (HU.out.trans uu)
  have HS2:=Lib.hid hs2
  clear HS HE HU uu hs2
  have HS:=HS2
  have HE:=HE2
  have HU:=HU2
  clear HS2 HE2 HU2
  rw [hW2]
  clear hW2
  have q0:=(HE.out).cell 0 rfl
  have q1:=(HE.out).cell 1 rfl
  have q2:=(HE.out).cell 2 rfl
  have q3:=(HE.out).cell 3 rfl
  have q4:=(HE.out).cell 4 rfl
  have q5:=(HE.out).cell 5 rfl
  have f0:=(HE.out).free 0
  have f1:=(HE.out).free 1
  have f2:=(HE.out).free 2
  have f3:=(HE.out).free 3
  have f4:=(HE.out).free 4
  have f5:=(HE.out).free 5
  dsimp only at q0 q1 q2 q3 q4 q5
  go_wp2_with fail
  refine bodyPost_ret (ev_results2 4 5 rfl _ _ w.heap.size (⟨0,0,0,false,0⟩:TE) (.bool false) rfl rfl (ev_set HE.out (⟨0,0,0,false,0⟩:TE))) rfl (hK _ _ ?_)
  refine ⟨rfl,_,_,HS.out.box (ev_upd (S:=[w.heap.size]) (Upd.refl _ _) (.inl (by simp)) _ _ _ _ _ _) HNB.out HNL.out,ev_upd HU.out (.inr (Nat.le_refl _)) _ _ _ _ _ _,HN.out⟩
end
end Go.Proofs.YtehopaabfoopeaaGreat
