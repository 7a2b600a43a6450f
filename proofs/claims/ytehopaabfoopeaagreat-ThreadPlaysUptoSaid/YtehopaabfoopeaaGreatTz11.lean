/- An instruction that is not of registers alone (shared): get, put, end. No conditions. -/
import Derived.Test.YtehopaabfoopeaaGreatTz10
set_option linter.unusedSimpArgs false
set_option linter.unusedVariables false
set_option maxRecDepth 100000
namespace Go.Proofs.YtehopaabfoopeaaGreat
open Go.RowKit
open Go.Maps
section
variable {w w':World} {X:SX} {sh:Sh} {acc st:Int} {p:List Ins} {pb cap tb:Nat} {t:TS} {o:AO}
theorem TAtt.some {s:AS} {ta:Option AS} (h:TAtt w X sh acc st ta o) (ha:ta=some s):∃ a F rv wv mv,o=some (a,F)∧Live w X sh acc st a s F rv wv mv:=by
 rcases h with ⟨k,_⟩ | ⟨s2,a,F,rv,wv,mv,e,ho,hL⟩
 ·rw [k] at ha; cases ha
 ·rw [e] at ha; cases ha; exact ⟨a,F,rv,wv,mv,ho,hL⟩
theorem fit_of (hat:0≤t.at_∧t.at_<p.length) (hpl:p.length≤256) (hA:0≤(insAt p t.at_).a∧(insAt p t.at_).a<8) (s':AS) (x:Trn) (k:Int):TFit p (withA t s') x k:=fun _=>⟨fun _=>⟨hat,hA⟩,fun _=>⟨hat.1,by have:=hat.2; show t.at_<_; omega⟩⟩
end
section
variable {w w':World} {X:SX} {sh:Sh} {acc st:Int} {p:List Ins} {pb cap tb:Nat} {t:TS} {o:AO}
set_option maxHeartbeats 1000000 in
theorem shared_get (h:TV w X sh acc st p pb cap tb t o) (ia ib:Nat) (ha8:ia<8) (hb8:ib<8) (ic xn addr word:Int) (hrb:t.regs.getD ib 0=addr) (hra:t.regs.getD ia 0=word) (hat:0≤t.at_∧t.at_<p.length) (hA:0≤(insAt p t.at_).a∧(insAt p t.at_).a<8) (hx0:0≤addr∧addr<18446744073709551616) {s:AS} (ha:t.att=some s) (hM:May s):Calls Tryz.prog 79 #[.pointer (some ⟨tb,0,none⟩),(⟨13,ia,ib,ic,xn⟩:Ins).val] w (TOut w X acc st p pb cap tb o (sharedT p t sh ⟨13,ia,ib,ic,xn⟩)):=by
 have hS:sharedT p t sh ⟨13,ia,ib,ic,xn⟩=((turnedT p (withA t (getS s sh addr).2.2) (getS s sh addr).1 (getS s sh addr).2.1).1,(turnedT p (withA t (getS s sh addr).2.2) (getS s sh addr).1 (getS s sh addr).2.1).2,sh):=by
  have:attS t=s:=by unfold attS; rw [ha]; rfl
  rw [← hrb,← this]; rfl
 rw [hS]
 clear hS
 simp only [Ins.val]
 obtain ⟨W,hW⟩:∃ W,(w.alloc (.cells #[.int .i64 13,.int .i64 ia,.int .i64 ib,.int .i64 ic,.int .u64 xn] 50)).alloc (.cells #[.int .i64 0,.int .i64 0,.int .u64 0,.int .u64 0,.bool false,.int .i64 0] 86)=W:=⟨_,rfl⟩
 have u1:Upd [] w W:=by rw [← hW]; exact ((Upd.refl [] _).alloc _).alloc _
 have IB:Blk W w.heap.size [.int .i64 13,.int .i64 ia,.int .i64 ib,.int .i64 ic,.int .u64 xn] 50:=by rw [← hW]; exact (Blk.new w _ _).alloc _
 have EB:Blk W (w.heap.size+1) teNone.cells 86:=by
  have:=Blk.new (w.alloc (.cells #[.int .i64 13,.int .i64 ia,.int .i64 ib,.int .i64 ic,.int .u64 xn] 50)) teNone.cells 86
  rw [← hW]
  rw [World.size_alloc] at this
  exact this
 have hlt:=h.head.lt
 have HLT:=Lib.hid (show ∀ g,w.heap.size≤g → ¬ inTh X pb tb o g from fun g hg e=>by have:=h.lt e; omega)
 have hne1:w.heap.size≠tb:=by omega
 have hne2:w.heap.size+1≠tb:=by omega
 replace h:=h.upd0 u1
 have hA8i:(ia:Int)<8:=by omega
 have hA0i:(0:Int)≤ia:=by omega
 have hB8i:(ib:Int)<8:=by omega
 have hB0i:(0:Int)≤ib:=by omega
 simp only [teNone,TE.cells] at EB
 refine calls_all fun K hK=>?_
 go_enter Tryz.func79,Tryz.ntmps79
 go_wp2_with fail
 clear hW
 have ud:=(Upd.refl [] W).drew
 replace h:=h.upd0 ud
 replace IB:=IB.drew
 replace EB:=EB.drew
 have U1:Upd [] w W.drew:=u1.drew
 have da:=h.head.cell (3+ia) (head_reg h.r8 ha8)
 have db:=h.head.cell (3+ib) (head_reg h.r8 hb8)
 rw [hra] at da
 rw [hrb] at db
 refine wp_region_br (fun w'=>w'.cell? ⟨w.heap.size,1,none⟩=some (.int .i64 ia)∧w'.cell? ⟨w.heap.size,2,none⟩=some (.int .i64 ib)∧w'.cell? ⟨tb,3+ia,none⟩=some (.int .u64 word)∧w'.cell? ⟨tb,3+ib,none⟩=some (.int .u64 addr)) [0,1,2,3,4,5,6,7,8,9,10,11,12,13,14,15,16,17] (by kernel_rfl) (by kernel_rfl) ⟨IB.cell 1 rfl,IB.cell 2 rfl,da,db⟩ ?_
 clear ud u1 da db
 generalize W.drew=W1 at h IB EB U1 ⊢
 repeat
  first
   | (refine wpB_skip rfl (by kernel_rfl) (by rfl) ?_)
   | ((refine wpB_take (v:=?_) rfl rfl (by kernel_rfl) (by rfl) ?_ ?_); rotate_left 1; (· ((intro w hSw; (try dsimp only at hSw); go_simp); try with_reducible rfl)))
  try simp only [Act.put,List.setIfInBounds_toArray,List.set_cons_zero,List.set_cons_succ]
 refine wpB_end (by kernel_rfl) (NoPanic.normal ?_)
 have i0:=IB.cell 0 rfl
 obtain ⟨a,F,rv,wv,mv,ho,hL⟩:=h.att.some ha
 have d34:=h.head.cell 34 (head_cell h.r8 h.s8).2.2.2.2.2.2
 rw [ho] at d34
 simp only [AO.ptr,Option.map_some] at d34
 have HFIT:=Lib.hid (fit_of (p:=p) hat h.prog.2.1 hA)
 have HPB:=Lib.hid (show pb ∉ a :: (F ++ X.foot) from by
  have h4:=h.ap
  rw [ho] at h4
  simp only [AO.foot,List.mem_cons,not_or] at h4
  simp only [List.mem_cons,List.mem_append,not_or]
  exact ⟨h4.2.2.2.2.1,h4.2.2.2.2.2,h4.2.2.1⟩)
 have EB0:=EB
 have H:=Lib.hid h
 have HL:=Lib.hid hL
 clear h hL hrb hra hat hA
 have hcall:=get_code HL.out hM addr hx0
 obtain ⟨R0,hR0⟩:∃ R0,getS s sh addr=R0:=⟨_,rfl⟩
 rw [hR0] at hcall hK
 clear hR0
 obtain ⟨Tn,rn,sn⟩:=R0
 dsimp only at hcall hK
 have HC:=Lib.hid hcall
 clear hcall
 go_wp2_with fail
 refine HC.out.mono ?_
 rintro e W2 ⟨rfl,_,F',acc',st',rv',wv',mv',hL2,u2,hF2,honce⟩
 have V2:=H.out.call ha ho hL2 u2 hF2
 have hu:∀ g ∈ a :: (F ++ X.foot),inTh X pb tb o g:=fun g hg=>by
  subst ho
  simp only [List.mem_cons,List.mem_append] at hg
  rcases hg with k | k | k
  ·exact .inr (.inr (.inl (by simp [AO.foot,k])))
  ·exact .inr (.inr (.inl (by simp [AO.foot,k])))
  ·exact .inr (.inr (.inr k))
 have hn2:w.heap.size+1 ∉ a :: (F ++ X.foot):=fun e=>HLT.out (w.heap.size+1) (by omega) (hu _ e)
 replace EB:Blk W2 _ teNone.cells _:=EB.upd u2 hn2
 have U:Upd (tb :: (o.foot ++ X.foot)) w W2:=(U1.mono (by simp)).trans (u2.mono (fun g hg=>.inl (by
  rcases hu g hg with k | k | k | k
  ·simp [k]
  ·exact absurd (show pb ∈ a :: (F ++ X.foot) from by rw [← k]; exact hg) HPB.out
  ·simp [k]
  ·simp [k])))
 have HV2:=Lib.hid V2
 have HF2:=Lib.hid hF2
 have HO:=Lib.hid honce
 have hw1:=U1.size
 clear V2 hL2 u2 hF2 honce HC H
 have hturn:=turned_code HV2.out Tn rn (HFIT.out _ _ _)
 obtain ⟨T,hT⟩:∃ T,turnedT p (withA t sn) Tn rn=T:=⟨_,rfl⟩
 rw [hT] at hturn hK
 have HT:=Lib.hid hturn
 clear hturn hT HV2
 go_wp2_with fail
 refine HT.out.mono ?_
 rintro e W3 ⟨rfl,o',V3,u3,ho3⟩
 obtain ⟨⟨⟨ek,ea,ew,eo,ee⟩,tl⟩,t'⟩:=T
 simp only [TE.val]
 have HV:=Lib.hid V3
 have HO3:=Lib.hid ho3
 have hsz:=U1.size
 replace EB:Blk W3 _ teNone.cells _:=EB.upd u3 (by simpa using hne2)
 replace U:=U.trans (u3.mono (fun g hg=>.inl (by simp at hg; simp [hg])))
 have HNI:=Lib.hid (show ¬ inTh X pb tb o' (w.heap.size+1) from fun q=>by
  rcases q with q | q | q | q
  ·exact hne2 q
  ·exact HLT.out (w.heap.size+1) (by omega) (.inr (.inl q))
  ·rcases HO3.out with e | e
   ·subst e
    simp only [AO.foot,List.mem_cons] at q
    rcases q with q | q
    ·exact HLT.out (w.heap.size+1) (by omega) (.inr (.inr (.inl (by rw [ho]; simp [AO.foot,q]))))
    ·rcases HF2.out _ q with z | z
     ·exact HLT.out (w.heap.size+1) (by omega) (.inr (.inr (.inl (by rw [ho]; simp [AO.foot,z]))))
     ·have:=EB0.lt; omega
   ·subst e
    simp [AO.foot] at q
  ·exact HLT.out (w.heap.size+1) (by omega) (.inr (.inr (.inr q))))
 clear V3 u3 HT ho3
 have q0:=EB.cell 0 rfl
 have q1:=EB.cell 1 rfl
 have q2:=EB.cell 2 rfl
 have q3:=EB.cell 3 rfl
 have q4:=EB.cell 4 rfl
 have q5:=EB.cell 5 rfl
 have f0:=EB.free 0
 have f1:=EB.free 1
 have f2:=EB.free 2
 have f3:=EB.free 3
 have f4:=EB.free 4
 have f5:=EB.free 5
 go_wp2_with fail
 refine bodyPost_ret (ev_results2 4 5 rfl _ _ (w.heap.size+1) (⟨ek,ea,ew,eo,ee⟩:TE) (.bool tl) rfl rfl (ev_set (e0:=teNone) EB (⟨ek,ea,ew,eo,ee⟩:TE))) rfl (hK _ _ ⟨rfl,_,_,_,HV.out.updn (ev_upd (S:=[w.heap.size+1]) (Upd.refl _ _) (.inl (by simp)) _ _ _ _ _ _) ?_,ev_upd U (.inr (by omega)) _ _ _ _ _ _,?_,HO.out⟩)
 ·exact fun g hg e=>by simp at hg; subst hg; exact HNI.out e
 ·intro g hg
  rcases HO3.out with e | e
  ·subst e
   simp only [AO.foot,List.mem_cons] at hg
   rcases hg with q | q
   ·exact .inl (by rw [ho]; simp [AO.foot,q])
   ·rcases HF2.out _ q with z | z
    ·exact .inl (by rw [ho]; simp [AO.foot,z])
    ·exact .inr (by omega)
  ·subst e
   simp [AO.foot] at hg
set_option maxHeartbeats 1000000 in
theorem shared_put (h:TV w X sh acc st p pb cap tb t o) (ia ib:Nat) (ha8:ia<8) (hb8:ib<8) (ic xn addr word:Int) (hrb:t.regs.getD ib 0=addr) (hra:t.regs.getD ia 0=word) (hat:0≤t.at_∧t.at_<p.length) (hA:0≤(insAt p t.at_).a∧(insAt p t.at_).a<8) (hx0:0≤addr∧addr<18446744073709551616) (hv0:0≤word∧word<18446744073709551616) {s:AS} (ha:t.att=some s) (hM:May s):Calls Tryz.prog 79 #[.pointer (some ⟨tb,0,none⟩),(⟨14,ia,ib,ic,xn⟩:Ins).val] w (TOut w X acc st p pb cap tb o (sharedT p t sh ⟨14,ia,ib,ic,xn⟩)):=by
 have hS:sharedT p t sh ⟨14,ia,ib,ic,xn⟩=((turnedT p (withA t (putS s sh addr word).2.2) (putS s sh addr word).1 (putS s sh addr word).2.1).1,(turnedT p (withA t (putS s sh addr word).2.2) (putS s sh addr word).1 (putS s sh addr word).2.1).2,sh):=by
  have:attS t=s:=by unfold attS; rw [ha]; rfl
  rw [← hrb,← hra,← this]; rfl
 rw [hS]
 clear hS
 simp only [Ins.val]
 obtain ⟨W,hW⟩:∃ W,(w.alloc (.cells #[.int .i64 14,.int .i64 ia,.int .i64 ib,.int .i64 ic,.int .u64 xn] 50)).alloc (.cells #[.int .i64 0,.int .i64 0,.int .u64 0,.int .u64 0,.bool false,.int .i64 0] 86)=W:=⟨_,rfl⟩
 have u1:Upd [] w W:=by rw [← hW]; exact ((Upd.refl [] _).alloc _).alloc _
 have IB:Blk W w.heap.size [.int .i64 14,.int .i64 ia,.int .i64 ib,.int .i64 ic,.int .u64 xn] 50:=by rw [← hW]; exact (Blk.new w _ _).alloc _
 have EB:Blk W (w.heap.size+1) teNone.cells 86:=by
  have:=Blk.new (w.alloc (.cells #[.int .i64 14,.int .i64 ia,.int .i64 ib,.int .i64 ic,.int .u64 xn] 50)) teNone.cells 86
  rw [← hW]
  rw [World.size_alloc] at this
  exact this
 have hlt:=h.head.lt
 have HLT:=Lib.hid (show ∀ g,w.heap.size≤g → ¬ inTh X pb tb o g from fun g hg e=>by have:=h.lt e; omega)
 have hne1:w.heap.size≠tb:=by omega
 have hne2:w.heap.size+1≠tb:=by omega
 replace h:=h.upd0 u1
 have hA8i:(ia:Int)<8:=by omega
 have hA0i:(0:Int)≤ia:=by omega
 have hB8i:(ib:Int)<8:=by omega
 have hB0i:(0:Int)≤ib:=by omega
 simp only [teNone,TE.cells] at EB
 refine calls_all fun K hK=>?_
 go_enter Tryz.func79,Tryz.ntmps79
 go_wp2_with fail
 clear hW
 have ud:=(Upd.refl [] W).drew
 replace h:=h.upd0 ud
 replace IB:=IB.drew
 replace EB:=EB.drew
 have U1:Upd [] w W.drew:=u1.drew
 have da:=h.head.cell (3+ia) (head_reg h.r8 ha8)
 have db:=h.head.cell (3+ib) (head_reg h.r8 hb8)
 rw [hra] at da
 rw [hrb] at db
 refine wp_region_br (fun w'=>w'.cell? ⟨w.heap.size,1,none⟩=some (.int .i64 ia)∧w'.cell? ⟨w.heap.size,2,none⟩=some (.int .i64 ib)∧w'.cell? ⟨tb,3+ia,none⟩=some (.int .u64 word)∧w'.cell? ⟨tb,3+ib,none⟩=some (.int .u64 addr)) [0,1,2,3,4,5,6,7,8,9,10,11,12,13,14,15,16,17] (by kernel_rfl) (by kernel_rfl) ⟨IB.cell 1 rfl,IB.cell 2 rfl,da,db⟩ ?_
 clear ud u1 da db
 generalize W.drew=W1 at h IB EB U1 ⊢
 repeat
  first
   | (refine wpB_skip rfl (by kernel_rfl) (by rfl) ?_)
   | ((refine wpB_take (v:=?_) rfl rfl (by kernel_rfl) (by rfl) ?_ ?_); rotate_left 1; (· ((intro w hSw; (try dsimp only at hSw); go_simp); try with_reducible rfl)))
  try simp only [Act.put,List.setIfInBounds_toArray,List.set_cons_zero,List.set_cons_succ]
 refine wpB_end (by kernel_rfl) (NoPanic.normal ?_)
 have i0:=IB.cell 0 rfl
 obtain ⟨a,F,rv,wv,mv,ho,hL⟩:=h.att.some ha
 have d34:=h.head.cell 34 (head_cell h.r8 h.s8).2.2.2.2.2.2
 rw [ho] at d34
 simp only [AO.ptr,Option.map_some] at d34
 have HFIT:=Lib.hid (fit_of (p:=p) hat h.prog.2.1 hA)
 have HPB:=Lib.hid (show pb ∉ a :: (F ++ X.foot) from by
  have h4:=h.ap
  rw [ho] at h4
  simp only [AO.foot,List.mem_cons,not_or] at h4
  simp only [List.mem_cons,List.mem_append,not_or]
  exact ⟨h4.2.2.2.2.1,h4.2.2.2.2.2,h4.2.2.1⟩)
 have EB0:=EB
 have H:=Lib.hid h
 have HL:=Lib.hid hL
 clear h hL hrb hra hat hA
 have hcall:=put_code HL.out hM addr word hx0 hv0
 obtain ⟨R0,hR0⟩:∃ R0,putS s sh addr word=R0:=⟨_,rfl⟩
 rw [hR0] at hcall hK
 clear hR0
 obtain ⟨Tn,rn,sn⟩:=R0
 dsimp only at hcall hK
 have HC:=Lib.hid hcall
 clear hcall
 go_wp2_with fail
 refine HC.out.mono ?_
 rintro e W2 ⟨rfl,_,F',acc',st',rv',wv',mv',hL2,u2,hF2,honce⟩
 have V2:=H.out.call ha ho hL2 u2 hF2
 have hu:∀ g ∈ a :: (F ++ X.foot),inTh X pb tb o g:=fun g hg=>by
  subst ho
  simp only [List.mem_cons,List.mem_append] at hg
  rcases hg with k | k | k
  ·exact .inr (.inr (.inl (by simp [AO.foot,k])))
  ·exact .inr (.inr (.inl (by simp [AO.foot,k])))
  ·exact .inr (.inr (.inr k))
 have hn2:w.heap.size+1 ∉ a :: (F ++ X.foot):=fun e=>HLT.out (w.heap.size+1) (by omega) (hu _ e)
 replace EB:Blk W2 _ teNone.cells _:=EB.upd u2 hn2
 have U:Upd (tb :: (o.foot ++ X.foot)) w W2:=(U1.mono (by simp)).trans (u2.mono (fun g hg=>.inl (by
  rcases hu g hg with k | k | k | k
  ·simp [k]
  ·exact absurd (show pb ∈ a :: (F ++ X.foot) from by rw [← k]; exact hg) HPB.out
  ·simp [k]
  ·simp [k])))
 have HV2:=Lib.hid V2
 have HF2:=Lib.hid hF2
 have HO:=Lib.hid honce
 have hw1:=U1.size
 clear V2 hL2 u2 hF2 honce HC H
 have hturn:=turned_code HV2.out Tn rn (HFIT.out _ _ _)
 obtain ⟨T,hT⟩:∃ T,turnedT p (withA t sn) Tn rn=T:=⟨_,rfl⟩
 rw [hT] at hturn hK
 have HT:=Lib.hid hturn
 clear hturn hT HV2
 go_wp2_with fail
 refine HT.out.mono ?_
 rintro e W3 ⟨rfl,o',V3,u3,ho3⟩
 obtain ⟨⟨⟨ek,ea,ew,eo,ee⟩,tl⟩,t'⟩:=T
 simp only [TE.val]
 have HV:=Lib.hid V3
 have HO3:=Lib.hid ho3
 have hsz:=U1.size
 replace EB:Blk W3 _ teNone.cells _:=EB.upd u3 (by simpa using hne2)
 replace U:=U.trans (u3.mono (fun g hg=>.inl (by simp at hg; simp [hg])))
 have HNI:=Lib.hid (show ¬ inTh X pb tb o' (w.heap.size+1) from fun q=>by
  rcases q with q | q | q | q
  ·exact hne2 q
  ·exact HLT.out (w.heap.size+1) (by omega) (.inr (.inl q))
  ·rcases HO3.out with e | e
   ·subst e
    simp only [AO.foot,List.mem_cons] at q
    rcases q with q | q
    ·exact HLT.out (w.heap.size+1) (by omega) (.inr (.inr (.inl (by rw [ho]; simp [AO.foot,q]))))
    ·rcases HF2.out _ q with z | z
     ·exact HLT.out (w.heap.size+1) (by omega) (.inr (.inr (.inl (by rw [ho]; simp [AO.foot,z]))))
     ·have:=EB0.lt; omega
   ·subst e
    simp [AO.foot] at q
  ·exact HLT.out (w.heap.size+1) (by omega) (.inr (.inr (.inr q))))
 clear V3 u3 HT ho3
 have q0:=EB.cell 0 rfl
 have q1:=EB.cell 1 rfl
 have q2:=EB.cell 2 rfl
 have q3:=EB.cell 3 rfl
 have q4:=EB.cell 4 rfl
 have q5:=EB.cell 5 rfl
 have f0:=EB.free 0
 have f1:=EB.free 1
 have f2:=EB.free 2
 have f3:=EB.free 3
 have f4:=EB.free 4
 have f5:=EB.free 5
 go_wp2_with fail
 refine bodyPost_ret (ev_results2 4 5 rfl _ _ (w.heap.size+1) (⟨ek,ea,ew,eo,ee⟩:TE) (.bool tl) rfl rfl (ev_set (e0:=teNone) EB (⟨ek,ea,ew,eo,ee⟩:TE))) rfl (hK _ _ ⟨rfl,_,_,_,HV.out.updn (ev_upd (S:=[w.heap.size+1]) (Upd.refl _ _) (.inl (by simp)) _ _ _ _ _ _) ?_,ev_upd U (.inr (by omega)) _ _ _ _ _ _,?_,HO.out⟩)
 ·exact fun g hg e=>by simp at hg; subst hg; exact HNI.out e
 ·intro g hg
  rcases HO3.out with e | e
  ·subst e
   simp only [AO.foot,List.mem_cons] at hg
   rcases hg with q | q
   ·exact .inl (by rw [ho]; simp [AO.foot,q])
   ·rcases HF2.out _ q with z | z
    ·exact .inl (by rw [ho]; simp [AO.foot,z])
    ·exact .inr (by omega)
  ·subst e
   simp [AO.foot] at hg
set_option maxHeartbeats 1000000 in
theorem shared_end (h:TV w X sh acc st p pb cap tb t o) (ia ib:Nat) (ha8:ia<8) (hb8:ib<8) (ic xn addr word:Int) (hrb:t.regs.getD ib 0=addr) (hra:t.regs.getD ia 0=word) (hat:0≤t.at_∧t.at_<p.length) (hA:0≤(insAt p t.at_).a∧(insAt p t.at_).a<8) {s:AS} (ha:t.att=some s) (hM:May s):Calls Tryz.prog 79 #[.pointer (some ⟨tb,0,none⟩),(⟨15,ia,ib,ic,xn⟩:Ins).val] w (TOut w X acc st p pb cap tb o (sharedT p t sh ⟨15,ia,ib,ic,xn⟩)):=by
 have hS:sharedT p t sh ⟨15,ia,ib,ic,xn⟩=((turnedT p (withA t (endS s sh).2.2.1) (endS s sh).1 (endS s sh).2.1).1,(turnedT p (withA t (endS s sh).2.2.1) (endS s sh).1 (endS s sh).2.1).2,(endS s sh).2.2.2):=by
  have:attS t=s:=by unfold attS; rw [ha]; rfl
  rw [← this]; rfl
 rw [hS]
 clear hS
 simp only [Ins.val]
 obtain ⟨W,hW⟩:∃ W,(w.alloc (.cells #[.int .i64 15,.int .i64 ia,.int .i64 ib,.int .i64 ic,.int .u64 xn] 50)).alloc (.cells #[.int .i64 0,.int .i64 0,.int .u64 0,.int .u64 0,.bool false,.int .i64 0] 86)=W:=⟨_,rfl⟩
 have u1:Upd [] w W:=by rw [← hW]; exact ((Upd.refl [] _).alloc _).alloc _
 have IB:Blk W w.heap.size [.int .i64 15,.int .i64 ia,.int .i64 ib,.int .i64 ic,.int .u64 xn] 50:=by rw [← hW]; exact (Blk.new w _ _).alloc _
 have EB:Blk W (w.heap.size+1) teNone.cells 86:=by
  have:=Blk.new (w.alloc (.cells #[.int .i64 15,.int .i64 ia,.int .i64 ib,.int .i64 ic,.int .u64 xn] 50)) teNone.cells 86
  rw [← hW]
  rw [World.size_alloc] at this
  exact this
 have hlt:=h.head.lt
 have HLT:=Lib.hid (show ∀ g,w.heap.size≤g → ¬ inTh X pb tb o g from fun g hg e=>by have:=h.lt e; omega)
 have hne1:w.heap.size≠tb:=by omega
 have hne2:w.heap.size+1≠tb:=by omega
 replace h:=h.upd0 u1
 have hA8i:(ia:Int)<8:=by omega
 have hA0i:(0:Int)≤ia:=by omega
 have hB8i:(ib:Int)<8:=by omega
 have hB0i:(0:Int)≤ib:=by omega
 simp only [teNone,TE.cells] at EB
 refine calls_all fun K hK=>?_
 go_enter Tryz.func79,Tryz.ntmps79
 go_wp2_with fail
 clear hW
 have ud:=(Upd.refl [] W).drew
 replace h:=h.upd0 ud
 replace IB:=IB.drew
 replace EB:=EB.drew
 have U1:Upd [] w W.drew:=u1.drew
 have da:=h.head.cell (3+ia) (head_reg h.r8 ha8)
 have db:=h.head.cell (3+ib) (head_reg h.r8 hb8)
 rw [hra] at da
 rw [hrb] at db
 refine wp_region_br (fun w'=>w'.cell? ⟨w.heap.size,1,none⟩=some (.int .i64 ia)∧w'.cell? ⟨w.heap.size,2,none⟩=some (.int .i64 ib)∧w'.cell? ⟨tb,3+ia,none⟩=some (.int .u64 word)∧w'.cell? ⟨tb,3+ib,none⟩=some (.int .u64 addr)) [0,1,2,3,4,5,6,7,8,9,10,11,12,13,14,15,16,17] (by kernel_rfl) (by kernel_rfl) ⟨IB.cell 1 rfl,IB.cell 2 rfl,da,db⟩ ?_
 clear ud u1 da db
 generalize W.drew=W1 at h IB EB U1 ⊢
 repeat
  first
   | (refine wpB_skip rfl (by kernel_rfl) (by rfl) ?_)
   | ((refine wpB_take (v:=?_) rfl rfl (by kernel_rfl) (by rfl) ?_ ?_); rotate_left 1; (· ((intro w hSw; (try dsimp only at hSw); go_simp); try with_reducible rfl)))
  try simp only [Act.put,List.setIfInBounds_toArray,List.set_cons_zero,List.set_cons_succ]
 refine wpB_end (by kernel_rfl) (NoPanic.normal ?_)
 have i0:=IB.cell 0 rfl
 obtain ⟨a,F,rv,wv,mv,ho,hL⟩:=h.att.some ha
 have d34:=h.head.cell 34 (head_cell h.r8 h.s8).2.2.2.2.2.2
 rw [ho] at d34
 simp only [AO.ptr,Option.map_some] at d34
 have HFIT:=Lib.hid (fit_of (p:=p) hat h.prog.2.1 hA)
 have HPB:=Lib.hid (show pb ∉ a :: (F ++ X.foot) from by
  have h4:=h.ap
  rw [ho] at h4
  simp only [AO.foot,List.mem_cons,not_or] at h4
  simp only [List.mem_cons,List.mem_append,not_or]
  exact ⟨h4.2.2.2.2.1,h4.2.2.2.2.2,h4.2.2.1⟩)
 have EB0:=EB
 have H:=Lib.hid h
 have HL:=Lib.hid hL
 clear h hL hrb hra hat hA
 have hcall:=end_code HL.out hM
 obtain ⟨R0,hR0⟩:∃ R0,endS s sh=R0:=⟨_,rfl⟩
 rw [hR0] at hcall hK
 clear hR0
 obtain ⟨Tn,rn,sn,shn⟩:=R0
 dsimp only at hcall hK
 have HC:=Lib.hid hcall
 clear hcall
 go_wp2_with fail
 refine HC.out.mono ?_
 rintro e W2 ⟨rfl,_,F',acc',st',rv',wv',mv',hL2,u2,hF2,honce⟩
 have V2:=H.out.call ha ho hL2 u2 hF2
 have hu:∀ g ∈ a :: (F ++ X.foot),inTh X pb tb o g:=fun g hg=>by
  subst ho
  simp only [List.mem_cons,List.mem_append] at hg
  rcases hg with k | k | k
  ·exact .inr (.inr (.inl (by simp [AO.foot,k])))
  ·exact .inr (.inr (.inl (by simp [AO.foot,k])))
  ·exact .inr (.inr (.inr k))
 have hn2:w.heap.size+1 ∉ a :: (F ++ X.foot):=fun e=>HLT.out (w.heap.size+1) (by omega) (hu _ e)
 replace EB:Blk W2 _ teNone.cells _:=EB.upd u2 hn2
 have U:Upd (tb :: (o.foot ++ X.foot)) w W2:=(U1.mono (by simp)).trans (u2.mono (fun g hg=>.inl (by
  rcases hu g hg with k | k | k | k
  ·simp [k]
  ·exact absurd (show pb ∈ a :: (F ++ X.foot) from by rw [← k]; exact hg) HPB.out
  ·simp [k]
  ·simp [k])))
 have HV2:=Lib.hid V2
 have HF2:=Lib.hid hF2
 have HO:=Lib.hid honce
 have hw1:=U1.size
 clear V2 hL2 u2 hF2 honce HC H
 have hturn:=turned_code HV2.out Tn rn (HFIT.out _ _ _)
 obtain ⟨T,hT⟩:∃ T,turnedT p (withA t sn) Tn rn=T:=⟨_,rfl⟩
 rw [hT] at hturn hK
 have HT:=Lib.hid hturn
 clear hturn hT HV2
 go_wp2_with fail
 refine HT.out.mono ?_
 rintro e W3 ⟨rfl,o',V3,u3,ho3⟩
 obtain ⟨⟨⟨ek,ea,ew,eo,ee⟩,tl⟩,t'⟩:=T
 simp only [TE.val]
 have HV:=Lib.hid V3
 have HO3:=Lib.hid ho3
 have hsz:=U1.size
 replace EB:Blk W3 _ teNone.cells _:=EB.upd u3 (by simpa using hne2)
 replace U:=U.trans (u3.mono (fun g hg=>.inl (by simp at hg; simp [hg])))
 have HNI:=Lib.hid (show ¬ inTh X pb tb o' (w.heap.size+1) from fun q=>by
  rcases q with q | q | q | q
  ·exact hne2 q
  ·exact HLT.out (w.heap.size+1) (by omega) (.inr (.inl q))
  ·rcases HO3.out with e | e
   ·subst e
    simp only [AO.foot,List.mem_cons] at q
    rcases q with q | q
    ·exact HLT.out (w.heap.size+1) (by omega) (.inr (.inr (.inl (by rw [ho]; simp [AO.foot,q]))))
    ·rcases HF2.out _ q with z | z
     ·exact HLT.out (w.heap.size+1) (by omega) (.inr (.inr (.inl (by rw [ho]; simp [AO.foot,z]))))
     ·have:=EB0.lt; omega
   ·subst e
    simp [AO.foot] at q
  ·exact HLT.out (w.heap.size+1) (by omega) (.inr (.inr (.inr q))))
 clear V3 u3 HT ho3
 have q0:=EB.cell 0 rfl
 have q1:=EB.cell 1 rfl
 have q2:=EB.cell 2 rfl
 have q3:=EB.cell 3 rfl
 have q4:=EB.cell 4 rfl
 have q5:=EB.cell 5 rfl
 have f0:=EB.free 0
 have f1:=EB.free 1
 have f2:=EB.free 2
 have f3:=EB.free 3
 have f4:=EB.free 4
 have f5:=EB.free 5
 go_wp2_with fail
 refine bodyPost_ret (ev_results2 4 5 rfl _ _ (w.heap.size+1) (⟨ek,ea,ew,eo,ee⟩:TE) (.bool tl) rfl rfl (ev_set (e0:=teNone) EB (⟨ek,ea,ew,eo,ee⟩:TE))) rfl (hK _ _ ⟨rfl,_,_,_,HV.out.updn (ev_upd (S:=[w.heap.size+1]) (Upd.refl _ _) (.inl (by simp)) _ _ _ _ _ _) ?_,ev_upd U (.inr (by omega)) _ _ _ _ _ _,?_,HO.out⟩)
 ·exact fun g hg e=>by simp at hg; subst hg; exact HNI.out e
 ·intro g hg
  rcases HO3.out with e | e
  ·subst e
   simp only [AO.foot,List.mem_cons] at hg
   rcases hg with q | q
   ·exact .inl (by rw [ho]; simp [AO.foot,q])
   ·rcases HF2.out _ q with z | z
    ·exact .inl (by rw [ho]; simp [AO.foot,z])
    ·exact .inr (by omega)
  ·subst e
   simp [AO.foot] at hg
end
end Go.Proofs.YtehopaabfoopeaaGreat
