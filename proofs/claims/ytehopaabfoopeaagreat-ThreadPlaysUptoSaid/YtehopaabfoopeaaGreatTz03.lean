/- An attempt's steps, the fourth part: check, store. No conditions but what the phase says. Plain laws of a redo log: what the stores leave, what is looked up. No conditions. The map of an attempt's places; made, Begin. No conditions. -/
import Derived.Test.YtehopaabfoopeaaGreatTz02
import Derived.Test.YtehopaabfoopeaaGreatTz00
set_option linter.unusedSimpArgs false
set_option linter.unusedVariables false
set_option maxRecDepth 100000
namespace Go.Proofs.YtehopaabfoopeaaGreat
open Go.RowKit
open Go.Maps
section
variable {w:World} {X:SX} {sh:Sh} {acc st:Int} {a:Nat} {s:AS} {F:List Nat} {rv wv mv:Value}
set_option maxHeartbeats 1000000 in
theorem check_code (hL:Live w X sh acc st a s F rv wv mv) (hp:s.phase≠10) (j:Nat) (hj:Hid (s.at_=j)) (x v:Int) (hx:s.reads[j]? = some (x,v)) (hl:s.reads.length≤1024) :
  Calls Tryz.prog 98 #[.pointer (some ⟨a,0,none⟩)] w (StepOk w X acc st a F (checkS s sh).1 (checkS s sh).2 sh):=by
 have la:=hL.lt
 have no:=hL.out
 simp only [SX.foot,List.mem_cons,List.not_mem_nil,or_false,not_or] at no
 have lx:=hL.sh.lt
 have l1:=lx X.ra (by simp [SX.foot])
 have l2:=lx X.rb (by simp [SX.foot])
 have l3:=lx X.ca (by simp [SX.foot])
 have l4:=lx X.cr (by simp [SX.foot])
 have l5:=lx X.cb (by simp [SX.foot])
 have hjl:j<s.reads.length:=by
  by_cases h:j<s.reads.length
  ·exact h
  ·rw [List.getElem?_eq_none (by omega)] at hx; cases hx
 have hjl':(j:Int)<(s.reads.length:Int):=by omega
 have hwx:=hL.wide.reads _ (List.mem_of_getElem? hx)
 obtain ⟨g,cap,sp,rfl,hcap,GB,hgF⟩:=hL.att.rd.open (by intro e; rw [e] at hjl; simp at hjl)
 obtain ⟨hx0',hx1'⟩:=pcells_get s.reads j x v hx
 have hx0:(pcells s.reads ++ sp)[j*2]? = some (.int .u64 x):=by rw [List.getElem?_append_left (by rw [pcells_len]; omega)]; exact hx0'
 have hx1:(pcells s.reads ++ sp)[j*2+1]? = some (.int .u64 v):=by rw [List.getElem?_append_left (by rw [pcells_len]; omega)]; exact hx1'
 clear hx0' hx1'
 have hga:g<w.heap.size:=GB.lt
 by_cases hit:x<sh.row.length∧wd sh.row x.toNat=v
 ·have HV:Hid (rLoad sh.row x=(v,0)):=Lib.hid (by unfold rLoad; rw [if_pos hit.1,hit.2])
  have hvv:(v != v)=false:=by simp
  have HE:Hid (checkS s sh=(going,if (j:Int)+1=(s.reads.length:Int) then { s with at_:=0,phase:=6 } else { s with at_:=(j:Int)+1 })):=Lib.hid (by
   unfold checkS
   rw [hj.out,Int.toNat_natCast,hx]
   simp only
   rw [if_pos hit])
  clear hit
  refine calls_all fun K hK=>?_
  go_enter Tryz.func98,Tryz.ntmps98
  go_wp2_with fail
  obtain ⟨W,hW⟩:∃ W,W=w.alloc (.cells turn0.toArray 140):=⟨_,rfl⟩
  have RB:Blk W w.heap.size turn0 140:=by rw [hW]; exact Blk.new w _ _
  have HU:Upd [] w W:=by rw [hW]; exact (Upd.refl _ _).alloc _
  have hWs:W.heap.size=w.heap.size+1:=by rw [hW]; exact World.size_alloc _ _
  simp only [turn0,trnNone,evNone,Trn.cells] at hW
  rw [← hW]
  clear hW
  have hL1:=hL.upd0 HU
  have b3:=hL1.att.head.cell 3 rfl
  have b10:W.cell? ⟨a,10,none⟩=some (.int .i64 (j:Int)):=by rw [← hj.out]; exact hL1.att.head.cell 10 rfl
  have GB1:=GB.upd HU (by simp)
  have e0:=GB1.cell (j*2) hx0
  have e1:=GB1.cell (j*2+1) hx1
  refine wp_region_eff (fun w'=>w'.cell? ⟨a,3,none⟩=some (.slice (some ⟨g,0,none⟩) s.reads.length cap)∧w'.cell? ⟨a,10,none⟩=some (.int .i64 (j:Int))∧w'.cell? ⟨g,j*2,none⟩=some (.int .u64 x)∧w'.cell? ⟨g,j*2+1,none⟩=some (.int .u64 v)) 14 (by kernel_rfl) (by kernel_rfl) ⟨b3,b10,e0,e1⟩ ?_
  repeat
   refine wpE_take (v:=?_) (by decide) rfl (by rfl) ?_ ?_
   rotate_left 1
   ·((intro w hSw; (try dsimp only at hSw); go_simp); try with_reducible rfl)
   try simp only [Act.put,List.setIfInBounds_toArray,List.set_cons_zero,List.set_cons_succ]
  refine wpE_eff (by decide) rfl (by kernel_rfl) (by rfl) (fun K2 hK2=>?_)
  go_simp
  obtain ⟨W2,hW2⟩:∃ W2,W2=(W.alloc (.cells #[.int .u64 0,.int .u64 0] 71)).drew:=⟨_,rfl⟩
  have CB:Blk W2 (w.heap.size+1) [.int .u64 0,.int .u64 0] 71:=by rw [hW2,← hWs]; exact (Blk.new W _ _).drew
  have u2:Upd [] W W2:=by rw [hW2]; exact ((Upd.refl [] _).alloc _).drew
  rw [← hW2]
  clear hW2
  have GB2:=GB1.upd u2 (by simp)
  have hL3:=hL1.upd0 u2
  have b10':W2.cell? ⟨a,10,none⟩=some (.int .i64 (j:Int)):=by rw [← hj.out]; exact hL3.att.head.cell 10 rfl
  refine hK2.out _ _ ⟨hL3.att.head.cell 3 rfl,b10',GB2.cell (j*2) hx0,GB2.cell (j*2+1) hx1⟩ ?_
  clear hK2 K2
  repeat
   refine wpE_take (v:=?_) (by decide) rfl (by rfl) ?_ ?_
   rotate_left 1
   ·((intro w hSw; (try dsimp only at hSw); go_simp); try with_reducible rfl)
   try simp only [Act.put,List.setIfInBounds_toArray,List.set_cons_zero,List.set_cons_succ]
  have k0:=CB.cell 0 rfl
  have k1:=CB.cell 1 rfl
  have j0:=CB.free 0
  have j1:=CB.free 1
  refine wpE_eff (by decide) rfl (by kernel_rfl) (by rfl) (fun K2 hK2=>?_)
  go_simp
  have u3:Upd [w.heap.size+1] W2 ((W2.setCell ⟨w.heap.size+1,0,none⟩ (.int .u64 x)).setCell ⟨w.heap.size+1,1,none⟩ (.int .u64 v)):=((Upd.refl _ _).setCell (.inl (by simp)) _).setCell (.inl (by simp)) _
  have CB2:=(CB.set 0 (.int .u64 x)).set 1 (.int .u64 v)
  have hL4:=hL1.upd1 (b:=w.heap.size+1) ((u2.mono (by simp)).trans u3) (by omega)
  have GB4:=GB2.upd u3 (by simp; omega)
  have b10:((W2.setCell ⟨w.heap.size+1,0,none⟩ (.int .u64 x)).setCell ⟨w.heap.size+1,1,none⟩ (.int .u64 v)).cell? ⟨a,10,none⟩=some (.int .i64 (j:Int)):=by rw [← hj.out]; exact hL4.att.head.cell 10 rfl
  refine hK2.out _ _ ⟨hL4.att.head.cell 3 rfl,b10,GB4.cell (j*2) hx0,GB4.cell (j*2+1) hx1⟩ ?_
  refine wpE_end (NoPanic.normal ?_)
  have RB4:=(RB.upd u2 (by simp)).upd u3 (by simp)
  have U4:Upd [] w _:=(HU.trans u2).tr u3 (fun _ h=>.inl h) (fun x hx=>.inr (by simp at hx; omega))
  clear hK2 K2 k0 k1 j0 j1 b3 b10' CB hL3 u2 u3 RB GB1 GB2 e0 e1 hL1 HU
  generalize (W2.setCell ⟨w.heap.size+1,0,none⟩ (.int .u64 x)).setCell ⟨w.heap.size+1,1,none⟩ (.int .u64 v)=W3 at CB2 hL4 RB4 U4 GB4 b10 ⊢
  have a0:=hL4.att.head.cell 0 rfl
  have c0:=CB2.cell 0 rfl
  have c1:=CB2.cell 1 rfl
  go_wp2_with fail
  refine wp_region_eff (fun w'=>w'.cell? ⟨a,0,none⟩=some (.pointer (some ⟨X.ra,0,none⟩))∧w'.cell? ⟨w.heap.size+1,0,none⟩=some (.int .u64 x)) 12 (by kernel_rfl) (by kernel_rfl) ⟨a0,c0⟩ ?_
  repeat
   refine wpE_take (v:=?_) (by decide) rfl (by rfl) ?_ ?_
   rotate_left 1
   ·((intro w hSw; (try dsimp only at hSw); go_simp); try with_reducible rfl)
   try simp only [Act.put,List.setIfInBounds_toArray,List.set_cons_zero,List.set_cons_succ]
  refine wpE_eff (by decide) rfl (by kernel_rfl) (by rfl) (fun K2 hK2=>?_)
  go_simp
  refine (load_is (hL4.sh.row.upd (Upd.refl [] _).drew (by simp) (by simp)) x v 0 _ hwx.1.1 HV.out rfl).mono ?_
  rintro e w1 ⟨rfl,r1,u1⟩
  have hA1:=(hL4.att.upd (Upd.refl [] _).drew (by simp) (by simp)).upd u1 (by simp; omega) (fun g hg=>by have:=(hL.sep g hg).2.1; simp [SX.foot] at this; simp; omega)
  have CB5:=CB2.drew.upd u1 (by simp; omega)
  refine hK2.out _ _ ⟨hA1.head.cell 0 rfl,CB5.cell 0 rfl⟩ ?_
  clear hK2 K2
  repeat
   refine wpE_take (v:=?_) (by decide) rfl (by rfl) ?_ ?_
   rotate_left 1
   ·((intro w hSw; (try dsimp only at hSw); go_simp); try with_reducible rfl)
   try simp only [Act.put,List.setIfInBounds_toArray,List.set_cons_zero,List.set_cons_succ]
  refine wpE_end (NoPanic.normal ?_)
  have U5:Upd [a,X.ra,X.rb] w w1:=(U4.mono (by simp)).trans ((Upd.refl [] _).drew.mono (by simp) |>.trans (u1.mono (by simp)))
  have hL5:=hL.row U5 hA1 r1 hL.sh.wide.row hL.wide
  have RB5:=RB4.drew.upd u1 (by simp; omega)
  clear a0 c0 c1 u1 r1 hA1 CB2 hL4 RB4 U4
  have c1:=CB5.cell 1 rfl
  have d10:w1.cell? ⟨a,10,none⟩=some (.int .i64 (j:Int)):=by rw [← hj.out]; exact hL5.att.head.cell 10 rfl
  have f10:=hL5.att.head.free 10
  go_wp2_with fail
  have uw:Upd [a] w1 (w1.setCell ⟨a,10,none⟩ (.int .i64 ((j:Int)+1))):=(Upd.refl _ _).setCell (.inl (by simp)) _
  have hL6:=hL5.phase (hL5.att.setAt ((j:Int)+1)) uw ⟨hL.wide.snap,hL.wide.reads,hL.wide.writes,hL.wide.addr,hL.wide.word,hL.wide.found⟩
  have RB6:=RB5.upd uw (by simp; omega)
  have U6:Upd (a :: (F ++ X.foot)) w _:=(U5.mono (fun x hx=>.inl (foot_row (F:=F) x hx))).trans (uw.mono (by simp))
  clear uw d10 f10 hL5 RB5 U5 CB5 c1
  generalize w1.setCell ⟨a,10,none⟩ (.int .i64 ((j:Int)+1))=W7 at hL6 RB6 U6 ⊢
  have b10:=hL6.att.head.cell 10 rfl
  have b3:=hL6.att.head.cell 3 rfl
  refine wp_region_eff (fun w'=>w'.cell? ⟨a,10,none⟩=some (.int .i64 ((j:Int)+1))∧w'.cell? ⟨a,3,none⟩=some (.slice (some ⟨g,0,none⟩) s.reads.length cap)) 12 (by kernel_rfl) (by kernel_rfl) ⟨b10,b3⟩ ?_
  repeat
   refine wpE_take (v:=?_) (by decide) rfl (by rfl) ?_ ?_
   rotate_left 1
   ·((intro w hSw; (try dsimp only at hSw); go_simp); try with_reducible rfl)
   try simp only [Act.put,List.setIfInBounds_toArray,List.set_cons_zero,List.set_cons_succ]
  refine wpE_end (NoPanic.normal ?_)
  have hL7:=hL6.upd0 (Upd.refl [] _).drew
  have RB7:=RB6.drew
  have U7:=U6.trans ((Upd.refl [] _).drew.mono (T:=a :: (F ++ X.foot)) (by simp))
  clear b10 b3 hL6 RB6 U6
  by_cases hend:(j:Int)+1=(s.reads.length:Int)
  ·have hq:((j:Int)+1 == (s.reads.length:Int))=true:=by simpa using hend
   rw [if_pos hend] at HE
   generalize W7.drew=W8 at hL7 RB7 U7 ⊢
   have d10:=hL7.att.head.cell 10 rfl
   have f10:=hL7.att.head.free 10
   have d5:=hL7.att.head.cell 5 rfl
   have f5:=hL7.att.head.free 5
   clear hend
   have uw:Upd [a] W8 ((W8.setCell ⟨a,10,none⟩ (.int .i64 0)).setCell ⟨a,5,none⟩ (.int .i64 6)):=((Upd.refl _ _).setCell (.inl (by simp)) _).setCell (.inl (by simp)) _
   have HL8:=hL7.phase ((hL7.att.setAt 0).setPhase 6 hp) uw ⟨hL.wide.snap,hL.wide.reads,hL.wide.writes,hL.wide.addr,hL.wide.word,hL.wide.found⟩
   have RB8:=RB7.upd uw (by simp; omega)
   have U8:=U7.trans (uw.mono (T:=a :: (F ++ X.foot)) (by simp))
   rw [HE.out] at hK
   clear uw HE
   go_wp2_with fail
   refine (going_code _).mono ?_
   rintro e w2 ⟨rfl,u2⟩
   simp only [Trn.val,going,evNone]
   have HL2:=(HL8).upd0 u2
   have RB2:=(RB8).upd u2 (by simp)
   have U2:=(U8).trans (u2.mono (by simp))
   have q0:=(RB2).cell 0 rfl
   have q1:=(RB2).cell 1 rfl
   have q2:=(RB2).cell 2 rfl
   have q3:=(RB2).cell 3 rfl
   have q4:=(RB2).cell 4 rfl
   have q5:=(RB2).cell 5 rfl
   have q6:=(RB2).cell 6 rfl
   have q7:=(RB2).cell 7 rfl
   have g0:=(RB2).free 0
   have g1:=(RB2).free 1
   have g2:=(RB2).free 2
   have g3:=(RB2).free 3
   have g4:=(RB2).free 4
   have g5:=(RB2).free 5
   have g6:=(RB2).free 6
   have g7:=(RB2).free 7
   go_wp2_with fail
   exact bodyPost_ret (turn_results 2 rfl _ _ _ going rfl (turn_set RB2 rfl going)) rfl (hK _ _ (fin_step hL (Nat.le_refl _) HL2 U2 (fun g hg=>.inl hg) (.inr (.inl ⟨rfl,rfl⟩)) _ _ _ _ _ _ _ _))
  ·have hq:((j:Int)+1 == (s.reads.length:Int))=false:=by simpa using hend
   rw [if_neg hend] at HE
   generalize W7.drew=W8 at hL7 RB7 U7 ⊢
   rw [HE.out] at hK
   clear hend HE
   go_wp2_with fail
   refine (going_code _).mono ?_
   rintro e w2 ⟨rfl,u2⟩
   simp only [Trn.val,going,evNone]
   have HL2:=(hL7).upd0 u2
   have RB2:=(RB7).upd u2 (by simp)
   have U2:=(U7).trans (u2.mono (by simp))
   have q0:=(RB2).cell 0 rfl
   have q1:=(RB2).cell 1 rfl
   have q2:=(RB2).cell 2 rfl
   have q3:=(RB2).cell 3 rfl
   have q4:=(RB2).cell 4 rfl
   have q5:=(RB2).cell 5 rfl
   have q6:=(RB2).cell 6 rfl
   have q7:=(RB2).cell 7 rfl
   have g0:=(RB2).free 0
   have g1:=(RB2).free 1
   have g2:=(RB2).free 2
   have g3:=(RB2).free 3
   have g4:=(RB2).free 4
   have g5:=(RB2).free 5
   have g6:=(RB2).free 6
   have g7:=(RB2).free 7
   go_wp2_with fail
   exact bodyPost_ret (turn_results 2 rfl _ _ _ going rfl (turn_set RB2 rfl going)) rfl (hK _ _ (fin_step hL (Nat.le_refl _) HL2 U2 (fun g hg=>.inl hg) (.inr (.inl ⟨rfl,rfl⟩)) _ _ _ _ _ _ _ _))
 ·have hne:∃ (u e:Int),Hid (rLoad sh.row x=(u,e))∧((e != 0)=true∨(e=0∧(u != v)=true)):=by
   by_cases h:x<sh.row.length
   ·exact ⟨wd sh.row x.toNat,0,Lib.hid (by unfold rLoad; rw [if_pos h]),.inr ⟨rfl,by simpa using fun e=>hit ⟨h,e⟩⟩⟩
   ·exact ⟨0,4,Lib.hid (by unfold rLoad; rw [if_neg h]),.inl (by simp)⟩
  obtain ⟨u,er,HV,hbad⟩:=hne
  have he:checkS s sh=(⟨5,0,⟨7,0,0,false⟩⟩,overS):=by
   unfold checkS
   rw [hj.out,Int.toNat_natCast,hx]
   simp only
   rw [if_neg hit]
  rw [he]
  clear he hit
  rcases hbad with hb | ⟨rfl,hb⟩
  ·refine calls_all fun K hK=>?_
   go_enter Tryz.func98,Tryz.ntmps98
   go_wp2_with fail
   obtain ⟨W,hW⟩:∃ W,W=w.alloc (.cells turn0.toArray 140):=⟨_,rfl⟩
   have RB:Blk W w.heap.size turn0 140:=by rw [hW]; exact Blk.new w _ _
   have HU:Upd [] w W:=by rw [hW]; exact (Upd.refl _ _).alloc _
   have hWs:W.heap.size=w.heap.size+1:=by rw [hW]; exact World.size_alloc _ _
   simp only [turn0,trnNone,evNone,Trn.cells] at hW
   rw [← hW]
   clear hW
   have hL1:=hL.upd0 HU
   have b3:=hL1.att.head.cell 3 rfl
   have b10:W.cell? ⟨a,10,none⟩=some (.int .i64 (j:Int)):=by rw [← hj.out]; exact hL1.att.head.cell 10 rfl
   have GB1:=GB.upd HU (by simp)
   have e0:=GB1.cell (j*2) hx0
   have e1:=GB1.cell (j*2+1) hx1
   refine wp_region_eff (fun w'=>w'.cell? ⟨a,3,none⟩=some (.slice (some ⟨g,0,none⟩) s.reads.length cap)∧w'.cell? ⟨a,10,none⟩=some (.int .i64 (j:Int))∧w'.cell? ⟨g,j*2,none⟩=some (.int .u64 x)∧w'.cell? ⟨g,j*2+1,none⟩=some (.int .u64 v)) 14 (by kernel_rfl) (by kernel_rfl) ⟨b3,b10,e0,e1⟩ ?_
   repeat
    refine wpE_take (v:=?_) (by decide) rfl (by rfl) ?_ ?_
    rotate_left 1
    ·((intro w hSw; (try dsimp only at hSw); go_simp); try with_reducible rfl)
    try simp only [Act.put,List.setIfInBounds_toArray,List.set_cons_zero,List.set_cons_succ]
   refine wpE_eff (by decide) rfl (by kernel_rfl) (by rfl) (fun K2 hK2=>?_)
   go_simp
   obtain ⟨W2,hW2⟩:∃ W2,W2=(W.alloc (.cells #[.int .u64 0,.int .u64 0] 71)).drew:=⟨_,rfl⟩
   have CB:Blk W2 (w.heap.size+1) [.int .u64 0,.int .u64 0] 71:=by rw [hW2,← hWs]; exact (Blk.new W _ _).drew
   have u2:Upd [] W W2:=by rw [hW2]; exact ((Upd.refl [] _).alloc _).drew
   rw [← hW2]
   clear hW2
   have GB2:=GB1.upd u2 (by simp)
   have hL3:=hL1.upd0 u2
   have b10':W2.cell? ⟨a,10,none⟩=some (.int .i64 (j:Int)):=by rw [← hj.out]; exact hL3.att.head.cell 10 rfl
   refine hK2.out _ _ ⟨hL3.att.head.cell 3 rfl,b10',GB2.cell (j*2) hx0,GB2.cell (j*2+1) hx1⟩ ?_
   clear hK2 K2
   repeat
    refine wpE_take (v:=?_) (by decide) rfl (by rfl) ?_ ?_
    rotate_left 1
    ·((intro w hSw; (try dsimp only at hSw); go_simp); try with_reducible rfl)
    try simp only [Act.put,List.setIfInBounds_toArray,List.set_cons_zero,List.set_cons_succ]
   have k0:=CB.cell 0 rfl
   have k1:=CB.cell 1 rfl
   have j0:=CB.free 0
   have j1:=CB.free 1
   refine wpE_eff (by decide) rfl (by kernel_rfl) (by rfl) (fun K2 hK2=>?_)
   go_simp
   have u3:Upd [w.heap.size+1] W2 ((W2.setCell ⟨w.heap.size+1,0,none⟩ (.int .u64 x)).setCell ⟨w.heap.size+1,1,none⟩ (.int .u64 v)):=((Upd.refl _ _).setCell (.inl (by simp)) _).setCell (.inl (by simp)) _
   have CB2:=(CB.set 0 (.int .u64 x)).set 1 (.int .u64 v)
   have hL4:=hL1.upd1 (b:=w.heap.size+1) ((u2.mono (by simp)).trans u3) (by omega)
   have GB4:=GB2.upd u3 (by simp; omega)
   have b10:((W2.setCell ⟨w.heap.size+1,0,none⟩ (.int .u64 x)).setCell ⟨w.heap.size+1,1,none⟩ (.int .u64 v)).cell? ⟨a,10,none⟩=some (.int .i64 (j:Int)):=by rw [← hj.out]; exact hL4.att.head.cell 10 rfl
   refine hK2.out _ _ ⟨hL4.att.head.cell 3 rfl,b10,GB4.cell (j*2) hx0,GB4.cell (j*2+1) hx1⟩ ?_
   refine wpE_end (NoPanic.normal ?_)
   have RB4:=(RB.upd u2 (by simp)).upd u3 (by simp)
   have U4:Upd [] w _:=(HU.trans u2).tr u3 (fun _ h=>.inl h) (fun x hx=>.inr (by simp at hx; omega))
   clear hK2 K2 k0 k1 j0 j1 b3 b10' CB hL3 u2 u3 RB GB1 GB2 e0 e1 hL1 HU
   generalize (W2.setCell ⟨w.heap.size+1,0,none⟩ (.int .u64 x)).setCell ⟨w.heap.size+1,1,none⟩ (.int .u64 v)=W3 at CB2 hL4 RB4 U4 GB4 b10 ⊢
   have a0:=hL4.att.head.cell 0 rfl
   have c0:=CB2.cell 0 rfl
   have c1:=CB2.cell 1 rfl
   go_wp2_with fail
   refine wp_region_eff (fun w'=>w'.cell? ⟨a,0,none⟩=some (.pointer (some ⟨X.ra,0,none⟩))∧w'.cell? ⟨w.heap.size+1,0,none⟩=some (.int .u64 x)) 12 (by kernel_rfl) (by kernel_rfl) ⟨a0,c0⟩ ?_
   repeat
    refine wpE_take (v:=?_) (by decide) rfl (by rfl) ?_ ?_
    rotate_left 1
    ·((intro w hSw; (try dsimp only at hSw); go_simp); try with_reducible rfl)
    try simp only [Act.put,List.setIfInBounds_toArray,List.set_cons_zero,List.set_cons_succ]
   refine wpE_eff (by decide) rfl (by kernel_rfl) (by rfl) (fun K2 hK2=>?_)
   go_simp
   refine (load_is (hL4.sh.row.upd (Upd.refl [] _).drew (by simp) (by simp)) x u er _ hwx.1.1 HV.out rfl).mono ?_
   rintro e w1 ⟨rfl,r1,u1⟩
   have hA1:=(hL4.att.upd (Upd.refl [] _).drew (by simp) (by simp)).upd u1 (by simp; omega) (fun g hg=>by have:=(hL.sep g hg).2.1; simp [SX.foot] at this; simp; omega)
   have CB5:=CB2.drew.upd u1 (by simp; omega)
   refine hK2.out _ _ ⟨hA1.head.cell 0 rfl,CB5.cell 0 rfl⟩ ?_
   clear hK2 K2
   repeat
    refine wpE_take (v:=?_) (by decide) rfl (by rfl) ?_ ?_
    rotate_left 1
    ·((intro w hSw; (try dsimp only at hSw); go_simp); try with_reducible rfl)
    try simp only [Act.put,List.setIfInBounds_toArray,List.set_cons_zero,List.set_cons_succ]
   refine wpE_end (NoPanic.normal ?_)
   have U5:Upd [a,X.ra,X.rb] w w1:=(U4.mono (by simp)).trans ((Upd.refl [] _).drew.mono (by simp) |>.trans (u1.mono (by simp)))
   have hL5:=hL.row U5 hA1 r1 hL.sh.wide.row hL.wide
   have RB5:=RB4.drew.upd u1 (by simp; omega)
   clear a0 c0 c1 u1 r1 hA1 CB2 hL4 RB4 U4
   have c1:=CB5.cell 1 rfl
   go_wp2_with fail
   refine (over_code hL5 5 ⟨7,0,0,false⟩).mono ?_
   rintro e w3 ⟨rfl,HL3,u3⟩
   simp only [Trn.val]
   have U3:Upd (a :: (F ++ X.foot)) w w3:=(U5.mono (fun x hx=>.inl (foot_row (F:=F) x hx))).trans (u3.mono (by simp; exact fun x h=>.inl (.inr (.inl h))))
   have RB3:=RB5.upd u3 (by simp; exact ⟨by omega,fun h=>Nat.lt_irrefl _ (hL.sep _ h).1⟩)
   clear RB5 hL5 CB5 c1
   have q0:=(RB3).cell 0 rfl
   have q1:=(RB3).cell 1 rfl
   have q2:=(RB3).cell 2 rfl
   have q3:=(RB3).cell 3 rfl
   have q4:=(RB3).cell 4 rfl
   have q5:=(RB3).cell 5 rfl
   have q6:=(RB3).cell 6 rfl
   have q7:=(RB3).cell 7 rfl
   have g0:=(RB3).free 0
   have g1:=(RB3).free 1
   have g2:=(RB3).free 2
   have g3:=(RB3).free 3
   have g4:=(RB3).free 4
   have g5:=(RB3).free 5
   have g6:=(RB3).free 6
   have g7:=(RB3).free 7
   go_wp2_with fail
   exact bodyPost_ret (turn_results 2 rfl _ _ _ (⟨5,0,⟨7,0,0,false⟩⟩:Trn) rfl (turn_set RB3 rfl (⟨5,0,⟨7,0,0,false⟩⟩:Trn))) rfl (hK _ _ (fin_step hL (Nat.le_refl _) HL3 U3 (fun g hg=>.inl hg) (.inr (.inl ⟨rfl,rfl⟩)) _ _ _ _ _ _ _ _))
  ·refine calls_all fun K hK=>?_
   go_enter Tryz.func98,Tryz.ntmps98
   go_wp2_with fail
   obtain ⟨W,hW⟩:∃ W,W=w.alloc (.cells turn0.toArray 140):=⟨_,rfl⟩
   have RB:Blk W w.heap.size turn0 140:=by rw [hW]; exact Blk.new w _ _
   have HU:Upd [] w W:=by rw [hW]; exact (Upd.refl _ _).alloc _
   have hWs:W.heap.size=w.heap.size+1:=by rw [hW]; exact World.size_alloc _ _
   simp only [turn0,trnNone,evNone,Trn.cells] at hW
   rw [← hW]
   clear hW
   have hL1:=hL.upd0 HU
   have b3:=hL1.att.head.cell 3 rfl
   have b10:W.cell? ⟨a,10,none⟩=some (.int .i64 (j:Int)):=by rw [← hj.out]; exact hL1.att.head.cell 10 rfl
   have GB1:=GB.upd HU (by simp)
   have e0:=GB1.cell (j*2) hx0
   have e1:=GB1.cell (j*2+1) hx1
   refine wp_region_eff (fun w'=>w'.cell? ⟨a,3,none⟩=some (.slice (some ⟨g,0,none⟩) s.reads.length cap)∧w'.cell? ⟨a,10,none⟩=some (.int .i64 (j:Int))∧w'.cell? ⟨g,j*2,none⟩=some (.int .u64 x)∧w'.cell? ⟨g,j*2+1,none⟩=some (.int .u64 v)) 14 (by kernel_rfl) (by kernel_rfl) ⟨b3,b10,e0,e1⟩ ?_
   repeat
    refine wpE_take (v:=?_) (by decide) rfl (by rfl) ?_ ?_
    rotate_left 1
    ·((intro w hSw; (try dsimp only at hSw); go_simp); try with_reducible rfl)
    try simp only [Act.put,List.setIfInBounds_toArray,List.set_cons_zero,List.set_cons_succ]
   refine wpE_eff (by decide) rfl (by kernel_rfl) (by rfl) (fun K2 hK2=>?_)
   go_simp
   obtain ⟨W2,hW2⟩:∃ W2,W2=(W.alloc (.cells #[.int .u64 0,.int .u64 0] 71)).drew:=⟨_,rfl⟩
   have CB:Blk W2 (w.heap.size+1) [.int .u64 0,.int .u64 0] 71:=by rw [hW2,← hWs]; exact (Blk.new W _ _).drew
   have u2:Upd [] W W2:=by rw [hW2]; exact ((Upd.refl [] _).alloc _).drew
   rw [← hW2]
   clear hW2
   have GB2:=GB1.upd u2 (by simp)
   have hL3:=hL1.upd0 u2
   have b10':W2.cell? ⟨a,10,none⟩=some (.int .i64 (j:Int)):=by rw [← hj.out]; exact hL3.att.head.cell 10 rfl
   refine hK2.out _ _ ⟨hL3.att.head.cell 3 rfl,b10',GB2.cell (j*2) hx0,GB2.cell (j*2+1) hx1⟩ ?_
   clear hK2 K2
   repeat
    refine wpE_take (v:=?_) (by decide) rfl (by rfl) ?_ ?_
    rotate_left 1
    ·((intro w hSw; (try dsimp only at hSw); go_simp); try with_reducible rfl)
    try simp only [Act.put,List.setIfInBounds_toArray,List.set_cons_zero,List.set_cons_succ]
   have k0:=CB.cell 0 rfl
   have k1:=CB.cell 1 rfl
   have j0:=CB.free 0
   have j1:=CB.free 1
   refine wpE_eff (by decide) rfl (by kernel_rfl) (by rfl) (fun K2 hK2=>?_)
   go_simp
   have u3:Upd [w.heap.size+1] W2 ((W2.setCell ⟨w.heap.size+1,0,none⟩ (.int .u64 x)).setCell ⟨w.heap.size+1,1,none⟩ (.int .u64 v)):=((Upd.refl _ _).setCell (.inl (by simp)) _).setCell (.inl (by simp)) _
   have CB2:=(CB.set 0 (.int .u64 x)).set 1 (.int .u64 v)
   have hL4:=hL1.upd1 (b:=w.heap.size+1) ((u2.mono (by simp)).trans u3) (by omega)
   have GB4:=GB2.upd u3 (by simp; omega)
   have b10:((W2.setCell ⟨w.heap.size+1,0,none⟩ (.int .u64 x)).setCell ⟨w.heap.size+1,1,none⟩ (.int .u64 v)).cell? ⟨a,10,none⟩=some (.int .i64 (j:Int)):=by rw [← hj.out]; exact hL4.att.head.cell 10 rfl
   refine hK2.out _ _ ⟨hL4.att.head.cell 3 rfl,b10,GB4.cell (j*2) hx0,GB4.cell (j*2+1) hx1⟩ ?_
   refine wpE_end (NoPanic.normal ?_)
   have RB4:=(RB.upd u2 (by simp)).upd u3 (by simp)
   have U4:Upd [] w _:=(HU.trans u2).tr u3 (fun _ h=>.inl h) (fun x hx=>.inr (by simp at hx; omega))
   clear hK2 K2 k0 k1 j0 j1 b3 b10' CB hL3 u2 u3 RB GB1 GB2 e0 e1 hL1 HU
   generalize (W2.setCell ⟨w.heap.size+1,0,none⟩ (.int .u64 x)).setCell ⟨w.heap.size+1,1,none⟩ (.int .u64 v)=W3 at CB2 hL4 RB4 U4 GB4 b10 ⊢
   have a0:=hL4.att.head.cell 0 rfl
   have c0:=CB2.cell 0 rfl
   have c1:=CB2.cell 1 rfl
   go_wp2_with fail
   refine wp_region_eff (fun w'=>w'.cell? ⟨a,0,none⟩=some (.pointer (some ⟨X.ra,0,none⟩))∧w'.cell? ⟨w.heap.size+1,0,none⟩=some (.int .u64 x)) 12 (by kernel_rfl) (by kernel_rfl) ⟨a0,c0⟩ ?_
   repeat
    refine wpE_take (v:=?_) (by decide) rfl (by rfl) ?_ ?_
    rotate_left 1
    ·((intro w hSw; (try dsimp only at hSw); go_simp); try with_reducible rfl)
    try simp only [Act.put,List.setIfInBounds_toArray,List.set_cons_zero,List.set_cons_succ]
   refine wpE_eff (by decide) rfl (by kernel_rfl) (by rfl) (fun K2 hK2=>?_)
   go_simp
   refine (load_is (hL4.sh.row.upd (Upd.refl [] _).drew (by simp) (by simp)) x u 0 _ hwx.1.1 HV.out rfl).mono ?_
   rintro e w1 ⟨rfl,r1,u1⟩
   have hA1:=(hL4.att.upd (Upd.refl [] _).drew (by simp) (by simp)).upd u1 (by simp; omega) (fun g hg=>by have:=(hL.sep g hg).2.1; simp [SX.foot] at this; simp; omega)
   have CB5:=CB2.drew.upd u1 (by simp; omega)
   refine hK2.out _ _ ⟨hA1.head.cell 0 rfl,CB5.cell 0 rfl⟩ ?_
   clear hK2 K2
   repeat
    refine wpE_take (v:=?_) (by decide) rfl (by rfl) ?_ ?_
    rotate_left 1
    ·((intro w hSw; (try dsimp only at hSw); go_simp); try with_reducible rfl)
    try simp only [Act.put,List.setIfInBounds_toArray,List.set_cons_zero,List.set_cons_succ]
   refine wpE_end (NoPanic.normal ?_)
   have U5:Upd [a,X.ra,X.rb] w w1:=(U4.mono (by simp)).trans ((Upd.refl [] _).drew.mono (by simp) |>.trans (u1.mono (by simp)))
   have hL5:=hL.row U5 hA1 r1 hL.sh.wide.row hL.wide
   have RB5:=RB4.drew.upd u1 (by simp; omega)
   clear a0 c0 c1 u1 r1 hA1 CB2 hL4 RB4 U4
   have c1:=CB5.cell 1 rfl
   go_wp2_with fail
   refine (over_code hL5 5 ⟨7,0,0,false⟩).mono ?_
   rintro e w3 ⟨rfl,HL3,u3⟩
   simp only [Trn.val]
   have U3:Upd (a :: (F ++ X.foot)) w w3:=(U5.mono (fun x hx=>.inl (foot_row (F:=F) x hx))).trans (u3.mono (by simp; exact fun x h=>.inl (.inr (.inl h))))
   have RB3:=RB5.upd u3 (by simp; exact ⟨by omega,fun h=>Nat.lt_irrefl _ (hL.sep _ h).1⟩)
   clear RB5 hL5 CB5 c1
   have q0:=(RB3).cell 0 rfl
   have q1:=(RB3).cell 1 rfl
   have q2:=(RB3).cell 2 rfl
   have q3:=(RB3).cell 3 rfl
   have q4:=(RB3).cell 4 rfl
   have q5:=(RB3).cell 5 rfl
   have q6:=(RB3).cell 6 rfl
   have q7:=(RB3).cell 7 rfl
   have g0:=(RB3).free 0
   have g1:=(RB3).free 1
   have g2:=(RB3).free 2
   have g3:=(RB3).free 3
   have g4:=(RB3).free 4
   have g5:=(RB3).free 5
   have g6:=(RB3).free 6
   have g7:=(RB3).free 7
   go_wp2_with fail
   exact bodyPost_ret (turn_results 2 rfl _ _ _ (⟨5,0,⟨7,0,0,false⟩⟩:Trn) rfl (turn_set RB3 rfl (⟨5,0,⟨7,0,0,false⟩⟩:Trn))) rfl (hK _ _ (fin_step hL (Nat.le_refl _) HL3 U3 (fun g hg=>.inl hg) (.inr (.inl ⟨rfl,rfl⟩)) _ _ _ _ _ _ _ _))
set_option maxHeartbeats 1000000 in
theorem store_code (hL:Live w X sh acc st a s F rv wv mv) (hp:s.phase≠10) (j:Nat) (hj:Hid (s.at_=j)) (x v:Int) (hx:s.writes[j]? = some (x,v)) (hl:s.writes.length≤1024) :
  Calls Tryz.prog 101 #[.pointer (some ⟨a,0,none⟩)] w (StepOk w X acc st a F (storeS s sh).1 (storeS s sh).2.1 (storeS s sh).2.2):=by
 have la:=hL.lt
 have no:=hL.out
 simp only [SX.foot,List.mem_cons,List.not_mem_nil,or_false,not_or] at no
 have lx:=hL.sh.lt
 have l1:=lx X.ra (by simp [SX.foot])
 have l2:=lx X.rb (by simp [SX.foot])
 have l3:=lx X.ca (by simp [SX.foot])
 have l4:=lx X.cr (by simp [SX.foot])
 have l5:=lx X.cb (by simp [SX.foot])
 have hjl:j<s.writes.length:=by
  by_cases h:j<s.writes.length
  ·exact h
  ·rw [List.getElem?_eq_none (by omega)] at hx; cases hx
 have hjl':(j:Int)<(s.writes.length:Int):=by omega
 have hwx:=hL.wide.writes _ (List.mem_of_getElem? hx)
 obtain ⟨g,cap,sp,rfl,hcap,GB,hgF⟩:=hL.att.wr.open (by intro e; rw [e] at hjl; simp at hjl)
 obtain ⟨hx0',hx1'⟩:=pcells_get s.writes j x v hx
 have hx0:(pcells s.writes ++ sp)[j*2]? = some (.int .u64 x):=by rw [List.getElem?_append_left (by rw [pcells_len]; omega)]; exact hx0'
 have hx1:(pcells s.writes ++ sp)[j*2+1]? = some (.int .u64 v):=by rw [List.getElem?_append_left (by rw [pcells_len]; omega)]; exact hx1'
 clear hx0' hx1'
 have hga:g<w.heap.size:=GB.lt
 have HE:Hid (storeS s sh=(going,(if (j:Int)+1=(s.writes.length:Int) then { s with at_:=0,phase:=9 } else { s with at_:=(j:Int)+1 }),{ sh with row:=storeW sh.row x v })):=Lib.hid (by
  unfold storeS
  rw [hj.out,Int.toNat_natCast,hx])
 have HV:Hid (sh.row.set x.toNat v=storeW sh.row x v):=Lib.hid (by
  unfold storeW
  split
  ·rfl
  ·exact List.set_eq_of_length_le (by have:=hwx.1; omega))
 refine calls_all fun K hK=>?_
 go_enter Tryz.func101,Tryz.ntmps101
 go_wp2_with fail
 obtain ⟨W,hW⟩:∃ W,W=w.alloc (.cells turn0.toArray 140):=⟨_,rfl⟩
 have RB:Blk W w.heap.size turn0 140:=by rw [hW]; exact Blk.new w _ _
 have HU:Upd [] w W:=by rw [hW]; exact (Upd.refl _ _).alloc _
 have hWs:W.heap.size=w.heap.size+1:=by rw [hW]; exact World.size_alloc _ _
 simp only [turn0,trnNone,evNone,Trn.cells] at hW
 rw [← hW]
 clear hW
 have hL1:=hL.upd0 HU
 have b3:=hL1.att.head.cell 4 rfl
 have b10:W.cell? ⟨a,10,none⟩=some (.int .i64 (j:Int)):=by rw [← hj.out]; exact hL1.att.head.cell 10 rfl
 have GB1:=GB.upd HU (by simp)
 have e0:=GB1.cell (j*2) hx0
 have e1:=GB1.cell (j*2+1) hx1
 refine wp_region_eff (fun w'=>w'.cell? ⟨a,4,none⟩=some (.slice (some ⟨g,0,none⟩) s.writes.length cap)∧w'.cell? ⟨a,10,none⟩=some (.int .i64 (j:Int))∧w'.cell? ⟨g,j*2,none⟩=some (.int .u64 x)∧w'.cell? ⟨g,j*2+1,none⟩=some (.int .u64 v)) 14 (by kernel_rfl) (by kernel_rfl) ⟨b3,b10,e0,e1⟩ ?_
 repeat
  refine wpE_take (v:=?_) (by decide) rfl (by rfl) ?_ ?_
  rotate_left 1
  ·((intro w hSw; (try dsimp only at hSw); go_simp); try with_reducible rfl)
  try simp only [Act.put,List.setIfInBounds_toArray,List.set_cons_zero,List.set_cons_succ]
 refine wpE_eff (by decide) rfl (by kernel_rfl) (by rfl) (fun K2 hK2=>?_)
 go_simp
 obtain ⟨W2,hW2⟩:∃ W2,W2=(W.alloc (.cells #[.int .u64 0,.int .u64 0] 71)).drew:=⟨_,rfl⟩
 have CB:Blk W2 (w.heap.size+1) [.int .u64 0,.int .u64 0] 71:=by rw [hW2,← hWs]; exact (Blk.new W _ _).drew
 have u2:Upd [] W W2:=by rw [hW2]; exact ((Upd.refl [] _).alloc _).drew
 rw [← hW2]
 clear hW2
 have GB2:=GB1.upd u2 (by simp)
 have hL3:=hL1.upd0 u2
 have b10':W2.cell? ⟨a,10,none⟩=some (.int .i64 (j:Int)):=by rw [← hj.out]; exact hL3.att.head.cell 10 rfl
 refine hK2.out _ _ ⟨hL3.att.head.cell 4 rfl,b10',GB2.cell (j*2) hx0,GB2.cell (j*2+1) hx1⟩ ?_
 clear hK2 K2
 repeat
  refine wpE_take (v:=?_) (by decide) rfl (by rfl) ?_ ?_
  rotate_left 1
  ·((intro w hSw; (try dsimp only at hSw); go_simp); try with_reducible rfl)
  try simp only [Act.put,List.setIfInBounds_toArray,List.set_cons_zero,List.set_cons_succ]
 have k0:=CB.cell 0 rfl
 have k1:=CB.cell 1 rfl
 have j0:=CB.free 0
 have j1:=CB.free 1
 refine wpE_eff (by decide) rfl (by kernel_rfl) (by rfl) (fun K2 hK2=>?_)
 go_simp
 have u3:Upd [w.heap.size+1] W2 ((W2.setCell ⟨w.heap.size+1,0,none⟩ (.int .u64 x)).setCell ⟨w.heap.size+1,1,none⟩ (.int .u64 v)):=((Upd.refl _ _).setCell (.inl (by simp)) _).setCell (.inl (by simp)) _
 have CB2:=(CB.set 0 (.int .u64 x)).set 1 (.int .u64 v)
 have hL4:=hL1.upd1 (b:=w.heap.size+1) ((u2.mono (by simp)).trans u3) (by omega)
 have GB4:=GB2.upd u3 (by simp; omega)
 have b10:((W2.setCell ⟨w.heap.size+1,0,none⟩ (.int .u64 x)).setCell ⟨w.heap.size+1,1,none⟩ (.int .u64 v)).cell? ⟨a,10,none⟩=some (.int .i64 (j:Int)):=by rw [← hj.out]; exact hL4.att.head.cell 10 rfl
 refine hK2.out _ _ ⟨hL4.att.head.cell 4 rfl,b10,GB4.cell (j*2) hx0,GB4.cell (j*2+1) hx1⟩ ?_
 refine wpE_end (NoPanic.normal ?_)
 have RB4:=(RB.upd u2 (by simp)).upd u3 (by simp)
 have U4:Upd [] w _:=(HU.trans u2).tr u3 (fun _ h=>.inl h) (fun x hx=>.inr (by simp at hx; omega))
 clear hK2 K2 k0 k1 j0 j1 b3 b10' CB hL3 u2 u3 RB GB1 GB2 e0 e1 hL1 HU
 generalize (W2.setCell ⟨w.heap.size+1,0,none⟩ (.int .u64 x)).setCell ⟨w.heap.size+1,1,none⟩ (.int .u64 v)=W3 at CB2 hL4 RB4 U4 GB4 b10 ⊢
 have a0:=hL4.att.head.cell 0 rfl
 have c0:=CB2.cell 0 rfl
 have c1:=CB2.cell 1 rfl
 go_wp2_with fail
 refine wp_region_eff (fun w'=>w'.cell? ⟨a,0,none⟩=some (.pointer (some ⟨X.ra,0,none⟩))∧w'.cell? ⟨w.heap.size+1,0,none⟩=some (.int .u64 x)∧w'.cell? ⟨w.heap.size+1,1,none⟩=some (.int .u64 v)) 9 (by kernel_rfl) (by kernel_rfl) ⟨a0,c0,c1⟩ ?_
 repeat
  refine wpE_take (v:=?_) (by decide) rfl (by rfl) ?_ ?_
  rotate_left 1
  ·((intro w hSw; (try dsimp only at hSw); go_simp); try with_reducible rfl)
  try simp only [Act.put,List.setIfInBounds_toArray,List.set_cons_zero,List.set_cons_succ]
 refine wpE_eff (by decide) rfl (by kernel_rfl) (by rfl) (fun K2 hK2=>?_)
 go_simp
 refine (store_is (hL4.sh.row.upd (Upd.refl [] _).drew (by simp) (by simp)) x v _ _ (storeW sh.row x v) hwx.1.1 rfl HV.out rfl).mono ?_
 rintro e w1 ⟨rfl,r1,u1⟩
 have hA1:=(hL4.att.upd (Upd.refl [] _).drew (by simp) (by simp)).upd u1 (by simp; omega) (fun g hg=>by have:=(hL.sep g hg).2.1; simp [SX.foot] at this; simp; omega)
 have CB5:=CB2.drew.upd u1 (by simp; omega)
 refine hK2.out _ _ ⟨hA1.head.cell 0 rfl,CB5.cell 0 rfl,CB5.cell 1 rfl⟩ ?_
 clear hK2 K2
 refine wpE_end (NoPanic.normal ?_)
 have U5:Upd [a,X.ra,X.rb] w w1:=(U4.mono (by simp)).trans ((Upd.refl [] _).drew.mono (by simp) |>.trans (u1.mono (by simp)))
 have hL5:=hL.row U5 hA1 r1 (storeW_wide hL.sh.wide.row x v hwx.2) hL.wide
 have RB5:=RB4.drew.upd u1 (by simp; omega)
 clear a0 c0 u1 r1 hA1 CB2 hL4 RB4 U4
 have d10:w1.cell? ⟨a,10,none⟩=some (.int .i64 (j:Int)):=by rw [← hj.out]; exact hL5.att.head.cell 10 rfl
 have f10:=hL5.att.head.free 10
 go_wp2_with fail
 have uw:Upd [a] w1 (w1.setCell ⟨a,10,none⟩ (.int .i64 ((j:Int)+1))):=(Upd.refl _ _).setCell (.inl (by simp)) _
 have hL6:=hL5.phase (hL5.att.setAt ((j:Int)+1)) uw ⟨hL.wide.snap,hL.wide.reads,hL.wide.writes,hL.wide.addr,hL.wide.word,hL.wide.found⟩
 have RB6:=RB5.upd uw (by simp; omega)
 have U6:Upd (a :: (F ++ X.foot)) w _:=(U5.mono (fun x hx=>.inl (foot_row (F:=F) x hx))).trans (uw.mono (by simp))
 clear uw d10 f10 hL5 RB5 U5 CB5 c1
 generalize w1.setCell ⟨a,10,none⟩ (.int .i64 ((j:Int)+1))=W7 at hL6 RB6 U6 ⊢
 have b10:=hL6.att.head.cell 10 rfl
 have b3:=hL6.att.head.cell 4 rfl
 refine wp_region_eff (fun w'=>w'.cell? ⟨a,10,none⟩=some (.int .i64 ((j:Int)+1))∧w'.cell? ⟨a,4,none⟩=some (.slice (some ⟨g,0,none⟩) s.writes.length cap)) 12 (by kernel_rfl) (by kernel_rfl) ⟨b10,b3⟩ ?_
 repeat
  refine wpE_take (v:=?_) (by decide) rfl (by rfl) ?_ ?_
  rotate_left 1
  ·((intro w hSw; (try dsimp only at hSw); go_simp); try with_reducible rfl)
  try simp only [Act.put,List.setIfInBounds_toArray,List.set_cons_zero,List.set_cons_succ]
 refine wpE_end (NoPanic.normal ?_)
 have hL7:=hL6.upd0 (Upd.refl [] _).drew
 have RB7:=RB6.drew
 have U7:=U6.trans ((Upd.refl [] _).drew.mono (T:=a :: (F ++ X.foot)) (by simp))
 clear b10 b3 hL6 RB6 U6
 by_cases hend:(j:Int)+1=(s.writes.length:Int)
 ·have hq:((j:Int)+1 == (s.writes.length:Int))=true:=by simpa using hend
  rw [if_pos hend] at HE
  generalize W7.drew=W8 at hL7 RB7 U7 ⊢
  have d10:=hL7.att.head.cell 10 rfl
  have f10:=hL7.att.head.free 10
  have d5:=hL7.att.head.cell 5 rfl
  have f5:=hL7.att.head.free 5
  clear hend
  have uw:Upd [a] W8 ((W8.setCell ⟨a,10,none⟩ (.int .i64 0)).setCell ⟨a,5,none⟩ (.int .i64 9)):=((Upd.refl _ _).setCell (.inl (by simp)) _).setCell (.inl (by simp)) _
  have HL8:=hL7.phase ((hL7.att.setAt 0).setPhase 9 hp) uw ⟨hL.wide.snap,hL.wide.reads,hL.wide.writes,hL.wide.addr,hL.wide.word,hL.wide.found⟩
  have RB8:=RB7.upd uw (by simp; omega)
  have U8:=U7.trans (uw.mono (T:=a :: (F ++ X.foot)) (by simp))
  rw [HE.out] at hK
  clear uw HE
  go_wp2_with fail
  refine (going_code _).mono ?_
  rintro e w2 ⟨rfl,u2⟩
  simp only [Trn.val,going,evNone]
  have HL2:=(HL8).upd0 u2
  have RB2:=(RB8).upd u2 (by simp)
  have U2:=(U8).trans (u2.mono (by simp))
  have q0:=(RB2).cell 0 rfl
  have q1:=(RB2).cell 1 rfl
  have q2:=(RB2).cell 2 rfl
  have q3:=(RB2).cell 3 rfl
  have q4:=(RB2).cell 4 rfl
  have q5:=(RB2).cell 5 rfl
  have q6:=(RB2).cell 6 rfl
  have q7:=(RB2).cell 7 rfl
  have g0:=(RB2).free 0
  have g1:=(RB2).free 1
  have g2:=(RB2).free 2
  have g3:=(RB2).free 3
  have g4:=(RB2).free 4
  have g5:=(RB2).free 5
  have g6:=(RB2).free 6
  have g7:=(RB2).free 7
  go_wp2_with fail
  exact bodyPost_ret (turn_results 2 rfl _ _ _ going rfl (turn_set RB2 rfl going)) rfl (hK _ _ (fin_step hL (Nat.le_refl _) HL2 U2 (fun g hg=>.inl hg) (.inr (.inl ⟨rfl,rfl⟩)) _ _ _ _ _ _ _ _))
 ·have hq:((j:Int)+1 == (s.writes.length:Int))=false:=by simpa using hend
  rw [if_neg hend] at HE
  generalize W7.drew=W8 at hL7 RB7 U7 ⊢
  rw [HE.out] at hK
  clear hend HE
  go_wp2_with fail
  refine (going_code _).mono ?_
  rintro e w2 ⟨rfl,u2⟩
  simp only [Trn.val,going,evNone]
  have HL2:=(hL7).upd0 u2
  have RB2:=(RB7).upd u2 (by simp)
  have U2:=(U7).trans (u2.mono (by simp))
  have q0:=(RB2).cell 0 rfl
  have q1:=(RB2).cell 1 rfl
  have q2:=(RB2).cell 2 rfl
  have q3:=(RB2).cell 3 rfl
  have q4:=(RB2).cell 4 rfl
  have q5:=(RB2).cell 5 rfl
  have q6:=(RB2).cell 6 rfl
  have q7:=(RB2).cell 7 rfl
  have g0:=(RB2).free 0
  have g1:=(RB2).free 1
  have g2:=(RB2).free 2
  have g3:=(RB2).free 3
  have g4:=(RB2).free 4
  have g5:=(RB2).free 5
  have g6:=(RB2).free 6
  have g7:=(RB2).free 7
  go_wp2_with fail
  exact bodyPost_ret (turn_results 2 rfl _ _ _ going rfl (turn_set RB2 rfl going)) rfl (hK _ _ (fin_step hL (Nat.le_refl _) HL2 U2 (fun g hg=>.inl hg) (.inr (.inl ⟨rfl,rfl⟩)) _ _ _ _ _ _ _ _))
end
end Go.Proofs.YtehopaabfoopeaaGreat
set_option linter.unusedSimpArgs false
set_option linter.unusedVariables false
set_option maxRecDepth 100000
namespace Go.Proofs.YtehopaabfoopeaaGreat
open Go.RowKit
theorem place_cons (c:Int × Int) (L:List (Int × Int)) (x:Int):place (c :: L) x=if c.1=x then some 0 else (place L x).map (·+1):=by
 unfold place
 rw [List.findIdx?_cons]
 by_cases h:c.1=x
 ·rw [if_pos h]; simp [h]
 ·rw [if_neg h]
  have:(c.1 == x)=false:=by simp [h]
  rw [this]
  rfl
theorem place_snoc (L:List (Int × Int)) (c:Int × Int) (x:Int):place (L ++ [c]) x=match place L x with | some k=>some k | none=>if c.1=x then some L.length else none:=by
 induction L with
 | nil=>rw [List.nil_append,place_cons]; simp [place]
 | cons d L ih =>
  rw [List.cons_append,place_cons,place_cons,ih]
  by_cases h:d.1=x
  ·rw [if_pos h,if_pos h]
  ·rw [if_neg h,if_neg h]
   cases place L x with
   | some k=>rfl
   | none =>
    simp only [Option.map_none]
    split <;> simp
theorem place_set {L:List (Int × Int)} {a v:Int} {k:Nat} (h:place L a=some k) (x:Int):place (L.set k (a,v)) x=place L x:=by
 unfold place
 have hm:=set_map (v:=v) h
 have e:∀ M:List (Int × Int),M.findIdx? (fun c=>c.1 == x)=(M.map (·.1)).findIdx? (· == x):=by
  intro M
  rw [List.findIdx?_map]
  rfl
 rw [e,e,hm]
end Go.Proofs.YtehopaabfoopeaaGreat
set_option linter.unusedSimpArgs false
set_option linter.unusedVariables false
set_option maxRecDepth 100000
namespace Go.Proofs.YtehopaabfoopeaaGreat
open Go.RowKit
open Go.Maps
theorem wpList_mapUpdate_eq {P:Program} {ops:Array Oper} {rest:List Oper} {o:Oper} {a:Act} {w w':World} {Q:Exit → Act → World → Prop} (hg:o.guard=none) (m x v:Operand) (t:TypeId) (hop:o.op=Op.mapUpdate t m x v)
  (mv xv vv:Value) (hm:a.eval m=mv) (hx:a.eval x=xv) (hv:a.eval v=vv) (hrun:(Instr.mapUpdate t mv xv vv).run P w=.ok () w') (h:wpList P ops Q rest (a.put o.dst undef) w'):wpList P ops Q (o :: rest) a w:=by
 refine wpList_plain hg fun K hK=>?_
 unfold Oper.wp
 simp only [execOp,hop,hm,hx,hv,Sem.run_bind,hrun,Result.andThen_ok,Sem.run_pure]
 exact hK _ _ h
theorem law_u64:Keyed Tryz.prog 23:=int_keyed Tryz.underlying23
theorem zero_int (w:World):(zeroValue 3).run Tryz.prog w=.ok (.int .i64 0) w:=by kernel_rfl
theorem wf_u64 {x:Int} (h:0≤x∧x<18446744073709551616):(Lit.int .u64 x).wf=true:=WalkArith.wf_u64 (by omega)
theorem wf_len {n:Nat} (h:n<100000):(Lit.int .i64 (n:Int)).wf=true:=WalkArith.wf_i64 (by omega)
theorem key_u64 {x:Int} (h:0≤x∧x<18446744073709551616):keyOf Tryz.prog 23 (.int .u64 x)=some (.int .u64 x):=keyOf_int_mk Tryz.underlying23 (wf_u64 h)
section
variable {w:World} {m:Nat} {l:List (Int × Int)}
theorem places_nil (W:World):PlacesAt (W.alloc (.map #[] 0)) W.heap.size []:=
 ⟨.map [],World.ownsMap_made _ _ _ _,fun x _ _=>⟨rfl,fun k h=>by simp [place] at h⟩⟩
def lookV (l:List (Int × Int)) (x:Int):Int:=match place l x with | some k=>(k:Int) | none=>0
theorem places_look (h:PlacesAt w m l) {x:Int} (hx:0≤x∧x<18446744073709551616) :
  (Instr.lookup 128 (.map (some m)) (.int .u64 x) true).run Tryz.prog w=.ok (.tuple #[.int .i64 (lookV l x),.bool (place l x).isSome]) w:=by
 obtain ⟨D,ho,hD⟩:=h
 obtain ⟨hD1,hD2⟩:=hD x hx.1 hx.2
 obtain ⟨v,ps,hr,hv⟩:=ho.look_ok law_u64 Tryz.underlying128 (zero_int w) (zd:=.lit (.int .i64 0)) (zp:=[]) (plainElem_int Tryz.underlying3 (by decide)) (key_u64 hx)
 obtain ⟨c,rfl,hc,hwc⟩:=plainElem_int_inv Tryz.underlying3 hv
 rw [hr,hD1]
 have hc':D.atKey (.int .u64 x) (.lit (.int .i64 0))=.lit (.int .i64 c):=congrArg Prod.fst hc
 have:c=lookV l x:=by
  unfold lookV
  cases hp:place l x with
  | some k =>
   rw [hD2 k hp] at hc'
   simp at hc'
   exact hc'.symm
  | none =>
   rw [hp] at hD1
   rw [atKey_of_not_has hD1] at hc'
   simp at hc'
   exact hc'.symm
 rw [this]
theorem places_store (h:PlacesAt w m l) {x:Int} (v:Int) (hx:0≤x∧x<18446744073709551616) (hn:place l x=none) (hl:l.length<100000) :
  ∃ w',(Instr.mapUpdate 128 (.map (some m)) (.int .u64 x) (.int .i64 (l.length:Int))).run Tryz.prog w=.ok () w'∧PlacesAt w' m (l ++ [(x,v)])∧Upd [m] w w':=by
 obtain ⟨D,ho,hD⟩:=h
 have hM:=ho.isMap
 have hK:WideAt.IsKeyLit (.int .u64 x):=trivial
 obtain ⟨w',hr,ho',hg⟩:=ho.update law_u64 Tryz.underlying128 (by unfold maxLen; omega) (key_u64 hx) (val:=.int .i64 (l.length:Int)) (d:=.lit (.int .i64 (l.length:Int))) (ps:=[]) (plainElem_int Tryz.underlying3 (wf_len hl))
 refine ⟨w',hr,⟨_,by simpa using ho',fun y hy0 hy1=>?_⟩,(Upd.own hg).mono (by simp)⟩
 obtain ⟨h1,h2⟩:=hD y hy0 hy1
 rw [place_snoc]
 by_cases hxy:x=y
 ·subst hxy
  rw [hn,if_pos rfl]
  refine ⟨by rw [has_put_same hM hK]; rfl,fun k hk=>?_⟩
  simp at hk
  subst hk
  rw [atKey_put_same hM hK]
 ·have hne:(Lit.int .u64 y)≠Lit.int .u64 x:=fun e=>hxy (by injection e with _ e; exact e.symm)
  refine ⟨by rw [has_put_other hne,h1]; cases place l y <;> simp [hxy],fun k hk=>?_⟩
  rw [atKey_put_other hne]
  refine h2 k ?_
  cases hp:place l y with
  | some k'=>rw [hp] at hk; exact hk
  | none=>rw [hp] at hk; simp [hxy] at hk
end
def head0 (ra ca:Nat) (s:AS) (rv wv:Value):List Value:=
 [.pointer (some ⟨ra,0,none⟩),.pointer (some ⟨ca,0,none⟩),.int .u64 s.snap,rv,wv,.int .i64 s.phase,.int .i64 s.thn,.int .u64 s.addr,.int .u64 s.word,.int .u64 s.found,.int .i64 s.at_,.map none,
  .nilFunc,.nilFunc,.nilFunc,.nilFunc,.nilFunc,.nilFunc,.nilFunc,.nilFunc,.nilFunc,.nilFunc,.nilFunc]
section
variable {w:World} {a ra ca:Nat} {s:AS} {F:List Nat} {rv wv:Value}
theorem place_take {l:List (Int × Int)} (hn:(l.map (·.1)).Nodup) {k:Nat} {x v:Int} (h:l[k]? = some (x,v)):place (l.take k) x=none:=by
 unfold place
 rw [List.findIdx?_eq_none_iff]
 intro c hc
 simp only [beq_eq_false_iff_ne,ne_eq]
 intro e
 obtain ⟨j,hj,hjc⟩:=List.mem_take_iff_getElem.1 hc
 have hkl:k<l.length:=by
  by_cases hk:k<l.length
  ·exact hk
  ·rw [List.getElem?_eq_none (by omega)] at h; cases h
 have hlk:l[k]=(x,v):=by rw [List.getElem?_eq_getElem hkl] at h; exact Option.some.inj h
 have hjk:j<k:=by omega
 have h2:=(List.pairwise_iff_getElem.1 hn) j k (by simp; omega) (by simpa using hkl) hjk
 simp only [List.getElem_map,hjc,hlk] at h2
 exact h2 e
theorem phases_set {W:World} {b:Nat} {vs:List Value} (h:Blk W b (vs ++ [.nilFunc,.nilFunc,.nilFunc,.nilFunc,.nilFunc,.nilFunc,.nilFunc,.nilFunc,.nilFunc,.nilFunc,.nilFunc]) 132) (hv:vs.length=12) (q:Nat):Blk (W.setCells b 12 (phasesV q)) b (vs ++ phasesV q) 132:=by
 obtain ⟨v0,v1,v2,v3,v4,v5,v6,v7,v8,v9,v10,v11,rfl⟩:∃ v0 v1 v2 v3 v4 v5 v6 v7 v8 v9 v10 v11,vs=[v0,v1,v2,v3,v4,v5,v6,v7,v8,v9,v10,v11]:=by
  match vs,hv with
  | [v0,v1,v2,v3,v4,v5,v6,v7,v8,v9,v10,v11],_=>exact ⟨_,_,_,_,_,_,_,_,_,_,_,_,rfl⟩
 exact ((((((((((h.set 12 _).set 13 _).set 14 _).set 15 _).set 16 _).set 17 _).set 18 _).set 19 _).set 20 _).set 21 _).set 22 _
theorem phases_upd {W:World} {b q:Nat}:Upd [b] W (W.setCells b 12 (phasesV q)):=by
 show Upd [b] W (((((((((((W.setCell _ _).setCell _ _).setCell _ _).setCell _ _).setCell _ _).setCell _ _).setCell _ _).setCell _ _).setCell _ _).setCell _ _).setCell _ _)
 (repeat (refine Upd.setCell ?_ (Or.inl (by simp)) _))
 exact Upd.refl _ _
set_option maxHeartbeats 2000000 in
theorem made_code (hb:Blk w a (head0 ra ca s rv wv) 132) (hr:OwnP w rv s.reads F) (hw:OwnP w wv s.writes F) (hap:∀ g,rv.ownBlock=some g → wv.ownBlock≠some g)
  (hnd:(s.writes.map (·.1)).Nodup) (hlw:s.writes.length≤1024) (hww:∀ c ∈ s.writes,(0≤c.1∧c.1<18446744073709551616)∧0≤c.2∧c.2<18446744073709551616) :
  Calls Tryz.prog 68 #[.pointer (some ⟨a,0,none⟩)] w fun e w'=>e=.returned (.pointer (some ⟨a,0,none⟩))∧∃ m,w.heap.size≤m∧m<w'.heap.size∧AttV w' a ra ca s (m :: F) rv wv (.map (some m))∧Upd [a] w w':=by
 have la:=hb.lt
 have hmm:=@run_makeMap Tryz.prog
 obtain ⟨p,cap,rfl⟩:=hw.form
 have hl0:(0:Int)≤(s.writes.length:Int):=by omega
 have hA:∀ (W:World) (m:Nat),Upd [a] w W → Blk W a (headV a ra ca s rv (.slice p s.writes.length cap) (.map (some m))) 132 → PlacesAt W m s.writes → AttV W a ra ca s (m :: F) rv (.slice p s.writes.length cap) (.map (some m)):=fun W m u h1 h2 =>
  ⟨h1,(hr.upd u (fun g hg e=>by simp at hg; subst hg; exact hr.ne_blk hb (by decide) e)).mono (fun g hg=>List.mem_cons_of_mem _ hg),(hw.upd u (fun g hg e=>by simp at hg; subst hg; exact hw.ne_blk hb (by decide) e)).mono (fun g hg=>List.mem_cons_of_mem _ hg),hap,fun _=>⟨_,rfl,by simp,h2⟩⟩
 have b4:=hb.cell 4 rfl
 have b11:=hb.cell 11 rfl
 have hth:w.there a 12 11:=fun j hj=>⟨by
  rw [hb.at]
  have:j=0∨j=1∨j=2∨j=3∨j=4∨j=5∨j=6∨j=7∨j=8∨j=9∨j=10:=by omega
  rcases this with rfl | rfl | rfl | rfl | rfl | rfl | rfl | rfl | rfl | rfl | rfl <;> rfl,hb.free _⟩
 have hB1:=phases_set (vs:=[.pointer (some ⟨ra,0,none⟩),.pointer (some ⟨ca,0,none⟩),.int .u64 s.snap,rv,.slice p s.writes.length cap,.int .i64 s.phase,.int .i64 s.thn,.int .u64 s.addr,.int .u64 s.word,.int .u64 s.found,.int .i64 s.at_,.map none]) hb rfl a
 have uB:Upd [a] w (w.setCells a 12 (phasesV a)):=phases_upd
 have f11:=hb.free 11
 clear b4 b11 f11
 have HA:=Lib.hid hA
 clear hA
 refine calls_all fun K hK=>?_
 go_enter Tryz.func68,Tryz.ntmps68
 go_wp2_with ((with_reducible refine wpList_store_mid (op:=⟨none,.store 130 (.tmp 24) (.tmp 22),_,_,_,_⟩) rfl 130 _ _ rfl a 12 (phasesV a).toArray ?_ ?_ ?_ ?_ ?_ ?_); rfl; rfl; exact hth; kernel_rfl; kernel_rfl; rw [List.toList_toArray]; generalize w.setCells a 12 (phasesV a)=W1 at hB1 uB ⊢; have b4:=hB1.cell 4 rfl; have la1:=hB1.lt; have b11:=hB1.cell 11 rfl; have f11:=hB1.free 11)
 have hz1:(W1.setCell ⟨a,11,none⟩ (.map (some W1.heap.size))).heap.size=W1.heap.size:=by simp [World.setCell]
 have hP0:=places_nil (W1.setCell ⟨a,11,none⟩ (.map (some W1.heap.size)))
 rw [hz1] at hP0
 have hB2:=(hB1.set 11 (.map (some W1.heap.size))).alloc (.map #[] 0)
 have u2:Upd [a] w ((W1.setCell ⟨a,11,none⟩ (.map (some W1.heap.size))).alloc (.map #[] 0)):=(uB.setCell (.inl (by simp)) _).alloc _
 have hm1:w.heap.size≤W1.heap.size:=uB.size
 have hm2:W1.heap.size<((W1.setCell ⟨a,11,none⟩ (.map (some W1.heap.size))).alloc (.map #[] 0)).heap.size:=by rw [World.size_alloc,hz1]; omega
 clear hz1 b4 b11 f11 la1 hB1 uB
 generalize (W1.setCell ⟨a,11,none⟩ (.map (some W1.heap.size))).alloc (.map #[] 0)=W2 at hP0 hB2 u2 hm2 ⊢
 generalize W1.heap.size=m at hP0 hB2 hm1 hm2 ⊢
 have HP0:=Lib.hid hP0
 have HB2:=Lib.hid hB2
 have HU2:=Lib.hid u2
 clear hP0 hB2 u2
 go_loopw [35] (fun v35 wr=>∃ k:Nat,k≤s.writes.length∧v35=.int .i64 k∧Blk wr a (headV a ra ca s rv (.slice p s.writes.length cap) (.map (some m))) 132∧PlacesAt wr m (s.writes.take k)∧Upd [a] w wr∧m<wr.heap.size) (fun v35 _=>s.writes.length - (intOf v35).toNat)
 case atStart=>exact ⟨0,by omega,rfl,HB2.out,HP0.out,HU2.out,hm2⟩
 case round =>
  obtain ⟨k,hk,rfl,hB,hP,hu,hmw⟩:=hrel
  have HB:=Lib.hid hB
  have HP:=Lib.hid hP
  have HU:=Lib.hid hu
  clear hB hP hu
  by_cases hlt:k<s.writes.length
  ·obtain ⟨g,cap2,sp,hv,hle,GB,hgF⟩:=hw.open (by intro e; rw [e] at hlt; simp at hlt)
   simp only [Value.slice.injEq,true_and] at hv
   obtain ⟨rfl,rfl⟩:=hv
   obtain ⟨⟨x,v⟩,hxv⟩:∃ c,s.writes[k]? = some c:=⟨_,List.getElem?_eq_getElem hlt⟩
   have hwx:=hww _ (List.mem_of_getElem? hxv)
   obtain ⟨hx0',hx1'⟩:=pcells_get s.writes k x v hxv
   have hga:g≠a:=fun e=>by subst e; exact absurd (GB.inj hb).2 (by decide)
   have GB1:=GB.upd HU.out (by simpa using hga)
   have e0:=GB1.cell (k*2) (by rw [List.getElem?_append_left (by rw [pcells_len]; omega)]; exact hx0')
   have e1:=GB1.cell (k*2+1) (by rw [List.getElem?_append_left (by rw [pcells_len]; omega)]; exact hx1')
   have hlt':(k:Int)<(s.writes.length:Int):=by omega
   have HN:=Lib.hid (place_take hnd hxv)
   have HTL:Hid ((s.writes.take k).length=k):=Lib.hid (by simp; omega)
   have HTS:Hid (s.writes.take k ++ [(x,v)]=s.writes.take (k+1)):=Lib.hid (by rw [List.take_add_one,hxv]; rfl)
   clear hxv hx0' hx1' GB1
   go_wp2_with fail
   obtain ⟨W3,hW3⟩:∃ W3,W3=wr.alloc (.cells #[.int .u64 x,.int .u64 v] 71):=⟨_,rfl⟩
   have CB:Blk W3 wr.heap.size [.int .u64 x,.int .u64 v] 71:=by rw [hW3]; exact Blk.new wr _ _
   have u3:Upd [] wr W3:=by rw [hW3]; exact (Upd.refl [] _).alloc _
   rw [← hW3]
   clear hW3
   have HB3:=HB.out.upd u3 (by simp)
   have b11:=HB3.cell 11 rfl
   have c0:=CB.cell 0 rfl
   obtain ⟨W4,hrun,hP4,u4⟩:=places_store ((HP.out.upd u3 (by simp)).upd (Upd.refl [] _).drew (by simp)) v hwx.1 HN.out (by rw [HTL.out]; omega)
   rw [HTL.out] at hrun
   rw [HTS.out] at hP4
   refine wp_region_eff (fun w'=>w'.cell? ⟨a,11,none⟩=some (.map (some m))∧w'.cell? ⟨wr.heap.size,0,none⟩=some (.int .u64 x)) 7 (by kernel_rfl) (by kernel_rfl) ⟨b11,c0⟩ ?_
   repeat
    refine wpE_take (v:=?_) (by decide) rfl (by rfl) ?_ ?_
    rotate_left 1
    ·((intro w hSw; (try dsimp only at hSw); go_simp); try with_reducible rfl)
    try simp only [Act.put,List.setIfInBounds_toArray,List.set_cons_zero,List.set_cons_succ]
   refine wpE_tail ?_
   refine wpList_mapUpdate_eq rfl _ _ _ _ rfl _ _ _ rfl rfl rfl hrun ?_
   refine NoPanic.normal ?_
   have hma:a≠m:=by have:=HB.out.lt; have:=hm1; omega
   have HB4:=Lib.hid ((HB3.drew).upd u4 (by simpa using hma))
   have HP4:=Lib.hid hP4
   have HU4:=Lib.hid (((HU.out.trans (u3.mono (by simp))).drew).tr (U:=[a]) u4 (fun _ h=>.inl h) (fun x hx=>by simp at hx; subst hx; exact .inr hm1))
   have hm4:m<W4.heap.size:=Nat.lt_of_lt_of_le hmw (Nat.le_trans u3.size u4.size)
   clear hP4 hrun u4 HB3 b11 c0 e0 e1 CB
   try simp only [Act.put,List.setIfInBounds_toArray,List.set_cons_zero,List.set_cons_succ]
   go_wp2_with fail
   go_roundw
   case rel=>exact ⟨k+1,by omega,by go_num,HB4.out,HP4.out,HU4.out,hm4⟩
   case measure=>simp [intOf]; omega
  ·obtain rfl:k=s.writes.length:=by omega
   rw [List.take_length] at HP
   go_wp2_with fail
   all_goals exact ⟨rfl,m,hm1,hmw,HA.out _ m HU.out HB.out HP.out,HU.out⟩
end
end Go.Proofs.YtehopaabfoopeaaGreat
