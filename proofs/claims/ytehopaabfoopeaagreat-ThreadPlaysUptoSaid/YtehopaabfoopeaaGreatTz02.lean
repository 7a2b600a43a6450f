/- An attempt's steps, one by one: what each answers and leaves. No conditions but what the phase says. An attempt's steps, the second part: close, lock, free, look. No conditions but what the phase says. An attempt's steps, the third part: look, check, store. No conditions but what the phase says. -/
import Derived.Test.YtehopaabfoopeaaGreatTz01
set_option linter.unusedSimpArgs false
set_option linter.unusedVariables false
set_option maxRecDepth 100000
namespace Go.Proofs.YtehopaabfoopeaaGreat
open Go.RowKit
open Go.Maps
section
variable {w:World} {X:SX} {sh:Sh} {acc st:Int} {a:Nat} {s:AS} {F:List Nat} {rv wv mv:Value}
theorem aload_code (hL:Live w X sh acc st a s F rv wv mv) (hp:s.phase≠10) :
  Calls Tryz.prog 95 #[.pointer (some ⟨a,0,none⟩)] w (StepOk w X acc st a F going { s with word:=loadW sh.row s.addr,phase:=3 } sh):=by
 have la:=hL.lt
 have no:=hL.out
 simp only [SX.foot,List.mem_cons,List.not_mem_nil,or_false,not_or] at no
 have lx:=hL.sh.lt
 have l1:=lx X.ra (by simp [SX.foot])
 have l2:=lx X.rb (by simp [SX.foot])
 refine calls_all fun K hK=>?_
 go_enter Tryz.func95,Tryz.ntmps95
 go_wp2_with fail
 obtain ⟨W,hW⟩:∃ W,W=w.alloc (.cells turn0.toArray 140):=⟨_,rfl⟩
 have RB:Blk W w.heap.size turn0 140:=by rw [hW]; exact Blk.new w _ _
 have HU:Upd [] w W:=by rw [hW]; exact (Upd.refl _ _).alloc _
 simp only [turn0,trnNone,evNone,Trn.cells] at hW
 rw [← hW]
 clear hW
 have hL1:=hL.upd0 HU.drew
 have a0:=hL1.att.head.cell 0 rfl
 have a7:=hL1.att.head.cell 7 rfl
 refine wp_region_eff (fun w'=>w'.cell? ⟨a,0,none⟩=some (.pointer (some ⟨X.ra,0,none⟩))∧w'.cell? ⟨a,7,none⟩=some (.int .u64 s.addr)) 18 (by kernel_rfl) (by kernel_rfl) ⟨a0,a7⟩ ?_
 repeat
  refine wpE_take (v:=?_) (by decide) rfl (by rfl) ?_ ?_
  rotate_left 1
  ·((intro w hSw; (try dsimp only at hSw); go_simp); try with_reducible rfl)
  try simp only [Act.put,List.setIfInBounds_toArray,List.set_cons_zero,List.set_cons_succ]
 refine wpE_eff (by decide) rfl (by kernel_rfl) (by rfl) (fun K2 hK2=>?_)
 go_simp
 refine (load_any hL1.sh.row s.addr hL.wide.addr.1).mono ?_
 rintro e w1 ⟨rfl,r1,u1⟩
 rw [loadW_eq]
 have hA2:=hL1.att.upd u1 (by simpa using no.1) (fun g hg=>by have:=(hL1.sep g hg).2.1; simp [SX.foot] at this; simpa using this.1)
 refine hK2.out _ _ ⟨hA2.head.cell 0 rfl,hA2.head.cell 7 rfl⟩ ?_
 clear hK2 K2
 repeat
  refine wpE_take (v:=?_) (by decide) rfl (by rfl) ?_ ?_
  rotate_left 1
  ·((intro w hSw; (try dsimp only at hSw); go_simp); try with_reducible rfl)
  try simp only [Act.put,List.setIfInBounds_toArray,List.set_cons_zero,List.set_cons_succ]
 have b8:=hA2.head.cell 8 rfl
 have f8:=hA2.head.free 8
 refine wpE_eff (by decide) rfl (by kernel_rfl) (by rfl) (fun K2 hK2=>?_)
 go_simp
 refine hK2.out _ _ ⟨(hA2.setWord _).head.cell 0 rfl,(hA2.setWord _).head.cell 7 rfl⟩ ?_
 refine wpE_end (NoPanic.normal ?_)
 clear hK2 K2
 have hA3:=(hA2.setWord (loadW sh.row s.addr)).setPhase 3 hp
 have uw:Upd [a] w1 ((w1.setCell ⟨a,8,none⟩ (.int .u64 (loadW sh.row s.addr))).setCell ⟨a,5,none⟩ (.int .i64 3)):=((Upd.refl _ _).setCell (.inl (by simp)) _).setCell (.inl (by simp)) _
 have r3:=r1.upd uw (by simp; omega) (by simp; omega)
 have u3:Upd [a,X.ra,X.rb] w _:=(HU.drew.mono (by simp)).trans ((u1.mono (by simp)).trans (uw.mono (by simp)))
 have RB3:=(RB.drew.upd u1 (by simp; omega)).upd uw (by simp; omega)
 have HL3:=hL.row u3 hA3 r3 hL.sh.wide.row (wide_load hL.wide hL.sh.wide hL.wide.addr)
 have b5:=(hA2.setWord (loadW sh.row s.addr)).head.cell 5 rfl
 have f5:=(hA2.setWord (loadW sh.row s.addr)).head.free 5
 clear hA3 uw r3 b8 f8 a0 a7 r1 u1
 go_wp2_with fail
 refine (going_code _).mono ?_
 rintro e w2 ⟨rfl,u2⟩
 simp only [Trn.val,going,evNone]
 have HL2:=(HL3).upd0 u2
 have RB2:=(RB3).upd u2 (by simp)
 have U2:=((u3.mono (fun x hx=>.inl (foot_row (F:=F) x hx)))).trans (u2.mono (by simp))
 have q0:=(RB2).cell 0 rfl
 have q1:=(RB2).cell 1 rfl
 have q2:=(RB2).cell 2 rfl
 have q3:=(RB2).cell 3 rfl
 have q4:=(RB2).cell 4 rfl
 have q5:=(RB2).cell 5 rfl
 have q6:=(RB2).cell 6 rfl
 have q7:=(RB2).cell 7 rfl
 have g0:=(RB2).free 0
 have g1:=(RB2).free 1
 have g2:=(RB2).free 2
 have g3:=(RB2).free 3
 have g4:=(RB2).free 4
 have g5:=(RB2).free 5
 have g6:=(RB2).free 6
 have g7:=(RB2).free 7
 go_wp2_with fail
 exact bodyPost_ret (turn_results 2 rfl _ _ _ going rfl (turn_set RB2 rfl going)) rfl (hK _ _ (fin_step hL (Nat.le_refl _) HL2 U2 (fun g hg=>.inl hg) (.inr (.inl ⟨rfl,rfl⟩)) _ _ _ _ _ _ _ _))
theorem over_code (hL:Live w X sh acc st a s F rv wv mv) (o:Int) (ev:Ev) :
  Calls Tryz.prog 112 #[.pointer (some ⟨a,0,none⟩),.int .i64 o,ev.val] w fun e w'=>e=.returned (⟨o,0,ev⟩:Trn).val∧Live w' X sh acc st a overS F (.slice none 0 0) (.slice none 0 0) (.map none)∧Upd (a :: F) w w':=by
 have la:=hL.lt
 have a2:=(hL.att.head).cell 2 rfl
 have a3:=(hL.att.head).cell 3 rfl
 have a4:=(hL.att.head).cell 4 rfl
 have a5:=(hL.att.head).cell 5 rfl
 have a6:=(hL.att.head).cell 6 rfl
 have a7:=(hL.att.head).cell 7 rfl
 have a8:=(hL.att.head).cell 8 rfl
 have a9:=(hL.att.head).cell 9 rfl
 have a10:=(hL.att.head).cell 10 rfl
 have a11:=(hL.att.head).cell 11 rfl
 have f2:=(hL.att.head).free 2
 have f3:=(hL.att.head).free 3
 have f4:=(hL.att.head).free 4
 have f5:=(hL.att.head).free 5
 have f6:=(hL.att.head).free 6
 have f7:=(hL.att.head).free 7
 have f8:=(hL.att.head).free 8
 have f9:=(hL.att.head).free 9
 have f10:=(hL.att.head).free 10
 have f11:=(hL.att.head).free 11
 obtain ⟨k,ea,ew,eo⟩:=ev
 simp only [Ev.val]
 have uw:Upd [a] w ((((((((((w.setCell ⟨a,2,none⟩ (.int .u64 0)).setCell ⟨a,3,none⟩ (.slice none 0 0)).setCell ⟨a,4,none⟩ (.slice none 0 0)).setCell ⟨a,5,none⟩ (.int .i64 10)).setCell ⟨a,6,none⟩ (.int .i64 0)).setCell ⟨a,7,none⟩ (.int .u64 0)).setCell ⟨a,8,none⟩ (.int .u64 0)).setCell ⟨a,9,none⟩ (.int .u64 0)).setCell ⟨a,10,none⟩ (.int .i64 0)).setCell ⟨a,11,none⟩ (.map none)):=by
  (repeat (refine Upd.setCell ?_ (Or.inl (by simp)) _))
  exact Upd.refl _ _
 have A2:=AttV.over (ra:=X.ra) (ca:=X.ca) (l1:=[]) (l2:=[]) ((((((((((hL.att.head.set 2 (.int .u64 0)).set 3 (.slice none 0 0)).set 4 (.slice none 0 0)).set 5 (.int .i64 10)).set 6 (.int .i64 0)).set 7 (.int .u64 0)).set 8 (.int .u64 0)).set 9 (.int .u64 0)).set 10 (.int .i64 0)).set 11 (.map none)) F
 have HL2:=hL.keep (uw.mono (T:=a :: F) (by simp)) A2 (fun g hg=>.inl hg) wide_over
 have hsz:w.heap.size+1=(World.alloc ((((((((((w.setCell ⟨a,2,none⟩ (.int .u64 0)).setCell ⟨a,3,none⟩ (.slice none 0 0)).setCell ⟨a,4,none⟩ (.slice none 0 0)).setCell ⟨a,5,none⟩ (.int .i64 10)).setCell ⟨a,6,none⟩ (.int .i64 0)).setCell ⟨a,7,none⟩ (.int .u64 0)).setCell ⟨a,8,none⟩ (.int .u64 0)).setCell ⟨a,9,none⟩ (.int .u64 0)).setCell ⟨a,10,none⟩ (.int .i64 0)).setCell ⟨a,11,none⟩ (.map none)) (.cells #[.int .i64 0,.int .i64 k,.int .u64 ea,.int .u64 ew,.bool eo,.int .i64 0] 86)).heap.size:=by simp [World.setCell]
 have HSZ:=Lib.hid hsz
 clear hsz
 refine calls_all fun K hK=>?_
 go_enter Tryz.func112,Tryz.ntmps112
 go_wp2_with fail
 generalize (((((((((w.setCell ⟨a,2,none⟩ (.int .u64 0)).setCell ⟨a,3,none⟩ (.slice none 0 0)).setCell ⟨a,4,none⟩ (.slice none 0 0)).setCell ⟨a,5,none⟩ (.int .i64 10)).setCell ⟨a,6,none⟩ (.int .i64 0)).setCell ⟨a,7,none⟩ (.int .u64 0)).setCell ⟨a,8,none⟩ (.int .u64 0)).setCell ⟨a,9,none⟩ (.int .u64 0)).setCell ⟨a,10,none⟩ (.int .i64 0)).setCell ⟨a,11,none⟩ (.map none)=W at HSZ HL2 uw ⊢
 have RB:=Blk.new (W.alloc (.cells #[.int .i64 0,.int .i64 k,.int .u64 ea,.int .u64 ew,.bool eo,.int .i64 0] 86)) (⟨o,0,⟨k,ea,ew,eo⟩⟩:Trn).cells 140
 rw [← HSZ.out] at RB
 exact bodyPost_ret (turn_results 6 rfl _ _ _ ⟨o,0,⟨k,ea,ew,eo⟩⟩ rfl RB) rfl (hK _ _ ⟨rfl,(HL2.upd0 ((Upd.refl [] _).alloc _)).upd0 ((Upd.refl [] _).alloc _),((uw.mono (by simp)).alloc _).alloc _⟩)
theorem Live.phase {w':World} (h:Live w X sh acc st a s F rv wv mv) {s':AS} (A:AttV w' a X.ra X.ca s' F rv wv mv) (u:Upd [a] w w') (hs:Wide s'):Live w' X sh acc st a s' F rv wv mv:=
 h.keep (u.mono (by simp)) A (fun g hg=>.inl hg) hs
theorem wait_code (hL:Live w X sh acc st a s F rv wv mv) (hp:s.phase≠10) :
  Calls Tryz.prog 97 #[.pointer (some ⟨a,0,none⟩)] w (StepOk w X acc st a F going (waitS s sh).2 sh):=by
 have la:=hL.lt
 have no:=hL.out
 simp only [SX.foot,List.mem_cons,List.not_mem_nil,or_false,not_or] at no
 have lx:=hL.sh.lt
 have l1:=lx X.ra (by simp [SX.foot])
 have l2:=lx X.rb (by simp [SX.foot])
 have l3:=lx X.ca (by simp [SX.foot])
 have l4:=lx X.cr (by simp [SX.foot])
 have l5:=lx X.cb (by simp [SX.foot])
 have hoe:=opn_eq hL.sh.wide.clock.1 hL.sh.wide.clock.2
 have hop:=open_any sh.clock
 by_cases hpar:sh.clock % 2=1
 ·have he:(waitS s sh).2=s:=by unfold waitS; rw [if_pos hpar]
  rw [he]
  have ho:opn sh.clock=false:=by rw [hoe]; simp; omega
  rw [ho] at hop
  clear hoe ho
  refine calls_all fun K hK=>?_
  go_enter Tryz.func97,Tryz.ntmps97
  have a1:=hL.att.head.cell 1 rfl
  go_wp2_with fail
  obtain ⟨W,hW⟩:∃ W,W=w.alloc (.cells turn0.toArray 140):=⟨_,rfl⟩
  have RB:Blk W w.heap.size turn0 140:=by rw [hW]; exact Blk.new w _ _
  have HU:Upd [] w W:=by rw [hW]; exact (Upd.refl _ _).alloc _
  simp only [turn0,trnNone,evNone,Trn.cells] at hW
  rw [← hW]
  clear hW
  have hL1:=hL.upd0 HU
  refine (clkLoad hL1.sh.clk).mono ?_
  rintro e w1 ⟨rfl,c1,u1⟩
  have hA1:=hL1.att.upd u1 (by simp; omega) (fun g hg=>by have:=(hL.sep g hg).2.1; simp [SX.foot] at this; simp; omega)
  have U1:Upd [a,X.ca,X.cr,X.cb] w w1:=(HU.mono (by simp)).trans (u1.mono (by simp))
  have hL2:=hL.clk U1 hA1 c1 hL.sh.wide.clock hL.wide
  have RB1:=RB.upd u1 (by simp; omega)
  clear RB HU hL1 u1 c1 a1 hA1
  go_wp2_with fail
  refine (hop w1).mono ?_
  rintro e w' ⟨rfl,rfl⟩
  go_wp2_with fail
  refine (going_code _).mono ?_
  rintro e w2 ⟨rfl,u2⟩
  simp only [Trn.val,going,evNone]
  have HL2:=(hL2).upd0 u2
  have RB2:=(RB1).upd u2 (by simp)
  have U2:=((U1.mono (fun x hx=>.inl (foot_clk (F:=F) x hx)))).trans (u2.mono (by simp))
  have q0:=(RB2).cell 0 rfl
  have q1:=(RB2).cell 1 rfl
  have q2:=(RB2).cell 2 rfl
  have q3:=(RB2).cell 3 rfl
  have q4:=(RB2).cell 4 rfl
  have q5:=(RB2).cell 5 rfl
  have q6:=(RB2).cell 6 rfl
  have q7:=(RB2).cell 7 rfl
  have g0:=(RB2).free 0
  have g1:=(RB2).free 1
  have g2:=(RB2).free 2
  have g3:=(RB2).free 3
  have g4:=(RB2).free 4
  have g5:=(RB2).free 5
  have g6:=(RB2).free 6
  have g7:=(RB2).free 7
  go_wp2_with fail
  exact bodyPost_ret (turn_results 2 rfl _ _ _ going rfl (turn_set RB2 rfl going)) rfl (hK _ _ (fin_step hL (Nat.le_refl _) HL2 U2 (fun g hg=>.inl hg) (.inr (.inr ⟨rfl,rfl⟩)) _ _ _ _ _ _ _ _))
 ·have he:(waitS s sh).2 = { s with found:=sh.clock,phase:=if s.reads=[] then 6 else 5 }:=by unfold waitS; rw [if_neg hpar]
  rw [he]
  have ho:opn sh.clock=true:=by rw [hoe]; have:=hL.sh.wide.par; simp; omega
  rw [ho] at hop
  clear hoe ho
  obtain ⟨p,cp,rfl⟩:=hL.att.rd.form
  by_cases hr:s.reads=[]
  ·have hl0:((s.reads.length:Int) == 0)=true:=by simp [hr]
   rw [if_pos hr]
   refine calls_all fun K hK=>?_
   go_enter Tryz.func97,Tryz.ntmps97
   have a1:=hL.att.head.cell 1 rfl
   go_wp2_with fail
   obtain ⟨W,hW⟩:∃ W,W=w.alloc (.cells turn0.toArray 140):=⟨_,rfl⟩
   have RB:Blk W w.heap.size turn0 140:=by rw [hW]; exact Blk.new w _ _
   have HU:Upd [] w W:=by rw [hW]; exact (Upd.refl _ _).alloc _
   simp only [turn0,trnNone,evNone,Trn.cells] at hW
   rw [← hW]
   clear hW
   have hL1:=hL.upd0 HU
   refine (clkLoad hL1.sh.clk).mono ?_
   rintro e w1 ⟨rfl,c1,u1⟩
   have hA1:=hL1.att.upd u1 (by simp; omega) (fun g hg=>by have:=(hL.sep g hg).2.1; simp [SX.foot] at this; simp; omega)
   have U1:Upd [a,X.ca,X.cr,X.cb] w w1:=(HU.mono (by simp)).trans (u1.mono (by simp))
   have hL2:=hL.clk U1 hA1 c1 hL.sh.wide.clock hL.wide
   have RB1:=RB.upd u1 (by simp; omega)
   clear RB HU hL1 u1 c1 a1 hA1
   go_wp2_with fail
   refine (hop w1).mono ?_
   rintro e w' ⟨rfl,rfl⟩
   have A3:=((hL2.att.setFound sh.clock).setPhase 5 hp).setPhase 6 (by simp)
   have uw:Upd [a] w1 (((w1.setCell ⟨a,9,none⟩ (.int .u64 sh.clock)).setCell ⟨a,5,none⟩ (.int .i64 5)).setCell ⟨a,5,none⟩ (.int .i64 6)):=by
    (repeat (refine Upd.setCell ?_ (Or.inl (by simp)) _))
    exact Upd.refl _ _
   have HL3:=hL2.phase A3 uw ⟨hL.wide.snap,hL.wide.reads,hL.wide.writes,hL.wide.addr,hL.wide.word,hL.sh.wide.clock⟩
   have RB3:=RB1.upd uw (by simp; omega)
   have U3:Upd (a :: (F ++ X.foot)) w _:=(U1.mono (fun x hx=>.inl (foot_clk (F:=F) x hx))).trans (uw.mono (by simp))
   have b9:=hL2.att.head.cell 9 rfl
   have f9:=hL2.att.head.free 9
   have b5:=hL2.att.head.cell 5 rfl
   have f5:=hL2.att.head.free 5
   have b3:=hL2.att.head.cell 3 rfl
   clear uw A3 RB1 hL2
   go_wp2_with fail
   refine (going_code _).mono ?_
   rintro e w2 ⟨rfl,u2⟩
   simp only [Trn.val,going,evNone]
   have HL2:=(HL3).upd0 u2
   have RB2:=(RB3).upd u2 (by simp)
   have U2:=(U3).trans (u2.mono (by simp))
   have q0:=(RB2).cell 0 rfl
   have q1:=(RB2).cell 1 rfl
   have q2:=(RB2).cell 2 rfl
   have q3:=(RB2).cell 3 rfl
   have q4:=(RB2).cell 4 rfl
   have q5:=(RB2).cell 5 rfl
   have q6:=(RB2).cell 6 rfl
   have q7:=(RB2).cell 7 rfl
   have g0:=(RB2).free 0
   have g1:=(RB2).free 1
   have g2:=(RB2).free 2
   have g3:=(RB2).free 3
   have g4:=(RB2).free 4
   have g5:=(RB2).free 5
   have g6:=(RB2).free 6
   have g7:=(RB2).free 7
   go_wp2_with fail
   exact bodyPost_ret (turn_results 2 rfl _ _ _ going rfl (turn_set RB2 rfl going)) rfl (hK _ _ (fin_step hL (Nat.le_refl _) HL2 U2 (fun g hg=>.inl hg) (.inr (.inr ⟨rfl,rfl⟩)) _ _ _ _ _ _ _ _))
  ·have hl0:((s.reads.length:Int) == 0)=false:=by simpa using hr
   rw [if_neg hr]
   refine calls_all fun K hK=>?_
   go_enter Tryz.func97,Tryz.ntmps97
   have a1:=hL.att.head.cell 1 rfl
   go_wp2_with fail
   obtain ⟨W,hW⟩:∃ W,W=w.alloc (.cells turn0.toArray 140):=⟨_,rfl⟩
   have RB:Blk W w.heap.size turn0 140:=by rw [hW]; exact Blk.new w _ _
   have HU:Upd [] w W:=by rw [hW]; exact (Upd.refl _ _).alloc _
   simp only [turn0,trnNone,evNone,Trn.cells] at hW
   rw [← hW]
   clear hW
   have hL1:=hL.upd0 HU
   refine (clkLoad hL1.sh.clk).mono ?_
   rintro e w1 ⟨rfl,c1,u1⟩
   have hA1:=hL1.att.upd u1 (by simp; omega) (fun g hg=>by have:=(hL.sep g hg).2.1; simp [SX.foot] at this; simp; omega)
   have U1:Upd [a,X.ca,X.cr,X.cb] w w1:=(HU.mono (by simp)).trans (u1.mono (by simp))
   have hL2:=hL.clk U1 hA1 c1 hL.sh.wide.clock hL.wide
   have RB1:=RB.upd u1 (by simp; omega)
   clear RB HU hL1 u1 c1 a1 hA1
   go_wp2_with fail
   refine (hop w1).mono ?_
   rintro e w' ⟨rfl,rfl⟩
   have A3:=((hL2.att.setFound sh.clock).setPhase 5 hp)
   have uw:Upd [a] w1 ((w1.setCell ⟨a,9,none⟩ (.int .u64 sh.clock)).setCell ⟨a,5,none⟩ (.int .i64 5)):=by
    (repeat (refine Upd.setCell ?_ (Or.inl (by simp)) _))
    exact Upd.refl _ _
   have HL3:=hL2.phase A3 uw ⟨hL.wide.snap,hL.wide.reads,hL.wide.writes,hL.wide.addr,hL.wide.word,hL.sh.wide.clock⟩
   have RB3:=RB1.upd uw (by simp; omega)
   have U3:Upd (a :: (F ++ X.foot)) w _:=(U1.mono (fun x hx=>.inl (foot_clk (F:=F) x hx))).trans (uw.mono (by simp))
   have b9:=hL2.att.head.cell 9 rfl
   have f9:=hL2.att.head.free 9
   have b5:=hL2.att.head.cell 5 rfl
   have f5:=hL2.att.head.free 5
   have b3:=hL2.att.head.cell 3 rfl
   clear uw A3 RB1 hL2
   go_wp2_with fail
   refine (going_code _).mono ?_
   rintro e w2 ⟨rfl,u2⟩
   simp only [Trn.val,going,evNone]
   have HL2:=(HL3).upd0 u2
   have RB2:=(RB3).upd u2 (by simp)
   have U2:=(U3).trans (u2.mono (by simp))
   have q0:=(RB2).cell 0 rfl
   have q1:=(RB2).cell 1 rfl
   have q2:=(RB2).cell 2 rfl
   have q3:=(RB2).cell 3 rfl
   have q4:=(RB2).cell 4 rfl
   have q5:=(RB2).cell 5 rfl
   have q6:=(RB2).cell 6 rfl
   have q7:=(RB2).cell 7 rfl
   have g0:=(RB2).free 0
   have g1:=(RB2).free 1
   have g2:=(RB2).free 2
   have g3:=(RB2).free 3
   have g4:=(RB2).free 4
   have g5:=(RB2).free 5
   have g6:=(RB2).free 6
   have g7:=(RB2).free 7
   go_wp2_with fail
   exact bodyPost_ret (turn_results 2 rfl _ _ _ going rfl (turn_set RB2 rfl going)) rfl (hK _ _ (fin_step hL (Nat.le_refl _) HL2 U2 (fun g hg=>.inl hg) (.inr (.inr ⟨rfl,rfl⟩)) _ _ _ _ _ _ _ _))
end
end Go.Proofs.YtehopaabfoopeaaGreat
set_option linter.unusedSimpArgs false
set_option linter.unusedVariables false
set_option maxRecDepth 100000
namespace Go.Proofs.YtehopaabfoopeaaGreat
open Go.RowKit
open Go.Maps
section
variable {w:World} {X:SX} {sh:Sh} {acc st:Int} {a:Nat} {s:AS} {F:List Nat} {rv wv mv:Value}
theorem close_code (hL:Live w X sh acc st a s F rv wv mv) (hp:s.phase≠10) :
  Calls Tryz.prog 99 #[.pointer (some ⟨a,0,none⟩)] w (StepOk w X acc st a F (closeS s sh).1 (closeS s sh).2 sh):=by
 have la:=hL.lt
 have no:=hL.out
 simp only [SX.foot,List.mem_cons,List.not_mem_nil,or_false,not_or] at no
 have lx:=hL.sh.lt
 have l1:=lx X.ra (by simp [SX.foot])
 have l2:=lx X.rb (by simp [SX.foot])
 have l3:=lx X.ca (by simp [SX.foot])
 have l4:=lx X.cr (by simp [SX.foot])
 have l5:=lx X.cb (by simp [SX.foot])
 by_cases hc:sh.clock=s.found
 ·have he:closeS s sh=(⟨1,0,⟨4,0,s.found,false⟩⟩,{ s with snap:=s.found,phase:=s.thn,thn:=0,found:=0 }):=by unfold closeS; rw [if_pos hc]
  rw [he]
  have hne:(sh.clock != s.found)=false:=by simp [hc]
  clear hc he
  refine calls_all fun K hK=>?_
  go_enter Tryz.func99,Tryz.ntmps99
  have a1:=hL.att.head.cell 1 rfl
  go_wp2_with fail
  obtain ⟨W,hW⟩:∃ W,W=w.alloc (.cells turn0.toArray 140):=⟨_,rfl⟩
  have RB:Blk W w.heap.size turn0 140:=by rw [hW]; exact Blk.new w _ _
  have HU:Upd [] w W:=by rw [hW]; exact (Upd.refl _ _).alloc _
  simp only [turn0,trnNone,evNone,Trn.cells] at hW
  rw [← hW]
  clear hW
  have hL1:=hL.upd0 HU
  refine (clkLoad hL1.sh.clk).mono ?_
  rintro e w1 ⟨rfl,c1,u1⟩
  have hA1:=hL1.att.upd u1 (by simp; omega) (fun g hg=>by have:=(hL.sep g hg).2.1; simp [SX.foot] at this; simp; omega)
  have U1:Upd [a,X.ca,X.cr,X.cb] w w1:=(HU.mono (by simp)).trans (u1.mono (by simp))
  have hL2:=hL.clk U1 hA1 c1 hL.sh.wide.clock hL.wide
  have RB1:=RB.upd u1 (by simp; omega)
  clear RB HU hL1 u1 c1 a1 hA1
  have b9:=hL2.att.head.cell 9 rfl
  have f9:=hL2.att.head.free 9
  have b2:=hL2.att.head.cell 2 rfl
  have f2:=hL2.att.head.free 2
  have b5:=hL2.att.head.cell 5 rfl
  have f5:=hL2.att.head.free 5
  have b6:=hL2.att.head.cell 6 rfl
  have f6:=hL2.att.head.free 6
  have A3:=((((hL2.att.setFound 0).setSnap s.found).setPhase s.thn hp).setThen 0)
  have uw:Upd [a] w1 _:=((((((Upd.refl _ _).setCell (p:=⟨a,9,none⟩) (.inl (by simp)) (.int .u64 0)).setCell (p:=⟨a,2,none⟩) (.inl (by simp)) (.int .u64 s.found)).setCell (p:=⟨a,5,none⟩) (.inl (by simp)) (.int .i64 s.thn)).setCell (p:=⟨a,6,none⟩) (.inl (by simp)) (.int .i64 0)))
  have HL3:=hL2.phase A3 uw ⟨hL.wide.found,hL.wide.reads,hL.wide.writes,hL.wide.addr,hL.wide.word,by simp⟩
  have RB3:=RB1.upd uw (by simp; omega)
  have U3:Upd (a :: (F ++ X.foot)) w _:=(U1.mono (fun x hx=>.inl (foot_clk (F:=F) x hx))).trans (uw.mono (by simp))
  clear uw A3 RB1
  have q0:=(RB3).cell 0 rfl
  have q1:=(RB3).cell 1 rfl
  have q2:=(RB3).cell 2 rfl
  have q3:=(RB3).cell 3 rfl
  have q4:=(RB3).cell 4 rfl
  have q5:=(RB3).cell 5 rfl
  have q6:=(RB3).cell 6 rfl
  have q7:=(RB3).cell 7 rfl
  have g0:=(RB3).free 0
  have g1:=(RB3).free 1
  have g2:=(RB3).free 2
  have g3:=(RB3).free 3
  have g4:=(RB3).free 4
  have g5:=(RB3).free 5
  have g6:=(RB3).free 6
  have g7:=(RB3).free 7
  go_wp2_with fail
  exact bodyPost_ret (turn_results 2 rfl _ _ _ (⟨1,0,⟨4,0,s.found,false⟩⟩:Trn) rfl (turn_set RB3 rfl (⟨1,0,⟨4,0,s.found,false⟩⟩:Trn))) rfl (hK _ _ (fin_step hL (Nat.le_refl _) HL3 U3 (fun g hg=>.inl hg) (.inr (.inr ⟨rfl,rfl⟩)) _ _ _ _ _ _ _ _))
 ·have he:closeS s sh=(going,{ s with phase:=4,found:=0 }):=by unfold closeS; rw [if_neg hc]
  rw [he]
  have hne:(sh.clock != s.found)=true:=by simp [hc]
  clear hc he
  refine calls_all fun K hK=>?_
  go_enter Tryz.func99,Tryz.ntmps99
  have a1:=hL.att.head.cell 1 rfl
  go_wp2_with fail
  obtain ⟨W,hW⟩:∃ W,W=w.alloc (.cells turn0.toArray 140):=⟨_,rfl⟩
  have RB:Blk W w.heap.size turn0 140:=by rw [hW]; exact Blk.new w _ _
  have HU:Upd [] w W:=by rw [hW]; exact (Upd.refl _ _).alloc _
  simp only [turn0,trnNone,evNone,Trn.cells] at hW
  rw [← hW]
  clear hW
  have hL1:=hL.upd0 HU
  refine (clkLoad hL1.sh.clk).mono ?_
  rintro e w1 ⟨rfl,c1,u1⟩
  have hA1:=hL1.att.upd u1 (by simp; omega) (fun g hg=>by have:=(hL.sep g hg).2.1; simp [SX.foot] at this; simp; omega)
  have U1:Upd [a,X.ca,X.cr,X.cb] w w1:=(HU.mono (by simp)).trans (u1.mono (by simp))
  have hL2:=hL.clk U1 hA1 c1 hL.sh.wide.clock hL.wide
  have RB1:=RB.upd u1 (by simp; omega)
  clear RB HU hL1 u1 c1 a1 hA1
  have b9:=hL2.att.head.cell 9 rfl
  have f9:=hL2.att.head.free 9
  have b5:=hL2.att.head.cell 5 rfl
  have f5:=hL2.att.head.free 5
  have A3:=((hL2.att.setFound 0).setPhase 4 hp)
  have uw:Upd [a] w1 _:=((((Upd.refl _ _).setCell (p:=⟨a,9,none⟩) (.inl (by simp)) (.int .u64 0)).setCell (p:=⟨a,5,none⟩) (.inl (by simp)) (.int .i64 4)))
  have HL3:=hL2.phase A3 uw ⟨hL.wide.snap,hL.wide.reads,hL.wide.writes,hL.wide.addr,hL.wide.word,by simp⟩
  have RB3:=RB1.upd uw (by simp; omega)
  have U3:Upd (a :: (F ++ X.foot)) w _:=(U1.mono (fun x hx=>.inl (foot_clk (F:=F) x hx))).trans (uw.mono (by simp))
  clear uw A3 RB1
  go_wp2_with fail
  refine (going_code _).mono ?_
  rintro e w2 ⟨rfl,u2⟩
  simp only [Trn.val,going,evNone]
  have HL2:=(HL3).upd0 u2
  have RB2:=(RB3).upd u2 (by simp)
  have U2:=(U3).trans (u2.mono (by simp))
  have q0:=(RB2).cell 0 rfl
  have q1:=(RB2).cell 1 rfl
  have q2:=(RB2).cell 2 rfl
  have q3:=(RB2).cell 3 rfl
  have q4:=(RB2).cell 4 rfl
  have q5:=(RB2).cell 5 rfl
  have q6:=(RB2).cell 6 rfl
  have q7:=(RB2).cell 7 rfl
  have g0:=(RB2).free 0
  have g1:=(RB2).free 1
  have g2:=(RB2).free 2
  have g3:=(RB2).free 3
  have g4:=(RB2).free 4
  have g5:=(RB2).free 5
  have g6:=(RB2).free 6
  have g7:=(RB2).free 7
  go_wp2_with fail
  exact bodyPost_ret (turn_results 2 rfl _ _ _ going rfl (turn_set RB2 rfl going)) rfl (hK _ _ (fin_step hL (Nat.le_refl _) HL2 U2 (fun g hg=>.inl hg) (.inr (.inr ⟨rfl,rfl⟩)) _ _ _ _ _ _ _ _))
theorem lock_code (hL:Live w X sh acc st a s F rv wv mv) (hp:s.phase≠10) (hev:s.snap % 2=0) :
  Calls Tryz.prog 100 #[.pointer (some ⟨a,0,none⟩)] w (StepOk w X acc st a F (lockS s sh).1 (lockS s sh).2.1 (lockS s sh).2.2):=by
 have la:=hL.lt
 have no:=hL.out
 simp only [SX.foot,List.mem_cons,List.not_mem_nil,or_false,not_or] at no
 have lx:=hL.sh.lt
 have l1:=lx X.ra (by simp [SX.foot])
 have l2:=lx X.rb (by simp [SX.foot])
 have l3:=lx X.ca (by simp [SX.foot])
 have l4:=lx X.cr (by simp [SX.foot])
 have l5:=lx X.cb (by simp [SX.foot])
 have hops:opn s.snap=true:=by rw [opn_eq hL.wide.snap.1 hL.wide.snap.2]; simpa using hev
 by_cases hc:sh.clock=s.snap
 ·have he:lockS s sh=(⟨1,0,⟨5,0,0,false⟩⟩,{ s with phase:=8 },{ sh with clock:=sh.clock+1 }):=by unfold lockS; rw [if_pos hc]
  rw [he]
  have ht:takes sh.clock s.snap=true:=by simp [takes,hops,hc]
  have hx:up64 s.snap=sh.clock+1:=by rw [hc]; unfold up64; exact u64_in _ (by have:=hL.wide.snap; omega)
  have hwid:0≤sh.clock+1∧sh.clock+1<18446744073709551616:=by rw [hc]; have:=hL.wide.snap; omega
  have HT:=Lib.hid ht
  have HX:=Lib.hid hx
  clear hc he ht hx hops
  refine calls_all fun K hK=>?_
  go_enter Tryz.func100,Tryz.ntmps100
  go_wp2_with fail
  obtain ⟨W,hW⟩:∃ W,W=w.alloc (.cells turn0.toArray 140):=⟨_,rfl⟩
  have RB:Blk W w.heap.size turn0 140:=by rw [hW]; exact Blk.new w _ _
  have HU:Upd [] w W:=by rw [hW]; exact (Upd.refl _ _).alloc _
  simp only [turn0,trnNone,evNone,Trn.cells] at hW
  rw [← hW]
  clear hW
  have hL1:=hL.upd0 HU.drew
  have a1:=hL1.att.head.cell 1 rfl
  have a2:=hL1.att.head.cell 2 rfl
  refine wp_region_eff (fun w'=>w'.cell? ⟨a,1,none⟩=some (.pointer (some ⟨X.ca,0,none⟩))∧w'.cell? ⟨a,2,none⟩=some (.int .u64 s.snap)) 15 (by kernel_rfl) (by kernel_rfl) ⟨a1,a2⟩ ?_
  repeat
   refine wpE_take (v:=?_) (by decide) rfl (by rfl) ?_ ?_
   rotate_left 1
   ·((intro w hSw; (try dsimp only at hSw); go_simp); try with_reducible rfl)
   try simp only [Act.put,List.setIfInBounds_toArray,List.set_cons_zero,List.set_cons_succ]
  refine wpE_eff (by decide) rfl (by kernel_rfl) (by rfl) (fun K2 hK2=>?_)
  go_simp
  refine (clkTake_yes hL1.sh.clk s.snap (sh.clock+1) HT.out HX.out).mono ?_
  rintro e w1 ⟨rfl,c1,u1⟩
  have hA1:=hL1.att.upd u1 (by simp; omega) (fun g hg=>by have:=(hL.sep g hg).2.1; simp [SX.foot] at this; simp; omega)
  refine hK2.out _ _ ⟨hA1.head.cell 1 rfl,hA1.head.cell 2 rfl⟩ ?_
  clear hK2 K2
  repeat
   refine wpE_take (v:=?_) (by decide) rfl (by rfl) ?_ ?_
   rotate_left 1
   ·((intro w hSw; (try dsimp only at hSw); go_simp); try with_reducible rfl)
   try simp only [Act.put,List.setIfInBounds_toArray,List.set_cons_zero,List.set_cons_succ]
  refine wpE_end (NoPanic.normal ?_)
  have U1:Upd [a,X.ca,X.cr,X.cb] w w1:=(HU.drew.mono (by simp)).trans (u1.mono (by simp))
  have hL2:=hL.clk U1 hA1 c1 hwid hL.wide
  have RB1:=RB.drew.upd u1 (by simp; omega)
  clear RB HU hL1 u1 c1 a1 a2 hA1
  have b5:=hL2.att.head.cell 5 rfl
  have f5:=hL2.att.head.free 5
  have A3:=(hL2.att.setPhase 8 hp)
  have uw:Upd [a] w1 _:=((Upd.refl _ _).setCell (p:=⟨a,5,none⟩) (.inl (by simp)) (.int .i64 8))
  have HL3:=hL2.phase A3 uw ⟨hL.wide.snap,hL.wide.reads,hL.wide.writes,hL.wide.addr,hL.wide.word,hL.wide.found⟩
  have RB3:=RB1.upd uw (by simp; omega)
  have U3:Upd (a :: (F ++ X.foot)) w _:=(U1.mono (fun x hx=>.inl (foot_clk (F:=F) x hx))).trans (uw.mono (by simp))
  clear uw A3 RB1
  have q0:=(RB3).cell 0 rfl
  have q1:=(RB3).cell 1 rfl
  have q2:=(RB3).cell 2 rfl
  have q3:=(RB3).cell 3 rfl
  have q4:=(RB3).cell 4 rfl
  have q5:=(RB3).cell 5 rfl
  have q6:=(RB3).cell 6 rfl
  have q7:=(RB3).cell 7 rfl
  have g0:=(RB3).free 0
  have g1:=(RB3).free 1
  have g2:=(RB3).free 2
  have g3:=(RB3).free 3
  have g4:=(RB3).free 4
  have g5:=(RB3).free 5
  have g6:=(RB3).free 6
  have g7:=(RB3).free 7
  go_wp2_with fail
  exact bodyPost_ret (turn_results 2 rfl _ _ _ (⟨1,0,⟨5,0,0,false⟩⟩:Trn) rfl (turn_set RB3 rfl (⟨1,0,⟨5,0,0,false⟩⟩:Trn))) rfl (hK _ _ (fin_step hL (Nat.le_refl _) HL3 U3 (fun g hg=>.inl hg) (.inr (.inr ⟨rfl,rfl⟩)) _ _ _ _ _ _ _ _))
 ·have he:lockS s sh=(going,{ s with phase:=4,thn:=7 },sh):=by unfold lockS; rw [if_neg hc]
  rw [he]
  have ht:takes sh.clock s.snap=false:=by simp [takes,hc]
  have HT:=Lib.hid ht
  clear hc he ht hops
  refine calls_all fun K hK=>?_
  go_enter Tryz.func100,Tryz.ntmps100
  go_wp2_with fail
  obtain ⟨W,hW⟩:∃ W,W=w.alloc (.cells turn0.toArray 140):=⟨_,rfl⟩
  have RB:Blk W w.heap.size turn0 140:=by rw [hW]; exact Blk.new w _ _
  have HU:Upd [] w W:=by rw [hW]; exact (Upd.refl _ _).alloc _
  simp only [turn0,trnNone,evNone,Trn.cells] at hW
  rw [← hW]
  clear hW
  have hL1:=hL.upd0 HU.drew
  have a1:=hL1.att.head.cell 1 rfl
  have a2:=hL1.att.head.cell 2 rfl
  refine wp_region_eff (fun w'=>w'.cell? ⟨a,1,none⟩=some (.pointer (some ⟨X.ca,0,none⟩))∧w'.cell? ⟨a,2,none⟩=some (.int .u64 s.snap)) 15 (by kernel_rfl) (by kernel_rfl) ⟨a1,a2⟩ ?_
  repeat
   refine wpE_take (v:=?_) (by decide) rfl (by rfl) ?_ ?_
   rotate_left 1
   ·((intro w hSw; (try dsimp only at hSw); go_simp); try with_reducible rfl)
   try simp only [Act.put,List.setIfInBounds_toArray,List.set_cons_zero,List.set_cons_succ]
  refine wpE_eff (by decide) rfl (by kernel_rfl) (by rfl) (fun K2 hK2=>?_)
  go_simp
  refine (clkTake_no hL1.sh.clk s.snap HT.out).mono ?_
  rintro e w1 ⟨rfl,c1,u1⟩
  have hA1:=hL1.att.upd u1 (by simp; omega) (fun g hg=>by have:=(hL.sep g hg).2.1; simp [SX.foot] at this; simp; omega)
  refine hK2.out _ _ ⟨hA1.head.cell 1 rfl,hA1.head.cell 2 rfl⟩ ?_
  clear hK2 K2
  repeat
   refine wpE_take (v:=?_) (by decide) rfl (by rfl) ?_ ?_
   rotate_left 1
   ·((intro w hSw; (try dsimp only at hSw); go_simp); try with_reducible rfl)
   try simp only [Act.put,List.setIfInBounds_toArray,List.set_cons_zero,List.set_cons_succ]
  refine wpE_end (NoPanic.normal ?_)
  have U1:Upd [a,X.ca,X.cr,X.cb] w w1:=(HU.drew.mono (by simp)).trans (u1.mono (by simp))
  have hL2:=hL.clk U1 hA1 c1 hL.sh.wide.clock hL.wide
  have RB1:=RB.drew.upd u1 (by simp; omega)
  clear RB HU hL1 u1 c1 a1 a2 hA1
  have b5:=hL2.att.head.cell 5 rfl
  have f5:=hL2.att.head.free 5
  have b6:=hL2.att.head.cell 6 rfl
  have f6:=hL2.att.head.free 6
  have A3:=((hL2.att.setPhase 4 hp).setThen 7)
  have uw:Upd [a] w1 _:=(((Upd.refl _ _).setCell (p:=⟨a,5,none⟩) (.inl (by simp)) (.int .i64 4)).setCell (p:=⟨a,6,none⟩) (.inl (by simp)) (.int .i64 7))
  have HL3:=hL2.phase A3 uw ⟨hL.wide.snap,hL.wide.reads,hL.wide.writes,hL.wide.addr,hL.wide.word,hL.wide.found⟩
  have RB3:=RB1.upd uw (by simp; omega)
  have U3:Upd (a :: (F ++ X.foot)) w _:=(U1.mono (fun x hx=>.inl (foot_clk (F:=F) x hx))).trans (uw.mono (by simp))
  clear uw A3 RB1
  go_wp2_with fail
  refine (going_code _).mono ?_
  rintro e w2 ⟨rfl,u2⟩
  simp only [Trn.val,going,evNone]
  have HL2:=(HL3).upd0 u2
  have RB2:=(RB3).upd u2 (by simp)
  have U2:=(U3).trans (u2.mono (by simp))
  have q0:=(RB2).cell 0 rfl
  have q1:=(RB2).cell 1 rfl
  have q2:=(RB2).cell 2 rfl
  have q3:=(RB2).cell 3 rfl
  have q4:=(RB2).cell 4 rfl
  have q5:=(RB2).cell 5 rfl
  have q6:=(RB2).cell 6 rfl
  have q7:=(RB2).cell 7 rfl
  have g0:=(RB2).free 0
  have g1:=(RB2).free 1
  have g2:=(RB2).free 2
  have g3:=(RB2).free 3
  have g4:=(RB2).free 4
  have g5:=(RB2).free 5
  have g6:=(RB2).free 6
  have g7:=(RB2).free 7
  go_wp2_with fail
  exact bodyPost_ret (turn_results 2 rfl _ _ _ going rfl (turn_set RB2 rfl going)) rfl (hK _ _ (fin_step hL (Nat.le_refl _) HL2 U2 (fun g hg=>.inl hg) (.inr (.inr ⟨rfl,rfl⟩)) _ _ _ _ _ _ _ _))
theorem free_code (hL:Live w X sh acc st a s F rv wv mv) (hev:s.snap % 2=0) :
  Calls Tryz.prog 102 #[.pointer (some ⟨a,0,none⟩)] w (StepOk w X acc st a F (freeS s sh).1 (freeS s sh).2.1 (freeS s sh).2.2):=by
 have la:=hL.lt
 have no:=hL.out
 simp only [SX.foot,List.mem_cons,List.not_mem_nil,or_false,not_or] at no
 have lx:=hL.sh.lt
 have l1:=lx X.ra (by simp [SX.foot])
 have l2:=lx X.rb (by simp [SX.foot])
 have l3:=lx X.ca (by simp [SX.foot])
 have l4:=lx X.cr (by simp [SX.foot])
 have l5:=lx X.cb (by simp [SX.foot])
 have hops:opn s.snap=true:=by rw [opn_eq hL.wide.snap.1 hL.wide.snap.2]; simpa using hev
 have hu1:up64 s.snap=s.snap+1:=by unfold up64; exact u64_in _ (by have:=hL.wide.snap; omega)
 have hu2:up64b s.snap=(s.snap+2) % 18446744073709551616:=by unfold up64b; rw [IntKind.wrap_u64]
 have hnum:∀ w,Calls Tryz.prog 115 #[.int .u64 (IntKind.u64.wrap (s.snap+2))] w fun e w'=>e=.returned (.int .u64 ((s.snap+2) % 18446744073709551616 / 2))∧w=w':=fun w=>by
  have:=number_any (IntKind.u64.wrap (s.snap+2)) w (by rw [IntKind.wrap_u64]; omega) (by rw [IntKind.wrap_u64]; omega)
  rw [IntKind.wrap_u64] at this ⊢
  exact this
 have hlv:∀ W,ClockAt W X.ca X.cr X.cb sh.clock st → ∃ q:Int,Calls Tryz.prog 114 #[.pointer (some ⟨X.ca,0,none⟩),.int .u64 s.snap] W fun e w'=>e=.returned (.int .i64 q)∧ClockAt w' X.ca X.cr X.cb (freeS s sh).2.2.clock (wrap64 (st+1))∧Upd [X.ca,X.cr,X.cb] W w':=by
  intro W hW
  unfold freeS
  by_cases hc:sh.clock=s.snap+1
  ·rw [if_pos hc]
   exact ⟨_,clkLeave_yes hW s.snap _ (by simp [holds,hops,hu1,hc]) hu2⟩
  ·rw [if_neg hc]
   exact ⟨_,clkLeave_no hW s.snap (by simp [holds,hops,hu1,hc])⟩
 have hrow:(freeS s sh).2.2.row=sh.row:=len_free
 have hcw:WideSh (freeS s sh).2.2:=wsh_free hL.sh.wide
 have he:(freeS s sh).1=⟨4,0,⟨6,0,(s.snap+2) % 18446744073709551616 / 2,false⟩⟩:=rfl
 have he2:(freeS s sh).2.1=overS:=rfl
 rw [he,he2]
 generalize (freeS s sh).2.2=sh2 at *
 obtain ⟨row2,ck2⟩:=sh2
 simp only at hrow hlv
 subst hrow
 clear he he2 hu1 hu2 hops
 have a1:=hL.att.head.cell 1 rfl
 have a2:=hL.att.head.cell 2 rfl
 refine calls_all fun K hK=>?_
 go_enter Tryz.func102,Tryz.ntmps102
 go_wp2_with fail
 obtain ⟨W,hW⟩:∃ W,W=w.alloc (.cells turn0.toArray 140):=⟨_,rfl⟩
 have RB:Blk W w.heap.size turn0 140:=by rw [hW]; exact Blk.new w _ _
 have HU:Upd [] w W:=by rw [hW]; exact (Upd.refl _ _).alloc _
 simp only [turn0,trnNone,evNone,Trn.cells] at hW
 rw [← hW]
 clear hW
 have hL1:=hL.upd0 HU
 obtain ⟨q,hq⟩:=hlv W hL1.sh.clk
 refine hq.mono ?_
 rintro e w1 ⟨rfl,c1,u1⟩
 have hA1:=hL1.att.upd u1 (by simp; omega) (fun g hg=>by have:=(hL.sep g hg).2.1; simp [SX.foot] at this; simp; omega)
 have U1:Upd [a,X.ca,X.cr,X.cb] w w1:=(HU.mono (by simp)).trans (u1.mono (by simp))
 have hL2:=hL.clk U1 hA1 c1 hcw.clock hL.wide
 have RB1:=RB.upd u1 (by simp; omega)
 clear RB HU hL1 u1 c1 a1 a2 hA1
 go_wp2_with fail
 refine (hnum w1).mono ?_
 rintro e w' ⟨rfl,rfl⟩
 go_wp2_with fail
 refine (over_code hL2 4 ⟨6,0,(s.snap+2) % 18446744073709551616 / 2,false⟩).mono ?_
 rintro e w3 ⟨rfl,HL3,u3⟩
 simp only [Trn.val]
 have U3:Upd (a :: (F ++ X.foot)) w w3:=(U1.mono (fun x hx=>.inl (foot_clk (F:=F) x hx))).trans (u3.mono (by simp; exact fun x h=>.inl (.inr (.inl h))))
 have RB3:=RB1.upd u3 (by simp; exact ⟨by omega,fun h=>by have:=(hL.sep _ h).1; omega⟩)
 clear RB1 hL2
 have q0:=(RB3).cell 0 rfl
 have q1:=(RB3).cell 1 rfl
 have q2:=(RB3).cell 2 rfl
 have q3:=(RB3).cell 3 rfl
 have q4:=(RB3).cell 4 rfl
 have q5:=(RB3).cell 5 rfl
 have q6:=(RB3).cell 6 rfl
 have q7:=(RB3).cell 7 rfl
 have g0:=(RB3).free 0
 have g1:=(RB3).free 1
 have g2:=(RB3).free 2
 have g3:=(RB3).free 3
 have g4:=(RB3).free 4
 have g5:=(RB3).free 5
 have g6:=(RB3).free 6
 have g7:=(RB3).free 7
 go_wp2_with fail
 exact bodyPost_ret (turn_results 2 rfl _ _ _ (⟨4,0,⟨6,0,(s.snap+2) % 18446744073709551616 / 2,false⟩⟩:Trn) rfl (turn_set RB3 rfl (⟨4,0,⟨6,0,(s.snap+2) % 18446744073709551616 / 2,false⟩⟩:Trn))) rfl (hK _ _ (fin_step hL (Nat.le_refl _) HL3 U3 (fun g hg=>.inl hg) (.inr (.inr ⟨rfl,rfl⟩)) _ _ _ _ _ _ _ _))
end
end Go.Proofs.YtehopaabfoopeaaGreat
set_option linter.unusedSimpArgs false
set_option linter.unusedVariables false
set_option maxRecDepth 100000
namespace Go.Proofs.YtehopaabfoopeaaGreat
open Go.RowKit
open Go.Maps
section
variable {w:World} {X:SX} {sh:Sh} {acc st:Int} {a:Nat} {s:AS} {F:List Nat} {rv wv mv:Value}
set_option maxHeartbeats 1000000 in
theorem look_code (hL:Live w X sh acc st a s F rv wv mv) (hp:s.phase≠10) (hlen:s.reads.length<1024) :
  Calls Tryz.prog 96 #[.pointer (some ⟨a,0,none⟩)] w (StepOk w X acc st a F (lookS s sh).1 (lookS s sh).2 sh):=by
 have la:=hL.lt
 have no:=hL.out
 simp only [SX.foot,List.mem_cons,List.not_mem_nil,or_false,not_or] at no
 have lx:=hL.sh.lt
 have l1:=lx X.ra (by simp [SX.foot])
 have l2:=lx X.rb (by simp [SX.foot])
 have l3:=lx X.ca (by simp [SX.foot])
 have l4:=lx X.cr (by simp [SX.foot])
 have l5:=lx X.cb (by simp [SX.foot])
 by_cases hc:sh.clock=s.snap
 ·have he:lookS s sh=(⟨2,s.word,⟨2,s.addr,s.word,false⟩⟩,{ s with reads:=s.reads ++ [(s.addr,s.word)],phase:=1,addr:=0,word:=0 }):=by unfold lookS; rw [if_pos hc]
  rw [he]
  have hne:(sh.clock == s.snap)=true:=by simp [hc]
  clear hc he
  refine calls_all fun K hK=>?_
  go_enter Tryz.func96,Tryz.ntmps96
  have a1:=hL.att.head.cell 1 rfl
  go_wp2_with fail
  obtain ⟨W,hW⟩:∃ W,W=w.alloc (.cells turn0.toArray 140):=⟨_,rfl⟩
  have RB:Blk W w.heap.size turn0 140:=by rw [hW]; exact Blk.new w _ _
  have HU:Upd [] w W:=by rw [hW]; exact (Upd.refl _ _).alloc _
  simp only [turn0,trnNone,evNone,Trn.cells] at hW
  rw [← hW]
  clear hW
  have hL1:=hL.upd0 HU
  refine (clkLoad hL1.sh.clk).mono ?_
  rintro e w1 ⟨rfl,c1,u1⟩
  have hA1:=hL1.att.upd u1 (by simp; omega) (fun g hg=>by have:=(hL.sep g hg).2.1; simp [SX.foot] at this; simp; omega)
  have U1:Upd [a,X.ca,X.cr,X.cb] w w1:=(HU.mono (by simp)).trans (u1.mono (by simp))
  have hL2:=hL.clk U1 hA1 c1 hL.sh.wide.clock hL.wide
  have RB1:=RB.upd u1 (by simp; omega)
  clear RB HU hL1 u1 c1 a1 hA1
  go_wp2_with fail
  have a7:=hL2.att.head.cell 7 rfl
  have a8:=hL2.att.head.cell 8 rfl
  have hl1:=hL2.lt
  refine wp_region_eff (fun w'=>w'.cell? ⟨a,7,none⟩=some (.int .u64 s.addr)∧w'.cell? ⟨a,8,none⟩=some (.int .u64 s.word)) 13 (by kernel_rfl) (by kernel_rfl) ⟨a7,a8⟩ ?_
  repeat
   refine wpE_take (v:=?_) (by decide) rfl (by rfl) ?_ ?_
   rotate_left 1
   ·((intro w hSw; (try dsimp only at hSw); go_simp); try with_reducible rfl)
   try simp only [Act.put,List.setIfInBounds_toArray,List.set_cons_zero,List.set_cons_succ]
  refine wpE_eff (by decide) rfl (by kernel_rfl) (by rfl) (fun K2 hK2=>?_)
  go_simp
  obtain ⟨W2,hW2⟩:∃ W2,W2=(w1.alloc (.cells #[.int .u64 0,.int .u64 0] 71)).drew:=⟨_,rfl⟩
  have CB:Blk W2 w1.heap.size [.int .u64 0,.int .u64 0] 71:=by rw [hW2]; exact (Blk.new w1 _ _).drew
  have u2:Upd [] w1 W2:=by rw [hW2]; exact ((Upd.refl [] _).alloc _).drew
  rw [← hW2]
  clear hW2
  have hL3:=hL2.upd0 u2
  refine hK2.out _ _ ⟨hL3.att.head.cell 7 rfl,hL3.att.head.cell 8 rfl⟩ ?_
  clear hK2 K2
  repeat
   refine wpE_take (v:=?_) (by decide) rfl (by rfl) ?_ ?_
   rotate_left 1
   ·((intro w hSw; (try dsimp only at hSw); go_simp); try with_reducible rfl)
   try simp only [Act.put,List.setIfInBounds_toArray,List.set_cons_zero,List.set_cons_succ]
  have k0:=CB.cell 0 rfl
  have k1:=CB.cell 1 rfl
  have j0:=CB.free 0
  have j1:=CB.free 1
  refine wpE_eff (by decide) rfl (by kernel_rfl) (by rfl) (fun K2 hK2=>?_)
  go_simp
  have CB2:=(CB.set 0 (.int .u64 s.addr)).set 1 (.int .u64 s.word)
  have u3:Upd [w1.heap.size] W2 ((W2.setCell ⟨w1.heap.size,0,none⟩ (.int .u64 s.addr)).setCell ⟨w1.heap.size,1,none⟩ (.int .u64 s.word)):=((Upd.refl _ _).setCell (.inl (by simp)) _).setCell (.inl (by simp)) _
  have hL4:=hL2.upd1 (b:=w1.heap.size) ((u2.mono (by simp)).trans u3) (Nat.le_refl _)
  refine hK2.out _ _ ⟨hL4.att.head.cell 7 rfl,hL4.att.head.cell 8 rfl⟩ ?_
  refine wpE_end (NoPanic.normal ?_)
  have hwl:w.heap.size≤w1.heap.size:=U1.size
  have RB4:=(RB1.upd u2 (by simp)).upd u3 (by have:=RB1.lt; simp; omega)
  have U4:Upd (a :: (F ++ X.foot)) w _:=((U1.mono (fun x hx=>.inl (foot_clk (F:=F) x hx))).trans (u2.mono (by simp))).tr u3 (fun _ h=>.inl h) (fun x hx=>.inr (by simp at hx; omega))
  clear hK2 K2 k0 k1 j0 j1 a7 a8 CB hL3 u2 u3 RB1
  generalize (W2.setCell ⟨w1.heap.size,0,none⟩ (.int .u64 s.addr)).setCell ⟨w1.heap.size,1,none⟩ (.int .u64 s.word)=W3 at CB2 hL4 RB4 U4 ⊢
  have b8:=hL4.att.head.cell 8 rfl
  have f8:=hL4.att.head.free 8
  have b2:=hL4.att.head.cell 2 rfl
  have c0:=CB2.cell 0 rfl
  have c1:=CB2.cell 1 rfl
  have hne':w1.heap.size≠a:=by have:=hL2.lt; omega
  go_wp2_with fail
  have uw:Upd [a] W3 (W3.setCell ⟨a,8,none⟩ (.int .u64 0)):=(Upd.refl _ _).setCell (.inl (by simp)) _
  have hL5:=hL4.phase (hL4.att.setWord 0) uw ⟨hL.wide.snap,hL.wide.reads,hL.wide.writes,hL.wide.addr,by simp,hL.wide.found⟩
  have CB5:=CB2.upd uw (by simpa using hne')
  have RB5:=RB4.upd uw (by simp; omega)
  have U5:=U4.trans (uw.mono (T:=a :: (F ++ X.foot)) (by simp))
  clear b8 f8 b2 c0 c1 uw hL4 RB4 U4 CB2
  generalize W3.setCell ⟨a,8,none⟩ (.int .u64 0)=W4 at hL5 CB5 RB5 U5 ⊢
  have hl45:w1.heap.size<W4.heap.size:=CB5.lt
  have a3:=hL5.att.head.cell 3 rfl
  have c0:=CB5.cell 0 rfl
  have c1:=CB5.cell 1 rfl
  refine wp_region_eff (fun w'=>w'.cell? ⟨a,3,none⟩=some rv∧w'.cell? ⟨w1.heap.size,0,none⟩=some (.int .u64 s.addr)∧w'.cell? ⟨w1.heap.size,1,none⟩=some (.int .u64 s.word)) 12 (by kernel_rfl) (by kernel_rfl) ⟨a3,c0,c1⟩ ?_
  repeat
   refine wpE_take (v:=?_) (by decide) rfl (by rfl) ?_ ?_
   rotate_left 1
   ·((intro w hSw; (try dsimp only at hSw); go_simp); try with_reducible rfl)
   try simp only [Act.put,List.setIfInBounds_toArray,List.set_cons_zero,List.set_cons_succ]
  refine wpE_eff (by decide) rfl (by kernel_rfl) (by rfl) (fun K2 hK2=>?_)
  go_simp
  obtain ⟨W5,hW5⟩:∃ W5,W5=(W4.alloc (.cells #[.int .u64 s.addr,.int .u64 s.word] 71)).drew:=⟨_,rfl⟩
  obtain ⟨v6,W6,G6,hrun,ho6,hu6,hat6,hFG,hGF⟩:∃ v' w' G,(Builtin.append_ #[53,53] 53 #[rv,.slice (some ⟨W4.heap.size,0,none⟩) 1 1]).run Tryz.prog W5=.ok v' w'∧OwnP w' v' (s.reads ++ [(s.addr,s.word)]) G∧Upd rv.ownBlock.toList W5 w'∧(v'.ownBlock=rv.ownBlock∨v'.ownBlock=some (W4.heap.size+1))∧(∀ g ∈ F,g ∈ G)∧(∀ g ∈ G,g ∈ F∨W4.heap.size<g∧g<w'.heap.size):=by
   rw [hW5]; exact app_pair (W:=W4.drew) (hL5.att.rd.upd (Upd.refl [] _).drew (by simp)) s.addr s.word (Nat.lt_trans hlen (by decide))
  have u5:Upd [] W4 W5:=by rw [hW5]; exact ((Upd.refl [] _).alloc _).drew
  have hs5:W5.heap.size=W4.heap.size+1:=by rw [hW5]; exact World.size_alloc _ _
  rw [← hW5]
  clear hW5
  have hL6:=hL5.upd0 u5
  have CB6:=CB5.upd u5 (by simp)
  refine hK2.out _ _ ⟨hL6.att.head.cell 3 rfl,CB6.cell 0 rfl,CB6.cell 1 rfl⟩ ?_
  clear hK2 K2
  obtain ⟨p6,q6,rfl⟩:=ho6.form
  have hg6:∀ g ∈ rv.ownBlock.toList,g ∈ F:=fun g hg=>hL6.att.rd.inF g (by simpa using hg)
  have hA6:=hL6.att.setReads hu6 ho6 hFG (by rcases hat6 with e | e; exact .inl e; exact .inr (fun g hg=>by rw [e] at hg; simp at hg; omega))
  have hh6:=hL6.att.head.upd hu6 (fun hg=>hL6.att.not_rd (by simpa using hg))
  have hw1:w1.heap.size ∉ F:=fun h=>by have:=(hL.sep _ h).1; have:=U1.size; omega
  have CB7:=CB6.upd hu6 (fun h=>hw1 (hg6 _ h))
  have RB7:=(RB5.upd u5 (by simp)).upd hu6 (fun h=>Nat.lt_irrefl _ (hL.sep _ (hg6 _ h)).1)
  have U7:=(U5.trans (u5.mono (T:=a :: (F ++ X.foot)) (by simp))).trans (hu6.mono (T:=a :: (F ++ X.foot)) (fun g hg=>.inl (by have:=hg6 g hg; simp [this])))
  refine wpE_append (by decide) rfl (by kernel_rfl) (by rfl) _ _ _ _ rfl _ _ _ rfl rfl hrun ⟨hh6.cell 3 rfl,CB7.cell 0 rfl,CB7.cell 1 rfl⟩ ?_
  try simp only [Act.put,List.setIfInBounds_toArray,List.set_cons_zero,List.set_cons_succ]
  repeat
   refine wpE_take (v:=?_) (by decide) rfl (by rfl) ?_ ?_
   rotate_left 1
   ·((intro w hSw; (try dsimp only at hSw); go_simp); try with_reducible rfl)
   try simp only [Act.put,List.setIfInBounds_toArray,List.set_cons_zero,List.set_cons_succ]
  have a3':=hh6.cell 3 rfl
  have f3':=hh6.free 3
  refine wpE_tail ?_
  go_wp2_with fail
  refine NoPanic.normal ?_
  have hl6:(s.reads ++ [(s.addr,s.word)]).length=s.reads.length+1:=by simp
  rw [hl6] at hA6
  have uw:Upd [a] W6 (W6.setCell ⟨a,3,none⟩ (.slice p6 (s.reads.length+1:Nat) q6)):=(Upd.refl _ _).setCell (.inl (by simp)) _
  have HL7:=hL6.keep ((hu6.mono (T:=a :: F) (fun g hg=>.inl (List.mem_cons_of_mem _ (hg6 g hg)))).trans (uw.mono (by simp))) hA6 (fun g hg=>(hGF g hg).imp id (fun h=>by have:=uw.size; omega)) ⟨hL.wide.snap,fun c hc=>by rcases List.mem_append.1 hc with k | k; exact hL.wide.reads c k; (simp at k; subst k; exact ⟨hL.wide.addr,hL.wide.word⟩),hL.wide.writes,hL.wide.addr,by simp,hL.wide.found⟩
  have RB8:=RB7.upd uw (by simp; omega)
  have CB8:=CB7.upd uw (by simpa using hne')
  have U8:=U7.trans (uw.mono (T:=a :: (F ++ X.foot)) (by simp))
  clear hA6 uw a3' f3' hh6 hrun hu6 ho6 hat6 hL6 hL5 CB5 CB6 CB7 RB5 RB7 U5 U7 u5 a3 c0 c1
  generalize W6.setCell ⟨a,3,none⟩ (.slice p6 (s.reads.length+1:Nat) q6)=W7 at HL7 RB8 CB8 U8 ⊢
  have b7:=HL7.att.head.cell 7 rfl
  have f7:=HL7.att.head.free 7
  have b5:=HL7.att.head.cell 5 rfl
  have f5:=HL7.att.head.free 5
  have c0:=CB8.cell 0 rfl
  have c1:=CB8.cell 1 rfl
  have uw:Upd [a] W7 ((W7.setCell ⟨a,7,none⟩ (.int .u64 0)).setCell ⟨a,5,none⟩ (.int .i64 1)):=((Upd.refl _ _).setCell (.inl (by simp)) _).setCell (.inl (by simp)) _
  have HL9:=HL7.phase ((HL7.att.setAddr 0).setPhase 1 hp) uw ⟨HL7.wide.snap,HL7.wide.reads,HL7.wide.writes,by simp,by simp,HL7.wide.found⟩
  have RB9:=RB8.upd uw (by simp; omega)
  have U9:=U8.trans (uw.mono (T:=a :: (F ++ X.foot)) (by simp))
  have hrw:w.heap.size ∉ G6:=fun h=>by
   rcases hGF _ h with k | k
   ·exact Nat.lt_irrefl _ (hL.sep _ k).1
   ·have:=RB9.lt; have:=hl45; have:=U1.size; omega
  clear uw
  have q0:=(RB9).cell 0 rfl
  have q1:=(RB9).cell 1 rfl
  have q2:=(RB9).cell 2 rfl
  have q3:=(RB9).cell 3 rfl
  have q4:=(RB9).cell 4 rfl
  have q5:=(RB9).cell 5 rfl
  have q6:=(RB9).cell 6 rfl
  have q7:=(RB9).cell 7 rfl
  have g0:=(RB9).free 0
  have g1:=(RB9).free 1
  have g2:=(RB9).free 2
  have g3:=(RB9).free 3
  have g4:=(RB9).free 4
  have g5:=(RB9).free 5
  have g6:=(RB9).free 6
  have g7:=(RB9).free 7
  go_wp2_with fail
  exact bodyPost_ret (turn_results 2 rfl _ _ _ (⟨2,s.word,⟨2,s.addr,s.word,false⟩⟩:Trn) rfl (turn_set RB9 rfl (⟨2,s.word,⟨2,s.addr,s.word,false⟩⟩:Trn))) rfl (hK _ _ (fin_step hL (Nat.le_refl _) HL9 U9 (fun g hg=>(hGF g hg).imp id (fun h=>by have:=U1.size; have:=hl45; exact ⟨by omega,fun e=>hrw (e ▸ hg)⟩)) (.inr (.inr ⟨rfl,rfl⟩)) _ _ _ _ _ _ _ _))
 ·have he:lookS s sh=(going,{ s with phase:=4,thn:=2,word:=0 }):=by unfold lookS; rw [if_neg hc]
  rw [he]
  have hne:(sh.clock == s.snap)=false:=by simp [hc]
  clear hc he
  refine calls_all fun K hK=>?_
  go_enter Tryz.func96,Tryz.ntmps96
  have a1:=hL.att.head.cell 1 rfl
  go_wp2_with fail
  obtain ⟨W,hW⟩:∃ W,W=w.alloc (.cells turn0.toArray 140):=⟨_,rfl⟩
  have RB:Blk W w.heap.size turn0 140:=by rw [hW]; exact Blk.new w _ _
  have HU:Upd [] w W:=by rw [hW]; exact (Upd.refl _ _).alloc _
  simp only [turn0,trnNone,evNone,Trn.cells] at hW
  rw [← hW]
  clear hW
  have hL1:=hL.upd0 HU
  refine (clkLoad hL1.sh.clk).mono ?_
  rintro e w1 ⟨rfl,c1,u1⟩
  have hA1:=hL1.att.upd u1 (by simp; omega) (fun g hg=>by have:=(hL.sep g hg).2.1; simp [SX.foot] at this; simp; omega)
  have U1:Upd [a,X.ca,X.cr,X.cb] w w1:=(HU.mono (by simp)).trans (u1.mono (by simp))
  have hL2:=hL.clk U1 hA1 c1 hL.sh.wide.clock hL.wide
  have RB1:=RB.upd u1 (by simp; omega)
  clear RB HU hL1 u1 c1 a1 hA1
  go_wp2_with fail
  have a7:=hL2.att.head.cell 7 rfl
  have a8:=hL2.att.head.cell 8 rfl
  have hl1:=hL2.lt
  refine wp_region_eff (fun w'=>w'.cell? ⟨a,7,none⟩=some (.int .u64 s.addr)∧w'.cell? ⟨a,8,none⟩=some (.int .u64 s.word)) 13 (by kernel_rfl) (by kernel_rfl) ⟨a7,a8⟩ ?_
  repeat
   refine wpE_take (v:=?_) (by decide) rfl (by rfl) ?_ ?_
   rotate_left 1
   ·((intro w hSw; (try dsimp only at hSw); go_simp); try with_reducible rfl)
   try simp only [Act.put,List.setIfInBounds_toArray,List.set_cons_zero,List.set_cons_succ]
  refine wpE_eff (by decide) rfl (by kernel_rfl) (by rfl) (fun K2 hK2=>?_)
  go_simp
  obtain ⟨W2,hW2⟩:∃ W2,W2=(w1.alloc (.cells #[.int .u64 0,.int .u64 0] 71)).drew:=⟨_,rfl⟩
  have CB:Blk W2 w1.heap.size [.int .u64 0,.int .u64 0] 71:=by rw [hW2]; exact (Blk.new w1 _ _).drew
  have u2:Upd [] w1 W2:=by rw [hW2]; exact ((Upd.refl [] _).alloc _).drew
  rw [← hW2]
  clear hW2
  have hL3:=hL2.upd0 u2
  refine hK2.out _ _ ⟨hL3.att.head.cell 7 rfl,hL3.att.head.cell 8 rfl⟩ ?_
  clear hK2 K2
  repeat
   refine wpE_take (v:=?_) (by decide) rfl (by rfl) ?_ ?_
   rotate_left 1
   ·((intro w hSw; (try dsimp only at hSw); go_simp); try with_reducible rfl)
   try simp only [Act.put,List.setIfInBounds_toArray,List.set_cons_zero,List.set_cons_succ]
  have k0:=CB.cell 0 rfl
  have k1:=CB.cell 1 rfl
  have j0:=CB.free 0
  have j1:=CB.free 1
  refine wpE_eff (by decide) rfl (by kernel_rfl) (by rfl) (fun K2 hK2=>?_)
  go_simp
  have CB2:=(CB.set 0 (.int .u64 s.addr)).set 1 (.int .u64 s.word)
  have u3:Upd [w1.heap.size] W2 ((W2.setCell ⟨w1.heap.size,0,none⟩ (.int .u64 s.addr)).setCell ⟨w1.heap.size,1,none⟩ (.int .u64 s.word)):=((Upd.refl _ _).setCell (.inl (by simp)) _).setCell (.inl (by simp)) _
  have hL4:=hL2.upd1 (b:=w1.heap.size) ((u2.mono (by simp)).trans u3) (Nat.le_refl _)
  refine hK2.out _ _ ⟨hL4.att.head.cell 7 rfl,hL4.att.head.cell 8 rfl⟩ ?_
  refine wpE_end (NoPanic.normal ?_)
  have hwl:w.heap.size≤w1.heap.size:=U1.size
  have RB4:=(RB1.upd u2 (by simp)).upd u3 (by have:=RB1.lt; simp; omega)
  have U4:Upd (a :: (F ++ X.foot)) w _:=((U1.mono (fun x hx=>.inl (foot_clk (F:=F) x hx))).trans (u2.mono (by simp))).tr u3 (fun _ h=>.inl h) (fun x hx=>.inr (by simp at hx; omega))
  clear hK2 K2 k0 k1 j0 j1 a7 a8 CB hL3 u2 u3 RB1
  generalize (W2.setCell ⟨w1.heap.size,0,none⟩ (.int .u64 s.addr)).setCell ⟨w1.heap.size,1,none⟩ (.int .u64 s.word)=W3 at CB2 hL4 RB4 U4 ⊢
  have b8:=hL4.att.head.cell 8 rfl
  have f8:=hL4.att.head.free 8
  have b2:=hL4.att.head.cell 2 rfl
  have b6:=hL4.att.head.cell 6 rfl
  have f6:=hL4.att.head.free 6
  have b5:=hL4.att.head.cell 5 rfl
  have f5:=hL4.att.head.free 5
  have uw:Upd [a] W3 (((W3.setCell ⟨a,8,none⟩ (.int .u64 0)).setCell ⟨a,6,none⟩ (.int .i64 2)).setCell ⟨a,5,none⟩ (.int .i64 4)):=by
   (repeat (refine Upd.setCell ?_ (Or.inl (by simp)) _))
   exact Upd.refl _ _
  have HL5:=hL4.phase (((hL4.att.setWord 0).setThen 2).setPhase 4 hp) uw ⟨hL.wide.snap,hL.wide.reads,hL.wide.writes,hL.wide.addr,by simp,hL.wide.found⟩
  have RB5:=RB4.upd uw (by simp; omega)
  have U5:=U4.trans (uw.mono (T:=a :: (F ++ X.foot)) (by simp))
  clear uw
  go_wp2_with fail
  refine (going_code _).mono ?_
  rintro e w2 ⟨rfl,u2⟩
  simp only [Trn.val,going,evNone]
  have HL2:=(HL5).upd0 u2
  have RB2:=(RB5).upd u2 (by simp)
  have U2:=(U5).trans (u2.mono (by simp))
  have q0:=(RB2).cell 0 rfl
  have q1:=(RB2).cell 1 rfl
  have q2:=(RB2).cell 2 rfl
  have q3:=(RB2).cell 3 rfl
  have q4:=(RB2).cell 4 rfl
  have q5:=(RB2).cell 5 rfl
  have q6:=(RB2).cell 6 rfl
  have q7:=(RB2).cell 7 rfl
  have g0:=(RB2).free 0
  have g1:=(RB2).free 1
  have g2:=(RB2).free 2
  have g3:=(RB2).free 3
  have g4:=(RB2).free 4
  have g5:=(RB2).free 5
  have g6:=(RB2).free 6
  have g7:=(RB2).free 7
  go_wp2_with fail
  exact bodyPost_ret (turn_results 2 rfl _ _ _ going rfl (turn_set RB2 rfl going)) rfl (hK _ _ (fin_step hL (Nat.le_refl _) HL2 U2 (fun g hg=>.inl hg) (.inr (.inr ⟨rfl,rfl⟩)) _ _ _ _ _ _ _ _))
end
end Go.Proofs.YtehopaabfoopeaaGreat
