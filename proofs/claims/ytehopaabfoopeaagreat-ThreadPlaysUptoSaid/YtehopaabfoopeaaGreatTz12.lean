/- An instruction that is not of registers alone (shared): begin. No conditions. The thread's own step: an instruction of registers, an instruction shared, a turn. No conditions. The thread's own step: a turn of the attempt that is under way. No conditions. The thread's own step: what is said of it. No conditions. -/
import Derived.Test.YtehopaabfoopeaaGreatTz11
import Derived.Test.YtehopaabfoopeaaGreatTz10
set_option linter.unusedSimpArgs false
set_option linter.unusedVariables false
set_option maxRecDepth 100000
namespace Go.Proofs.YtehopaabfoopeaaGreat
open Go.RowKit
open Go.Maps
def begTn (sh:Sh):Trn:=if sh.clock % 2=0 then ⟨6,0,⟨1,0,sh.clock,false⟩⟩ else ⟨7,0,evNone⟩
def BegOut (w:World) (X:SX) (sh:Sh) (acc st:Int) (e:Ending) (w':World):Prop:=
 ∃ o':AO,e=.returned (.tuple #[.pointer o'.ptr,(begTn sh).val,.int .i64 0])∧TAtt w' X sh acc (wrap64 (st+1)) (if sh.clock % 2=0 then some (fresh sh.clock) else none) o'∧X.At w' sh acc (wrap64 (st+1))∧Upd X.foot w w'∧(∀ g ∈ o'.foot,w.heap.size≤g)∧(o'.isNone=decide (sh.clock % 2=1))
theorem begin_any {w:World} {X:SX} {sh:Sh} {acc st:Int} (h:X.At w sh acc st):Calls Tryz.prog 107 #[.pointer (some ⟨X.ra,0,none⟩),.pointer (some ⟨X.ca,0,none⟩)] w (BegOut w X sh acc st):=by
 by_cases hc:sh.clock % 2=0
 ·refine (begin_even h hc).mono fun e w' ⟨a,F,rv,wv,mv,he,hL,hu,ha,hF⟩=>⟨some (a,F),by rw [he,begTn,if_pos hc]; rfl,?_,hL.sh,hu,?_,?_⟩
  ·rw [if_pos hc]; exact .inr ⟨_,a,F,rv,wv,mv,rfl,rfl,hL⟩
  ·intro g hg
   simp only [AO.foot,List.mem_cons] at hg
   rcases hg with k | k
   ·omega
   ·exact hF g k
  ·simp; omega
 ·have hc1:sh.clock % 2=1:=by omega
  refine (begin_odd h hc1).mono fun e w' ⟨he,hX,hu⟩=>⟨none,by rw [he,begTn,if_neg hc]; rfl,?_,hX,hu,by simp [AO.foot],by simp [hc1]⟩
  rw [if_neg hc]; exact .inl ⟨rfl,rfl⟩
section
variable {w w':World} {X:SX} {sh:Sh} {acc st:Int} {p:List Ins} {pb cap tb:Nat} {t:TS} {o:AO}
theorem eql_attq (q:Option Addr) (w:World):(binOp .eql 100 (.pointer q) (.pointer none)).run Tryz.prog w=.ok (.bool q.isNone) w:=by cases q <;> kernel_rfl
set_option maxHeartbeats 8000000 in
theorem shared_begin (h:TV w X sh acc st p pb cap tb t o) (ia ib:Nat) (ha8:ia<8) (hb8:ib<8) (ic xn addr word:Int) (hrb:t.regs.getD ib 0=addr) (hra:t.regs.getD ia 0=word) (hat:0≤t.at_∧t.at_<9223372036854775807) (hn:t.att=none):Calls Tryz.prog 79 #[.pointer (some ⟨tb,0,none⟩),(⟨12,ia,ib,ic,xn⟩:Ins).val] w (TOut w X acc st p pb cap tb o (sharedT p t sh ⟨12,ia,ib,ic,xn⟩)):=by
 have hS:sharedT p t sh ⟨12,ia,ib,ic,xn⟩=if sh.clock % 2=0 then (telling 1 0 sh.clock,nextT { t with start:=t.at_,saved:=t.regs,att:=some (fresh sh.clock) },sh) else (quiet,t,sh):=rfl
 rw [hS]
 clear hS
 simp only [Ins.val]
 obtain ⟨st0,er,at_,rs,sta,sv,fu,at2⟩:=t
 obtain ⟨r0,r1,r2,r3,r4,r5,r6,r7,rfl⟩:=list8 h.r8
 obtain ⟨s0,s1,s2,s3,s4,s5,s6,s7,rfl⟩:=list8 h.s8
 subst hn
 dsimp only at hat hrb hra ⊢
 obtain ⟨W,hW⟩:∃ W,(w.alloc (.cells #[.int .i64 12,.int .i64 ia,.int .i64 ib,.int .i64 ic,.int .u64 xn] 50)).alloc (.cells #[.int .i64 0,.int .i64 0,.int .u64 0,.int .u64 0,.bool false,.int .i64 0] 86)=W:=⟨_,rfl⟩
 have u1:Upd [] w W:=by rw [← hW]; exact ((Upd.refl [] _).alloc _).alloc _
 have IB:Blk W w.heap.size [.int .i64 12,.int .i64 ia,.int .i64 ib,.int .i64 ic,.int .u64 xn] 50:=by rw [← hW]; exact (Blk.new w _ _).alloc _
 have EB:Blk W (w.heap.size+1) teNone.cells 86:=by
  have:=Blk.new (w.alloc (.cells #[.int .i64 12,.int .i64 ia,.int .i64 ib,.int .i64 ic,.int .u64 xn] 50)) teNone.cells 86
  rw [← hW]
  rw [World.size_alloc] at this
  exact this
 have hlt:=h.head.lt
 have HLT:=Lib.hid (show ∀ g,w.heap.size≤g → ¬ inTh X pb tb o g from fun g hg e=>by have:=h.lt e; omega)
 have hne1:w.heap.size≠tb:=by omega
 have hne2:w.heap.size+1≠tb:=by omega
 replace h:=h.upd0 u1
 have hA8i:(ia:Int)<8:=by omega
 have hA0i:(0:Int)≤ia:=by omega
 have hB8i:(ib:Int)<8:=by omega
 have hB0i:(0:Int)≤ib:=by omega
 simp only [teNone,TE.cells] at EB
 refine calls_all fun K hK=>?_
 go_enter Tryz.func79,Tryz.ntmps79
 go_wp2_with fail
 clear hW
 have ud:=(Upd.refl [] W).drew
 replace h:=h.upd0 ud
 replace IB:=IB.drew
 replace EB:=EB.drew
 have U1:Upd [] w W.drew:=u1.drew
 have da:=h.head.cell (3+ia) (head_reg h.r8 ha8)
 have db:=h.head.cell (3+ib) (head_reg h.r8 hb8)
 rw [hra] at da
 rw [hrb] at db
 refine wp_region_br (fun w'=>w'.cell? ⟨w.heap.size,1,none⟩=some (.int .i64 ia)∧w'.cell? ⟨w.heap.size,2,none⟩=some (.int .i64 ib)∧w'.cell? ⟨tb,3+ia,none⟩=some (.int .u64 word)∧w'.cell? ⟨tb,3+ib,none⟩=some (.int .u64 addr)) [0,1,2,3,4,5,6,7,8,9,10,11,12,13,14,15,16,17] (by kernel_rfl) (by kernel_rfl) ⟨IB.cell 1 rfl,IB.cell 2 rfl,da,db⟩ ?_
 clear ud u1 da db
 generalize W.drew=W1 at h IB EB U1 ⊢
 repeat
  first
   | (refine wpB_skip rfl (by kernel_rfl) (by rfl) ?_)
   | ((refine wpB_take (v:=?_) rfl rfl (by kernel_rfl) (by rfl) ?_ ?_); rotate_left 1; (· ((intro w hSw; (try dsimp only at hSw); go_simp); try with_reducible rfl)))
  try simp only [Act.put,List.setIfInBounds_toArray,List.set_cons_zero,List.set_cons_succ]
 refine wpB_end (by kernel_rfl) (NoPanic.normal ?_)
 have i0:=IB.cell 0 rfl
 obtain rfl:o=none:=by
  rcases h.att with ⟨_,k⟩ | ⟨s,a,F,rv,wv,mv,e,_⟩
  ·exact k
  ·cases e
 have H:=Lib.hid h
 clear h hrb hra
 go_wp2_with fail
 have ud:=(Upd.refl [] W1).drew
 replace H:=Lib.hid (H.out.upd0 ud)
 replace EB:Blk W1.drew _ teNone.cells _:=EB.drew
 replace U1:=U1.drew
 have hsz:=EB.lt
 refine wp_region_br (fun w'=>w'.cell? ⟨tb,32,none⟩=some (.pointer (some ⟨X.ra,0,none⟩))∧w'.cell? ⟨tb,33,none⟩=some (.pointer (some ⟨X.ca,0,none⟩))) [0,1,2,3,4,5,6,7,8,9,10,11,12,13,14,15,16] (by kernel_rfl) (by kernel_rfl) ⟨H.out.head.cell 32 (head_cell H.out.r8 H.out.s8).2.2.2.2.1,H.out.head.cell 33 (head_cell H.out.r8 H.out.s8).2.2.2.2.2.1⟩ ?_
 clear ud IB i0
 generalize W1.drew=W2 at H EB U1 hsz ⊢
 repeat
  first
   | (refine wpB_skip rfl (by kernel_rfl) (by rfl) ?_)
   | ((refine wpB_take (v:=?_) rfl rfl (by kernel_rfl) (by rfl) ?_ ?_); rotate_left 1; (· ((intro w hSw; (try dsimp only at hSw); go_simp); try with_reducible rfl)))
  try simp only [Act.put,List.setIfInBounds_toArray,List.set_cons_zero,List.set_cons_succ]
 refine wpB_two (i:=8) (j:=13) [8,9,10,11,12,14,15,16] (by kernel_rfl) rfl rfl (by rfl) (by rfl) (fun K2 hK2=>?_) (fun K2 hK2=>?_)
 ·go_simp
  refine (begin_any H.out.xa).mono ?_
  rintro e W3 ⟨o',rfl,A3,hX3,u3,hF3,hisn⟩
  have V3:=Lib.hid (H.out.moved hX3 u3 (fun g hg=>hg))
  replace EB:Blk W3 _ teNone.cells _:=EB.upd u3 (fun e=>HLT.out (w.heap.size+1) (by omega) (.inr (.inr (.inr e))))
  have U:Upd (tb :: (AO.foot none ++ X.foot)) w W3:=(U1.mono (by simp)).trans (u3.mono (by simp [AO.foot]; exact fun g hg=>.inl (.inr hg)))
  have hs3:=u3.size
  have hs1:=U1.size
  obtain ⟨T,hT⟩:∃ T,begTn sh=T:=⟨_,rfl⟩
  rw [hT]
  have HT:=Lib.hid hT
  have HIS:=Lib.hid hisn
  have HF3:=Lib.hid hF3
  have HA3:=Lib.hid A3
  have hlt3:=EB.lt
  clear H hX3 u3 U1 hT hisn hF3 A3
  obtain ⟨to_,tw,⟨tk2,ta,tv,tbo⟩⟩:=T
  simp only [Trn.val]
  refine hK2.out _ _ ⟨V3.out.head.cell 32 (head_cell V3.out.r8 V3.out.s8).2.2.2.2.1,V3.out.head.cell 33 (head_cell V3.out.r8 V3.out.s8).2.2.2.2.2.1⟩ ?_
  clear hK2 K2
  repeat
   first
    | (refine wpB_skip rfl (by kernel_rfl) (by rfl) ?_)
    | ((refine wpB_take (v:=?_) rfl rfl (by kernel_rfl) (by rfl) ?_ ?_); rotate_left 1; (· ((intro w hSw; (try dsimp only at hSw); go_simp); try with_reducible rfl)))
   try simp only [Act.put,List.setIfInBounds_toArray,List.set_cons_zero,List.set_cons_succ]
  refine wpB_eff rfl (by kernel_rfl) (by rfl) (fun K2 hK2=>?_)
  go_simp
  obtain ⟨W4,hW4⟩:∃ W4,W3.alloc (.cells turn0.toArray 140)=W4:=⟨_,rfl⟩
  have uA:Upd [] W3 W4:=by rw [← hW4]; exact (Upd.refl [] _).alloc _
  have TB:Blk W4 W3.heap.size turn0 140:=by rw [← hW4]; exact Blk.new W3 turn0 140
  have V4:=Lib.hid (V3.out.upd0 uA)
  have A4:=HA3.out.upd uA (by simp) (by simp)
  have HBT:=Lib.hid (show ¬ inTh X pb tb none W3.heap.size from fun e=>by have:=V3.out.lt e; omega)
  have HBO:=Lib.hid (show W3.heap.size ∉ o'.foot from fun e=>by have:=HA3.out.lt _ e; omega)
  have HBW:=Lib.hid (show w.heap.size≤W3.heap.size by omega)
  have HBE:=Lib.hid (show w.heap.size+1≠W3.heap.size by omega)
  replace U:=U.trans (uA.mono (by simp))
  replace EB:Blk W4 _ teNone.cells _:=EB.upd uA (by simp)
  have HNEW:=Lib.hid (show ∀ g ∈ o'.foot,w.heap.size≤g from fun g hg=>by have:=HF3.out g hg; omega)
  have HNEW2:=Lib.hid (show ∀ g ∈ o'.foot,w.heap.size+2≤g from fun g hg=>by have:=HF3.out g hg; omega)
  simp only [turn0,trnNone,evNone,Trn.cells] at hW4
  rw [hW4]
  clear hW4 uA V3 HA3 HF3
  generalize W3.heap.size=bt at TB HBT HBO HBW HBE ⊢
  refine hK2.out _ _ ⟨V4.out.head.cell 32 (head_cell V4.out.r8 V4.out.s8).2.2.2.2.1,V4.out.head.cell 33 (head_cell V4.out.r8 V4.out.s8).2.2.2.2.2.1⟩ ?_
  clear hK2 K2
  repeat
   first
    | (refine wpB_skip rfl (by kernel_rfl) (by rfl) ?_)
    | ((refine wpB_take (v:=?_) rfl rfl (by kernel_rfl) (by rfl) ?_ ?_); rotate_left 1; (· ((intro w hSw; (try dsimp only at hSw); go_simp); try with_reducible rfl)))
   try simp only [Act.put,List.setIfInBounds_toArray,List.set_cons_zero,List.set_cons_succ]
  have q0:=(TB).cell 0 rfl
  have q1:=(TB).cell 1 rfl
  have q2:=(TB).cell 2 rfl
  have q3:=(TB).cell 3 rfl
  have q4:=(TB).cell 4 rfl
  have q5:=(TB).cell 5 rfl
  have q6:=(TB).cell 6 rfl
  have q7:=(TB).cell 7 rfl
  have g0:=(TB).free 0
  have g1:=(TB).free 1
  have g2:=(TB).free 2
  have g3:=(TB).free 3
  have g4:=(TB).free 4
  have g5:=(TB).free 5
  have g6:=(TB).free 6
  have g7:=(TB).free 7
  refine wpB_eff rfl (by kernel_rfl) (by rfl) (fun K2 hK2=>?_)
  go_simp
  have uB:Upd [bt] W4 ((((((((W4.setCell ⟨bt,0,none⟩ (.int .i64 to_)).setCell ⟨bt,1,none⟩ (.int .u64 tw)).setCell ⟨bt,2,none⟩ (.int .i64 0)).setCell ⟨bt,3,none⟩ (.int .i64 tk2)).setCell ⟨bt,4,none⟩ (.int .u64 ta)).setCell ⟨bt,5,none⟩ (.int .u64 tv)).setCell ⟨bt,6,none⟩ (.bool tbo)).setCell ⟨bt,7,none⟩ (.int .i64 0)):=
   ((((((((Upd.refl _ _).setCell (.inl (by simp)) _).setCell (.inl (by simp)) _).setCell (.inl (by simp)) _).setCell (.inl (by simp)) _).setCell (.inl (by simp)) _).setCell (.inl (by simp)) _).setCell (.inl (by simp)) _).setCell (.inl (by simp)) _
  have V5:=Lib.hid (V4.out.updn uB (fun g hg=>by simp at hg; subst hg; exact HBT.out))
  have HEF:=Lib.hid (show w.heap.size+1 ∉ o'.foot from fun e=>by have:=HNEW2.out _ e; omega)
  have HNT:=Lib.hid (show tb ∉ o'.foot from fun e=>by have:=HNEW.out _ e; omega)
  have A5:=A4.upd uB (fun g hg e=>by simp at e; subst e; exact HBO.out hg) (fun g hg e=>by simp at e; subst e; exact HBT.out (.inr (.inr (.inr hg))))
  replace TB:=turn_set TB rfl (⟨to_,tw,⟨tk2,ta,tv,tbo⟩⟩:Trn)
  dsimp only at TB
  replace U:Upd (tb :: (AO.foot none ++ X.foot)) w _:=U.tr (U:=tb :: (AO.foot none ++ X.foot)) uB (fun g hg=>.inl hg) (fun g hg=>by simp at hg; subst hg; exact .inr HBW.out)
  replace EB:Blk _ _ teNone.cells _:=EB.upd uB (by simpa using HBE.out)
  refine hK2.out _ _ ⟨V5.out.head.cell 32 (head_cell V5.out.r8 V5.out.s8).2.2.2.2.1,V5.out.head.cell 33 (head_cell V5.out.r8 V5.out.s8).2.2.2.2.2.1⟩ ?_
  clear q0 q1 q2 q3 q4 q5 q6 q7 g0 g1 g2 g3 g4 g5 g6 g7
  clear hK2 K2 uB V4 A4
  repeat
   first
    | (refine wpB_skip rfl (by kernel_rfl) (by rfl) ?_)
    | ((refine wpB_take (v:=?_) rfl rfl (by kernel_rfl) (by rfl) ?_ ?_); rotate_left 1; (· ((intro w hSw; (try dsimp only at hSw); go_simp); try with_reducible rfl)))
   try simp only [Act.put,List.setIfInBounds_toArray,List.set_cons_zero,List.set_cons_succ]
  refine wpB_end (by kernel_rfl) (NoPanic.normal ?_)
  generalize ((((((((W4.setCell ⟨bt,0,none⟩ (.int .i64 to_)).setCell ⟨bt,1,none⟩ (.int .u64 tw)).setCell ⟨bt,2,none⟩ (.int .i64 0)).setCell ⟨bt,3,none⟩ (.int .i64 tk2)).setCell ⟨bt,4,none⟩ (.int .u64 ta)).setCell ⟨bt,5,none⟩ (.int .u64 tv)).setCell ⟨bt,6,none⟩ (.bool tbo)).setCell ⟨bt,7,none⟩ (.int .i64 0))=W5 at V5 A5 TB U EB ⊢
  have E1:=eql_attq o'.ptr
  have hpn:o'.ptr.isNone=decide (sh.clock % 2=1):=by rw [← HIS.out]; cases o' <;> rfl
  by_cases hc:sh.clock % 2=0
  ·rw [if_pos hc] at A5 hK
   rw [show o'.ptr.isNone=false by rw [hpn]; simp; omega] at E1
   have hT2:=HT.out
   rw [begTn,if_pos hc] at hT2
   simp only [Trn.mk.injEq,Ev.mk.injEq] at hT2
   obtain ⟨-,-,rfl,rfl,rfl,rfl⟩:=hT2
   obtain ⟨a,F,rv,wv,mv,ho,hL⟩:=A5.some rfl
   subst ho
   simp only [AO.ptr,Option.map_some] at E1 ⊢
   have c34:=V5.out.head.cell 34 rfl
   have g34:=V5.out.head.free 34
   clear hpn HIS A5
   go_wp2_with fail
   have hB6:=(V5.out.head.set 34 (.pointer (some ⟨a,0,none⟩))).drew
   have u6:Upd [tb] W5 (W5.setCell ⟨tb,34,none⟩ (.pointer (some ⟨a,0,none⟩))).drew:=((Upd.refl _ _).setCell (.inl (by simp)) _).drew
   clear c34 g34 E1
   refine wp_region_br (fun w'=>w'.cell? ⟨tb,2,none⟩=some (.int .i64 at_)∧w'.cell? ⟨tb,3,none⟩=some (.int .u64 r0)∧w'.cell? ⟨tb,4,none⟩=some (.int .u64 r1)∧w'.cell? ⟨tb,5,none⟩=some (.int .u64 r2)∧w'.cell? ⟨tb,6,none⟩=some (.int .u64 r3)∧w'.cell? ⟨tb,7,none⟩=some (.int .u64 r4)∧w'.cell? ⟨tb,8,none⟩=some (.int .u64 r5)∧w'.cell? ⟨tb,9,none⟩=some (.int .u64 r6)∧w'.cell? ⟨tb,10,none⟩=some (.int .u64 r7)) [0,1,2,3,4,5,6,7,8,9,10,11,12,13,14,15,16,17,18,19,20,21,22,23,24] (by kernel_rfl) (by kernel_rfl) ⟨hB6.cell 2 rfl,hB6.cell 3 rfl,hB6.cell 4 rfl,hB6.cell 5 rfl,hB6.cell 6 rfl,hB6.cell 7 rfl,hB6.cell 8 rfl,hB6.cell 9 rfl,hB6.cell 10 rfl⟩ ?_
   generalize (W5.setCell ⟨tb,34,none⟩ (.pointer (some ⟨a,0,none⟩))).drew=W6 at hB6 u6 ⊢
   repeat
    first
     | (refine wpB_skip rfl (by kernel_rfl) (by rfl) ?_)
     | ((refine wpB_take (v:=?_) rfl rfl (by kernel_rfl) (by rfl) ?_ ?_); rotate_left 1; (· ((intro w hSw; (try dsimp only at hSw); go_simp); try with_reducible rfl)))
    try simp only [Act.put,List.setIfInBounds_toArray,List.set_cons_zero,List.set_cons_succ]
   have c11:=hB6.cell 11 rfl
   have g11:=hB6.free 11
   refine wpB_eff rfl (by kernel_rfl) (by rfl) (fun K2 hK2=>?_)
   go_simp
   have hB7:=hB6.set 11 (.bool true)
   have u7:Upd [tb] W5 _:=u6.setCell (p:=⟨tb,11,none⟩) (.inl (by simp)) (.bool true)
   refine hK2.out _ _ ⟨hB7.cell 2 rfl,hB7.cell 3 rfl,hB7.cell 4 rfl,hB7.cell 5 rfl,hB7.cell 6 rfl,hB7.cell 7 rfl,hB7.cell 8 rfl,hB7.cell 9 rfl,hB7.cell 10 rfl⟩ ?_
   clear hK2 K2 c11 g11 hB6 u6
   generalize W6.setCell ⟨tb,11,none⟩ (.bool true)=W7 at hB7 u7 ⊢
   repeat
    first
     | (refine wpB_skip rfl (by kernel_rfl) (by rfl) ?_)
     | ((refine wpB_take (v:=?_) rfl rfl (by kernel_rfl) (by rfl) ?_ ?_); rotate_left 1; (· ((intro w hSw; (try dsimp only at hSw); go_simp); try with_reducible rfl)))
    try simp only [Act.put,List.setIfInBounds_toArray,List.set_cons_zero,List.set_cons_succ]
   have c12:=hB7.cell 12 rfl
   have g12:=hB7.free 12
   refine wpB_eff rfl (by kernel_rfl) (by rfl) (fun K2 hK2=>?_)
   go_simp
   have hB8:=hB7.set 12 (.int .i64 at_)
   have u8:Upd [tb] W5 _:=u7.setCell (p:=⟨tb,12,none⟩) (.inl (by simp)) (.int .i64 at_)
   refine hK2.out _ _ ⟨hB8.cell 2 rfl,hB8.cell 3 rfl,hB8.cell 4 rfl,hB8.cell 5 rfl,hB8.cell 6 rfl,hB8.cell 7 rfl,hB8.cell 8 rfl,hB8.cell 9 rfl,hB8.cell 10 rfl⟩ ?_
   clear hK2 K2 c12 g12 hB7 u7
   generalize W7.setCell ⟨tb,12,none⟩ (.int .i64 at_)=W8 at hB8 u8 ⊢
   repeat
    first
     | (refine wpB_skip rfl (by kernel_rfl) (by rfl) ?_)
     | ((refine wpB_take (v:=?_) rfl rfl (by kernel_rfl) (by rfl) ?_ ?_); rotate_left 1; (· ((intro w hSw; (try dsimp only at hSw); go_simp); try with_reducible rfl)))
    try simp only [Act.put,List.setIfInBounds_toArray,List.set_cons_zero,List.set_cons_succ]
   have c13:=hB8.cell 13 rfl
   have c14:=hB8.cell 14 rfl
   have c15:=hB8.cell 15 rfl
   have c16:=hB8.cell 16 rfl
   have c17:=hB8.cell 17 rfl
   have c18:=hB8.cell 18 rfl
   have c19:=hB8.cell 19 rfl
   have c20:=hB8.cell 20 rfl
   have g13:=hB8.free 13
   have g14:=hB8.free 14
   have g15:=hB8.free 15
   have g16:=hB8.free 16
   have g17:=hB8.free 17
   have g18:=hB8.free 18
   have g19:=hB8.free 19
   have g20:=hB8.free 20
   refine wpB_eff rfl (by kernel_rfl) (by rfl) (fun K2 hK2=>?_)
   go_simp
   have hB9:=(((((((hB8.set 13 (.int .u64 r0)).set 14 (.int .u64 r1)).set 15 (.int .u64 r2)).set 16 (.int .u64 r3)).set 17 (.int .u64 r4)).set 18 (.int .u64 r5)).set 19 (.int .u64 r6)).set 20 (.int .u64 r7)
   have u9:Upd [tb] W5 _:=(((((((u8.setCell (p:=⟨tb,13,none⟩) (.inl (by simp)) (.int .u64 r0)).setCell (p:=⟨tb,14,none⟩) (.inl (by simp)) (.int .u64 r1)).setCell (p:=⟨tb,15,none⟩) (.inl (by simp)) (.int .u64 r2)).setCell (p:=⟨tb,16,none⟩) (.inl (by simp)) (.int .u64 r3)).setCell (p:=⟨tb,17,none⟩) (.inl (by simp)) (.int .u64 r4)).setCell (p:=⟨tb,18,none⟩) (.inl (by simp)) (.int .u64 r5)).setCell (p:=⟨tb,19,none⟩) (.inl (by simp)) (.int .u64 r6)).setCell (p:=⟨tb,20,none⟩) (.inl (by simp)) (.int .u64 r7)
   refine hK2.out _ _ ⟨hB9.cell 2 rfl,hB9.cell 3 rfl,hB9.cell 4 rfl,hB9.cell 5 rfl,hB9.cell 6 rfl,hB9.cell 7 rfl,hB9.cell 8 rfl,hB9.cell 9 rfl,hB9.cell 10 rfl⟩ ?_
   clear hK2 K2 hB8 u8
   clear c13 c14 c15 c16 c17 c18 c19 c20
   clear g13 g14 g15 g16 g17 g18 g19 g20
   generalize (((((((W8.setCell ⟨tb,13,none⟩ (.int .u64 r0)).setCell ⟨tb,14,none⟩ (.int .u64 r1)).setCell ⟨tb,15,none⟩ (.int .u64 r2)).setCell ⟨tb,16,none⟩ (.int .u64 r3)).setCell ⟨tb,17,none⟩ (.int .u64 r4)).setCell ⟨tb,18,none⟩ (.int .u64 r5)).setCell ⟨tb,19,none⟩ (.int .u64 r6)).setCell ⟨tb,20,none⟩ (.int .u64 r7)=Wa at hB9 u9 ⊢
   refine wpB_end (by kernel_rfl) (NoPanic.normal ?_)
   have c2:Wa.cell? ⟨tb,2,none⟩=some (.int .i64 at_):=hB9.cell 2 rfl
   have g2:=hB9.free 2
   have hw1:wrap64 (at_+1)=at_+1:=by unfold wrap64; omega
   have hbtn:bt≠tb:=fun e=>HBT.out (.inl e)
   replace TB:=TB.upd u9 (by simpa using hbtn)
   replace EB:Blk Wa _ teNone.cells _:=EB.upd u9 (by simpa using hne2)
   replace U:=U.trans (u9.mono (by simp))
   have hLa:=hL.upd u9 (fun e=>HNT.out (by simp at e; subst e; simp [AO.foot])) (fun g hg e=>HNT.out (by simp at e; subst e; simp [AO.foot,hg])) (fun g hg e=>V5.out.ap.2.1 (by simp at e; subst e; exact hg))
   have hPa:=V5.out.prog.upd u9 (by have:=V5.out.ap.1; simp; omega)
   have HAP:=Lib.hid V5.out.ap
   clear hL V5 u9
   have HLA:=Lib.hid hLa
   have HPA:=Lib.hid hPa
   have HB9:=Lib.hid hB9
   clear hLa hPa hB9
   have x2:=TB.cell 2 rfl
   have x3:=TB.cell 3 rfl
   have x4:=TB.cell 4 rfl
   have x5:=TB.cell 5 rfl
   have x6:=TB.cell 6 rfl
   have x7:=TB.cell 7 rfl
   have q0:=EB.cell 0 rfl
   have q1:=EB.cell 1 rfl
   have q2:=EB.cell 2 rfl
   have q3:=EB.cell 3 rfl
   have q4:=EB.cell 4 rfl
   have q5:=EB.cell 5 rfl
   have f0:=EB.free 0
   have f1:=EB.free 1
   have f2:=EB.free 2
   have f3:=EB.free 3
   have f4:=EB.free 4
   have f5:=EB.free 5
   have hne3:=Ne.symm hne2
   have hbtn2:=Ne.symm hbtn
   have HU:=Lib.hid U
   have HEB:=Lib.hid EB
   simp only [teNone] at q0 q1 q2 q3 q4 q5
   clear U EB TB HT
   go_wp2_with fail
   have HV:TV (Wa.setCell ⟨tb,2,none⟩ (.int .i64 (at_+1))) X sh acc (wrap64 (st+1)) p pb cap tb (nextT ⟨st0,er,at_,[r0,r1,r2,r3,r4,r5,r6,r7],at_,[r0,r1,r2,r3,r4,r5,r6,r7],fu,some (fresh sh.clock)⟩) (some (a,F)):=by
    have u2:Upd [tb] Wa (Wa.setCell ⟨tb,2,none⟩ (.int .i64 (at_+1))):=(Upd.refl _ _).setCell (.inl (by simp)) _
    have h4:=HAP.out
    have hL2:=HLA.out.upd u2 (fun e=>HNT.out (by simp at e; subst e; simp [AO.foot])) (fun g hg e=>HNT.out (by simp at e; subst e; simp [AO.foot,hg])) (fun g hg e=>h4.2.1 (by simp at e; subst e; exact hg))
    refine ⟨HB9.out.set 2 (.int .i64 (at_+1)),HPA.out.upd u2 (by have:=h4.1; simp; omega),hL2.sh,.inr ⟨_,a,F,rv,wv,mv,rfl,rfl,hL2⟩,rfl,rfl,⟨h4.1,h4.2.1,h4.2.2.1,HNT.out,fun e=>?_⟩⟩
    have h1:=HNEW.out _ e
    exact HLT.out pb h1 (.inr (.inl rfl))
   have hwe:w.heap.size+1<Wa.heap.size:=HEB.out.lt
   refine bodyPost_ret (ev_results2 4 5 rfl _ _ (w.heap.size+1) (⟨1,0,sh.clock,false,0⟩:TE) (.bool true) rfl rfl (ev_set (e0:=teNone) (HEB.out.other ⟨tb,2,none⟩ (.int .i64 (at_+1)) hne2) (⟨1,0,sh.clock,false,0⟩:TE))) rfl (hK _ _ ⟨rfl,_,_,_,HV.updn (ev_upd (S:=[w.heap.size+1]) (Upd.refl _ _) (.inl (by simp)) _ _ _ _ _ _) ?_,ev_upd (HU.out.setCell (.inl (by simp)) _) (.inr (by omega)) _ _ _ _ _ _,?_,.inr (.inr ⟨rfl,rfl⟩)⟩)
   ·intro g hg e
    simp at hg
    subst hg
    rcases e with e | e | e | e
    ·exact hne2 e
    ·exact HLT.out (w.heap.size+1) (by omega) (.inr (.inl e))
    ·exact HEF.out e
    ·exact HLT.out (w.heap.size+1) (by omega) (.inr (.inr (.inr e)))
   ·exact fun g hg=>.inr (HNEW.out g hg)
  ·rw [if_neg hc] at A5 hK
   rw [show o'.ptr.isNone=true by rw [hpn]; simp; omega] at E1
   obtain rfl:o'=none:=by
    rcases A5 with ⟨_,k⟩ | ⟨s,a,F,rv,wv,mv,e,_⟩
    ·exact k
    ·cases e
   have HV:=V5
   clear A5 hpn HIS HT V5
   simp only [AO.ptr,Option.map_none] at E1 ⊢
   have q0:=EB.cell 0 rfl
   have q1:=EB.cell 1 rfl
   have q2:=EB.cell 2 rfl
   have q3:=EB.cell 3 rfl
   have q4:=EB.cell 4 rfl
   have q5:=EB.cell 5 rfl
   have f0:=EB.free 0
   have f1:=EB.free 1
   have f2:=EB.free 2
   have f3:=EB.free 3
   have f4:=EB.free 4
   have f5:=EB.free 5
   go_wp2_with fail
   refine bodyPost_ret (ev_results2 4 5 rfl _ _ (w.heap.size+1) (⟨0,0,0,false,0⟩:TE) (.bool false) rfl rfl (ev_set (e0:=teNone) EB (⟨0,0,0,false,0⟩:TE))) rfl (hK _ _ ⟨rfl,_,_,_,HV.out.updn (ev_upd (S:=[w.heap.size+1]) (Upd.refl _ _) (.inl (by simp)) _ _ _ _ _ _) ?_,ev_upd U (.inr (by omega)) _ _ _ _ _ _,?_,.inr (.inr ⟨rfl,rfl⟩)⟩)
   ·exact fun g hg e=>by simp at hg; exact HLT.out g (by omega) e
   ·exact fun g hg=>.inl hg
 ·go_simp
  obtain ⟨Wq,hWq⟩:∃ Wq,W2.alloc (.cells turn0.toArray 140)=Wq:=⟨_,rfl⟩
  have uA:Upd [] W2 Wq:=by rw [← hWq]; exact (Upd.refl [] _).alloc _
  have TB:Blk Wq W2.heap.size turn0 140:=by rw [← hWq]; exact Blk.new W2 turn0 140
  have HBT:=Lib.hid (show ¬ inTh X pb tb none W2.heap.size from fun e=>by have:=H.out.lt e; omega)
  have hs1:=U1.size
  have HBW:=Lib.hid (show w.heap.size≤W2.heap.size by omega)
  have HBE:=Lib.hid (show w.heap.size+1≠W2.heap.size by omega)
  have hbl:=TB.lt
  have Hq:=Lib.hid (H.out.upd0 uA)
  replace U1:=U1.trans uA
  replace EB:Blk Wq _ teNone.cells _:=EB.upd uA (by simp)
  simp only [turn0,trnNone,evNone,Trn.cells] at hWq
  rw [hWq]
  clear hWq uA H
  generalize W2.heap.size=bt at TB HBT HBW HBE hbl hsz ⊢
  refine hK2.out _ _ ⟨Hq.out.head.cell 32 (head_cell Hq.out.r8 Hq.out.s8).2.2.2.2.1,Hq.out.head.cell 33 (head_cell Hq.out.r8 Hq.out.s8).2.2.2.2.2.1⟩ ?_
  clear hK2 K2
  refine wpB_eff rfl (by kernel_rfl) (by rfl) (fun K2 hK2=>?_)
  go_simp
  refine (begin_any Hq.out.xa).mono ?_
  rintro e W4 ⟨o',rfl,A3,hX3,u3,hF3,hisn⟩
  have V4:=Lib.hid (Hq.out.moved hX3 u3 (fun g hg=>hg))
  replace EB:Blk W4 _ teNone.cells _:=EB.upd u3 (fun e=>HLT.out (w.heap.size+1) (by omega) (.inr (.inr (.inr e))))
  replace TB:=TB.upd u3 (fun e=>HBT.out (.inr (.inr (.inr e))))
  have U:Upd (tb :: (AO.foot none ++ X.foot)) w W4:=(U1.mono (by simp)).trans (u3.mono (by simp [AO.foot]; exact fun g hg=>.inl (.inr hg)))
  have A4:=A3
  have hsq:=U1.size
  have HBO:=Lib.hid (show bt ∉ o'.foot from fun e=>by have:=hF3 _ e; omega)
  have HNEW:=Lib.hid (show ∀ g ∈ o'.foot,w.heap.size≤g from fun g hg=>by have:=hF3 g hg; omega)
  have HNEW2:=Lib.hid (show ∀ g ∈ o'.foot,w.heap.size+2≤g from fun g hg=>by have:=hF3 g hg; omega)
  obtain ⟨T,hT⟩:∃ T,begTn sh=T:=⟨_,rfl⟩
  rw [hT]
  have HT:=Lib.hid hT
  have HIS:=Lib.hid hisn
  clear Hq hX3 u3 U1 hT hisn hF3 A3
  obtain ⟨to_,tw,⟨tk2,ta,tv,tbo⟩⟩:=T
  simp only [Trn.val]
  refine hK2.out _ _ ⟨V4.out.head.cell 32 (head_cell V4.out.r8 V4.out.s8).2.2.2.2.1,V4.out.head.cell 33 (head_cell V4.out.r8 V4.out.s8).2.2.2.2.2.1⟩ ?_
  clear hK2 K2
  repeat
   first
    | (refine wpB_skip rfl (by kernel_rfl) (by rfl) ?_)
    | ((refine wpB_take (v:=?_) rfl rfl (by kernel_rfl) (by rfl) ?_ ?_); rotate_left 1; (· ((intro w hSw; (try dsimp only at hSw); go_simp); try with_reducible rfl)))
   try simp only [Act.put,List.setIfInBounds_toArray,List.set_cons_zero,List.set_cons_succ]
  have q0:=(TB).cell 0 rfl
  have q1:=(TB).cell 1 rfl
  have q2:=(TB).cell 2 rfl
  have q3:=(TB).cell 3 rfl
  have q4:=(TB).cell 4 rfl
  have q5:=(TB).cell 5 rfl
  have q6:=(TB).cell 6 rfl
  have q7:=(TB).cell 7 rfl
  have g0:=(TB).free 0
  have g1:=(TB).free 1
  have g2:=(TB).free 2
  have g3:=(TB).free 3
  have g4:=(TB).free 4
  have g5:=(TB).free 5
  have g6:=(TB).free 6
  have g7:=(TB).free 7
  refine wpB_eff rfl (by kernel_rfl) (by rfl) (fun K2 hK2=>?_)
  go_simp
  have uB:Upd [bt] W4 ((((((((W4.setCell ⟨bt,0,none⟩ (.int .i64 to_)).setCell ⟨bt,1,none⟩ (.int .u64 tw)).setCell ⟨bt,2,none⟩ (.int .i64 0)).setCell ⟨bt,3,none⟩ (.int .i64 tk2)).setCell ⟨bt,4,none⟩ (.int .u64 ta)).setCell ⟨bt,5,none⟩ (.int .u64 tv)).setCell ⟨bt,6,none⟩ (.bool tbo)).setCell ⟨bt,7,none⟩ (.int .i64 0)):=
   ((((((((Upd.refl _ _).setCell (.inl (by simp)) _).setCell (.inl (by simp)) _).setCell (.inl (by simp)) _).setCell (.inl (by simp)) _).setCell (.inl (by simp)) _).setCell (.inl (by simp)) _).setCell (.inl (by simp)) _).setCell (.inl (by simp)) _
  have V5:=Lib.hid (V4.out.updn uB (fun g hg=>by simp at hg; subst hg; exact HBT.out))
  have HEF:=Lib.hid (show w.heap.size+1 ∉ o'.foot from fun e=>by have:=HNEW2.out _ e; omega)
  have HNT:=Lib.hid (show tb ∉ o'.foot from fun e=>by have:=HNEW.out _ e; omega)
  have A5:=A4.upd uB (fun g hg e=>by simp at e; subst e; exact HBO.out hg) (fun g hg e=>by simp at e; subst e; exact HBT.out (.inr (.inr (.inr hg))))
  replace TB:=turn_set TB rfl (⟨to_,tw,⟨tk2,ta,tv,tbo⟩⟩:Trn)
  dsimp only at TB
  replace U:Upd (tb :: (AO.foot none ++ X.foot)) w _:=U.tr (U:=tb :: (AO.foot none ++ X.foot)) uB (fun g hg=>.inl hg) (fun g hg=>by simp at hg; subst hg; exact .inr HBW.out)
  replace EB:Blk _ _ teNone.cells _:=EB.upd uB (by simpa using HBE.out)
  refine hK2.out _ _ ⟨V5.out.head.cell 32 (head_cell V5.out.r8 V5.out.s8).2.2.2.2.1,V5.out.head.cell 33 (head_cell V5.out.r8 V5.out.s8).2.2.2.2.2.1⟩ ?_
  clear q0 q1 q2 q3 q4 q5 q6 q7 g0 g1 g2 g3 g4 g5 g6 g7
  clear hK2 K2 uB V4 A4
  repeat
   first
    | (refine wpB_skip rfl (by kernel_rfl) (by rfl) ?_)
    | ((refine wpB_take (v:=?_) rfl rfl (by kernel_rfl) (by rfl) ?_ ?_); rotate_left 1; (· ((intro w hSw; (try dsimp only at hSw); go_simp); try with_reducible rfl)))
   try simp only [Act.put,List.setIfInBounds_toArray,List.set_cons_zero,List.set_cons_succ]
  refine wpB_end (by kernel_rfl) (NoPanic.normal ?_)
  generalize ((((((((W4.setCell ⟨bt,0,none⟩ (.int .i64 to_)).setCell ⟨bt,1,none⟩ (.int .u64 tw)).setCell ⟨bt,2,none⟩ (.int .i64 0)).setCell ⟨bt,3,none⟩ (.int .i64 tk2)).setCell ⟨bt,4,none⟩ (.int .u64 ta)).setCell ⟨bt,5,none⟩ (.int .u64 tv)).setCell ⟨bt,6,none⟩ (.bool tbo)).setCell ⟨bt,7,none⟩ (.int .i64 0))=W5 at V5 A5 TB U EB ⊢
  have E1:=eql_attq o'.ptr
  have hpn:o'.ptr.isNone=decide (sh.clock % 2=1):=by rw [← HIS.out]; cases o' <;> rfl
  by_cases hc:sh.clock % 2=0
  ·rw [if_pos hc] at A5 hK
   rw [show o'.ptr.isNone=false by rw [hpn]; simp; omega] at E1
   have hT2:=HT.out
   rw [begTn,if_pos hc] at hT2
   simp only [Trn.mk.injEq,Ev.mk.injEq] at hT2
   obtain ⟨-,-,rfl,rfl,rfl,rfl⟩:=hT2
   obtain ⟨a,F,rv,wv,mv,ho,hL⟩:=A5.some rfl
   subst ho
   simp only [AO.ptr,Option.map_some] at E1 ⊢
   have c34:=V5.out.head.cell 34 rfl
   have g34:=V5.out.head.free 34
   clear hpn HIS A5
   go_wp2_with fail
   have hB6:=(V5.out.head.set 34 (.pointer (some ⟨a,0,none⟩))).drew
   have u6:Upd [tb] W5 (W5.setCell ⟨tb,34,none⟩ (.pointer (some ⟨a,0,none⟩))).drew:=((Upd.refl _ _).setCell (.inl (by simp)) _).drew
   clear c34 g34 E1
   refine wp_region_br (fun w'=>w'.cell? ⟨tb,2,none⟩=some (.int .i64 at_)∧w'.cell? ⟨tb,3,none⟩=some (.int .u64 r0)∧w'.cell? ⟨tb,4,none⟩=some (.int .u64 r1)∧w'.cell? ⟨tb,5,none⟩=some (.int .u64 r2)∧w'.cell? ⟨tb,6,none⟩=some (.int .u64 r3)∧w'.cell? ⟨tb,7,none⟩=some (.int .u64 r4)∧w'.cell? ⟨tb,8,none⟩=some (.int .u64 r5)∧w'.cell? ⟨tb,9,none⟩=some (.int .u64 r6)∧w'.cell? ⟨tb,10,none⟩=some (.int .u64 r7)) [0,1,2,3,4,5,6,7,8,9,10,11,12,13,14,15,16,17,18,19,20,21,22,23,24] (by kernel_rfl) (by kernel_rfl) ⟨hB6.cell 2 rfl,hB6.cell 3 rfl,hB6.cell 4 rfl,hB6.cell 5 rfl,hB6.cell 6 rfl,hB6.cell 7 rfl,hB6.cell 8 rfl,hB6.cell 9 rfl,hB6.cell 10 rfl⟩ ?_
   generalize (W5.setCell ⟨tb,34,none⟩ (.pointer (some ⟨a,0,none⟩))).drew=W6 at hB6 u6 ⊢
   repeat
    first
     | (refine wpB_skip rfl (by kernel_rfl) (by rfl) ?_)
     | ((refine wpB_take (v:=?_) rfl rfl (by kernel_rfl) (by rfl) ?_ ?_); rotate_left 1; (· ((intro w hSw; (try dsimp only at hSw); go_simp); try with_reducible rfl)))
    try simp only [Act.put,List.setIfInBounds_toArray,List.set_cons_zero,List.set_cons_succ]
   have c11:=hB6.cell 11 rfl
   have g11:=hB6.free 11
   refine wpB_eff rfl (by kernel_rfl) (by rfl) (fun K2 hK2=>?_)
   go_simp
   have hB7:=hB6.set 11 (.bool true)
   have u7:Upd [tb] W5 _:=u6.setCell (p:=⟨tb,11,none⟩) (.inl (by simp)) (.bool true)
   refine hK2.out _ _ ⟨hB7.cell 2 rfl,hB7.cell 3 rfl,hB7.cell 4 rfl,hB7.cell 5 rfl,hB7.cell 6 rfl,hB7.cell 7 rfl,hB7.cell 8 rfl,hB7.cell 9 rfl,hB7.cell 10 rfl⟩ ?_
   clear hK2 K2 c11 g11 hB6 u6
   generalize W6.setCell ⟨tb,11,none⟩ (.bool true)=W7 at hB7 u7 ⊢
   repeat
    first
     | (refine wpB_skip rfl (by kernel_rfl) (by rfl) ?_)
     | ((refine wpB_take (v:=?_) rfl rfl (by kernel_rfl) (by rfl) ?_ ?_); rotate_left 1; (· ((intro w hSw; (try dsimp only at hSw); go_simp); try with_reducible rfl)))
    try simp only [Act.put,List.setIfInBounds_toArray,List.set_cons_zero,List.set_cons_succ]
   have c12:=hB7.cell 12 rfl
   have g12:=hB7.free 12
   refine wpB_eff rfl (by kernel_rfl) (by rfl) (fun K2 hK2=>?_)
   go_simp
   have hB8:=hB7.set 12 (.int .i64 at_)
   have u8:Upd [tb] W5 _:=u7.setCell (p:=⟨tb,12,none⟩) (.inl (by simp)) (.int .i64 at_)
   refine hK2.out _ _ ⟨hB8.cell 2 rfl,hB8.cell 3 rfl,hB8.cell 4 rfl,hB8.cell 5 rfl,hB8.cell 6 rfl,hB8.cell 7 rfl,hB8.cell 8 rfl,hB8.cell 9 rfl,hB8.cell 10 rfl⟩ ?_
   clear hK2 K2 c12 g12 hB7 u7
   generalize W7.setCell ⟨tb,12,none⟩ (.int .i64 at_)=W8 at hB8 u8 ⊢
   repeat
    first
     | (refine wpB_skip rfl (by kernel_rfl) (by rfl) ?_)
     | ((refine wpB_take (v:=?_) rfl rfl (by kernel_rfl) (by rfl) ?_ ?_); rotate_left 1; (· ((intro w hSw; (try dsimp only at hSw); go_simp); try with_reducible rfl)))
    try simp only [Act.put,List.setIfInBounds_toArray,List.set_cons_zero,List.set_cons_succ]
   have c13:=hB8.cell 13 rfl
   have c14:=hB8.cell 14 rfl
   have c15:=hB8.cell 15 rfl
   have c16:=hB8.cell 16 rfl
   have c17:=hB8.cell 17 rfl
   have c18:=hB8.cell 18 rfl
   have c19:=hB8.cell 19 rfl
   have c20:=hB8.cell 20 rfl
   have g13:=hB8.free 13
   have g14:=hB8.free 14
   have g15:=hB8.free 15
   have g16:=hB8.free 16
   have g17:=hB8.free 17
   have g18:=hB8.free 18
   have g19:=hB8.free 19
   have g20:=hB8.free 20
   refine wpB_eff rfl (by kernel_rfl) (by rfl) (fun K2 hK2=>?_)
   go_simp
   have hB9:=(((((((hB8.set 13 (.int .u64 r0)).set 14 (.int .u64 r1)).set 15 (.int .u64 r2)).set 16 (.int .u64 r3)).set 17 (.int .u64 r4)).set 18 (.int .u64 r5)).set 19 (.int .u64 r6)).set 20 (.int .u64 r7)
   have u9:Upd [tb] W5 _:=(((((((u8.setCell (p:=⟨tb,13,none⟩) (.inl (by simp)) (.int .u64 r0)).setCell (p:=⟨tb,14,none⟩) (.inl (by simp)) (.int .u64 r1)).setCell (p:=⟨tb,15,none⟩) (.inl (by simp)) (.int .u64 r2)).setCell (p:=⟨tb,16,none⟩) (.inl (by simp)) (.int .u64 r3)).setCell (p:=⟨tb,17,none⟩) (.inl (by simp)) (.int .u64 r4)).setCell (p:=⟨tb,18,none⟩) (.inl (by simp)) (.int .u64 r5)).setCell (p:=⟨tb,19,none⟩) (.inl (by simp)) (.int .u64 r6)).setCell (p:=⟨tb,20,none⟩) (.inl (by simp)) (.int .u64 r7)
   refine hK2.out _ _ ⟨hB9.cell 2 rfl,hB9.cell 3 rfl,hB9.cell 4 rfl,hB9.cell 5 rfl,hB9.cell 6 rfl,hB9.cell 7 rfl,hB9.cell 8 rfl,hB9.cell 9 rfl,hB9.cell 10 rfl⟩ ?_
   clear hK2 K2 hB8 u8
   clear c13 c14 c15 c16 c17 c18 c19 c20
   clear g13 g14 g15 g16 g17 g18 g19 g20
   generalize (((((((W8.setCell ⟨tb,13,none⟩ (.int .u64 r0)).setCell ⟨tb,14,none⟩ (.int .u64 r1)).setCell ⟨tb,15,none⟩ (.int .u64 r2)).setCell ⟨tb,16,none⟩ (.int .u64 r3)).setCell ⟨tb,17,none⟩ (.int .u64 r4)).setCell ⟨tb,18,none⟩ (.int .u64 r5)).setCell ⟨tb,19,none⟩ (.int .u64 r6)).setCell ⟨tb,20,none⟩ (.int .u64 r7)=Wa at hB9 u9 ⊢
   refine wpB_end (by kernel_rfl) (NoPanic.normal ?_)
   have c2:Wa.cell? ⟨tb,2,none⟩=some (.int .i64 at_):=hB9.cell 2 rfl
   have g2:=hB9.free 2
   have hw1:wrap64 (at_+1)=at_+1:=by unfold wrap64; omega
   have hbtn:bt≠tb:=fun e=>HBT.out (.inl e)
   replace TB:=TB.upd u9 (by simpa using hbtn)
   replace EB:Blk Wa _ teNone.cells _:=EB.upd u9 (by simpa using hne2)
   replace U:=U.trans (u9.mono (by simp))
   have hLa:=hL.upd u9 (fun e=>HNT.out (by simp at e; subst e; simp [AO.foot])) (fun g hg e=>HNT.out (by simp at e; subst e; simp [AO.foot,hg])) (fun g hg e=>V5.out.ap.2.1 (by simp at e; subst e; exact hg))
   have hPa:=V5.out.prog.upd u9 (by have:=V5.out.ap.1; simp; omega)
   have HAP:=Lib.hid V5.out.ap
   clear hL V5 u9
   have HLA:=Lib.hid hLa
   have HPA:=Lib.hid hPa
   have HB9:=Lib.hid hB9
   clear hLa hPa hB9
   have x2:=TB.cell 2 rfl
   have x3:=TB.cell 3 rfl
   have x4:=TB.cell 4 rfl
   have x5:=TB.cell 5 rfl
   have x6:=TB.cell 6 rfl
   have x7:=TB.cell 7 rfl
   have q0:=EB.cell 0 rfl
   have q1:=EB.cell 1 rfl
   have q2:=EB.cell 2 rfl
   have q3:=EB.cell 3 rfl
   have q4:=EB.cell 4 rfl
   have q5:=EB.cell 5 rfl
   have f0:=EB.free 0
   have f1:=EB.free 1
   have f2:=EB.free 2
   have f3:=EB.free 3
   have f4:=EB.free 4
   have f5:=EB.free 5
   have hne3:=Ne.symm hne2
   have hbtn2:=Ne.symm hbtn
   have HU:=Lib.hid U
   have HEB:=Lib.hid EB
   simp only [teNone] at q0 q1 q2 q3 q4 q5
   clear U EB TB HT
   go_wp2_with fail
   have HV:TV (Wa.setCell ⟨tb,2,none⟩ (.int .i64 (at_+1))) X sh acc (wrap64 (st+1)) p pb cap tb (nextT ⟨st0,er,at_,[r0,r1,r2,r3,r4,r5,r6,r7],at_,[r0,r1,r2,r3,r4,r5,r6,r7],fu,some (fresh sh.clock)⟩) (some (a,F)):=by
    have u2:Upd [tb] Wa (Wa.setCell ⟨tb,2,none⟩ (.int .i64 (at_+1))):=(Upd.refl _ _).setCell (.inl (by simp)) _
    have h4:=HAP.out
    have hL2:=HLA.out.upd u2 (fun e=>HNT.out (by simp at e; subst e; simp [AO.foot])) (fun g hg e=>HNT.out (by simp at e; subst e; simp [AO.foot,hg])) (fun g hg e=>h4.2.1 (by simp at e; subst e; exact hg))
    refine ⟨HB9.out.set 2 (.int .i64 (at_+1)),HPA.out.upd u2 (by have:=h4.1; simp; omega),hL2.sh,.inr ⟨_,a,F,rv,wv,mv,rfl,rfl,hL2⟩,rfl,rfl,⟨h4.1,h4.2.1,h4.2.2.1,HNT.out,fun e=>?_⟩⟩
    have h1:=HNEW.out _ e
    exact HLT.out pb h1 (.inr (.inl rfl))
   have hwe:w.heap.size+1<Wa.heap.size:=HEB.out.lt
   refine bodyPost_ret (ev_results2 4 5 rfl _ _ (w.heap.size+1) (⟨1,0,sh.clock,false,0⟩:TE) (.bool true) rfl rfl (ev_set (e0:=teNone) (HEB.out.other ⟨tb,2,none⟩ (.int .i64 (at_+1)) hne2) (⟨1,0,sh.clock,false,0⟩:TE))) rfl (hK _ _ ⟨rfl,_,_,_,HV.updn (ev_upd (S:=[w.heap.size+1]) (Upd.refl _ _) (.inl (by simp)) _ _ _ _ _ _) ?_,ev_upd (HU.out.setCell (.inl (by simp)) _) (.inr (by omega)) _ _ _ _ _ _,?_,.inr (.inr ⟨rfl,rfl⟩)⟩)
   ·intro g hg e
    simp at hg
    subst hg
    rcases e with e | e | e | e
    ·exact hne2 e
    ·exact HLT.out (w.heap.size+1) (by omega) (.inr (.inl e))
    ·exact HEF.out e
    ·exact HLT.out (w.heap.size+1) (by omega) (.inr (.inr (.inr e)))
   ·exact fun g hg=>.inr (HNEW.out g hg)
  ·rw [if_neg hc] at A5 hK
   rw [show o'.ptr.isNone=true by rw [hpn]; simp; omega] at E1
   obtain rfl:o'=none:=by
    rcases A5 with ⟨_,k⟩ | ⟨s,a,F,rv,wv,mv,e,_⟩
    ·exact k
    ·cases e
   have HV:=V5
   clear A5 hpn HIS HT V5
   simp only [AO.ptr,Option.map_none] at E1 ⊢
   have q0:=EB.cell 0 rfl
   have q1:=EB.cell 1 rfl
   have q2:=EB.cell 2 rfl
   have q3:=EB.cell 3 rfl
   have q4:=EB.cell 4 rfl
   have q5:=EB.cell 5 rfl
   have f0:=EB.free 0
   have f1:=EB.free 1
   have f2:=EB.free 2
   have f3:=EB.free 3
   have f4:=EB.free 4
   have f5:=EB.free 5
   go_wp2_with fail
   refine bodyPost_ret (ev_results2 4 5 rfl _ _ (w.heap.size+1) (⟨0,0,0,false,0⟩:TE) (.bool false) rfl rfl (ev_set (e0:=teNone) EB (⟨0,0,0,false,0⟩:TE))) rfl (hK _ _ ⟨rfl,_,_,_,HV.out.updn (ev_upd (S:=[w.heap.size+1]) (Upd.refl _ _) (.inl (by simp)) _ _ _ _ _ _) ?_,ev_upd U (.inr (by omega)) _ _ _ _ _ _,?_,.inr (.inr ⟨rfl,rfl⟩)⟩)
   ·exact fun g hg e=>by simp at hg; exact HLT.out g (by omega) e
   ·exact fun g hg=>.inl hg
end
end Go.Proofs.YtehopaabfoopeaaGreat
set_option linter.unusedSimpArgs false
set_option linter.unusedVariables false
set_option maxRecDepth 100000
namespace Go.Proofs.YtehopaabfoopeaaGreat
open Go.RowKit
open Go.Maps
section
variable {w w':World} {X:SX} {sh:Sh} {acc st:Int} {p:List Ins} {pb cap tb:Nat} {t:TS} {o:AO}
structure Stands (p:List Ins) (t:TS) (i:Ins):Prop where
 here:0≤t.at_∧t.at_<p.length
 is:insAt p t.at_=i
 len:p.length≤256
 regs:(0≤i.a∧i.a<8)∧(0≤i.b∧i.b<8)∧(0≤i.c∧i.c<8)
 num:0≤i.n∧i.n<18446744073709551616
theorem TWide.reg (h:TWide t) (k:Nat):0≤t.regs.getD k 0∧t.regs.getD k 0<18446744073709551616:=by
 by_cases hk:k<t.regs.length
 ·rw [List.getD_eq_getElem?_getD,List.getElem?_eq_getElem hk]
  exact h.regs.2 _ (List.getElem_mem hk)
 ·rw [List.getD_eq_getElem?_getD,List.getElem?_eq_none (by omega)]
  exact ⟨by simp,by simp⟩
theorem shared_code (h:TV w X sh acc st p pb cap tb t o) (hW:TWide t) {i:Ins} (hs:Stands p t i) (hop:10≤i.op∧i.op≤17)
  (hin:i.op=13∨i.op=14∨i.op=15 → ∃ s,t.att=some s∧May s) (hout:i.op=12 → t.att=none) :
  Calls Tryz.prog 79 #[.pointer (some ⟨tb,0,none⟩),i.val] w (TOut w X acc st p pb cap tb o (sharedT p t sh i)):=by
 obtain ⟨hh,his,hlen,⟨hra,hrb,hrc⟩,hn⟩:=hs
 have hA:0≤(insAt p t.at_).a∧(insAt p t.at_).a<8:=by rw [his]; exact hra
 clear his
 obtain ⟨op,a,b,c,n⟩:=i
 dsimp only at hop hin hout hra hrb hrc hn
 obtain ⟨ia,rfl⟩:∃ k:Nat,a=k:=⟨a.toNat,by omega⟩
 obtain ⟨ib,rfl⟩:∃ k:Nat,b=k:=⟨b.toNat,by omega⟩
 have ha8:ia<8:=by omega
 have hb8:ib<8:=by omega
 have wa:=hW.reg ia
 have wb:=hW.reg ib
 have hat:0≤t.at_∧t.at_<9223372036854775807:=by omega
 by_cases e10:op=10
 ·subst e10
  by_cases hx:t.regs.getD ib 0<sh.row.length
  ·exact shared_load_yes h ia ib ha8 hb8 c n _ _ rfl rfl hat wb.1 hx
  ·exact shared_load_no h ia ib ha8 hb8 c n _ _ rfl rfl hat wb.1 hx
 by_cases e11:op=11
 ·subst e11
  by_cases hx:t.regs.getD ib 0<sh.row.length
  ·exact shared_store_yes h ia ib ha8 hb8 c n _ _ rfl rfl hat wb.1 wa hx
  ·exact shared_store_no h ia ib ha8 hb8 c n _ _ rfl rfl hat wb.1 hx
 by_cases e12:op=12
 ·subst e12
  exact shared_begin h ia ib ha8 hb8 c n _ _ rfl rfl hat (hout rfl)
 by_cases e13:op=13
 ·subst e13
  obtain ⟨s,hs,hM⟩:=hin (.inl rfl)
  exact shared_get h ia ib ha8 hb8 c n _ _ rfl rfl hh hA wb hs hM
 by_cases e14:op=14
 ·subst e14
  obtain ⟨s,hs,hM⟩:=hin (.inr (.inl rfl))
  exact shared_put h ia ib ha8 hb8 c n _ _ rfl rfl hh hA wb wa hs hM
 by_cases e15:op=15
 ·subst e15
  obtain ⟨s,hs,hM⟩:=hin (.inr (.inr rfl))
  exact shared_end h ia ib ha8 hb8 c n _ _ rfl rfl hh hA hs hM
 by_cases e16:op=16
 ·subst e16
  exact shared_abort h ia ib ha8 hb8 c n _ _ rfl rfl hn
 obtain rfl:op=17:=by omega
 exact shared_halt h ia ib ha8 hb8 c n _ _ rfl rfl
end
end Go.Proofs.YtehopaabfoopeaaGreat
set_option linter.unusedSimpArgs false
set_option linter.unusedVariables false
set_option maxRecDepth 100000
namespace Go.Proofs.YtehopaabfoopeaaGreat
open Go.RowKit
open Go.Maps
section
variable {w w':World} {X:SX} {sh:Sh} {acc st:Int} {p:List Ins} {pb cap tb:Nat} {t:TS} {o:AO}
set_option maxHeartbeats 1000000 in
theorem step_turn (h:TV w X sh acc st p pb cap tb t o) (hat:0≤t.at_∧t.at_<p.length) (hA:0≤(insAt p t.at_).a∧(insAt p t.at_).a<8) {s:AS} (ha:t.att=some s) (hM:May s) (hph:s.phase≠1):Calls Tryz.prog 51 #[.pointer (some ⟨tb,0,none⟩)] w (TOut w X acc st p pb cap tb o (stepT p t sh)):=by
 have hS:stepT p t sh=((turnedT p (withA t (stepS s sh).2.2.1) (stepS s sh).1 (stepS s sh).2.1).1,(turnedT p (withA t (stepS s sh).2.2.1) (stepS s sh).1 (stepS s sh).2.1).2,(stepS s sh).2.2.2):=by
  have h1:attS t=s:=by unfold attS; rw [ha]; rfl
  have h2:t.ins=true:=by unfold TS.ins; rw [ha]; rfl
  unfold stepT
  rw [if_pos ⟨h2,by rw [h1]; exact hph⟩,h1]
 rw [hS]
 clear hS
 obtain ⟨W1,hW⟩:∃ W,w.alloc (.cells #[.int .i64 0,.int .i64 0,.int .u64 0,.int .u64 0,.bool false,.int .i64 0] 86)=W:=⟨_,rfl⟩
 have U1:Upd [] w W1:=by rw [← hW]; exact (Upd.refl [] _).alloc _
 have EB:Blk W1 w.heap.size teNone.cells 86:=by rw [← hW]; exact Blk.new w teNone.cells 86
 have hlt:=h.head.lt
 have HLT:=Lib.hid (show ∀ g,w.heap.size≤g → ¬ inTh X pb tb o g from fun g hg e=>by have:=h.lt e; omega)
 have hne2:w.heap.size≠tb:=by omega
 replace h:=h.upd0 U1
 simp only [teNone,TE.cells] at EB
 obtain ⟨a,F,rv,wv,mv,ho,hL⟩:=h.att.some ha
 have d34:=h.head.cell 34 (head_cell h.r8 h.s8).2.2.2.2.2.2
 have d11:=h.head.cell 11 (head_cell h.r8 h.s8).1
 rw [show t.ins=true by unfold TS.ins; rw [ha]; rfl] at d11
 rw [ho] at d34
 simp only [AO.ptr,Option.map_some] at d34
 have HFIT:=Lib.hid (fit_of (p:=p) hat h.prog.2.1 hA)
 have HPB:=Lib.hid (show pb ∉ a :: (F ++ X.foot) from by
  have h4:=h.ap
  rw [ho] at h4
  simp only [AO.foot,List.mem_cons,not_or] at h4
  simp only [List.mem_cons,List.mem_append,not_or]
  exact ⟨h4.2.2.2.2.1,h4.2.2.2.2.2,h4.2.2.1⟩)
 have EB0:=EB
 have H:=Lib.hid h
 have HL:=Lib.hid hL
 have hph2:(s.phase != 1)=true:=by simpa using hph
 clear h hL hat hA hph
 refine calls_all fun K hK=>?_
 go_enter Tryz.func51,Tryz.ntmps51
 go_wp2_with fail
 clear hW
 refine (phase_code HL.out).mono ?_
 rintro e w' ⟨rfl,rfl⟩
 go_wp2_with fail
 have hcall:=step_code HL.out hM
 obtain ⟨R0,hR0⟩:∃ R0,stepS s sh=R0:=⟨_,rfl⟩
 rw [hR0] at hcall hK
 clear hR0
 obtain ⟨Tn,rn,sn,shn⟩:=R0
 dsimp only at hcall hK
 have HC:=Lib.hid hcall
 clear hcall
 refine HC.out.mono ?_
 rintro e W2 ⟨rfl,_,F',acc',st',rv',wv',mv',hL2,u2,hF2,honce⟩
 have V2:=H.out.call ha ho hL2 u2 hF2
 have hu:∀ g ∈ a :: (F ++ X.foot),inTh X pb tb o g:=fun g hg=>by
  subst ho
  simp only [List.mem_cons,List.mem_append] at hg
  rcases hg with k | k | k
  ·exact .inr (.inr (.inl (by simp [AO.foot,k])))
  ·exact .inr (.inr (.inl (by simp [AO.foot,k])))
  ·exact .inr (.inr (.inr k))
 have hn2:w.heap.size ∉ a :: (F ++ X.foot):=fun e=>HLT.out (w.heap.size) (by omega) (hu _ e)
 replace EB:Blk W2 _ teNone.cells _:=EB.upd u2 hn2
 have U:Upd (tb :: (o.foot ++ X.foot)) w W2:=(U1.mono (by simp)).trans (u2.mono (fun g hg=>.inl (by
  rcases hu g hg with k | k | k | k
  ·simp [k]
  ·exact absurd (show pb ∈ a :: (F ++ X.foot) from by rw [← k]; exact hg) HPB.out
  ·simp [k]
  ·simp [k])))
 have HV2:=Lib.hid V2
 have HF2:=Lib.hid hF2
 have HO:=Lib.hid honce
 have hw1:=U1.size
 clear V2 hL2 u2 hF2 honce HC H
 have hturn:=turned_code HV2.out Tn rn (HFIT.out _ _ _)
 obtain ⟨T,hT⟩:∃ T,turnedT p (withA t sn) Tn rn=T:=⟨_,rfl⟩
 rw [hT] at hturn hK
 have HT:=Lib.hid hturn
 clear hturn hT HV2
 go_wp2_with fail
 refine HT.out.mono ?_
 rintro e W3 ⟨rfl,o',V3,u3,ho3⟩
 obtain ⟨⟨⟨ek,ea,ew,eo,ee⟩,tl⟩,t'⟩:=T
 simp only [TE.val]
 have HV:=Lib.hid V3
 have HO3:=Lib.hid ho3
 have hsz:=U1.size
 replace EB:Blk W3 _ teNone.cells _:=EB.upd u3 (by simpa using hne2)
 replace U:=U.trans (u3.mono (fun g hg=>.inl (by simp at hg; simp [hg])))
 have HNI:=Lib.hid (show ¬ inTh X pb tb o' (w.heap.size) from fun q=>by
  rcases q with q | q | q | q
  ·exact hne2 q
  ·exact HLT.out (w.heap.size) (by omega) (.inr (.inl q))
  ·rcases HO3.out with e | e
   ·subst e
    simp only [AO.foot,List.mem_cons] at q
    rcases q with q | q
    ·exact HLT.out (w.heap.size) (by omega) (.inr (.inr (.inl (by rw [ho]; simp [AO.foot,q]))))
    ·rcases HF2.out _ q with z | z
     ·exact HLT.out (w.heap.size) (by omega) (.inr (.inr (.inl (by rw [ho]; simp [AO.foot,z]))))
     ·have:=EB0.lt; omega
   ·subst e
    simp [AO.foot] at q
  ·exact HLT.out (w.heap.size) (by omega) (.inr (.inr (.inr q))))
 clear V3 u3 HT ho3
 have q0:=EB.cell 0 rfl
 have q1:=EB.cell 1 rfl
 have q2:=EB.cell 2 rfl
 have q3:=EB.cell 3 rfl
 have q4:=EB.cell 4 rfl
 have q5:=EB.cell 5 rfl
 have f0:=EB.free 0
 have f1:=EB.free 1
 have f2:=EB.free 2
 have f3:=EB.free 3
 have f4:=EB.free 4
 have f5:=EB.free 5
 go_wp2_with fail
 refine bodyPost_ret (ev_results2 2 3 rfl _ _ (w.heap.size) (⟨ek,ea,ew,eo,ee⟩:TE) (.bool tl) rfl rfl (ev_set (e0:=teNone) EB (⟨ek,ea,ew,eo,ee⟩:TE))) rfl (hK _ _ ⟨rfl,_,_,_,HV.out.updn (ev_upd (S:=[w.heap.size]) (Upd.refl _ _) (.inl (by simp)) _ _ _ _ _ _) ?_,ev_upd U (.inr (by omega)) _ _ _ _ _ _,?_,HO.out⟩)
 ·exact fun g hg e=>by simp at hg; subst hg; exact HNI.out e
 ·intro g hg
  rcases HO3.out with e | e
  ·subst e
   simp only [AO.foot,List.mem_cons] at hg
   rcases hg with q | q
   ·exact .inl (by rw [ho]; simp [AO.foot,q])
   ·rcases HF2.out _ q with z | z
    ·exact .inl (by rw [ho]; simp [AO.foot,z])
    ·exact .inr (by omega)
  ·subst e
   simp [AO.foot] at hg
end
end Go.Proofs.YtehopaabfoopeaaGreat
set_option linter.unusedSimpArgs false
set_option linter.unusedVariables false
set_option maxRecDepth 100000
namespace Go.Proofs.YtehopaabfoopeaaGreat
open Go.RowKit
open Go.Maps
section
variable {w w':World} {X:SX} {sh:Sh} {acc st:Int} {p:List Ins} {pb cap tb:Nat} {t:TS} {o:AO}
def Form.list (f:Form):List Value:=[.int .i64 (f.regs:Int),.bool f.num,.bool f.target,.bool f.out,.bool f.ins]
def AtForm (W:World) (X:SX) (sh:Sh) (acc st:Int) (p:List Ins) (pb cap tb eb:Nat) (t:TS) (o:AO) (f:Form) (ok:Bool) (v4 v5:Value) (wx:World):Prop:=
 ∃ fb,v4=.pointer (some ⟨fb,0,none⟩)∧v5=.bool ok∧Blk wx fb f.list 116∧Upd [] W wx
theorem Upd.cell {S:List Nat} {a b:World} (u:Upd S a b) {g k:Nat} {v:Value} (hg:g ∉ S) (h:a.cell? ⟨g,k,none⟩=some v):b.cell? ⟨g,k,none⟩=some v:=
 (World.cell?_of_block (w:=a) (u.block g (World.block_lt_of_cell? a _ h) hg)).trans h
theorem setR2 (t:TS) (k u v:Int):setR (setR t k u) k v=setR t k v:=by unfold setR; simp
theorem okReg_bound {R k:Nat} {reg:Nat → Int} (h:okReg R reg k=true):0≤reg k∧reg k<8:=by
 unfold okReg at h
 split at h
 ·simpa using h
 ·have:reg k=0:=by simpa using h
  omega
theorem formed_regs {i:Ins} (h:formed i=true):(0≤i.a∧i.a<8)∧(0≤i.b∧i.b<8)∧(0≤i.c∧i.c<8):=by
 unfold formed formedF at h
 simp only [Bool.and_eq_true] at h
 exact ⟨okReg_bound h.1.1.1,okReg_bound h.1.1.2,okReg_bound h.1.2⟩
def badIns (t:TS) (op:Int):Prop:=isOp op=false∨(t.ins=true∧(formI op).ins=false)∨(t.ins=false∧(formI op).out=false)
theorem stepT_bad (hidle:∀ s,t.att=some s → s.phase=1) (hb:badIns t (opAt p t.at_)):stepT p t sh=((failT t 210).1,(failT t 210).2,sh):=by
 have h1:¬ (t.ins=true∧(attS t).phase≠1):=fun ⟨h,k⟩=>by
  unfold TS.ins at h
  cases ha:t.att with
  | none=>rw [ha] at h; cases h
  | some s=>unfold attS at k; rw [ha] at k; exact k (hidle s ha)
 unfold stepT
 rw [if_neg h1]
 exact if_pos hb
theorem stepT_full (hidle:∀ s,t.att=some s → s.phase=1) (hb:¬ badIns t (opAt p t.at_)) (hf:t.ins=true∧t.fuel=4096):stepT p t sh=((failT t 6).1,(failT t 6).2,sh):=by
 have h1:¬ (t.ins=true∧(attS t).phase≠1):=fun ⟨h,k⟩=>by
  unfold TS.ins at h
  cases ha:t.att with
  | none=>rw [ha] at h; cases h
  | some s=>unfold attS at k; rw [ha] at k; exact k (hidle s ha)
 unfold stepT
 rw [if_neg h1]
 exact (if_neg hb).trans (if_pos hf)
theorem stepT_go (hidle:∀ s,t.att=some s → s.phase=1) (hb:¬ badIns t (opAt p t.at_)) (hf:¬ (t.ins=true∧t.fuel=4096)):stepT p t sh=match plainT (fuelT t) (insAt p t.at_) with
   | some t'=>(quiet,t',sh)
   | none=>sharedT p (fuelT t) sh (insAt p t.at_):=by
 have h1:¬ (t.ins=true∧(attS t).phase≠1):=fun ⟨h,k⟩=>by
  unfold TS.ins at h
  cases ha:t.att with
  | none=>rw [ha] at h; cases h
  | some s=>unfold attS at k; rw [ha] at k; exact k (hidle s ha)
 unfold stepT
 rw [if_neg h1]
 exact (if_neg hb).trans (if_neg hf)
def AtGo (w:World) (X:SX) (sh:Sh) (acc st:Int) (p:List Ins) (pb cap tb:Nat) (t:TS) (o:AO) (wx:World):Prop:=
 TV wx X sh acc st p pb cap tb (fuelT t) o∧Blk wx w.heap.size teNone.cells 86∧Upd (tb :: (o.foot ++ X.foot)) w wx∧¬ badIns t (opAt p t.at_)∧¬ (t.ins=true∧t.fuel=4096)
theorem head_setF {pv:Value} {ap:Option Addr} (hr:t.regs.length=8) (hs:t.saved.length=8) (k:Int):(headTV t pv X ap).set 21 (.int .i64 k)=headTV { t with fuel:=k } pv X ap:=by
 obtain ⟨st,er,at_,rs,sta,sv,fu,at2⟩:=t
 obtain ⟨r0,r1,r2,r3,r4,r5,r6,r7,rfl⟩:=list8 hr
 obtain ⟨s0,s1,s2,s3,s4,s5,s6,s7,rfl⟩:=list8 hs
 rfl
def AtEnd (w:World) (X:SX) (sh:Sh) (acc st:Int) (p:List Ins) (pb cap tb:Nat) (o:AO) (t':TS) (i:Ins) (at_:Int) (wx:World):Prop:=
 ∃ t'',t''.at_=at_∧plainT t' i=some (nextT t'')∧TV wx X sh acc st p pb cap tb t'' o∧Blk wx w.heap.size teNone.cells 86∧Upd (tb :: (o.foot ++ X.foot)) w wx
end
end Go.Proofs.YtehopaabfoopeaaGreat
