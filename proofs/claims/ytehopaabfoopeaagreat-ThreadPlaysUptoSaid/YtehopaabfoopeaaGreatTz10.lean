/- An instruction that is not of registers alone (shared): load, store, halt, abort. No conditions. An instruction that is not of registers alone (shared): store. No conditions. -/
import Derived.Test.YtehopaabfoopeaaGreatTz09
import Derived.Test.YtehopaabfoopeaaGreatTz05
set_option linter.unusedSimpArgs false
set_option linter.unusedVariables false
set_option maxRecDepth 100000
namespace Go.Proofs.YtehopaabfoopeaaGreat
open Go.RowKit
open Go.Maps
section
variable {w w':World} {X:SX} {sh:Sh} {acc st:Int} {p:List Ins} {pb cap tb:Nat} {t:TS} {o:AO}
def TOut (w:World) (X:SX) (acc st:Int) (p:List Ins) (pb cap tb:Nat) (o:AO) (R:Told × TS × Sh) (e:Ending) (w':World):Prop:=
 e=.returned (.tuple #[R.1.1.val,.bool R.1.2])∧∃ o' acc' st',TV w' X R.2.2 acc' st' p pb cap tb R.2.1 o'∧Upd (tb :: (o.foot ++ X.foot)) w w'∧(∀ g ∈ o'.foot,g ∈ o.foot∨w.heap.size≤g)∧Once acc st acc' st'
theorem inTh_foot {g:Nat} (h:g ∈ tb :: (o.foot ++ X.foot)):inTh X pb tb o g:=by
 simp only [List.mem_cons,List.mem_append] at h
 rcases h with k | k | k
 ·exact .inl k
 ·exact .inr (.inr (.inl k))
 ·exact .inr (.inr (.inr k))
theorem head_att_eq {a:AS} {pv:Value} {ap:Option Addr} (h:t.ins=true):headTV (withA t a) pv X ap=headTV t pv X ap:=by
 unfold headTV TS.ins at *
 rw [h]
 rfl
theorem TV.call (h:TV w X sh acc st p pb cap tb t o) {s s':AS} {a:Nat} {F F':List Nat} {sh':Sh} {acc' st':Int} {rv wv mv:Value} (ha:t.att=some s) (ho:o=some (a,F)) (hL:Live w' X sh' acc' st' a s' F' rv wv mv) (u:Upd (a :: (F ++ X.foot)) w w') (hF:∀ g ∈ F',g ∈ F∨w.heap.size≤g) :
  TV w' X sh' acc' st' p pb cap tb (withA t s') (some (a,F')):=by
 subst ho
 have hi:t.ins=true:=by unfold TS.ins; rw [ha]; rfl
 have h4:=h.ap
 simp only [AO.foot,List.mem_cons,not_or] at h4
 obtain ⟨h1,h2,h3,⟨h5,h6⟩,h7,h8⟩:=h4
 have hb:tb ∉ a :: (F ++ X.foot):=by simp only [List.mem_cons,List.mem_append,not_or]; exact ⟨h5,h6,h2⟩
 have hp:pb ∉ a :: (F ++ X.foot):=by simp only [List.mem_cons,List.mem_append,not_or]; exact ⟨h7,h8,h3⟩
 refine ⟨?_,h.prog.upd u hp,hL.sh,.inr ⟨s',a,F',rv,wv,mv,rfl,rfl,hL⟩,h.r8,h.s8,⟨h1,h2,h3,?_,?_⟩⟩
 ·rw [head_att_eq hi]
  exact h.head.upd u hb
 ·simp only [AO.foot,List.mem_cons,not_or]
  exact ⟨h5,fun k=>by rcases hF _ k with q | q; exact h6 q; have:=h.head.lt; omega⟩
 ·simp only [AO.foot,List.mem_cons,not_or]
  exact ⟨h7,fun k=>by rcases hF _ k with q | q; exact h8 q; have:=h.prog.lt; omega⟩
theorem TV.moved (h:TV w X sh acc st p pb cap tb t o) {sh':Sh} {acc' st':Int} {S:List Nat} (hX:X.At w' sh' acc' st') (u:Upd S w w') (hS:∀ g ∈ S,g ∈ X.foot):TV w' X sh' acc' st' p pb cap tb t o:=by
 have h4:=h.ap
 refine ⟨h.head.upd u (fun e=>h4.2.1 (hS _ e)),h.prog.upd u (fun e=>h4.2.2.1 (hS _ e)),hX,?_,h.r8,h.s8,h4⟩
 rcases h.att with k | ⟨s,a,F,rv,wv,mv,e,rfl,hL⟩
 ·exact .inl k
 ·refine .inr ⟨s,a,F,rv,wv,mv,e,rfl,⟨hL.att.upd u (fun q=>hL.out (hS _ q)) (fun g hg q=>(hL.sep g hg).2.1 (hS _ q)),hX,fun g hg=>⟨Nat.lt_of_lt_of_le (hL.sep g hg).1 u.size,(hL.sep g hg).2⟩,hL.wide⟩⟩
end
section
variable {w w':World} {X:SX} {sh:Sh} {acc st:Int} {p:List Ins} {pb cap tb:Nat} {t:TS} {o:AO}
set_option maxHeartbeats 1000000 in
theorem shared_halt (h:TV w X sh acc st p pb cap tb t o) (ia ib:Nat) (ha8:ia<8) (hb8:ib<8) (ic xn addr word:Int) (hrb:t.regs.getD ib 0=addr) (hra:t.regs.getD ia 0=word):Calls Tryz.prog 79 #[.pointer (some ⟨tb,0,none⟩),(⟨17,ia,ib,ic,xn⟩:Ins).val] w (TOut w X acc st p pb cap tb o (sharedT p t sh ⟨17,ia,ib,ic,xn⟩)):=by
 rw [show sharedT p t sh ⟨17,ia,ib,ic,xn⟩=(telling 12 0 0,{ t with st:=2 },sh) from rfl]
 simp only [Ins.val]
 obtain ⟨W,hW⟩:∃ W,(w.alloc (.cells #[.int .i64 17,.int .i64 ia,.int .i64 ib,.int .i64 ic,.int .u64 xn] 50)).alloc (.cells #[.int .i64 0,.int .i64 0,.int .u64 0,.int .u64 0,.bool false,.int .i64 0] 86)=W:=⟨_,rfl⟩
 have u1:Upd [] w W:=by rw [← hW]; exact ((Upd.refl [] _).alloc _).alloc _
 have IB:Blk W w.heap.size [.int .i64 17,.int .i64 ia,.int .i64 ib,.int .i64 ic,.int .u64 xn] 50:=by rw [← hW]; exact (Blk.new w _ _).alloc _
 have EB:Blk W (w.heap.size+1) teNone.cells 86:=by
  have:=Blk.new (w.alloc (.cells #[.int .i64 17,.int .i64 ia,.int .i64 ib,.int .i64 ic,.int .u64 xn] 50)) teNone.cells 86
  rw [← hW]
  rw [World.size_alloc] at this
  exact this
 have hlt:=h.head.lt
 have HLT:=Lib.hid (show ∀ g,w.heap.size≤g → ¬ inTh X pb tb o g from fun g hg e=>by have:=h.lt e; omega)
 have hne1:w.heap.size≠tb:=by omega
 have hne2:w.heap.size+1≠tb:=by omega
 replace h:=h.upd0 u1
 have hA8i:(ia:Int)<8:=by omega
 have hA0i:(0:Int)≤ia:=by omega
 have hB8i:(ib:Int)<8:=by omega
 have hB0i:(0:Int)≤ib:=by omega
 simp only [teNone,TE.cells] at EB
 refine calls_all fun K hK=>?_
 go_enter Tryz.func79,Tryz.ntmps79
 go_wp2_with fail
 clear hW
 have ud:=(Upd.refl [] W).drew
 replace h:=h.upd0 ud
 replace IB:=IB.drew
 replace EB:=EB.drew
 have U1:Upd [] w W.drew:=u1.drew
 have da:=h.head.cell (3+ia) (head_reg h.r8 ha8)
 have db:=h.head.cell (3+ib) (head_reg h.r8 hb8)
 rw [hra] at da
 rw [hrb] at db
 refine wp_region_br (fun w'=>w'.cell? ⟨w.heap.size,1,none⟩=some (.int .i64 ia)∧w'.cell? ⟨w.heap.size,2,none⟩=some (.int .i64 ib)∧w'.cell? ⟨tb,3+ia,none⟩=some (.int .u64 word)∧w'.cell? ⟨tb,3+ib,none⟩=some (.int .u64 addr)) [0,1,2,3,4,5,6,7,8,9,10,11,12,13,14,15,16,17] (by kernel_rfl) (by kernel_rfl) ⟨IB.cell 1 rfl,IB.cell 2 rfl,da,db⟩ ?_
 clear ud u1 da db
 generalize W.drew=W1 at h IB EB U1 ⊢
 repeat
  first
   | (refine wpB_skip rfl (by kernel_rfl) (by rfl) ?_)
   | ((refine wpB_take (v:=?_) rfl rfl (by kernel_rfl) (by rfl) ?_ ?_); rotate_left 1; (· ((intro w hSw; (try dsimp only at hSw); go_simp); try with_reducible rfl)))
  try simp only [Act.put,List.setIfInBounds_toArray,List.set_cons_zero,List.set_cons_succ]
 refine wpB_end (by kernel_rfl) (NoPanic.normal ?_)
 have i0:=IB.cell 0 rfl
 have d0:=h.head.cell 0 rfl
 have g0:=h.head.free 0
 go_wp2_with fail
 clear d0 g0 i0
 have HV:=Lib.hid (h.own (t':={ t with st:=2 }) (h.head.set 0 (.int .i64 2)) ((Upd.refl [tb] W1).setCell (.inl (by simp)) _) h.r8 h.s8 rfl)
 have U:Upd (tb :: (o.foot ++ X.foot)) w (W1.setCell ⟨tb,0,none⟩ (.int .i64 2)):=(U1.mono (by simp)).setCell (.inl (by simp)) _
 replace EB:Blk _ _ teNone.cells _:=EB.other ⟨tb,0,none⟩ (.int .i64 2) hne2
 clear h IB U1
 generalize W1.setCell ⟨tb,0,none⟩ (.int .i64 2)=W2 at HV U EB ⊢
 refine (event_any _ _ _ _).mono ?_
 rintro e W9 ⟨rfl,u9⟩
 simp only [TE.val]
 replace EB:Blk W9 _ teNone.cells _:=EB.upd u9 (by simp)
 replace HV:=Lib.hid (HV.out.upd0 u9)
 replace U:=U.trans (u9.mono (by simp))
 clear u9
 have q0:=EB.cell 0 rfl
 have q1:=EB.cell 1 rfl
 have q2:=EB.cell 2 rfl
 have q3:=EB.cell 3 rfl
 have q4:=EB.cell 4 rfl
 have q5:=EB.cell 5 rfl
 have f0:=EB.free 0
 have f1:=EB.free 1
 have f2:=EB.free 2
 have f3:=EB.free 3
 have f4:=EB.free 4
 have f5:=EB.free 5
 go_wp2_with fail
 refine bodyPost_ret (ev_results2 4 5 rfl _ _ (w.heap.size+1) (⟨12,0,0,false,0⟩:TE) (.bool true) rfl rfl (ev_set (e0:=teNone) EB (⟨12,0,0,false,0⟩:TE))) rfl (hK _ _ ⟨rfl,_,_,_,HV.out.updn (ev_upd (S:=[w.heap.size+1]) (Upd.refl _ _) (.inl (by simp)) _ _ _ _ _ _) ?_,ev_upd U (.inr (by omega)) _ _ _ _ _ _,?_,.inl ⟨rfl,rfl⟩⟩)
 ·exact fun g hg e=>by simp at hg; exact HLT.out g (by omega) e
 ·exact fun g hg=>.inl hg
set_option maxHeartbeats 1000000 in
theorem shared_abort (h:TV w X sh acc st p pb cap tb t o) (ia ib:Nat) (ha8:ia<8) (hb8:ib<8) (ic xn addr word:Int) (hrb:t.regs.getD ib 0=addr) (hra:t.regs.getD ia 0=word) (hxn:0≤xn∧xn<18446744073709551616):Calls Tryz.prog 79 #[.pointer (some ⟨tb,0,none⟩),(⟨16,ia,ib,ic,xn⟩:Ins).val] w (TOut w X acc st p pb cap tb o (sharedT p t sh ⟨16,ia,ib,ic,xn⟩)):=by
 rw [show sharedT p t sh ⟨16,ia,ib,ic,xn⟩=(telling 8 0 0,giveT t (targetI xn),sh) from rfl]
 simp only [Ins.val]
 obtain ⟨W,hW⟩:∃ W,(w.alloc (.cells #[.int .i64 16,.int .i64 ia,.int .i64 ib,.int .i64 ic,.int .u64 xn] 50)).alloc (.cells #[.int .i64 0,.int .i64 0,.int .u64 0,.int .u64 0,.bool false,.int .i64 0] 86)=W:=⟨_,rfl⟩
 have u1:Upd [] w W:=by rw [← hW]; exact ((Upd.refl [] _).alloc _).alloc _
 have IB:Blk W w.heap.size [.int .i64 16,.int .i64 ia,.int .i64 ib,.int .i64 ic,.int .u64 xn] 50:=by rw [← hW]; exact (Blk.new w _ _).alloc _
 have EB:Blk W (w.heap.size+1) teNone.cells 86:=by
  have:=Blk.new (w.alloc (.cells #[.int .i64 16,.int .i64 ia,.int .i64 ib,.int .i64 ic,.int .u64 xn] 50)) teNone.cells 86
  rw [← hW]
  rw [World.size_alloc] at this
  exact this
 have hlt:=h.head.lt
 have HLT:=Lib.hid (show ∀ g,w.heap.size≤g → ¬ inTh X pb tb o g from fun g hg e=>by have:=h.lt e; omega)
 have hne1:w.heap.size≠tb:=by omega
 have hne2:w.heap.size+1≠tb:=by omega
 replace h:=h.upd0 u1
 have hA8i:(ia:Int)<8:=by omega
 have hA0i:(0:Int)≤ia:=by omega
 have hB8i:(ib:Int)<8:=by omega
 have hB0i:(0:Int)≤ib:=by omega
 simp only [teNone,TE.cells] at EB
 refine calls_all fun K hK=>?_
 go_enter Tryz.func79,Tryz.ntmps79
 go_wp2_with fail
 clear hW
 have ud:=(Upd.refl [] W).drew
 replace h:=h.upd0 ud
 replace IB:=IB.drew
 replace EB:=EB.drew
 have U1:Upd [] w W.drew:=u1.drew
 have da:=h.head.cell (3+ia) (head_reg h.r8 ha8)
 have db:=h.head.cell (3+ib) (head_reg h.r8 hb8)
 rw [hra] at da
 rw [hrb] at db
 refine wp_region_br (fun w'=>w'.cell? ⟨w.heap.size,1,none⟩=some (.int .i64 ia)∧w'.cell? ⟨w.heap.size,2,none⟩=some (.int .i64 ib)∧w'.cell? ⟨tb,3+ia,none⟩=some (.int .u64 word)∧w'.cell? ⟨tb,3+ib,none⟩=some (.int .u64 addr)) [0,1,2,3,4,5,6,7,8,9,10,11,12,13,14,15,16,17] (by kernel_rfl) (by kernel_rfl) ⟨IB.cell 1 rfl,IB.cell 2 rfl,da,db⟩ ?_
 clear ud u1 da db
 generalize W.drew=W1 at h IB EB U1 ⊢
 repeat
  first
   | (refine wpB_skip rfl (by kernel_rfl) (by rfl) ?_)
   | ((refine wpB_take (v:=?_) rfl rfl (by kernel_rfl) (by rfl) ?_ ?_); rotate_left 1; (· ((intro w hSw; (try dsimp only at hSw); go_simp); try with_reducible rfl)))
  try simp only [Act.put,List.setIfInBounds_toArray,List.set_cons_zero,List.set_cons_succ]
 refine wpB_end (by kernel_rfl) (NoPanic.normal ?_)
 have i0:=IB.cell 0 rfl
 have i4:=IB.cell 4 rfl
 go_wp2_with fail
 refine (target_any xn _ hxn).mono ?_
 rintro e w' ⟨rfl,rfl⟩
 go_wp2_with fail
 refine (give_code h.head h.r8 h.s8 (targetI xn)).mono ?_
 rintro e W2 ⟨rfl,hB,u2⟩
 have HV:=Lib.hid (h.left hB u2 (t':=giveT t (targetI xn)) h.s8 rfl rfl)
 have U:Upd (tb :: (o.foot ++ X.foot)) w W2:=(U1.mono (by simp)).trans (u2.mono (by simp))
 replace EB:Blk W2 _ teNone.cells _:=EB.upd u2 (by simpa using hne2)
 clear h hB IB U1 u2 i0 i4
 go_wp2_with fail
 refine (event_any _ _ _ _).mono ?_
 rintro e W9 ⟨rfl,u9⟩
 simp only [TE.val]
 replace EB:Blk W9 _ teNone.cells _:=EB.upd u9 (by simp)
 replace HV:=Lib.hid (HV.out.upd0 u9)
 replace U:=U.trans (u9.mono (by simp))
 clear u9
 have q0:=EB.cell 0 rfl
 have q1:=EB.cell 1 rfl
 have q2:=EB.cell 2 rfl
 have q3:=EB.cell 3 rfl
 have q4:=EB.cell 4 rfl
 have q5:=EB.cell 5 rfl
 have f0:=EB.free 0
 have f1:=EB.free 1
 have f2:=EB.free 2
 have f3:=EB.free 3
 have f4:=EB.free 4
 have f5:=EB.free 5
 go_wp2_with fail
 refine bodyPost_ret (ev_results2 4 5 rfl _ _ (w.heap.size+1) (⟨8,0,0,false,0⟩:TE) (.bool true) rfl rfl (ev_set (e0:=teNone) EB (⟨8,0,0,false,0⟩:TE))) rfl (hK _ _ ⟨rfl,_,_,_,HV.out.updn (ev_upd (S:=[w.heap.size+1]) (Upd.refl _ _) (.inl (by simp)) _ _ _ _ _ _) ?_,ev_upd U (.inr (by omega)) _ _ _ _ _ _,?_,.inl ⟨rfl,rfl⟩⟩)
 ·exact fun g hg e=>by simp at hg; exact HLT.out g (by omega) (inTh_less (.inr rfl) e)
 ·exact fun g hg=>by simp [AO.foot] at hg
theorem up_own {S:List Nat} {a b:World} (u:Upd [tb] a b) (h:tb ∈ S):Upd S a b:=u.mono (fun x hx=>.inl (by simp at hx; subst hx; exact h))
set_option maxHeartbeats 1000000 in
theorem shared_load_yes (h:TV w X sh acc st p pb cap tb t o) (ia ib:Nat) (ha8:ia<8) (hb8:ib<8) (ic xn addr word:Int) (hrb:t.regs.getD ib 0=addr) (hra:t.regs.getD ia 0=word) (hat:0≤t.at_∧t.at_<9223372036854775807) (hx0:0≤addr) (hx:addr<sh.row.length):Calls Tryz.prog 79 #[.pointer (some ⟨tb,0,none⟩),(⟨10,ia,ib,ic,xn⟩:Ins).val] w (TOut w X acc st p pb cap tb o (sharedT p t sh ⟨10,ia,ib,ic,xn⟩)):=by
 have hS:sharedT p t sh ⟨10,ia,ib,ic,xn⟩=if addr<sh.row.length then (telling 10 addr (wd sh.row addr.toNat),nextT (setR t ia (wd sh.row addr.toNat)),sh) else ((failT t 4).1,(failT t 4).2,sh):=by rw [← hrb]; rfl
 rw [hS,if_pos hx]
 clear hS
 simp only [Ins.val]
 obtain ⟨W,hW⟩:∃ W,(w.alloc (.cells #[.int .i64 10,.int .i64 ia,.int .i64 ib,.int .i64 ic,.int .u64 xn] 50)).alloc (.cells #[.int .i64 0,.int .i64 0,.int .u64 0,.int .u64 0,.bool false,.int .i64 0] 86)=W:=⟨_,rfl⟩
 have u1:Upd [] w W:=by rw [← hW]; exact ((Upd.refl [] _).alloc _).alloc _
 have IB:Blk W w.heap.size [.int .i64 10,.int .i64 ia,.int .i64 ib,.int .i64 ic,.int .u64 xn] 50:=by rw [← hW]; exact (Blk.new w _ _).alloc _
 have EB:Blk W (w.heap.size+1) teNone.cells 86:=by
  have:=Blk.new (w.alloc (.cells #[.int .i64 10,.int .i64 ia,.int .i64 ib,.int .i64 ic,.int .u64 xn] 50)) teNone.cells 86
  rw [← hW]
  rw [World.size_alloc] at this
  exact this
 have hlt:=h.head.lt
 have HLT:=Lib.hid (show ∀ g,w.heap.size≤g → ¬ inTh X pb tb o g from fun g hg e=>by have:=h.lt e; omega)
 have hne1:w.heap.size≠tb:=by omega
 have hne2:w.heap.size+1≠tb:=by omega
 replace h:=h.upd0 u1
 have hA8i:(ia:Int)<8:=by omega
 have hA0i:(0:Int)≤ia:=by omega
 have hB8i:(ib:Int)<8:=by omega
 have hB0i:(0:Int)≤ib:=by omega
 simp only [teNone,TE.cells] at EB
 refine calls_all fun K hK=>?_
 go_enter Tryz.func79,Tryz.ntmps79
 go_wp2_with fail
 clear hW
 have ud:=(Upd.refl [] W).drew
 replace h:=h.upd0 ud
 replace IB:=IB.drew
 replace EB:=EB.drew
 have U1:Upd [] w W.drew:=u1.drew
 have da:=h.head.cell (3+ia) (head_reg h.r8 ha8)
 have db:=h.head.cell (3+ib) (head_reg h.r8 hb8)
 rw [hra] at da
 rw [hrb] at db
 refine wp_region_br (fun w'=>w'.cell? ⟨w.heap.size,1,none⟩=some (.int .i64 ia)∧w'.cell? ⟨w.heap.size,2,none⟩=some (.int .i64 ib)∧w'.cell? ⟨tb,3+ia,none⟩=some (.int .u64 word)∧w'.cell? ⟨tb,3+ib,none⟩=some (.int .u64 addr)) [0,1,2,3,4,5,6,7,8,9,10,11,12,13,14,15,16,17] (by kernel_rfl) (by kernel_rfl) ⟨IB.cell 1 rfl,IB.cell 2 rfl,da,db⟩ ?_
 clear ud u1 da db
 generalize W.drew=W1 at h IB EB U1 ⊢
 repeat
  first
   | (refine wpB_skip rfl (by kernel_rfl) (by rfl) ?_)
   | ((refine wpB_take (v:=?_) rfl rfl (by kernel_rfl) (by rfl) ?_ ?_); rotate_left 1; (· ((intro w hSw; (try dsimp only at hSw); go_simp); try with_reducible rfl)))
  try simp only [Act.put,List.setIfInBounds_toArray,List.set_cons_zero,List.set_cons_succ]
 refine wpB_end (by kernel_rfl) (NoPanic.normal ?_)
 have i0:=IB.cell 0 rfl
 have d32:=h.head.cell 32 (head_cell h.r8 h.s8).2.2.2.2.1
 have HX:=Lib.hid h.xa
 have H:=Lib.hid h
 clear h hrb hra
 go_wp2_with fail
 clear d32
 refine (load_any HX.out.row addr hx0).mono ?_
 rintro e W2 ⟨rfl,hR,u2⟩
 have hX2:X.At W2 sh (up64 acc) st:=⟨hR,HX.out.clk.upd u2 (by have:=HX.out.a1; simp; omega) (by have:=HX.out.a1; simp; omega) (by have:=HX.out.a1; simp; omega),HX.out.a1,HX.out.a2,HX.out.wide⟩
 have V2:=H.out.moved hX2 u2 (by simp [SX.foot])
 replace EB:Blk W2 _ teNone.cells _:=EB.upd u2 (fun e=>HLT.out (w.heap.size+1) (by omega) (.inr (.inr (.inr (by simp at e; rw [e]; simp [SX.foot])))))
 replace IB:=IB.upd u2 (fun e=>HLT.out w.heap.size (by omega) (.inr (.inr (.inr (by simp at e; rw [e]; simp [SX.foot])))))
 have U:Upd (tb :: (o.foot ++ X.foot)) w W2:=(U1.mono (by simp)).trans (u2.mono (by simp [SX.foot]))
 clear hR hX2 u2 U1 H HX i0
 have e1:(rLoad sh.row addr).1=wd sh.row addr.toNat:=by unfold rLoad; rw [if_pos hx]
 have e2:(rLoad sh.row addr).2=0:=by unfold rLoad; rw [if_pos hx]
 rw [e1,e2]
 obtain ⟨v,hv⟩:∃ v,wd sh.row addr.toNat=v:=⟨_,rfl⟩
 rw [hv] at hK ⊢
 clear e1 e2 hv
 have HV2:=Lib.hid V2
 have HIB:=Lib.hid IB
 clear V2 IB
 go_wp2_with fail
 have ud:=(Upd.refl [] W2).drew
 replace HV2:=Lib.hid (HV2.out.upd0 ud)
 have HIBd:=HIB.out.drew
 replace EB:Blk W2.drew _ teNone.cells _:=EB.drew
 replace U:=U.drew
 have dA:=HV2.out.head.cell (3+ia) (head_reg HV2.out.r8 ha8)
 have gA:=HV2.out.head.free (3+ia)
 refine wp_region_ordT (fun w'=>w'.cell? ⟨w.heap.size,1,none⟩=some (.int .i64 ia)) [0,1,2,3,4,5,6,7,8] [8] (by kernel_rfl) (by kernel_rfl) ?_
 have hS:=(show W2.drew.cell? ⟨w.heap.size,1,none⟩=some (.int .i64 ia) from HIBd.cell 1 rfl)
 clear ud HIB HIBd
 generalize W2.drew=Wd at HV2 EB U hS dA gA ⊢
 repeat
  first
   | (refine wpT_skip rfl (by decide) (by assumption) (by rfl) ?_)
   | ((refine wpT_take (v:=?_) rfl (by decide) (by assumption) rfl (by rfl) ?_ ?_); rotate_left 1; (· ((intro w hSw; (try dsimp only at hSw); go_simp); try with_reducible rfl)))
  try simp only [Act.put,List.setIfInBounds_toArray,List.set_cons_zero,List.set_cons_succ]
 refine wpT_last rfl (by decide) (by kernel_rfl) (by rfl) (fun K2 hK2=>?_)
 go_simp
 refine hK2.out _ _ ?_
 clear hK2 K2 dA gA
 refine wpT_end (NoPanic.normal ?_)
 have hB2:=HV2.out.head.set (3+ia) (.int .u64 v)
 rw [head_setR HV2.out.r8 ha8] at hB2
 have H2:=HV2.out.own (t':=setR t ia v) hB2 ((Upd.refl [tb] Wd).setCell (.inl (by simp)) _) (by simpa [setR] using HV2.out.r8) HV2.out.s8 rfl
 replace U:Upd (tb :: (o.foot ++ X.foot)) w (Wd.setCell ⟨tb,3+ia,none⟩ (.int .u64 v)):=U.setCell (.inl (by simp)) _
 replace EB:Blk _ _ teNone.cells _:=EB.other ⟨tb,3+ia,none⟩ (.int .u64 v) hne2
 replace HV2:=Lib.hid H2
 clear hB2 H2 hS
 generalize Wd.setCell ⟨tb,3+ia,none⟩ (.int .u64 v)=W3 at EB HV2 U ⊢
 have d2:(W3).cell? ⟨tb,2,none⟩=some (.int .i64 t.at_):=HV2.out.head.cell 2 rfl
 have g2:=HV2.out.head.free 2
 have hw1:wrap64 (t.at_+1)=t.at_+1:=by unfold wrap64; omega
 go_wp2_with fail
 clear d2 g2 hw1
 have HV:=Lib.hid (HV2.out.own (t':=nextT (setR t ia v)) (HV2.out.head.set 2 (.int .i64 (t.at_+1))) ((Upd.refl [tb] (W3)).setCell (.inl (by simp)) _) HV2.out.r8 HV2.out.s8 rfl)
 replace U:Upd (tb :: (o.foot ++ X.foot)) w ((W3).setCell ⟨tb,2,none⟩ (.int .i64 (t.at_+1))):=U.setCell (.inl (by simp)) _
 replace EB:Blk _ _ teNone.cells _:=EB.other ⟨tb,2,none⟩ (.int .i64 (t.at_+1)) hne2
 clear HV2
 generalize (W3).setCell ⟨tb,2,none⟩ (.int .i64 (t.at_+1))=W8 at EB HV U ⊢
 refine (event_any _ _ _ _).mono ?_
 rintro e W9 ⟨rfl,u9⟩
 simp only [TE.val]
 replace EB:Blk W9 _ teNone.cells _:=EB.upd u9 (by simp)
 replace HV:=Lib.hid (HV.out.upd0 u9)
 replace U:=U.trans (u9.mono (by simp))
 clear u9
 have q0:=EB.cell 0 rfl
 have q1:=EB.cell 1 rfl
 have q2:=EB.cell 2 rfl
 have q3:=EB.cell 3 rfl
 have q4:=EB.cell 4 rfl
 have q5:=EB.cell 5 rfl
 have f0:=EB.free 0
 have f1:=EB.free 1
 have f2:=EB.free 2
 have f3:=EB.free 3
 have f4:=EB.free 4
 have f5:=EB.free 5
 go_wp2_with fail
 refine bodyPost_ret (ev_results2 4 5 rfl _ _ (w.heap.size+1) (⟨10,addr,v,false,0⟩:TE) (.bool true) rfl rfl (ev_set (e0:=teNone) EB (⟨10,addr,v,false,0⟩:TE))) rfl (hK _ _ ⟨rfl,_,_,_,HV.out.updn (ev_upd (S:=[w.heap.size+1]) (Upd.refl _ _) (.inl (by simp)) _ _ _ _ _ _) ?_,ev_upd U (.inr (by omega)) _ _ _ _ _ _,?_,.inr (.inl ⟨rfl,rfl⟩)⟩)
 ·exact fun g hg e=>by simp at hg; exact HLT.out g (by omega) e
 ·exact fun g hg=>.inl hg
set_option maxHeartbeats 1000000 in
theorem shared_load_no (h:TV w X sh acc st p pb cap tb t o) (ia ib:Nat) (ha8:ia<8) (hb8:ib<8) (ic xn addr word:Int) (hrb:t.regs.getD ib 0=addr) (hra:t.regs.getD ia 0=word) (hat:0≤t.at_∧t.at_<9223372036854775807) (hx0:0≤addr) (hx:¬ addr<sh.row.length):Calls Tryz.prog 79 #[.pointer (some ⟨tb,0,none⟩),(⟨10,ia,ib,ic,xn⟩:Ins).val] w (TOut w X acc st p pb cap tb o (sharedT p t sh ⟨10,ia,ib,ic,xn⟩)):=by
 have hS:sharedT p t sh ⟨10,ia,ib,ic,xn⟩=if addr<sh.row.length then (telling 10 addr (wd sh.row addr.toNat),nextT (setR t ia (wd sh.row addr.toNat)),sh) else ((failT t 4).1,(failT t 4).2,sh):=by rw [← hrb]; rfl
 rw [hS,if_neg hx]
 clear hS
 simp only [Ins.val]
 obtain ⟨W,hW⟩:∃ W,(w.alloc (.cells #[.int .i64 10,.int .i64 ia,.int .i64 ib,.int .i64 ic,.int .u64 xn] 50)).alloc (.cells #[.int .i64 0,.int .i64 0,.int .u64 0,.int .u64 0,.bool false,.int .i64 0] 86)=W:=⟨_,rfl⟩
 have u1:Upd [] w W:=by rw [← hW]; exact ((Upd.refl [] _).alloc _).alloc _
 have IB:Blk W w.heap.size [.int .i64 10,.int .i64 ia,.int .i64 ib,.int .i64 ic,.int .u64 xn] 50:=by rw [← hW]; exact (Blk.new w _ _).alloc _
 have EB:Blk W (w.heap.size+1) teNone.cells 86:=by
  have:=Blk.new (w.alloc (.cells #[.int .i64 10,.int .i64 ia,.int .i64 ib,.int .i64 ic,.int .u64 xn] 50)) teNone.cells 86
  rw [← hW]
  rw [World.size_alloc] at this
  exact this
 have hlt:=h.head.lt
 have HLT:=Lib.hid (show ∀ g,w.heap.size≤g → ¬ inTh X pb tb o g from fun g hg e=>by have:=h.lt e; omega)
 have hne1:w.heap.size≠tb:=by omega
 have hne2:w.heap.size+1≠tb:=by omega
 replace h:=h.upd0 u1
 have hA8i:(ia:Int)<8:=by omega
 have hA0i:(0:Int)≤ia:=by omega
 have hB8i:(ib:Int)<8:=by omega
 have hB0i:(0:Int)≤ib:=by omega
 simp only [teNone,TE.cells] at EB
 refine calls_all fun K hK=>?_
 go_enter Tryz.func79,Tryz.ntmps79
 go_wp2_with fail
 clear hW
 have ud:=(Upd.refl [] W).drew
 replace h:=h.upd0 ud
 replace IB:=IB.drew
 replace EB:=EB.drew
 have U1:Upd [] w W.drew:=u1.drew
 have da:=h.head.cell (3+ia) (head_reg h.r8 ha8)
 have db:=h.head.cell (3+ib) (head_reg h.r8 hb8)
 rw [hra] at da
 rw [hrb] at db
 refine wp_region_br (fun w'=>w'.cell? ⟨w.heap.size,1,none⟩=some (.int .i64 ia)∧w'.cell? ⟨w.heap.size,2,none⟩=some (.int .i64 ib)∧w'.cell? ⟨tb,3+ia,none⟩=some (.int .u64 word)∧w'.cell? ⟨tb,3+ib,none⟩=some (.int .u64 addr)) [0,1,2,3,4,5,6,7,8,9,10,11,12,13,14,15,16,17] (by kernel_rfl) (by kernel_rfl) ⟨IB.cell 1 rfl,IB.cell 2 rfl,da,db⟩ ?_
 clear ud u1 da db
 generalize W.drew=W1 at h IB EB U1 ⊢
 repeat
  first
   | (refine wpB_skip rfl (by kernel_rfl) (by rfl) ?_)
   | ((refine wpB_take (v:=?_) rfl rfl (by kernel_rfl) (by rfl) ?_ ?_); rotate_left 1; (· ((intro w hSw; (try dsimp only at hSw); go_simp); try with_reducible rfl)))
  try simp only [Act.put,List.setIfInBounds_toArray,List.set_cons_zero,List.set_cons_succ]
 refine wpB_end (by kernel_rfl) (NoPanic.normal ?_)
 have i0:=IB.cell 0 rfl
 have d32:=h.head.cell 32 (head_cell h.r8 h.s8).2.2.2.2.1
 have HX:=Lib.hid h.xa
 have H:=Lib.hid h
 clear h hrb hra
 go_wp2_with fail
 clear d32
 refine (load_any HX.out.row addr hx0).mono ?_
 rintro e W2 ⟨rfl,hR,u2⟩
 have hX2:X.At W2 sh (up64 acc) st:=⟨hR,HX.out.clk.upd u2 (by have:=HX.out.a1; simp; omega) (by have:=HX.out.a1; simp; omega) (by have:=HX.out.a1; simp; omega),HX.out.a1,HX.out.a2,HX.out.wide⟩
 have V2:=H.out.moved hX2 u2 (by simp [SX.foot])
 replace EB:Blk W2 _ teNone.cells _:=EB.upd u2 (fun e=>HLT.out (w.heap.size+1) (by omega) (.inr (.inr (.inr (by simp at e; rw [e]; simp [SX.foot])))))
 replace IB:=IB.upd u2 (fun e=>HLT.out w.heap.size (by omega) (.inr (.inr (.inr (by simp at e; rw [e]; simp [SX.foot])))))
 have U:Upd (tb :: (o.foot ++ X.foot)) w W2:=(U1.mono (by simp)).trans (u2.mono (by simp [SX.foot]))
 clear hR hX2 u2 U1 H HX i0
 have e1:(rLoad sh.row addr).2=4:=by unfold rLoad; rw [if_neg (by omega)]
 rw [e1]
 have HV2:=Lib.hid V2
 clear e1 V2 IB
 go_wp2_with fail
 have hf:=fail_tv HV2.out 4
 have HF:=Lib.hid hf
 obtain ⟨T,hT⟩:∃ T,failT t 4=T:=⟨_,rfl⟩
 rw [hT] at HF hK
 clear hf hT
 refine HF.out.mono ?_
 rintro e W3 ⟨rfl,o',V3,u3,ho⟩
 obtain ⟨⟨⟨ek,ea,ew,eo,ee⟩,tl⟩,t'⟩:=T
 simp only [TE.val]
 have HV:=Lib.hid V3
 replace EB:Blk W3 _ teNone.cells _:=EB.upd u3 (by simpa using hne2)
 replace U:=U.trans (up_own u3 (by simp))
 clear V3 u3 HF
 have q0:=EB.cell 0 rfl
 have q1:=EB.cell 1 rfl
 have q2:=EB.cell 2 rfl
 have q3:=EB.cell 3 rfl
 have q4:=EB.cell 4 rfl
 have q5:=EB.cell 5 rfl
 have f0:=EB.free 0
 have f1:=EB.free 1
 have f2:=EB.free 2
 have f3:=EB.free 3
 have f4:=EB.free 4
 have f5:=EB.free 5
 go_wp2_with fail
 refine bodyPost_ret (ev_results2 4 5 rfl _ _ (w.heap.size+1) (⟨ek,ea,ew,eo,ee⟩:TE) (.bool tl) rfl rfl (ev_set (e0:=teNone) EB (⟨ek,ea,ew,eo,ee⟩:TE))) rfl (hK _ _ ⟨rfl,_,_,_,HV.out.updn (ev_upd (S:=[w.heap.size+1]) (Upd.refl _ _) (.inl (by simp)) _ _ _ _ _ _) ?_,ev_upd U (.inr (by omega)) _ _ _ _ _ _,?_,.inr (.inl ⟨rfl,rfl⟩)⟩)
 ·exact fun g hg e=>by simp at hg; exact HLT.out g (by omega) (inTh_less ho e)
 ·exact fun g hg=>.inl (by rcases ho with rfl | rfl; exact hg; simp [AO.foot] at hg)
end
end Go.Proofs.YtehopaabfoopeaaGreat
set_option linter.unusedSimpArgs false
set_option linter.unusedVariables false
set_option maxRecDepth 100000
namespace Go.Proofs.YtehopaabfoopeaaGreat
open Go.RowKit
open Go.Maps
section
variable {w w':World} {X:SX} {sh:Sh} {acc st:Int} {p:List Ins} {pb cap tb:Nat} {t:TS} {o:AO}
theorem WideSh.stored {sh:Sh} (h:WideSh sh) {x v:Int} (hv:0≤v∧v<18446744073709551616):WideSh ⟨sh.row.set x.toNat v,sh.clock⟩:=by
 refine ⟨fun u hu=>?_,h.clock⟩
 rcases List.mem_or_eq_of_mem_set hu with k | k
 ·exact h.row u k
 ·exact k ▸ hv
set_option maxHeartbeats 1000000 in
theorem shared_store_yes (h:TV w X sh acc st p pb cap tb t o) (ia ib:Nat) (ha8:ia<8) (hb8:ib<8) (ic xn addr word:Int) (hrb:t.regs.getD ib 0=addr) (hra:t.regs.getD ia 0=word) (hat:0≤t.at_∧t.at_<9223372036854775807) (hx0:0≤addr) (hword:0≤word∧word<18446744073709551616) (hx:addr<sh.row.length):Calls Tryz.prog 79 #[.pointer (some ⟨tb,0,none⟩),(⟨11,ia,ib,ic,xn⟩:Ins).val] w (TOut w X acc st p pb cap tb o (sharedT p t sh ⟨11,ia,ib,ic,xn⟩)):=by
 have hS:sharedT p t sh ⟨11,ia,ib,ic,xn⟩=if addr<sh.row.length then (telling 11 addr word,nextT t,⟨sh.row.set addr.toNat word,sh.clock⟩) else ((failT t 4).1,(failT t 4).2,sh):=by rw [← hrb,← hra]; rfl
 rw [hS,if_pos hx]
 clear hS
 simp only [Ins.val]
 obtain ⟨W,hW⟩:∃ W,(w.alloc (.cells #[.int .i64 11,.int .i64 ia,.int .i64 ib,.int .i64 ic,.int .u64 xn] 50)).alloc (.cells #[.int .i64 0,.int .i64 0,.int .u64 0,.int .u64 0,.bool false,.int .i64 0] 86)=W:=⟨_,rfl⟩
 have u1:Upd [] w W:=by rw [← hW]; exact ((Upd.refl [] _).alloc _).alloc _
 have IB:Blk W w.heap.size [.int .i64 11,.int .i64 ia,.int .i64 ib,.int .i64 ic,.int .u64 xn] 50:=by rw [← hW]; exact (Blk.new w _ _).alloc _
 have EB:Blk W (w.heap.size+1) teNone.cells 86:=by
  have:=Blk.new (w.alloc (.cells #[.int .i64 11,.int .i64 ia,.int .i64 ib,.int .i64 ic,.int .u64 xn] 50)) teNone.cells 86
  rw [← hW]
  rw [World.size_alloc] at this
  exact this
 have hlt:=h.head.lt
 have HLT:=Lib.hid (show ∀ g,w.heap.size≤g → ¬ inTh X pb tb o g from fun g hg e=>by have:=h.lt e; omega)
 have hne1:w.heap.size≠tb:=by omega
 have hne2:w.heap.size+1≠tb:=by omega
 replace h:=h.upd0 u1
 have hA8i:(ia:Int)<8:=by omega
 have hA0i:(0:Int)≤ia:=by omega
 have hB8i:(ib:Int)<8:=by omega
 have hB0i:(0:Int)≤ib:=by omega
 simp only [teNone,TE.cells] at EB
 refine calls_all fun K hK=>?_
 go_enter Tryz.func79,Tryz.ntmps79
 go_wp2_with fail
 clear hW
 have ud:=(Upd.refl [] W).drew
 replace h:=h.upd0 ud
 replace IB:=IB.drew
 replace EB:=EB.drew
 have U1:Upd [] w W.drew:=u1.drew
 have da:=h.head.cell (3+ia) (head_reg h.r8 ha8)
 have db:=h.head.cell (3+ib) (head_reg h.r8 hb8)
 rw [hra] at da
 rw [hrb] at db
 refine wp_region_br (fun w'=>w'.cell? ⟨w.heap.size,1,none⟩=some (.int .i64 ia)∧w'.cell? ⟨w.heap.size,2,none⟩=some (.int .i64 ib)∧w'.cell? ⟨tb,3+ia,none⟩=some (.int .u64 word)∧w'.cell? ⟨tb,3+ib,none⟩=some (.int .u64 addr)) [0,1,2,3,4,5,6,7,8,9,10,11,12,13,14,15,16,17] (by kernel_rfl) (by kernel_rfl) ⟨IB.cell 1 rfl,IB.cell 2 rfl,da,db⟩ ?_
 clear ud u1 da db
 generalize W.drew=W1 at h IB EB U1 ⊢
 repeat
  first
   | (refine wpB_skip rfl (by kernel_rfl) (by rfl) ?_)
   | ((refine wpB_take (v:=?_) rfl rfl (by kernel_rfl) (by rfl) ?_ ?_); rotate_left 1; (· ((intro w hSw; (try dsimp only at hSw); go_simp); try with_reducible rfl)))
  try simp only [Act.put,List.setIfInBounds_toArray,List.set_cons_zero,List.set_cons_succ]
 refine wpB_end (by kernel_rfl) (NoPanic.normal ?_)
 have i0:=IB.cell 0 rfl
 have d32:=h.head.cell 32 (head_cell h.r8 h.s8).2.2.2.2.1
 have HX:=Lib.hid h.xa
 have H:=Lib.hid h
 clear h hrb hra
 go_wp2_with fail
 clear d32
 refine (store_any HX.out.row addr word hx0).mono ?_
 rintro e W2 ⟨rfl,hR,u2⟩
 have hX2:X.At W2 ⟨sh.row.set addr.toNat word,sh.clock⟩ (up64 acc) st:=⟨hR,HX.out.clk.upd u2 (by have:=HX.out.a1; have:=HX.out.a2; simp; omega) (by have:=HX.out.a1; have:=HX.out.a2; simp; omega) (by have:=HX.out.a1; have:=HX.out.a2; simp; omega),HX.out.a1,HX.out.a2,HX.out.wide.stored hword⟩
 have V2:=H.out.moved hX2 u2 (by simp [SX.foot])
 replace EB:Blk W2 _ teNone.cells _:=EB.upd u2 (fun e=>HLT.out (w.heap.size+1) (by omega) (.inr (.inr (.inr (by simp at e; rcases e with e | e <;> (rw [e]; simp [SX.foot]))))))
 replace IB:=IB.upd u2 (fun e=>HLT.out w.heap.size (by omega) (.inr (.inr (.inr (by simp at e; rcases e with e | e <;> (rw [e]; simp [SX.foot]))))))
 have U:Upd (tb :: (o.foot ++ X.foot)) w W2:=(U1.mono (by simp)).trans (u2.mono (by simp [SX.foot]))
 clear hR hX2 u2 U1 H HX i0
 have e2:(rLoad sh.row addr).2=0:=by unfold rLoad; rw [if_pos hx]
 rw [e2]
 have HV2:=Lib.hid V2
 clear e2 V2 IB
 have d2:(W2).cell? ⟨tb,2,none⟩=some (.int .i64 t.at_):=HV2.out.head.cell 2 rfl
 have g2:=HV2.out.head.free 2
 have hw1:wrap64 (t.at_+1)=t.at_+1:=by unfold wrap64; omega
 go_wp2_with fail
 clear d2 g2 hw1
 have HV:=Lib.hid (HV2.out.own (t':=nextT (t)) (HV2.out.head.set 2 (.int .i64 (t.at_+1))) ((Upd.refl [tb] (W2)).setCell (.inl (by simp)) _) HV2.out.r8 HV2.out.s8 rfl)
 replace U:Upd (tb :: (o.foot ++ X.foot)) w ((W2).setCell ⟨tb,2,none⟩ (.int .i64 (t.at_+1))):=U.setCell (.inl (by simp)) _
 replace EB:Blk _ _ teNone.cells _:=EB.other ⟨tb,2,none⟩ (.int .i64 (t.at_+1)) hne2
 clear HV2
 generalize (W2).setCell ⟨tb,2,none⟩ (.int .i64 (t.at_+1))=W8 at EB HV U ⊢
 refine (event_any _ _ _ _).mono ?_
 rintro e W9 ⟨rfl,u9⟩
 simp only [TE.val]
 replace EB:Blk W9 _ teNone.cells _:=EB.upd u9 (by simp)
 replace HV:=Lib.hid (HV.out.upd0 u9)
 replace U:=U.trans (u9.mono (by simp))
 clear u9
 have q0:=EB.cell 0 rfl
 have q1:=EB.cell 1 rfl
 have q2:=EB.cell 2 rfl
 have q3:=EB.cell 3 rfl
 have q4:=EB.cell 4 rfl
 have q5:=EB.cell 5 rfl
 have f0:=EB.free 0
 have f1:=EB.free 1
 have f2:=EB.free 2
 have f3:=EB.free 3
 have f4:=EB.free 4
 have f5:=EB.free 5
 go_wp2_with fail
 refine bodyPost_ret (ev_results2 4 5 rfl _ _ (w.heap.size+1) (⟨11,addr,word,false,0⟩:TE) (.bool true) rfl rfl (ev_set (e0:=teNone) EB (⟨11,addr,word,false,0⟩:TE))) rfl (hK _ _ ⟨rfl,_,_,_,HV.out.updn (ev_upd (S:=[w.heap.size+1]) (Upd.refl _ _) (.inl (by simp)) _ _ _ _ _ _) ?_,ev_upd U (.inr (by omega)) _ _ _ _ _ _,?_,.inr (.inl ⟨rfl,rfl⟩)⟩)
 ·exact fun g hg e=>by simp at hg; exact HLT.out g (by omega) e
 ·exact fun g hg=>.inl hg
set_option maxHeartbeats 1000000 in
theorem shared_store_no (h:TV w X sh acc st p pb cap tb t o) (ia ib:Nat) (ha8:ia<8) (hb8:ib<8) (ic xn addr word:Int) (hrb:t.regs.getD ib 0=addr) (hra:t.regs.getD ia 0=word) (hat:0≤t.at_∧t.at_<9223372036854775807) (hx0:0≤addr) (hx:¬ addr<sh.row.length):Calls Tryz.prog 79 #[.pointer (some ⟨tb,0,none⟩),(⟨11,ia,ib,ic,xn⟩:Ins).val] w (TOut w X acc st p pb cap tb o (sharedT p t sh ⟨11,ia,ib,ic,xn⟩)):=by
 have hS:sharedT p t sh ⟨11,ia,ib,ic,xn⟩=if addr<sh.row.length then (telling 11 addr word,nextT t,⟨sh.row.set addr.toNat word,sh.clock⟩) else ((failT t 4).1,(failT t 4).2,sh):=by rw [← hrb,← hra]; rfl
 rw [hS,if_neg hx]
 clear hS
 simp only [Ins.val]
 obtain ⟨W,hW⟩:∃ W,(w.alloc (.cells #[.int .i64 11,.int .i64 ia,.int .i64 ib,.int .i64 ic,.int .u64 xn] 50)).alloc (.cells #[.int .i64 0,.int .i64 0,.int .u64 0,.int .u64 0,.bool false,.int .i64 0] 86)=W:=⟨_,rfl⟩
 have u1:Upd [] w W:=by rw [← hW]; exact ((Upd.refl [] _).alloc _).alloc _
 have IB:Blk W w.heap.size [.int .i64 11,.int .i64 ia,.int .i64 ib,.int .i64 ic,.int .u64 xn] 50:=by rw [← hW]; exact (Blk.new w _ _).alloc _
 have EB:Blk W (w.heap.size+1) teNone.cells 86:=by
  have:=Blk.new (w.alloc (.cells #[.int .i64 11,.int .i64 ia,.int .i64 ib,.int .i64 ic,.int .u64 xn] 50)) teNone.cells 86
  rw [← hW]
  rw [World.size_alloc] at this
  exact this
 have hlt:=h.head.lt
 have HLT:=Lib.hid (show ∀ g,w.heap.size≤g → ¬ inTh X pb tb o g from fun g hg e=>by have:=h.lt e; omega)
 have hne1:w.heap.size≠tb:=by omega
 have hne2:w.heap.size+1≠tb:=by omega
 replace h:=h.upd0 u1
 have hA8i:(ia:Int)<8:=by omega
 have hA0i:(0:Int)≤ia:=by omega
 have hB8i:(ib:Int)<8:=by omega
 have hB0i:(0:Int)≤ib:=by omega
 simp only [teNone,TE.cells] at EB
 refine calls_all fun K hK=>?_
 go_enter Tryz.func79,Tryz.ntmps79
 go_wp2_with fail
 clear hW
 have ud:=(Upd.refl [] W).drew
 replace h:=h.upd0 ud
 replace IB:=IB.drew
 replace EB:=EB.drew
 have U1:Upd [] w W.drew:=u1.drew
 have da:=h.head.cell (3+ia) (head_reg h.r8 ha8)
 have db:=h.head.cell (3+ib) (head_reg h.r8 hb8)
 rw [hra] at da
 rw [hrb] at db
 refine wp_region_br (fun w'=>w'.cell? ⟨w.heap.size,1,none⟩=some (.int .i64 ia)∧w'.cell? ⟨w.heap.size,2,none⟩=some (.int .i64 ib)∧w'.cell? ⟨tb,3+ia,none⟩=some (.int .u64 word)∧w'.cell? ⟨tb,3+ib,none⟩=some (.int .u64 addr)) [0,1,2,3,4,5,6,7,8,9,10,11,12,13,14,15,16,17] (by kernel_rfl) (by kernel_rfl) ⟨IB.cell 1 rfl,IB.cell 2 rfl,da,db⟩ ?_
 clear ud u1 da db
 generalize W.drew=W1 at h IB EB U1 ⊢
 repeat
  first
   | (refine wpB_skip rfl (by kernel_rfl) (by rfl) ?_)
   | ((refine wpB_take (v:=?_) rfl rfl (by kernel_rfl) (by rfl) ?_ ?_); rotate_left 1; (· ((intro w hSw; (try dsimp only at hSw); go_simp); try with_reducible rfl)))
  try simp only [Act.put,List.setIfInBounds_toArray,List.set_cons_zero,List.set_cons_succ]
 refine wpB_end (by kernel_rfl) (NoPanic.normal ?_)
 have i0:=IB.cell 0 rfl
 have d32:=h.head.cell 32 (head_cell h.r8 h.s8).2.2.2.2.1
 have HX:=Lib.hid h.xa
 have H:=Lib.hid h
 clear h hrb hra
 go_wp2_with fail
 clear d32
 refine (store_any HX.out.row addr word hx0).mono ?_
 rintro e W2 ⟨rfl,hR,u2⟩
 rw [List.set_eq_of_length_le (by omega)] at hR
 have hX2:X.At W2 sh (up64 acc) st:=⟨hR,HX.out.clk.upd u2 (by have:=HX.out.a1; have:=HX.out.a2; simp; omega) (by have:=HX.out.a1; have:=HX.out.a2; simp; omega) (by have:=HX.out.a1; have:=HX.out.a2; simp; omega),HX.out.a1,HX.out.a2,HX.out.wide⟩
 have V2:=H.out.moved hX2 u2 (by simp [SX.foot])
 replace EB:Blk W2 _ teNone.cells _:=EB.upd u2 (fun e=>HLT.out (w.heap.size+1) (by omega) (.inr (.inr (.inr (by simp at e; rcases e with e | e <;> (rw [e]; simp [SX.foot]))))))
 replace IB:=IB.upd u2 (fun e=>HLT.out w.heap.size (by omega) (.inr (.inr (.inr (by simp at e; rcases e with e | e <;> (rw [e]; simp [SX.foot]))))))
 have U:Upd (tb :: (o.foot ++ X.foot)) w W2:=(U1.mono (by simp)).trans (u2.mono (by simp [SX.foot]))
 clear hR hX2 u2 U1 H HX i0
 have e1:(rLoad sh.row addr).2=4:=by unfold rLoad; rw [if_neg (by omega)]
 rw [e1]
 have HV2:=Lib.hid V2
 clear e1 V2 IB
 go_wp2_with fail
 have hf:=fail_tv HV2.out 4
 have HF:=Lib.hid hf
 obtain ⟨T,hT⟩:∃ T,failT t 4=T:=⟨_,rfl⟩
 rw [hT] at HF hK
 clear hf hT
 refine HF.out.mono ?_
 rintro e W3 ⟨rfl,o',V3,u3,ho⟩
 obtain ⟨⟨⟨ek,ea,ew,eo,ee⟩,tl⟩,t'⟩:=T
 simp only [TE.val]
 have HV:=Lib.hid V3
 replace EB:Blk W3 _ teNone.cells _:=EB.upd u3 (by simpa using hne2)
 replace U:=U.trans (up_own u3 (by simp))
 clear V3 u3 HF
 have q0:=EB.cell 0 rfl
 have q1:=EB.cell 1 rfl
 have q2:=EB.cell 2 rfl
 have q3:=EB.cell 3 rfl
 have q4:=EB.cell 4 rfl
 have q5:=EB.cell 5 rfl
 have f0:=EB.free 0
 have f1:=EB.free 1
 have f2:=EB.free 2
 have f3:=EB.free 3
 have f4:=EB.free 4
 have f5:=EB.free 5
 go_wp2_with fail
 refine bodyPost_ret (ev_results2 4 5 rfl _ _ (w.heap.size+1) (⟨ek,ea,ew,eo,ee⟩:TE) (.bool tl) rfl rfl (ev_set (e0:=teNone) EB (⟨ek,ea,ew,eo,ee⟩:TE))) rfl (hK _ _ ⟨rfl,_,_,_,HV.out.updn (ev_upd (S:=[w.heap.size+1]) (Upd.refl _ _) (.inl (by simp)) _ _ _ _ _ _) ?_,ev_upd U (.inr (by omega)) _ _ _ _ _ _,?_,.inr (.inl ⟨rfl,rfl⟩)⟩)
 ·exact fun g hg e=>by simp at hg; exact HLT.out g (by omega) (inTh_less ho e)
 ·exact fun g hg=>.inl (by rcases ho with rfl | rfl; exact hg; simp [AO.foot] at hg)
end
end Go.Proofs.YtehopaabfoopeaaGreat
