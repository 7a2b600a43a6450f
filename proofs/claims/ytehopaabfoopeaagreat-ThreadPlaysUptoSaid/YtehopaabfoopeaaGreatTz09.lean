/- What a turn of the attempt makes of the thread (turned). No conditions. -/
import Derived.Test.YtehopaabfoopeaaGreatTz07
set_option linter.unusedSimpArgs false
set_option linter.unusedVariables false
set_option maxRecDepth 100000
namespace Go.Proofs.YtehopaabfoopeaaGreat
open Go.RowKit
open Go.Maps
section
variable {w:World} {X:SX} {sh:Sh} {acc st:Int} {p:List Ins} {pb cap tb:Nat} {t:TS} {o:AO}
set_option maxHeartbeats 1000000 in
theorem turned_fail (h:TV w X sh acc st p pb cap tb t o) (x:Trn) (k:Int) (hk:k≠0):Calls Tryz.prog 74 #[.pointer (some ⟨tb,0,none⟩),x.val,.int .i64 k] w (TOwn w X sh acc st p pb cap tb o (turnedT p t x k)):=by
 rw [show turnedT p t x k=failT t k from if_pos hk]
 obtain ⟨xo,xw,⟨xk,xa,xv,xb⟩⟩:=x
 simp only [Trn.val]
 obtain ⟨W,hW⟩:∃ W,(w.alloc (.cells #[.int .i64 xo,.int .u64 xw,.int .i64 0,.int .i64 xk,.int .u64 xa,.int .u64 xv,.bool xb,.int .i64 0] 140)).alloc (.cells #[.int .i64 0,.int .i64 0,.int .u64 0,.int .u64 0,.bool false,.int .i64 0] 86)=W:=⟨_,rfl⟩
 have u1:Upd [] w W:=by rw [← hW]; exact ((Upd.refl [] _).alloc _).alloc _
 have XB:Blk W w.heap.size [.int .i64 xo,.int .u64 xw,.int .i64 0,.int .i64 xk,.int .u64 xa,.int .u64 xv,.bool xb,.int .i64 0] 140:=by rw [← hW]; exact (Blk.new w _ _).alloc _
 have EB:Blk W (w.heap.size+1) teNone.cells 86:=by
  have:=Blk.new (w.alloc (.cells #[.int .i64 xo,.int .u64 xw,.int .i64 0,.int .i64 xk,.int .u64 xa,.int .u64 xv,.bool xb,.int .i64 0] 140)) teNone.cells 86
  rw [← hW]
  rw [World.size_alloc] at this
  exact this
 have hlt:=h.head.lt
 have HLT:=Lib.hid (show ∀ g,w.heap.size≤g → ¬ inTh X pb tb o g from fun g hg e=>by have:=h.lt e; omega)
 have hne1:w.heap.size≠tb:=by omega
 have hne2:w.heap.size+1≠tb:=by omega
 replace h:=h.upd0 u1
 have hk0:(k != 0)=true:=by simpa using hk
 have HF:=Lib.hid (fail_tv h k)
 obtain ⟨T,hT⟩:∃ T,failT t k=T:=⟨_,rfl⟩
 rw [hT] at HF ⊢
 simp only [teNone,TE.cells] at EB
 clear h XB hT hk
 refine calls_all fun K hK=>?_
 go_enter Tryz.func74,Tryz.ntmps74
 go_wp2_with fail
 clear hW
 refine HF.out.mono ?_
 rintro e w2 ⟨rfl,o',V2,u2,ho⟩
 obtain ⟨⟨⟨ek,ea,ew,eo,ee⟩,tl⟩,t'⟩:=T
 simp only [TE.val]
 have EB2:Blk w2 (w.heap.size+1) teNone.cells 86:=EB.upd u2 (by simpa using hne2)
 have q0:=EB2.cell 0 rfl
 have q1:=EB2.cell 1 rfl
 have q2:=EB2.cell 2 rfl
 have q3:=EB2.cell 3 rfl
 have q4:=EB2.cell 4 rfl
 have q5:=EB2.cell 5 rfl
 have f0:=EB2.free 0
 have f1:=EB2.free 1
 have f2:=EB2.free 2
 have f3:=EB2.free 3
 have f4:=EB2.free 4
 have f5:=EB2.free 5
 simp only [teNone] at q0 q1 q2 q3 q4 q5
 have HV:=Lib.hid V2
 clear EB V2 HF
 go_wp2_with fail
 have u3:Upd [tb] w w2:=(u1.mono (by simp)).trans u2
 refine bodyPost_ret (ev_results2 6 7 rfl _ _ (w.heap.size+1) (⟨ek,ea,ew,eo,ee⟩:TE) (.bool tl) rfl rfl (ev_set EB2 (⟨ek,ea,ew,eo,ee⟩:TE))) rfl (hK _ _ ⟨rfl,o',?_,ev_upd u3 (.inr (by omega)) _ _ _ _ _ _,ho⟩)
 exact HV.out.updn (ev_upd (S:=[w.heap.size+1]) (Upd.refl _ _) (.inl (by simp)) _ _ _ _ _ _) (fun g hg e=>by simp at hg; exact HLT.out g (by omega) (inTh_less ho e))
set_option maxHeartbeats 1000000 in
theorem turned_on (h:TV w X sh acc st p pb cap tb t o) (x:Trn) (hx:¬ (2≤x.out∧x.out≤5)):Calls Tryz.prog 74 #[.pointer (some ⟨tb,0,none⟩),x.val,.int .i64 0] w (TOwn w X sh acc st p pb cap tb o (turnedT p t x 0)):=by
 have hT:turnedT p t x 0=((x.ev.te,x.ev.kind != 0),t):=by
  unfold turnedT
  rw [if_neg (by simp),if_neg (by omega),if_neg (by omega),if_neg (by omega),if_neg (by omega)]
 rw [hT]
 clear hT
 obtain ⟨xo,xw,⟨xk,xa,xv,xb⟩⟩:=x
 simp only [Trn.val,Ev.te] at hx ⊢
 have e2:(xo == 2)=false:=beq_eq_false_iff_ne.2 (by omega)
 have e3:(xo == 3)=false:=beq_eq_false_iff_ne.2 (by omega)
 have e4:(xo == 4)=false:=beq_eq_false_iff_ne.2 (by omega)
 have e5:(xo == 5)=false:=beq_eq_false_iff_ne.2 (by omega)
 obtain ⟨W,hW⟩:∃ W,(w.alloc (.cells #[.int .i64 xo,.int .u64 xw,.int .i64 0,.int .i64 xk,.int .u64 xa,.int .u64 xv,.bool xb,.int .i64 0] 140)).alloc (.cells #[.int .i64 0,.int .i64 0,.int .u64 0,.int .u64 0,.bool false,.int .i64 0] 86)=W:=⟨_,rfl⟩
 have u1:Upd [] w W:=by rw [← hW]; exact ((Upd.refl [] _).alloc _).alloc _
 have XB:Blk W w.heap.size [.int .i64 xo,.int .u64 xw,.int .i64 0,.int .i64 xk,.int .u64 xa,.int .u64 xv,.bool xb,.int .i64 0] 140:=by rw [← hW]; exact (Blk.new w _ _).alloc _
 have EB:Blk W (w.heap.size+1) teNone.cells 86:=by
  have:=Blk.new (w.alloc (.cells #[.int .i64 xo,.int .u64 xw,.int .i64 0,.int .i64 xk,.int .u64 xa,.int .u64 xv,.bool xb,.int .i64 0] 140)) teNone.cells 86
  rw [← hW]
  rw [World.size_alloc] at this
  exact this
 have hlt:=h.head.lt
 have HLT:=Lib.hid (show ∀ g,w.heap.size≤g → ¬ inTh X pb tb o g from fun g hg e=>by have:=h.lt e; omega)
 have hne1:w.heap.size≠tb:=by omega
 have hne2:w.heap.size+1≠tb:=by omega
 replace h:=h.upd0 u1
 have c0:=XB.cell 0 rfl
 obtain ⟨kb,hkb⟩:∃ kb,(xk != 0)=kb:=⟨_,rfl⟩
 rw [hkb]
 have HV:=Lib.hid h
 clear h hx
 simp only [teNone,TE.cells] at EB
 refine calls_all fun K hK=>?_
 go_enter Tryz.func74,Tryz.ntmps74
 go_wp2_with fail
 clear hW c0
 have U0:Upd [tb] w W:=u1.mono (by simp)
 have ud:=(Upd.refl [] W).drew
 have XBd:=XB.drew
 have EBd:=EB.drew
 have Vd:=Lib.hid ((HV).out.upd0 ud)
 have Ud:=(U0).drew
 clear ud XB EB
 refine wp_region_br (fun w'=>w'.cell? ⟨w.heap.size,2,none⟩=some (.int .i64 0)∧w'.cell? ⟨w.heap.size,3,none⟩=some (.int .i64 xk)∧w'.cell? ⟨w.heap.size,4,none⟩=some (.int .u64 xa)∧w'.cell? ⟨w.heap.size,5,none⟩=some (.int .u64 xv)∧w'.cell? ⟨w.heap.size,6,none⟩=some (.bool xb)∧w'.cell? ⟨w.heap.size,7,none⟩=some (.int .i64 0)) [0,1,2,3,4,5,6,7] (by kernel_rfl) (by kernel_rfl) ⟨XBd.cell 2 rfl,XBd.cell 3 rfl,XBd.cell 4 rfl,XBd.cell 5 rfl,XBd.cell 6 rfl,XBd.cell 7 rfl⟩ ?_
 generalize (W).drew=Wd at XBd EBd Vd Ud ⊢
 repeat
  first
   | (refine wpB_skip rfl (by kernel_rfl) (by rfl) ?_)
   | ((refine wpB_take (v:=?_) rfl rfl (by kernel_rfl) (by rfl) ?_ ?_); rotate_left 1; (· ((intro w hSw; (try dsimp only at hSw); go_simp); try with_reducible rfl)))
  try simp only [Act.put,List.setIfInBounds_toArray,List.set_cons_zero,List.set_cons_succ]
 have q0:=EBd.cell 0 rfl
 have q1:=EBd.cell 1 rfl
 have q2:=EBd.cell 2 rfl
 have q3:=EBd.cell 3 rfl
 have q4:=EBd.cell 4 rfl
 have q5:=EBd.cell 5 rfl
 have f0:=EBd.free 0
 have f1:=EBd.free 1
 have f2:=EBd.free 2
 have f3:=EBd.free 3
 have f4:=EBd.free 4
 have f5:=EBd.free 5
 refine wpB_eff rfl (by kernel_rfl) (by rfl) (fun K2 hK2=>?_)
 go_simp
 have XBe:=XBd.upd (ev_upd (S:=[w.heap.size+1]) (eb:=w.heap.size+1) (Upd.refl _ Wd) (.inl (by simp)) (.int .i64 0) (.int .i64 xk) (.int .u64 xa) (.int .u64 xv) (.bool xb) (.int .i64 0)) (by simp)
 refine hK2.out _ _ ⟨XBe.cell 2 rfl,XBe.cell 3 rfl,XBe.cell 4 rfl,XBe.cell 5 rfl,XBe.cell 6 rfl,XBe.cell 7 rfl⟩ ?_
 clear hK2 K2 q0 q1 q2 q3 q4 q5 f0 f1 f2 f3 f4 f5
 repeat
  first
   | (refine wpB_skip rfl (by kernel_rfl) (by rfl) ?_)
   | ((refine wpB_take (v:=?_) rfl rfl (by kernel_rfl) (by rfl) ?_ ?_); rotate_left 1; (· ((intro w hSw; (try dsimp only at hSw); go_simp); try with_reducible rfl)))
  try simp only [Act.put,List.setIfInBounds_toArray,List.set_cons_zero,List.set_cons_succ]
 refine wpB_end (by kernel_rfl) (NoPanic.normal ?_)
 go_wp2_with fail
 refine bodyPost_ret (ev_results2 6 7 rfl _ _ (w.heap.size+1) (⟨xk,xa,xv,xb,0⟩:TE) (.bool kb) rfl rfl (ev_set (e0:=teNone) EBd (⟨xk,xa,xv,xb,0⟩:TE))) rfl (hK _ _ ⟨rfl,_,?_,ev_upd Ud (.inr (by omega)) _ _ _ _ _ _,.inl rfl⟩)
 exact Vd.out.updn (ev_upd (S:=[w.heap.size+1]) (Upd.refl _ _) (.inl (by simp)) _ _ _ _ _ _) (fun g hg e=>by simp at hg; exact HLT.out g (by omega) (inTh_less (.inl rfl) e))
set_option maxHeartbeats 1000000 in
theorem turned_kept (h:TV w X sh acc st p pb cap tb t o) (x:Trn) (hx:x.out=3) (ha:0≤t.at_∧t.at_<9223372036854775807):Calls Tryz.prog 74 #[.pointer (some ⟨tb,0,none⟩),x.val,.int .i64 0] w (TOwn w X sh acc st p pb cap tb o (turnedT p t x 0)):=by
 have hT:turnedT p t x 0=((x.ev.te,x.ev.kind != 0),nextT t):=by
  unfold turnedT
  simp [hx]
 rw [hT]
 clear hT
 obtain ⟨xo,xw,⟨xk,xa,xv,xb⟩⟩:=x
 simp only [Trn.val,Ev.te] at hx ⊢
 subst hx
 obtain ⟨W,hW⟩:∃ W,(w.alloc (.cells #[.int .i64 3,.int .u64 xw,.int .i64 0,.int .i64 xk,.int .u64 xa,.int .u64 xv,.bool xb,.int .i64 0] 140)).alloc (.cells #[.int .i64 0,.int .i64 0,.int .u64 0,.int .u64 0,.bool false,.int .i64 0] 86)=W:=⟨_,rfl⟩
 have u1:Upd [] w W:=by rw [← hW]; exact ((Upd.refl [] _).alloc _).alloc _
 have XB:Blk W w.heap.size [.int .i64 3,.int .u64 xw,.int .i64 0,.int .i64 xk,.int .u64 xa,.int .u64 xv,.bool xb,.int .i64 0] 140:=by rw [← hW]; exact (Blk.new w _ _).alloc _
 have EB:Blk W (w.heap.size+1) teNone.cells 86:=by
  have:=Blk.new (w.alloc (.cells #[.int .i64 3,.int .u64 xw,.int .i64 0,.int .i64 xk,.int .u64 xa,.int .u64 xv,.bool xb,.int .i64 0] 140)) teNone.cells 86
  rw [← hW]
  rw [World.size_alloc] at this
  exact this
 have hlt:=h.head.lt
 have HLT:=Lib.hid (show ∀ g,w.heap.size≤g → ¬ inTh X pb tb o g from fun g hg e=>by have:=h.lt e; omega)
 have hne1:w.heap.size≠tb:=by omega
 have hne2:w.heap.size+1≠tb:=by omega
 replace h:=h.upd0 u1
 have c0:=XB.cell 0 rfl
 obtain ⟨kb,hkb⟩:∃ kb,(xk != 0)=kb:=⟨_,rfl⟩
 rw [hkb]
 have HV:=Lib.hid h
 have d2:=h.head.cell 2 rfl
 have g2:=h.head.free 2
 have hw1:wrap64 (t.at_+1)=t.at_+1:=by unfold wrap64; omega
 clear h
 simp only [teNone,TE.cells] at EB
 refine calls_all fun K hK=>?_
 go_enter Tryz.func74,Tryz.ntmps74
 go_wp2_with fail
 clear hW c0
 have Hn:=HV.out.own (HV.out.head.set 2 (.int .i64 (t.at_+1))) ((Upd.refl [tb] W).setCell (.inl (by simp)) _) (t':=nextT t) HV.out.r8 HV.out.s8 rfl
 have U2:Upd [tb] w (W.setCell ⟨tb,2,none⟩ (.int .i64 (t.at_+1))):=(u1.mono (by simp)).setCell (.inl (by simp)) _
 replace XB:=XB.other ⟨tb,2,none⟩ (.int .i64 (t.at_+1)) hne1
 replace EB:Blk _ _ teNone.cells _:=EB.other ⟨tb,2,none⟩ (.int .i64 (t.at_+1)) hne2
 have HN:=Lib.hid Hn
 clear Hn HV d2 g2 u1
 generalize W.setCell ⟨tb,2,none⟩ (.int .i64 (t.at_+1))=W2 at XB EB HN U2 ⊢
 have ud:=(Upd.refl [] W2).drew
 have XBd:=XB.drew
 have EBd:=EB.drew
 have Vd:=Lib.hid ((HN).out.upd0 ud)
 have Ud:=(U2).drew
 clear ud XB EB
 refine wp_region_br (fun w'=>w'.cell? ⟨w.heap.size,2,none⟩=some (.int .i64 0)∧w'.cell? ⟨w.heap.size,3,none⟩=some (.int .i64 xk)∧w'.cell? ⟨w.heap.size,4,none⟩=some (.int .u64 xa)∧w'.cell? ⟨w.heap.size,5,none⟩=some (.int .u64 xv)∧w'.cell? ⟨w.heap.size,6,none⟩=some (.bool xb)∧w'.cell? ⟨w.heap.size,7,none⟩=some (.int .i64 0)) [0,1,2,3,4,5,6,7] (by kernel_rfl) (by kernel_rfl) ⟨XBd.cell 2 rfl,XBd.cell 3 rfl,XBd.cell 4 rfl,XBd.cell 5 rfl,XBd.cell 6 rfl,XBd.cell 7 rfl⟩ ?_
 generalize (W2).drew=Wd at XBd EBd Vd Ud ⊢
 repeat
  first
   | (refine wpB_skip rfl (by kernel_rfl) (by rfl) ?_)
   | ((refine wpB_take (v:=?_) rfl rfl (by kernel_rfl) (by rfl) ?_ ?_); rotate_left 1; (· ((intro w hSw; (try dsimp only at hSw); go_simp); try with_reducible rfl)))
  try simp only [Act.put,List.setIfInBounds_toArray,List.set_cons_zero,List.set_cons_succ]
 have q0:=EBd.cell 0 rfl
 have q1:=EBd.cell 1 rfl
 have q2:=EBd.cell 2 rfl
 have q3:=EBd.cell 3 rfl
 have q4:=EBd.cell 4 rfl
 have q5:=EBd.cell 5 rfl
 have f0:=EBd.free 0
 have f1:=EBd.free 1
 have f2:=EBd.free 2
 have f3:=EBd.free 3
 have f4:=EBd.free 4
 have f5:=EBd.free 5
 refine wpB_eff rfl (by kernel_rfl) (by rfl) (fun K2 hK2=>?_)
 go_simp
 have XBe:=XBd.upd (ev_upd (S:=[w.heap.size+1]) (eb:=w.heap.size+1) (Upd.refl _ Wd) (.inl (by simp)) (.int .i64 0) (.int .i64 xk) (.int .u64 xa) (.int .u64 xv) (.bool xb) (.int .i64 0)) (by simp)
 refine hK2.out _ _ ⟨XBe.cell 2 rfl,XBe.cell 3 rfl,XBe.cell 4 rfl,XBe.cell 5 rfl,XBe.cell 6 rfl,XBe.cell 7 rfl⟩ ?_
 clear hK2 K2 q0 q1 q2 q3 q4 q5 f0 f1 f2 f3 f4 f5
 repeat
  first
   | (refine wpB_skip rfl (by kernel_rfl) (by rfl) ?_)
   | ((refine wpB_take (v:=?_) rfl rfl (by kernel_rfl) (by rfl) ?_ ?_); rotate_left 1; (· ((intro w hSw; (try dsimp only at hSw); go_simp); try with_reducible rfl)))
  try simp only [Act.put,List.setIfInBounds_toArray,List.set_cons_zero,List.set_cons_succ]
 refine wpB_end (by kernel_rfl) (NoPanic.normal ?_)
 go_wp2_with fail
 refine bodyPost_ret (ev_results2 6 7 rfl _ _ (w.heap.size+1) (⟨xk,xa,xv,xb,0⟩:TE) (.bool kb) rfl rfl (ev_set (e0:=teNone) EBd (⟨xk,xa,xv,xb,0⟩:TE))) rfl (hK _ _ ⟨rfl,_,?_,ev_upd Ud (.inr (by omega)) _ _ _ _ _ _,.inl rfl⟩)
 exact Vd.out.updn (ev_upd (S:=[w.heap.size+1]) (Upd.refl _ _) (.inl (by simp)) _ _ _ _ _ _) (fun g hg e=>by simp at hg; exact HLT.out g (by omega) (inTh_less (.inl rfl) e))
set_option maxHeartbeats 1000000 in
theorem turned_over (h:TV w X sh acc st p pb cap tb t o) (x:Trn) (hx:x.out=4) (ha:0≤t.at_∧t.at_<9223372036854775807):Calls Tryz.prog 74 #[.pointer (some ⟨tb,0,none⟩),x.val,.int .i64 0] w (TOwn w X sh acc st p pb cap tb o (turnedT p t x 0)):=by
 have hT:turnedT p t x 0=((x.ev.te,x.ev.kind != 0),leaveT t (t.at_+1)):=by
  unfold turnedT
  simp [hx]
 rw [hT]
 clear hT
 obtain ⟨xo,xw,⟨xk,xa,xv,xb⟩⟩:=x
 simp only [Trn.val,Ev.te] at hx ⊢
 subst hx
 obtain ⟨W,hW⟩:∃ W,(w.alloc (.cells #[.int .i64 4,.int .u64 xw,.int .i64 0,.int .i64 xk,.int .u64 xa,.int .u64 xv,.bool xb,.int .i64 0] 140)).alloc (.cells #[.int .i64 0,.int .i64 0,.int .u64 0,.int .u64 0,.bool false,.int .i64 0] 86)=W:=⟨_,rfl⟩
 have u1:Upd [] w W:=by rw [← hW]; exact ((Upd.refl [] _).alloc _).alloc _
 have XB:Blk W w.heap.size [.int .i64 4,.int .u64 xw,.int .i64 0,.int .i64 xk,.int .u64 xa,.int .u64 xv,.bool xb,.int .i64 0] 140:=by rw [← hW]; exact (Blk.new w _ _).alloc _
 have EB:Blk W (w.heap.size+1) teNone.cells 86:=by
  have:=Blk.new (w.alloc (.cells #[.int .i64 4,.int .u64 xw,.int .i64 0,.int .i64 xk,.int .u64 xa,.int .u64 xv,.bool xb,.int .i64 0] 140)) teNone.cells 86
  rw [← hW]
  rw [World.size_alloc] at this
  exact this
 have hlt:=h.head.lt
 have HLT:=Lib.hid (show ∀ g,w.heap.size≤g → ¬ inTh X pb tb o g from fun g hg e=>by have:=h.lt e; omega)
 have hne1:w.heap.size≠tb:=by omega
 have hne2:w.heap.size+1≠tb:=by omega
 replace h:=h.upd0 u1
 have c0:=XB.cell 0 rfl
 obtain ⟨kb,hkb⟩:∃ kb,(xk != 0)=kb:=⟨_,rfl⟩
 rw [hkb]
 have HV:=Lib.hid h
 have d2:=h.head.cell 2 rfl
 have hw1:wrap64 (t.at_+1)=t.at_+1:=by unfold wrap64; omega
 clear h
 simp only [teNone,TE.cells] at EB
 refine calls_all fun K hK=>?_
 go_enter Tryz.func74,Tryz.ntmps74
 go_wp2_with fail
 clear hW c0
 refine (leave_code HV.out.head HV.out.r8 HV.out.s8 (t.at_+1)).mono ?_
 rintro e W2 ⟨rfl,hB,u2⟩
 have HN:=Lib.hid (HV.out.left hB u2 (t':=leaveT t (t.at_+1)) HV.out.r8 rfl rfl)
 have U2:Upd [tb] w W2:=(u1.mono (by simp)).trans u2
 replace XB:=XB.upd u2 (by simpa using hne1)
 replace EB:Blk W2 _ teNone.cells _:=EB.upd u2 (by simpa using hne2)
 clear HV u1 u2 hB
 go_wp2_with fail
 have ud:=(Upd.refl [] W2).drew
 have XBd:=XB.drew
 have EBd:=EB.drew
 have Vd:=Lib.hid ((HN).out.upd0 ud)
 have Ud:=(U2).drew
 clear ud XB EB
 refine wp_region_br (fun w'=>w'.cell? ⟨w.heap.size,2,none⟩=some (.int .i64 0)∧w'.cell? ⟨w.heap.size,3,none⟩=some (.int .i64 xk)∧w'.cell? ⟨w.heap.size,4,none⟩=some (.int .u64 xa)∧w'.cell? ⟨w.heap.size,5,none⟩=some (.int .u64 xv)∧w'.cell? ⟨w.heap.size,6,none⟩=some (.bool xb)∧w'.cell? ⟨w.heap.size,7,none⟩=some (.int .i64 0)) [0,1,2,3,4,5,6,7] (by kernel_rfl) (by kernel_rfl) ⟨XBd.cell 2 rfl,XBd.cell 3 rfl,XBd.cell 4 rfl,XBd.cell 5 rfl,XBd.cell 6 rfl,XBd.cell 7 rfl⟩ ?_
 generalize (W2).drew=Wd at XBd EBd Vd Ud ⊢
 repeat
  first
   | (refine wpB_skip rfl (by kernel_rfl) (by rfl) ?_)
   | ((refine wpB_take (v:=?_) rfl rfl (by kernel_rfl) (by rfl) ?_ ?_); rotate_left 1; (· ((intro w hSw; (try dsimp only at hSw); go_simp); try with_reducible rfl)))
  try simp only [Act.put,List.setIfInBounds_toArray,List.set_cons_zero,List.set_cons_succ]
 have q0:=EBd.cell 0 rfl
 have q1:=EBd.cell 1 rfl
 have q2:=EBd.cell 2 rfl
 have q3:=EBd.cell 3 rfl
 have q4:=EBd.cell 4 rfl
 have q5:=EBd.cell 5 rfl
 have f0:=EBd.free 0
 have f1:=EBd.free 1
 have f2:=EBd.free 2
 have f3:=EBd.free 3
 have f4:=EBd.free 4
 have f5:=EBd.free 5
 refine wpB_eff rfl (by kernel_rfl) (by rfl) (fun K2 hK2=>?_)
 go_simp
 have XBe:=XBd.upd (ev_upd (S:=[w.heap.size+1]) (eb:=w.heap.size+1) (Upd.refl _ Wd) (.inl (by simp)) (.int .i64 0) (.int .i64 xk) (.int .u64 xa) (.int .u64 xv) (.bool xb) (.int .i64 0)) (by simp)
 refine hK2.out _ _ ⟨XBe.cell 2 rfl,XBe.cell 3 rfl,XBe.cell 4 rfl,XBe.cell 5 rfl,XBe.cell 6 rfl,XBe.cell 7 rfl⟩ ?_
 clear hK2 K2 q0 q1 q2 q3 q4 q5 f0 f1 f2 f3 f4 f5
 repeat
  first
   | (refine wpB_skip rfl (by kernel_rfl) (by rfl) ?_)
   | ((refine wpB_take (v:=?_) rfl rfl (by kernel_rfl) (by rfl) ?_ ?_); rotate_left 1; (· ((intro w hSw; (try dsimp only at hSw); go_simp); try with_reducible rfl)))
  try simp only [Act.put,List.setIfInBounds_toArray,List.set_cons_zero,List.set_cons_succ]
 refine wpB_end (by kernel_rfl) (NoPanic.normal ?_)
 go_wp2_with fail
 refine bodyPost_ret (ev_results2 6 7 rfl _ _ (w.heap.size+1) (⟨xk,xa,xv,xb,0⟩:TE) (.bool kb) rfl rfl (ev_set (e0:=teNone) EBd (⟨xk,xa,xv,xb,0⟩:TE))) rfl (hK _ _ ⟨rfl,_,?_,ev_upd Ud (.inr (by omega)) _ _ _ _ _ _,.inr rfl⟩)
 exact Vd.out.updn (ev_upd (S:=[w.heap.size+1]) (Upd.refl _ _) (.inl (by simp)) _ _ _ _ _ _) (fun g hg e=>by simp at hg; exact HLT.out g (by omega) (inTh_less (.inr rfl) e))
set_option maxHeartbeats 1000000 in
theorem turned_stale (h:TV w X sh acc st p pb cap tb t o) (x:Trn) (hx:x.out=5):Calls Tryz.prog 74 #[.pointer (some ⟨tb,0,none⟩),x.val,.int .i64 0] w (TOwn w X sh acc st p pb cap tb o (turnedT p t x 0)):=by
 have hT:turnedT p t x 0=((x.ev.te,x.ev.kind != 0),giveT t t.start):=by
  unfold turnedT
  simp [hx]
 rw [hT]
 clear hT
 obtain ⟨xo,xw,⟨xk,xa,xv,xb⟩⟩:=x
 simp only [Trn.val,Ev.te] at hx ⊢
 subst hx
 obtain ⟨W,hW⟩:∃ W,(w.alloc (.cells #[.int .i64 5,.int .u64 xw,.int .i64 0,.int .i64 xk,.int .u64 xa,.int .u64 xv,.bool xb,.int .i64 0] 140)).alloc (.cells #[.int .i64 0,.int .i64 0,.int .u64 0,.int .u64 0,.bool false,.int .i64 0] 86)=W:=⟨_,rfl⟩
 have u1:Upd [] w W:=by rw [← hW]; exact ((Upd.refl [] _).alloc _).alloc _
 have XB:Blk W w.heap.size [.int .i64 5,.int .u64 xw,.int .i64 0,.int .i64 xk,.int .u64 xa,.int .u64 xv,.bool xb,.int .i64 0] 140:=by rw [← hW]; exact (Blk.new w _ _).alloc _
 have EB:Blk W (w.heap.size+1) teNone.cells 86:=by
  have:=Blk.new (w.alloc (.cells #[.int .i64 5,.int .u64 xw,.int .i64 0,.int .i64 xk,.int .u64 xa,.int .u64 xv,.bool xb,.int .i64 0] 140)) teNone.cells 86
  rw [← hW]
  rw [World.size_alloc] at this
  exact this
 have hlt:=h.head.lt
 have HLT:=Lib.hid (show ∀ g,w.heap.size≤g → ¬ inTh X pb tb o g from fun g hg e=>by have:=h.lt e; omega)
 have hne1:w.heap.size≠tb:=by omega
 have hne2:w.heap.size+1≠tb:=by omega
 replace h:=h.upd0 u1
 have c0:=XB.cell 0 rfl
 obtain ⟨kb,hkb⟩:∃ kb,(xk != 0)=kb:=⟨_,rfl⟩
 rw [hkb]
 have HV:=Lib.hid h
 have d12:=h.head.cell 12 (head_cell h.r8 h.s8).2.1
 clear h
 simp only [teNone,TE.cells] at EB
 refine calls_all fun K hK=>?_
 go_enter Tryz.func74,Tryz.ntmps74
 go_wp2_with fail
 clear hW c0
 refine (give_code HV.out.head HV.out.r8 HV.out.s8 t.start).mono ?_
 rintro e W2 ⟨rfl,hB,u2⟩
 have HN:=Lib.hid (HV.out.left hB u2 (t':=giveT t t.start) HV.out.s8 rfl rfl)
 have U2:Upd [tb] w W2:=(u1.mono (by simp)).trans u2
 replace XB:=XB.upd u2 (by simpa using hne1)
 replace EB:Blk W2 _ teNone.cells _:=EB.upd u2 (by simpa using hne2)
 clear HV u1 u2 hB
 go_wp2_with fail
 have ud:=(Upd.refl [] W2).drew
 have XBd:=XB.drew
 have EBd:=EB.drew
 have Vd:=Lib.hid ((HN).out.upd0 ud)
 have Ud:=(U2).drew
 clear ud XB EB
 refine wp_region_br (fun w'=>w'.cell? ⟨w.heap.size,2,none⟩=some (.int .i64 0)∧w'.cell? ⟨w.heap.size,3,none⟩=some (.int .i64 xk)∧w'.cell? ⟨w.heap.size,4,none⟩=some (.int .u64 xa)∧w'.cell? ⟨w.heap.size,5,none⟩=some (.int .u64 xv)∧w'.cell? ⟨w.heap.size,6,none⟩=some (.bool xb)∧w'.cell? ⟨w.heap.size,7,none⟩=some (.int .i64 0)) [0,1,2,3,4,5,6,7] (by kernel_rfl) (by kernel_rfl) ⟨XBd.cell 2 rfl,XBd.cell 3 rfl,XBd.cell 4 rfl,XBd.cell 5 rfl,XBd.cell 6 rfl,XBd.cell 7 rfl⟩ ?_
 generalize (W2).drew=Wd at XBd EBd Vd Ud ⊢
 repeat
  first
   | (refine wpB_skip rfl (by kernel_rfl) (by rfl) ?_)
   | ((refine wpB_take (v:=?_) rfl rfl (by kernel_rfl) (by rfl) ?_ ?_); rotate_left 1; (· ((intro w hSw; (try dsimp only at hSw); go_simp); try with_reducible rfl)))
  try simp only [Act.put,List.setIfInBounds_toArray,List.set_cons_zero,List.set_cons_succ]
 have q0:=EBd.cell 0 rfl
 have q1:=EBd.cell 1 rfl
 have q2:=EBd.cell 2 rfl
 have q3:=EBd.cell 3 rfl
 have q4:=EBd.cell 4 rfl
 have q5:=EBd.cell 5 rfl
 have f0:=EBd.free 0
 have f1:=EBd.free 1
 have f2:=EBd.free 2
 have f3:=EBd.free 3
 have f4:=EBd.free 4
 have f5:=EBd.free 5
 refine wpB_eff rfl (by kernel_rfl) (by rfl) (fun K2 hK2=>?_)
 go_simp
 have XBe:=XBd.upd (ev_upd (S:=[w.heap.size+1]) (eb:=w.heap.size+1) (Upd.refl _ Wd) (.inl (by simp)) (.int .i64 0) (.int .i64 xk) (.int .u64 xa) (.int .u64 xv) (.bool xb) (.int .i64 0)) (by simp)
 refine hK2.out _ _ ⟨XBe.cell 2 rfl,XBe.cell 3 rfl,XBe.cell 4 rfl,XBe.cell 5 rfl,XBe.cell 6 rfl,XBe.cell 7 rfl⟩ ?_
 clear hK2 K2 q0 q1 q2 q3 q4 q5 f0 f1 f2 f3 f4 f5
 repeat
  first
   | (refine wpB_skip rfl (by kernel_rfl) (by rfl) ?_)
   | ((refine wpB_take (v:=?_) rfl rfl (by kernel_rfl) (by rfl) ?_ ?_); rotate_left 1; (· ((intro w hSw; (try dsimp only at hSw); go_simp); try with_reducible rfl)))
  try simp only [Act.put,List.setIfInBounds_toArray,List.set_cons_zero,List.set_cons_succ]
 refine wpB_end (by kernel_rfl) (NoPanic.normal ?_)
 go_wp2_with fail
 refine bodyPost_ret (ev_results2 6 7 rfl _ _ (w.heap.size+1) (⟨xk,xa,xv,xb,0⟩:TE) (.bool kb) rfl rfl (ev_set (e0:=teNone) EBd (⟨xk,xa,xv,xb,0⟩:TE))) rfl (hK _ _ ⟨rfl,_,?_,ev_upd Ud (.inr (by omega)) _ _ _ _ _ _,.inr rfl⟩)
 exact Vd.out.updn (ev_upd (S:=[w.heap.size+1]) (Upd.refl _ _) (.inl (by simp)) _ _ _ _ _ _) (fun g hg e=>by simp at hg; exact HLT.out g (by omega) (inTh_less (.inr rfl) e))
set_option maxHeartbeats 1000000 in
theorem turned_got (h:TV w X sh acc st p pb cap tb t o) (x:Trn) (hx:x.out=2) (ha:0≤t.at_∧t.at_<p.length) (hA:0≤(insAt p t.at_).a∧(insAt p t.at_).a<8):Calls Tryz.prog 74 #[.pointer (some ⟨tb,0,none⟩),x.val,.int .i64 0] w (TOwn w X sh acc st p pb cap tb o (turnedT p t x 0)):=by
 have hT:turnedT p t x 0=((x.ev.te,x.ev.kind != 0),nextT (setR t (insAt p t.at_).a x.word)):=by
  unfold turnedT
  simp [hx]
 rw [hT]
 clear hT
 obtain ⟨xo,xw,⟨xk,xa,xv,xb⟩⟩:=x
 simp only [Trn.val,Ev.te] at hx ⊢
 subst hx
 obtain ⟨W,hW⟩:∃ W,(w.alloc (.cells #[.int .i64 2,.int .u64 xw,.int .i64 0,.int .i64 xk,.int .u64 xa,.int .u64 xv,.bool xb,.int .i64 0] 140)).alloc (.cells #[.int .i64 0,.int .i64 0,.int .u64 0,.int .u64 0,.bool false,.int .i64 0] 86)=W:=⟨_,rfl⟩
 have u1:Upd [] w W:=by rw [← hW]; exact ((Upd.refl [] _).alloc _).alloc _
 have XB:Blk W w.heap.size [.int .i64 2,.int .u64 xw,.int .i64 0,.int .i64 xk,.int .u64 xa,.int .u64 xv,.bool xb,.int .i64 0] 140:=by rw [← hW]; exact (Blk.new w _ _).alloc _
 have EB:Blk W (w.heap.size+1) teNone.cells 86:=by
  have:=Blk.new (w.alloc (.cells #[.int .i64 2,.int .u64 xw,.int .i64 0,.int .i64 xk,.int .u64 xa,.int .u64 xv,.bool xb,.int .i64 0] 140)) teNone.cells 86
  rw [← hW]
  rw [World.size_alloc] at this
  exact this
 have hlt:=h.head.lt
 have HLT:=Lib.hid (show ∀ g,w.heap.size≤g → ¬ inTh X pb tb o g from fun g hg e=>by have:=h.lt e; omega)
 have hne1:w.heap.size≠tb:=by omega
 have hne2:w.heap.size+1≠tb:=by omega
 replace h:=h.upd0 u1
 have c0:=XB.cell 0 rfl
 obtain ⟨kb,hkb⟩:∃ kb,(xk != 0)=kb:=⟨_,rfl⟩
 rw [hkb]
 have HV:=Lib.hid h
 have hx2:=insAt_get p ha.1 ha.2
 obtain ⟨i,hi⟩:∃ i:Nat,t.at_=i:=⟨t.at_.toNat,by omega⟩
 have hpl:=h.prog.2.1
 have hil:(i:Int)<p.length:=by omega
 have hi0:(0:Int)≤i:=by omega
 obtain ⟨A,hAe⟩:∃ A:Nat,(insAt p t.at_).a=A:=⟨(insAt p t.at_).a.toNat,by omega⟩
 have hA8:A<8:=by omega
 have hA8i:(A:Int)<8:=by omega
 have hA0i:(0:Int)≤A:=by omega
 have hAn:∀ v,setR t (insAt p t.at_).a v=setR t A v:=fun v=>by rw [hAe]
 rw [hAn]
 have hw1:wrap64 ((i:Int)+1)=(i:Int)+1:=by unfold wrap64; omega
 have HIA:=Lib.hid hi
 have d2:=h.head.cell 2 rfl
 have d31:=h.head.cell 31 (head_cell h.r8 h.s8).2.2.2.1
 have dA:=h.head.cell (3+A) (head_reg h.r8 hA8)
 have gA:=h.head.free (3+A)
 have dp:=(h.prog.cells hx2).2.1
 have x1:=XB.cell 1 rfl
 rw [hi] at d2
 rw [hAe,hi] at dp
 simp only [progV] at d31
 simp only [Int.toNat_natCast] at dp
 clear h hx2 hA ha hAe hi hAn
 simp only [teNone,TE.cells] at EB
 refine calls_all fun K hK=>?_
 go_enter Tryz.func74,Tryz.ntmps74
 go_wp2_with fail
 clear hW c0
 have ud:=(Upd.refl [] W).drew
 replace XB:=XB.drew
 replace EB:=EB.drew
 replace HV:=Lib.hid (HV.out.upd0 ud)
 have U1:Upd [tb] w W.drew:=(u1.mono (by simp)).drew
 refine wp_region_ordT (fun w'=>w'.cell? ⟨tb,2,none⟩=some (.int .i64 i)∧w'.cell? ⟨tb,31,none⟩=some (.slice (some ⟨pb,0,none⟩) p.length cap)∧w'.cell? ⟨pb,i*5+1,none⟩=some (.int .i64 A)∧w'.cell? ⟨w.heap.size,1,none⟩=some (.int .u64 xw)) [0,1,2,3,4,5,6,7,8,9,10,11,12,13,14,15,16,17,18,19] [19] (by kernel_rfl) (by kernel_rfl) ?_
 have hS:=(show W.drew.cell? ⟨tb,2,none⟩=some (.int .i64 i)∧W.drew.cell? ⟨tb,31,none⟩=some (.slice (some ⟨pb,0,none⟩) p.length cap)∧W.drew.cell? ⟨pb,i*5+1,none⟩=some (.int .i64 A)∧W.drew.cell? ⟨w.heap.size,1,none⟩=some (.int .u64 xw) from ⟨d2,d31,dp,x1⟩)
 replace dA:W.drew.cell? ⟨tb,3+A,none⟩=some (.int .u64 (t.regs.getD A 0)):=dA
 replace gA:W.drew.frozen? ⟨tb,3+A,none⟩=false:=gA
 clear ud u1 d2 d31 dp x1
 generalize W.drew=Wd at XB EB HV U1 hS dA gA ⊢
 repeat
  first
   | (refine wpT_skip rfl (by decide) (by assumption) (by rfl) ?_)
   | ((refine wpT_take (v:=?_) rfl (by decide) (by assumption) rfl (by rfl) ?_ ?_); rotate_left 1; (· ((intro w hSw; (try dsimp only at hSw); go_simp); try with_reducible rfl)))
  try simp only [Act.put,List.setIfInBounds_toArray,List.set_cons_zero,List.set_cons_succ]
 refine wpT_last rfl (by decide) (by kernel_rfl) (by rfl) (fun K2 hK2=>?_)
 go_simp
 refine hK2.out _ _ ?_
 clear hK2 K2 dA gA
 refine wpT_end (NoPanic.normal ?_)
 have hB2:=HV.out.head.set (3+A) (.int .u64 xw)
 rw [head_setR HV.out.r8 hA8] at hB2
 have H2:=HV.out.own (t':=setR t A xw) hB2 ((Upd.refl [tb] Wd).setCell (.inl (by simp)) _) (by simpa [setR] using HV.out.r8) HV.out.s8 rfl
 have U2:Upd [tb] w (Wd.setCell ⟨tb,3+A,none⟩ (.int .u64 xw)):=U1.setCell (.inl (by simp)) _
 replace XB:=XB.other ⟨tb,3+A,none⟩ (.int .u64 xw) hne1
 replace EB:Blk _ _ teNone.cells _:=EB.other ⟨tb,3+A,none⟩ (.int .u64 xw) hne2
 have HN:=Lib.hid H2
 clear hB2 H2 HV hS U1
 generalize Wd.setCell ⟨tb,3+A,none⟩ (.int .u64 xw)=W3 at XB EB HN U2 ⊢
 have d2:W3.cell? ⟨tb,2,none⟩=some (.int .i64 i):=by
  have:=HN.out.head.cell 2 rfl
  rw [this]
  exact congrArg some (congrArg (Value.int .i64) HIA.out)
 have g2:=HN.out.head.free 2
 go_wp2_with fail
 have hnx:nextT (setR t A xw) = { setR t A xw with at_:=(i:Int)+1 }:=by unfold nextT; rw [← HIA.out]; rfl
 have Hn:=HN.out.own (HN.out.head.set 2 (.int .i64 ((i:Int)+1))) ((Upd.refl [tb] W3).setCell (.inl (by simp)) _) (t':={ setR t A xw with at_:=(i:Int)+1 }) HN.out.r8 HN.out.s8 rfl
 rw [← hnx] at Hn
 have U4:Upd [tb] w (W3.setCell ⟨tb,2,none⟩ (.int .i64 ((i:Int)+1))):=U2.setCell (.inl (by simp)) _
 replace XB:=XB.other ⟨tb,2,none⟩ (.int .i64 ((i:Int)+1)) hne1
 replace EB:=EB.other ⟨tb,2,none⟩ (.int .i64 ((i:Int)+1)) hne2
 have HN4:=Lib.hid Hn
 clear Hn HN d2 g2 U2 hnx HIA
 generalize W3.setCell ⟨tb,2,none⟩ (.int .i64 ((i:Int)+1))=W4 at XB EB HN4 U4 ⊢
 have ud:=(Upd.refl [] W4).drew
 have XBd:=XB.drew
 have EBd:=EB.drew
 have Vd:=Lib.hid ((HN4).out.upd0 ud)
 have Ud:=(U4).drew
 clear ud XB EB
 refine wp_region_br (fun w'=>w'.cell? ⟨w.heap.size,2,none⟩=some (.int .i64 0)∧w'.cell? ⟨w.heap.size,3,none⟩=some (.int .i64 xk)∧w'.cell? ⟨w.heap.size,4,none⟩=some (.int .u64 xa)∧w'.cell? ⟨w.heap.size,5,none⟩=some (.int .u64 xv)∧w'.cell? ⟨w.heap.size,6,none⟩=some (.bool xb)∧w'.cell? ⟨w.heap.size,7,none⟩=some (.int .i64 0)) [0,1,2,3,4,5,6,7] (by kernel_rfl) (by kernel_rfl) ⟨XBd.cell 2 rfl,XBd.cell 3 rfl,XBd.cell 4 rfl,XBd.cell 5 rfl,XBd.cell 6 rfl,XBd.cell 7 rfl⟩ ?_
 generalize (W4).drew=Wd at XBd EBd Vd Ud ⊢
 repeat
  first
   | (refine wpB_skip rfl (by kernel_rfl) (by rfl) ?_)
   | ((refine wpB_take (v:=?_) rfl rfl (by kernel_rfl) (by rfl) ?_ ?_); rotate_left 1; (· ((intro w hSw; (try dsimp only at hSw); go_simp); try with_reducible rfl)))
  try simp only [Act.put,List.setIfInBounds_toArray,List.set_cons_zero,List.set_cons_succ]
 have q0:=EBd.cell 0 rfl
 have q1:=EBd.cell 1 rfl
 have q2:=EBd.cell 2 rfl
 have q3:=EBd.cell 3 rfl
 have q4:=EBd.cell 4 rfl
 have q5:=EBd.cell 5 rfl
 have f0:=EBd.free 0
 have f1:=EBd.free 1
 have f2:=EBd.free 2
 have f3:=EBd.free 3
 have f4:=EBd.free 4
 have f5:=EBd.free 5
 refine wpB_eff rfl (by kernel_rfl) (by rfl) (fun K2 hK2=>?_)
 go_simp
 have XBe:=XBd.upd (ev_upd (S:=[w.heap.size+1]) (eb:=w.heap.size+1) (Upd.refl _ Wd) (.inl (by simp)) (.int .i64 0) (.int .i64 xk) (.int .u64 xa) (.int .u64 xv) (.bool xb) (.int .i64 0)) (by simp)
 refine hK2.out _ _ ⟨XBe.cell 2 rfl,XBe.cell 3 rfl,XBe.cell 4 rfl,XBe.cell 5 rfl,XBe.cell 6 rfl,XBe.cell 7 rfl⟩ ?_
 clear hK2 K2 q0 q1 q2 q3 q4 q5 f0 f1 f2 f3 f4 f5
 repeat
  first
   | (refine wpB_skip rfl (by kernel_rfl) (by rfl) ?_)
   | ((refine wpB_take (v:=?_) rfl rfl (by kernel_rfl) (by rfl) ?_ ?_); rotate_left 1; (· ((intro w hSw; (try dsimp only at hSw); go_simp); try with_reducible rfl)))
  try simp only [Act.put,List.setIfInBounds_toArray,List.set_cons_zero,List.set_cons_succ]
 refine wpB_end (by kernel_rfl) (NoPanic.normal ?_)
 go_wp2_with fail
 refine bodyPost_ret (ev_results2 6 7 rfl _ _ (w.heap.size+1) (⟨xk,xa,xv,xb,0⟩:TE) (.bool kb) rfl rfl (ev_set (e0:=teNone) EBd (⟨xk,xa,xv,xb,0⟩:TE))) rfl (hK _ _ ⟨rfl,_,?_,ev_upd Ud (.inr (by omega)) _ _ _ _ _ _,.inl rfl⟩)
 exact Vd.out.updn (ev_upd (S:=[w.heap.size+1]) (Upd.refl _ _) (.inl (by simp)) _ _ _ _ _ _) (fun g hg e=>by simp at hg; exact HLT.out g (by omega) (inTh_less (.inl rfl) e))
def TFit (p:List Ins) (t:TS) (x:Trn) (k:Int):Prop:=k=0 → (x.out=2 → (0≤t.at_∧t.at_<p.length)∧0≤(insAt p t.at_).a∧(insAt p t.at_).a<8)∧(x.out=3∨x.out=4 → 0≤t.at_∧t.at_<9223372036854775807)
theorem turned_code (h:TV w X sh acc st p pb cap tb t o) (x:Trn) (k:Int) (hf:TFit p t x k):Calls Tryz.prog 74 #[.pointer (some ⟨tb,0,none⟩),x.val,.int .i64 k] w (TOwn w X sh acc st p pb cap tb o (turnedT p t x k)):=by
 by_cases hk:k=0
 ·subst hk
  obtain ⟨f2,f34⟩:=hf rfl
  by_cases h2:x.out=2
  ·exact turned_got h x h2 (f2 h2).1 (f2 h2).2
  by_cases h3:x.out=3
  ·exact turned_kept h x h3 (f34 (.inl h3))
  by_cases h4:x.out=4
  ·exact turned_over h x h4 (f34 (.inr h4))
  by_cases h5:x.out=5
  ·exact turned_stale h x h5
  exact turned_on h x (by omega)
 ·exact turned_fail h x k hk
end
end Go.Proofs.YtehopaabfoopeaaGreat
