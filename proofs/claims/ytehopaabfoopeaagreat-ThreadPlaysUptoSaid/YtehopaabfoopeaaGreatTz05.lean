/- An attempt's calls, the third part: Step, Drop. No conditions. Begin: an attempt begins where the clock is open. No conditions. -/
import Derived.Test.YtehopaabfoopeaaGreatTz04
import Derived.Test.YtehopaabfoopeaaGreatTz03
set_option linter.unusedSimpArgs false
set_option linter.unusedVariables false
set_option maxRecDepth 100000
namespace Go.Proofs.YtehopaabfoopeaaGreat
open Go.RowKit
open Go.Maps
section
variable {w:World} {X:SX} {sh:Sh} {acc st:Int} {a:Nat} {s:AS} {F:List Nat} {rv wv mv:Value}
theorem eql_nil (w:World):(binOp .eql 129 .nilFunc .nilFunc).run Tryz.prog w=.ok (.bool true) w:=by kernel_rfl
theorem eql_fn (f:Fn) (x y:Array Value) (w:World):(binOp .eql 129 (.func f x y) .nilFunc).run Tryz.prog w=.ok (.bool false) w:=by kernel_rfl
theorem step_nil1 (hL:Live w X sh acc st a s F rv wv mv) (hp:Hid (s.phase=1)):Calls Tryz.prog 75 #[.pointer (some ⟨a,0,none⟩)] w (CallOk w X acc st a F trnNone 2 s sh):=by
 have la:=hL.lt
 have no:=hL.out
 simp only [SX.foot,List.mem_cons,List.not_mem_nil,or_false,not_or] at no
 have lx:=hL.sh.lt
 have l1:=lx X.ra (by simp [SX.foot])
 have l2:=lx X.rb (by simp [SX.foot])
 have l3:=lx X.ca (by simp [SX.foot])
 have l4:=lx X.cr (by simp [SX.foot])
 have l5:=lx X.cb (by simp [SX.foot])
 have hq1:=eql_nil
 have hq2:=eql_fn
 refine calls_all fun K hK=>?_
 go_enter Tryz.func75,Tryz.ntmps75
 go_wp2_with fail
 obtain ⟨W,hW⟩:∃ W,W=w.alloc (.cells turn0.toArray 140):=⟨_,rfl⟩
 have RB:Blk W w.heap.size turn0 140:=by rw [hW]; exact Blk.new w _ _
 have HU:Upd [] w W:=by rw [hW]; exact (Upd.refl _ _).alloc _
 have hWs:W.heap.size=w.heap.size+1:=by rw [hW]; exact World.size_alloc _ _
 simp only [turn0,trnNone,evNone,Trn.cells] at hW
 rw [← hW]
 clear hW
 refine (there_code (hL.upd0 HU)).mono ?_
 rintro e w' ⟨rfl,rfl⟩
 have a5:W.cell? ⟨a,5,none⟩=some (.int .i64 1):=by rw [← hp.out]; exact (hL.upd0 HU).att.head.cell 5 rfl
 have ap:=(hL.upd0 HU).att.head.cell 13 rfl
 go_wp2_with fail
 refine wp_region_eff (fun w'=>w'.cell? ⟨a,5,none⟩=some (.int .i64 1)∧w'.cell? ⟨a,13,none⟩=some .nilFunc) 11 (by kernel_rfl) (by kernel_rfl) ⟨a5,ap⟩ ?_
 repeat
  refine wpE_take (v:=?_) (by decide) rfl (by rfl) ?_ ?_
  rotate_left 1
  ·((intro w hSw; (try dsimp only at hSw); go_simp); try with_reducible rfl)
  try simp only [Act.put,List.setIfInBounds_toArray,List.set_cons_zero,List.set_cons_succ]
 refine wpE_end (NoPanic.normal ?_)
 clear a5 ap
 have HU2:=HU.drew
 have RB2:=RB.drew
 clear HU RB
 generalize W.drew=W2 at HU2 RB2 ⊢
 have hL2:=hL.upd0 HU2
 have a5:W2.cell? ⟨a,5,none⟩=some (.int .i64 1):=by rw [← hp.out]; exact hL2.att.head.cell 5 rfl
 have q0:=(RB2).cell 0 rfl
 have q1:=(RB2).cell 1 rfl
 have q2:=(RB2).cell 2 rfl
 have q3:=(RB2).cell 3 rfl
 have q4:=(RB2).cell 4 rfl
 have q5:=(RB2).cell 5 rfl
 have q6:=(RB2).cell 6 rfl
 have q7:=(RB2).cell 7 rfl
 have g0:=(RB2).free 0
 have g1:=(RB2).free 1
 have g2:=(RB2).free 2
 have g3:=(RB2).free 3
 have g4:=(RB2).free 4
 have g5:=(RB2).free 5
 have g6:=(RB2).free 6
 have g7:=(RB2).free 7
 go_wp2_with fail
 exact bodyPost_ret (turn_results2 2 3 rfl _ _ _ trnNone (.int .i64 2) rfl rfl (turn_set RB2 rfl trnNone)) rfl (hK _ _ ⟨rfl,fin_step hL (Nat.le_refl _) hL2 (HU2.mono (by simp)) (fun g hg=>.inl hg) (.inl ⟨rfl,rfl⟩) _ _ _ _ _ _ _ _⟩)
theorem step_nil10 (hL:Live w X sh acc st a s F rv wv mv) (hp:Hid (s.phase=10)):Calls Tryz.prog 75 #[.pointer (some ⟨a,0,none⟩)] w (CallOk w X acc st a F trnNone 2 s sh):=by
 have la:=hL.lt
 have no:=hL.out
 simp only [SX.foot,List.mem_cons,List.not_mem_nil,or_false,not_or] at no
 have lx:=hL.sh.lt
 have l1:=lx X.ra (by simp [SX.foot])
 have l2:=lx X.rb (by simp [SX.foot])
 have l3:=lx X.ca (by simp [SX.foot])
 have l4:=lx X.cr (by simp [SX.foot])
 have l5:=lx X.cb (by simp [SX.foot])
 have hq1:=eql_nil
 have hq2:=eql_fn
 refine calls_all fun K hK=>?_
 go_enter Tryz.func75,Tryz.ntmps75
 go_wp2_with fail
 obtain ⟨W,hW⟩:∃ W,W=w.alloc (.cells turn0.toArray 140):=⟨_,rfl⟩
 have RB:Blk W w.heap.size turn0 140:=by rw [hW]; exact Blk.new w _ _
 have HU:Upd [] w W:=by rw [hW]; exact (Upd.refl _ _).alloc _
 have hWs:W.heap.size=w.heap.size+1:=by rw [hW]; exact World.size_alloc _ _
 simp only [turn0,trnNone,evNone,Trn.cells] at hW
 rw [← hW]
 clear hW
 refine (there_code (hL.upd0 HU)).mono ?_
 rintro e w' ⟨rfl,rfl⟩
 have a5:W.cell? ⟨a,5,none⟩=some (.int .i64 10):=by rw [← hp.out]; exact (hL.upd0 HU).att.head.cell 5 rfl
 have ap:=(hL.upd0 HU).att.head.cell 22 rfl
 go_wp2_with fail
 refine wp_region_eff (fun w'=>w'.cell? ⟨a,5,none⟩=some (.int .i64 10)∧w'.cell? ⟨a,22,none⟩=some .nilFunc) 11 (by kernel_rfl) (by kernel_rfl) ⟨a5,ap⟩ ?_
 repeat
  refine wpE_take (v:=?_) (by decide) rfl (by rfl) ?_ ?_
  rotate_left 1
  ·((intro w hSw; (try dsimp only at hSw); go_simp); try with_reducible rfl)
  try simp only [Act.put,List.setIfInBounds_toArray,List.set_cons_zero,List.set_cons_succ]
 refine wpE_end (NoPanic.normal ?_)
 clear a5 ap
 have HU2:=HU.drew
 have RB2:=RB.drew
 clear HU RB
 generalize W.drew=W2 at HU2 RB2 ⊢
 have hL2:=hL.upd0 HU2
 have a5:W2.cell? ⟨a,5,none⟩=some (.int .i64 10):=by rw [← hp.out]; exact hL2.att.head.cell 5 rfl
 have q0:=(RB2).cell 0 rfl
 have q1:=(RB2).cell 1 rfl
 have q2:=(RB2).cell 2 rfl
 have q3:=(RB2).cell 3 rfl
 have q4:=(RB2).cell 4 rfl
 have q5:=(RB2).cell 5 rfl
 have q6:=(RB2).cell 6 rfl
 have q7:=(RB2).cell 7 rfl
 have g0:=(RB2).free 0
 have g1:=(RB2).free 1
 have g2:=(RB2).free 2
 have g3:=(RB2).free 3
 have g4:=(RB2).free 4
 have g5:=(RB2).free 5
 have g6:=(RB2).free 6
 have g7:=(RB2).free 7
 go_wp2_with fail
 exact bodyPost_ret (turn_results2 2 3 rfl _ _ _ trnNone (.int .i64 2) rfl rfl (turn_set RB2 rfl trnNone)) rfl (hK _ _ ⟨rfl,fin_step hL (Nat.le_refl _) hL2 (HU2.mono (by simp)) (fun g hg=>.inl hg) (.inl ⟨rfl,rfl⟩) _ _ _ _ _ _ _ _⟩)
set_option maxHeartbeats 1000000 in
theorem step_3 (hL:Live w X sh acc st a s F rv wv mv) (hp:Hid (s.phase=3)) (hlen:s.reads.length<1024):Calls Tryz.prog 75 #[.pointer (some ⟨a,0,none⟩)] w (CallOk w X acc st a F (lookS s sh).1 0 ((lookS s sh).2) (sh)):=by
 have la:=hL.lt
 have no:=hL.out
 simp only [SX.foot,List.mem_cons,List.not_mem_nil,or_false,not_or] at no
 have lx:=hL.sh.lt
 have l1:=lx X.ra (by simp [SX.foot])
 have l2:=lx X.rb (by simp [SX.foot])
 have l3:=lx X.ca (by simp [SX.foot])
 have l4:=lx X.cr (by simp [SX.foot])
 have l5:=lx X.cb (by simp [SX.foot])
 have hp10:s.phase≠10:=by have:=hp.out; omega
 generalize hTT:(lookS s sh).1=T
 generalize hSS:(lookS s sh).2=s1
 generalize hHH:sh=sh1
 have HT:=Lib.hid hTT
 have HS:=Lib.hid hSS
 have HH:=Lib.hid hHH
 clear hTT hSS hHH
 have hq1:=eql_nil
 have hq2:=eql_fn
 refine calls_all fun K hK=>?_
 go_enter Tryz.func75,Tryz.ntmps75
 go_wp2_with fail
 obtain ⟨W,hW⟩:∃ W,W=w.alloc (.cells turn0.toArray 140):=⟨_,rfl⟩
 have RB:Blk W w.heap.size turn0 140:=by rw [hW]; exact Blk.new w _ _
 have HU:Upd [] w W:=by rw [hW]; exact (Upd.refl _ _).alloc _
 have hWs:W.heap.size=w.heap.size+1:=by rw [hW]; exact World.size_alloc _ _
 simp only [turn0,trnNone,evNone,Trn.cells] at hW
 rw [← hW]
 clear hW
 refine (there_code (hL.upd0 HU)).mono ?_
 rintro e w' ⟨rfl,rfl⟩
 have a5:W.cell? ⟨a,5,none⟩=some (.int .i64 3):=by rw [← hp.out]; exact (hL.upd0 HU).att.head.cell 5 rfl
 have ap:=(hL.upd0 HU).att.head.cell 15 rfl
 go_wp2_with fail
 refine wp_region_eff (fun w'=>w'.cell? ⟨a,5,none⟩=some (.int .i64 3)∧w'.cell? ⟨a,15,none⟩=some (.func (.func 96) #[.pointer (some ⟨a,0,none⟩)] #[])) 11 (by kernel_rfl) (by kernel_rfl) ⟨a5,ap⟩ ?_
 repeat
  refine wpE_take (v:=?_) (by decide) rfl (by rfl) ?_ ?_
  rotate_left 1
  ·((intro w hSw; (try dsimp only at hSw); go_simp); try with_reducible rfl)
  try simp only [Act.put,List.setIfInBounds_toArray,List.set_cons_zero,List.set_cons_succ]
 refine wpE_end (NoPanic.normal ?_)
 clear a5 ap
 have HU2:=HU.drew
 have RB2:=RB.drew
 clear HU RB
 generalize W.drew=W2 at HU2 RB2 ⊢
 have hL2:=hL.upd0 HU2
 have a5:W2.cell? ⟨a,5,none⟩=some (.int .i64 3):=by rw [← hp.out]; exact hL2.att.head.cell 5 rfl
 go_wp2_with fail
 refine wp_region_eff (fun w'=>w'.cell? ⟨a,5,none⟩=some (.int .i64 3)) 20 (by kernel_rfl) (by kernel_rfl) a5 ?_
 repeat
  first
   | (refine wpE_skip (by decide) (by rfl) ?_)
   | ((refine wpE_take (v:=?_) (by decide) rfl (by rfl) ?_ ?_); rotate_left 1; (· ((intro w hSw; (try dsimp only at hSw); go_simp); try with_reducible rfl)))
  try simp only [Act.put,List.setIfInBounds_toArray,List.set_cons_zero,List.set_cons_succ]
 refine wpE_end (NoPanic.normal ?_)
 clear a5
 have HU:=HU2.drew
 have RB:=RB2.drew
 clear HU2 RB2 hL2
 generalize W2.drew=W at HU RB ⊢
 have hL1:=hL.upd0 HU
 go_wp2_with fail
 have hcall:=look_code hL1 hp10 hlen
 rw [HT.out,HS.out,HH.out] at hcall
 refine hcall.mono ?_
 rintro e w3 ⟨rfl,F',acc',st',rv',wv',mv',HL3,U3,hF3,ho3⟩
 clear hcall hL1 hp10
 have hnr:w.heap.size ∉ a :: (F ++ X.foot):=by
  simp only [List.mem_cons,List.mem_append,not_or]
  exact ⟨by omega,fun h=>Nat.lt_irrefl _ (hL.sep _ h).1,fun h=>Nat.lt_irrefl _ (lx _ h)⟩
 have RB3:=RB.upd U3 hnr
 have hsw:w.heap.size<W.heap.size:=RB.lt
 have U4:Upd (a :: (F ++ X.foot)) w w3:=(HU.mono (by simp)).trans U3
 clear RB U3
 obtain ⟨to,tw,⟨tk,ta,tv,tb⟩⟩:=T
 simp only [Trn.val]
 have q0:=(RB3).cell 0 rfl
 have q1:=(RB3).cell 1 rfl
 have q2:=(RB3).cell 2 rfl
 have q3:=(RB3).cell 3 rfl
 have q4:=(RB3).cell 4 rfl
 have q5:=(RB3).cell 5 rfl
 have q6:=(RB3).cell 6 rfl
 have q7:=(RB3).cell 7 rfl
 have g0:=(RB3).free 0
 have g1:=(RB3).free 1
 have g2:=(RB3).free 2
 have g3:=(RB3).free 3
 have g4:=(RB3).free 4
 have g5:=(RB3).free 5
 have g6:=(RB3).free 6
 have g7:=(RB3).free 7
 go_wp2_with fail
 exact bodyPost_ret (turn_results2 2 3 rfl _ _ _ (⟨to,tw,⟨tk,ta,tv,tb⟩⟩:Trn) (.int .i64 0) rfl rfl (turn_set RB3 rfl (⟨to,tw,⟨tk,ta,tv,tb⟩⟩:Trn))) rfl (hK _ _ ⟨rfl,fin_step hL (Nat.le_refl _) HL3 U4 (fun g hg=>(hF3 g hg).imp id (fun h=>⟨by omega,by omega⟩)) ho3 _ _ _ _ _ _ _ _⟩)
set_option maxHeartbeats 1000000 in
theorem step_4 (hL:Live w X sh acc st a s F rv wv mv) (hp:Hid (s.phase=4))  : Calls Tryz.prog 75 #[.pointer (some ⟨a,0,none⟩)] w (CallOk w X acc st a F going 0 ((waitS s sh).2) (sh)):=by
 have la:=hL.lt
 have no:=hL.out
 simp only [SX.foot,List.mem_cons,List.not_mem_nil,or_false,not_or] at no
 have lx:=hL.sh.lt
 have l1:=lx X.ra (by simp [SX.foot])
 have l2:=lx X.rb (by simp [SX.foot])
 have l3:=lx X.ca (by simp [SX.foot])
 have l4:=lx X.cr (by simp [SX.foot])
 have l5:=lx X.cb (by simp [SX.foot])
 have hp10:s.phase≠10:=by have:=hp.out; omega
 generalize hTT:going=T
 generalize hSS:(waitS s sh).2=s1
 generalize hHH:sh=sh1
 have HT:=Lib.hid hTT
 have HS:=Lib.hid hSS
 have HH:=Lib.hid hHH
 clear hTT hSS hHH
 have hq1:=eql_nil
 have hq2:=eql_fn
 refine calls_all fun K hK=>?_
 go_enter Tryz.func75,Tryz.ntmps75
 go_wp2_with fail
 obtain ⟨W,hW⟩:∃ W,W=w.alloc (.cells turn0.toArray 140):=⟨_,rfl⟩
 have RB:Blk W w.heap.size turn0 140:=by rw [hW]; exact Blk.new w _ _
 have HU:Upd [] w W:=by rw [hW]; exact (Upd.refl _ _).alloc _
 have hWs:W.heap.size=w.heap.size+1:=by rw [hW]; exact World.size_alloc _ _
 simp only [turn0,trnNone,evNone,Trn.cells] at hW
 rw [← hW]
 clear hW
 refine (there_code (hL.upd0 HU)).mono ?_
 rintro e w' ⟨rfl,rfl⟩
 have a5:W.cell? ⟨a,5,none⟩=some (.int .i64 4):=by rw [← hp.out]; exact (hL.upd0 HU).att.head.cell 5 rfl
 have ap:=(hL.upd0 HU).att.head.cell 16 rfl
 go_wp2_with fail
 refine wp_region_eff (fun w'=>w'.cell? ⟨a,5,none⟩=some (.int .i64 4)∧w'.cell? ⟨a,16,none⟩=some (.func (.func 97) #[.pointer (some ⟨a,0,none⟩)] #[])) 11 (by kernel_rfl) (by kernel_rfl) ⟨a5,ap⟩ ?_
 repeat
  refine wpE_take (v:=?_) (by decide) rfl (by rfl) ?_ ?_
  rotate_left 1
  ·((intro w hSw; (try dsimp only at hSw); go_simp); try with_reducible rfl)
  try simp only [Act.put,List.setIfInBounds_toArray,List.set_cons_zero,List.set_cons_succ]
 refine wpE_end (NoPanic.normal ?_)
 clear a5 ap
 have HU2:=HU.drew
 have RB2:=RB.drew
 clear HU RB
 generalize W.drew=W2 at HU2 RB2 ⊢
 have hL2:=hL.upd0 HU2
 have a5:W2.cell? ⟨a,5,none⟩=some (.int .i64 4):=by rw [← hp.out]; exact hL2.att.head.cell 5 rfl
 go_wp2_with fail
 refine wp_region_eff (fun w'=>w'.cell? ⟨a,5,none⟩=some (.int .i64 4)) 20 (by kernel_rfl) (by kernel_rfl) a5 ?_
 repeat
  first
   | (refine wpE_skip (by decide) (by rfl) ?_)
   | ((refine wpE_take (v:=?_) (by decide) rfl (by rfl) ?_ ?_); rotate_left 1; (· ((intro w hSw; (try dsimp only at hSw); go_simp); try with_reducible rfl)))
  try simp only [Act.put,List.setIfInBounds_toArray,List.set_cons_zero,List.set_cons_succ]
 refine wpE_end (NoPanic.normal ?_)
 clear a5
 have HU:=HU2.drew
 have RB:=RB2.drew
 clear HU2 RB2 hL2
 generalize W2.drew=W at HU RB ⊢
 have hL1:=hL.upd0 HU
 go_wp2_with fail
 have hcall:=wait_code hL1 hp10
 rw [HT.out,HS.out,HH.out] at hcall
 refine hcall.mono ?_
 rintro e w3 ⟨rfl,F',acc',st',rv',wv',mv',HL3,U3,hF3,ho3⟩
 clear hcall hL1 hp10
 have hnr:w.heap.size ∉ a :: (F ++ X.foot):=by
  simp only [List.mem_cons,List.mem_append,not_or]
  exact ⟨by omega,fun h=>Nat.lt_irrefl _ (hL.sep _ h).1,fun h=>Nat.lt_irrefl _ (lx _ h)⟩
 have RB3:=RB.upd U3 hnr
 have hsw:w.heap.size<W.heap.size:=RB.lt
 have U4:Upd (a :: (F ++ X.foot)) w w3:=(HU.mono (by simp)).trans U3
 clear RB U3
 obtain ⟨to,tw,⟨tk,ta,tv,tb⟩⟩:=T
 simp only [Trn.val]
 have q0:=(RB3).cell 0 rfl
 have q1:=(RB3).cell 1 rfl
 have q2:=(RB3).cell 2 rfl
 have q3:=(RB3).cell 3 rfl
 have q4:=(RB3).cell 4 rfl
 have q5:=(RB3).cell 5 rfl
 have q6:=(RB3).cell 6 rfl
 have q7:=(RB3).cell 7 rfl
 have g0:=(RB3).free 0
 have g1:=(RB3).free 1
 have g2:=(RB3).free 2
 have g3:=(RB3).free 3
 have g4:=(RB3).free 4
 have g5:=(RB3).free 5
 have g6:=(RB3).free 6
 have g7:=(RB3).free 7
 go_wp2_with fail
 exact bodyPost_ret (turn_results2 2 3 rfl _ _ _ (⟨to,tw,⟨tk,ta,tv,tb⟩⟩:Trn) (.int .i64 0) rfl rfl (turn_set RB3 rfl (⟨to,tw,⟨tk,ta,tv,tb⟩⟩:Trn))) rfl (hK _ _ ⟨rfl,fin_step hL (Nat.le_refl _) HL3 U4 (fun g hg=>(hF3 g hg).imp id (fun h=>⟨by omega,by omega⟩)) ho3 _ _ _ _ _ _ _ _⟩)
set_option maxHeartbeats 1000000 in
theorem step_5 (hL:Live w X sh acc st a s F rv wv mv) (hp:Hid (s.phase=5)) (j:Nat) (hj:Hid (s.at_=j)) (x v:Int) (hx:s.reads[j]? = some (x,v)) (hl:s.reads.length≤1024):Calls Tryz.prog 75 #[.pointer (some ⟨a,0,none⟩)] w (CallOk w X acc st a F (checkS s sh).1 0 ((checkS s sh).2) (sh)):=by
 have la:=hL.lt
 have no:=hL.out
 simp only [SX.foot,List.mem_cons,List.not_mem_nil,or_false,not_or] at no
 have lx:=hL.sh.lt
 have l1:=lx X.ra (by simp [SX.foot])
 have l2:=lx X.rb (by simp [SX.foot])
 have l3:=lx X.ca (by simp [SX.foot])
 have l4:=lx X.cr (by simp [SX.foot])
 have l5:=lx X.cb (by simp [SX.foot])
 have hp10:s.phase≠10:=by have:=hp.out; omega
 generalize hTT:(checkS s sh).1=T
 generalize hSS:(checkS s sh).2=s1
 generalize hHH:sh=sh1
 have HT:=Lib.hid hTT
 have HS:=Lib.hid hSS
 have HH:=Lib.hid hHH
 clear hTT hSS hHH
 have hq1:=eql_nil
 have hq2:=eql_fn
 refine calls_all fun K hK=>?_
 go_enter Tryz.func75,Tryz.ntmps75
 go_wp2_with fail
 obtain ⟨W,hW⟩:∃ W,W=w.alloc (.cells turn0.toArray 140):=⟨_,rfl⟩
 have RB:Blk W w.heap.size turn0 140:=by rw [hW]; exact Blk.new w _ _
 have HU:Upd [] w W:=by rw [hW]; exact (Upd.refl _ _).alloc _
 have hWs:W.heap.size=w.heap.size+1:=by rw [hW]; exact World.size_alloc _ _
 simp only [turn0,trnNone,evNone,Trn.cells] at hW
 rw [← hW]
 clear hW
 refine (there_code (hL.upd0 HU)).mono ?_
 rintro e w' ⟨rfl,rfl⟩
 have a5:W.cell? ⟨a,5,none⟩=some (.int .i64 5):=by rw [← hp.out]; exact (hL.upd0 HU).att.head.cell 5 rfl
 have ap:=(hL.upd0 HU).att.head.cell 17 rfl
 go_wp2_with fail
 refine wp_region_eff (fun w'=>w'.cell? ⟨a,5,none⟩=some (.int .i64 5)∧w'.cell? ⟨a,17,none⟩=some (.func (.func 98) #[.pointer (some ⟨a,0,none⟩)] #[])) 11 (by kernel_rfl) (by kernel_rfl) ⟨a5,ap⟩ ?_
 repeat
  refine wpE_take (v:=?_) (by decide) rfl (by rfl) ?_ ?_
  rotate_left 1
  ·((intro w hSw; (try dsimp only at hSw); go_simp); try with_reducible rfl)
  try simp only [Act.put,List.setIfInBounds_toArray,List.set_cons_zero,List.set_cons_succ]
 refine wpE_end (NoPanic.normal ?_)
 clear a5 ap
 have HU2:=HU.drew
 have RB2:=RB.drew
 clear HU RB
 generalize W.drew=W2 at HU2 RB2 ⊢
 have hL2:=hL.upd0 HU2
 have a5:W2.cell? ⟨a,5,none⟩=some (.int .i64 5):=by rw [← hp.out]; exact hL2.att.head.cell 5 rfl
 go_wp2_with fail
 refine wp_region_eff (fun w'=>w'.cell? ⟨a,5,none⟩=some (.int .i64 5)) 20 (by kernel_rfl) (by kernel_rfl) a5 ?_
 repeat
  first
   | (refine wpE_skip (by decide) (by rfl) ?_)
   | ((refine wpE_take (v:=?_) (by decide) rfl (by rfl) ?_ ?_); rotate_left 1; (· ((intro w hSw; (try dsimp only at hSw); go_simp); try with_reducible rfl)))
  try simp only [Act.put,List.setIfInBounds_toArray,List.set_cons_zero,List.set_cons_succ]
 refine wpE_end (NoPanic.normal ?_)
 clear a5
 have HU:=HU2.drew
 have RB:=RB2.drew
 clear HU2 RB2 hL2
 generalize W2.drew=W at HU RB ⊢
 have hL1:=hL.upd0 HU
 go_wp2_with fail
 have hcall:=check_code hL1 hp10 j hj x v hx hl
 rw [HT.out,HS.out,HH.out] at hcall
 refine hcall.mono ?_
 rintro e w3 ⟨rfl,F',acc',st',rv',wv',mv',HL3,U3,hF3,ho3⟩
 clear hcall hL1 hp10
 have hnr:w.heap.size ∉ a :: (F ++ X.foot):=by
  simp only [List.mem_cons,List.mem_append,not_or]
  exact ⟨by omega,fun h=>Nat.lt_irrefl _ (hL.sep _ h).1,fun h=>Nat.lt_irrefl _ (lx _ h)⟩
 have RB3:=RB.upd U3 hnr
 have hsw:w.heap.size<W.heap.size:=RB.lt
 have U4:Upd (a :: (F ++ X.foot)) w w3:=(HU.mono (by simp)).trans U3
 clear RB U3
 obtain ⟨to,tw,⟨tk,ta,tv,tb⟩⟩:=T
 simp only [Trn.val]
 have q0:=(RB3).cell 0 rfl
 have q1:=(RB3).cell 1 rfl
 have q2:=(RB3).cell 2 rfl
 have q3:=(RB3).cell 3 rfl
 have q4:=(RB3).cell 4 rfl
 have q5:=(RB3).cell 5 rfl
 have q6:=(RB3).cell 6 rfl
 have q7:=(RB3).cell 7 rfl
 have g0:=(RB3).free 0
 have g1:=(RB3).free 1
 have g2:=(RB3).free 2
 have g3:=(RB3).free 3
 have g4:=(RB3).free 4
 have g5:=(RB3).free 5
 have g6:=(RB3).free 6
 have g7:=(RB3).free 7
 go_wp2_with fail
 exact bodyPost_ret (turn_results2 2 3 rfl _ _ _ (⟨to,tw,⟨tk,ta,tv,tb⟩⟩:Trn) (.int .i64 0) rfl rfl (turn_set RB3 rfl (⟨to,tw,⟨tk,ta,tv,tb⟩⟩:Trn))) rfl (hK _ _ ⟨rfl,fin_step hL (Nat.le_refl _) HL3 U4 (fun g hg=>(hF3 g hg).imp id (fun h=>⟨by omega,by omega⟩)) ho3 _ _ _ _ _ _ _ _⟩)
set_option maxHeartbeats 1000000 in
theorem step_6 (hL:Live w X sh acc st a s F rv wv mv) (hp:Hid (s.phase=6))  : Calls Tryz.prog 75 #[.pointer (some ⟨a,0,none⟩)] w (CallOk w X acc st a F (closeS s sh).1 0 ((closeS s sh).2) (sh)):=by
 have la:=hL.lt
 have no:=hL.out
 simp only [SX.foot,List.mem_cons,List.not_mem_nil,or_false,not_or] at no
 have lx:=hL.sh.lt
 have l1:=lx X.ra (by simp [SX.foot])
 have l2:=lx X.rb (by simp [SX.foot])
 have l3:=lx X.ca (by simp [SX.foot])
 have l4:=lx X.cr (by simp [SX.foot])
 have l5:=lx X.cb (by simp [SX.foot])
 have hp10:s.phase≠10:=by have:=hp.out; omega
 generalize hTT:(closeS s sh).1=T
 generalize hSS:(closeS s sh).2=s1
 generalize hHH:sh=sh1
 have HT:=Lib.hid hTT
 have HS:=Lib.hid hSS
 have HH:=Lib.hid hHH
 clear hTT hSS hHH
 have hq1:=eql_nil
 have hq2:=eql_fn
 refine calls_all fun K hK=>?_
 go_enter Tryz.func75,Tryz.ntmps75
 go_wp2_with fail
 obtain ⟨W,hW⟩:∃ W,W=w.alloc (.cells turn0.toArray 140):=⟨_,rfl⟩
 have RB:Blk W w.heap.size turn0 140:=by rw [hW]; exact Blk.new w _ _
 have HU:Upd [] w W:=by rw [hW]; exact (Upd.refl _ _).alloc _
 have hWs:W.heap.size=w.heap.size+1:=by rw [hW]; exact World.size_alloc _ _
 simp only [turn0,trnNone,evNone,Trn.cells] at hW
 rw [← hW]
 clear hW
 refine (there_code (hL.upd0 HU)).mono ?_
 rintro e w' ⟨rfl,rfl⟩
 have a5:W.cell? ⟨a,5,none⟩=some (.int .i64 6):=by rw [← hp.out]; exact (hL.upd0 HU).att.head.cell 5 rfl
 have ap:=(hL.upd0 HU).att.head.cell 18 rfl
 go_wp2_with fail
 refine wp_region_eff (fun w'=>w'.cell? ⟨a,5,none⟩=some (.int .i64 6)∧w'.cell? ⟨a,18,none⟩=some (.func (.func 99) #[.pointer (some ⟨a,0,none⟩)] #[])) 11 (by kernel_rfl) (by kernel_rfl) ⟨a5,ap⟩ ?_
 repeat
  refine wpE_take (v:=?_) (by decide) rfl (by rfl) ?_ ?_
  rotate_left 1
  ·((intro w hSw; (try dsimp only at hSw); go_simp); try with_reducible rfl)
  try simp only [Act.put,List.setIfInBounds_toArray,List.set_cons_zero,List.set_cons_succ]
 refine wpE_end (NoPanic.normal ?_)
 clear a5 ap
 have HU2:=HU.drew
 have RB2:=RB.drew
 clear HU RB
 generalize W.drew=W2 at HU2 RB2 ⊢
 have hL2:=hL.upd0 HU2
 have a5:W2.cell? ⟨a,5,none⟩=some (.int .i64 6):=by rw [← hp.out]; exact hL2.att.head.cell 5 rfl
 go_wp2_with fail
 refine wp_region_eff (fun w'=>w'.cell? ⟨a,5,none⟩=some (.int .i64 6)) 20 (by kernel_rfl) (by kernel_rfl) a5 ?_
 repeat
  first
   | (refine wpE_skip (by decide) (by rfl) ?_)
   | ((refine wpE_take (v:=?_) (by decide) rfl (by rfl) ?_ ?_); rotate_left 1; (· ((intro w hSw; (try dsimp only at hSw); go_simp); try with_reducible rfl)))
  try simp only [Act.put,List.setIfInBounds_toArray,List.set_cons_zero,List.set_cons_succ]
 refine wpE_end (NoPanic.normal ?_)
 clear a5
 have HU:=HU2.drew
 have RB:=RB2.drew
 clear HU2 RB2 hL2
 generalize W2.drew=W at HU RB ⊢
 have hL1:=hL.upd0 HU
 go_wp2_with fail
 have hcall:=close_code hL1 hp10
 rw [HT.out,HS.out,HH.out] at hcall
 refine hcall.mono ?_
 rintro e w3 ⟨rfl,F',acc',st',rv',wv',mv',HL3,U3,hF3,ho3⟩
 clear hcall hL1 hp10
 have hnr:w.heap.size ∉ a :: (F ++ X.foot):=by
  simp only [List.mem_cons,List.mem_append,not_or]
  exact ⟨by omega,fun h=>Nat.lt_irrefl _ (hL.sep _ h).1,fun h=>Nat.lt_irrefl _ (lx _ h)⟩
 have RB3:=RB.upd U3 hnr
 have hsw:w.heap.size<W.heap.size:=RB.lt
 have U4:Upd (a :: (F ++ X.foot)) w w3:=(HU.mono (by simp)).trans U3
 clear RB U3
 obtain ⟨to,tw,⟨tk,ta,tv,tb⟩⟩:=T
 simp only [Trn.val]
 have q0:=(RB3).cell 0 rfl
 have q1:=(RB3).cell 1 rfl
 have q2:=(RB3).cell 2 rfl
 have q3:=(RB3).cell 3 rfl
 have q4:=(RB3).cell 4 rfl
 have q5:=(RB3).cell 5 rfl
 have q6:=(RB3).cell 6 rfl
 have q7:=(RB3).cell 7 rfl
 have g0:=(RB3).free 0
 have g1:=(RB3).free 1
 have g2:=(RB3).free 2
 have g3:=(RB3).free 3
 have g4:=(RB3).free 4
 have g5:=(RB3).free 5
 have g6:=(RB3).free 6
 have g7:=(RB3).free 7
 go_wp2_with fail
 exact bodyPost_ret (turn_results2 2 3 rfl _ _ _ (⟨to,tw,⟨tk,ta,tv,tb⟩⟩:Trn) (.int .i64 0) rfl rfl (turn_set RB3 rfl (⟨to,tw,⟨tk,ta,tv,tb⟩⟩:Trn))) rfl (hK _ _ ⟨rfl,fin_step hL (Nat.le_refl _) HL3 U4 (fun g hg=>(hF3 g hg).imp id (fun h=>⟨by omega,by omega⟩)) ho3 _ _ _ _ _ _ _ _⟩)
set_option maxHeartbeats 1000000 in
theorem step_7 (hL:Live w X sh acc st a s F rv wv mv) (hp:Hid (s.phase=7)) (hev:s.snap % 2=0):Calls Tryz.prog 75 #[.pointer (some ⟨a,0,none⟩)] w (CallOk w X acc st a F (lockS s sh).1 0 ((lockS s sh).2.1) ((lockS s sh).2.2)):=by
 have la:=hL.lt
 have no:=hL.out
 simp only [SX.foot,List.mem_cons,List.not_mem_nil,or_false,not_or] at no
 have lx:=hL.sh.lt
 have l1:=lx X.ra (by simp [SX.foot])
 have l2:=lx X.rb (by simp [SX.foot])
 have l3:=lx X.ca (by simp [SX.foot])
 have l4:=lx X.cr (by simp [SX.foot])
 have l5:=lx X.cb (by simp [SX.foot])
 have hp10:s.phase≠10:=by have:=hp.out; omega
 generalize hTT:(lockS s sh).1=T
 generalize hSS:(lockS s sh).2.1=s1
 generalize hHH:(lockS s sh).2.2=sh1
 have HT:=Lib.hid hTT
 have HS:=Lib.hid hSS
 have HH:=Lib.hid hHH
 clear hTT hSS hHH
 have hq1:=eql_nil
 have hq2:=eql_fn
 refine calls_all fun K hK=>?_
 go_enter Tryz.func75,Tryz.ntmps75
 go_wp2_with fail
 obtain ⟨W,hW⟩:∃ W,W=w.alloc (.cells turn0.toArray 140):=⟨_,rfl⟩
 have RB:Blk W w.heap.size turn0 140:=by rw [hW]; exact Blk.new w _ _
 have HU:Upd [] w W:=by rw [hW]; exact (Upd.refl _ _).alloc _
 have hWs:W.heap.size=w.heap.size+1:=by rw [hW]; exact World.size_alloc _ _
 simp only [turn0,trnNone,evNone,Trn.cells] at hW
 rw [← hW]
 clear hW
 refine (there_code (hL.upd0 HU)).mono ?_
 rintro e w' ⟨rfl,rfl⟩
 have a5:W.cell? ⟨a,5,none⟩=some (.int .i64 7):=by rw [← hp.out]; exact (hL.upd0 HU).att.head.cell 5 rfl
 have ap:=(hL.upd0 HU).att.head.cell 19 rfl
 go_wp2_with fail
 refine wp_region_eff (fun w'=>w'.cell? ⟨a,5,none⟩=some (.int .i64 7)∧w'.cell? ⟨a,19,none⟩=some (.func (.func 100) #[.pointer (some ⟨a,0,none⟩)] #[])) 11 (by kernel_rfl) (by kernel_rfl) ⟨a5,ap⟩ ?_
 repeat
  refine wpE_take (v:=?_) (by decide) rfl (by rfl) ?_ ?_
  rotate_left 1
  ·((intro w hSw; (try dsimp only at hSw); go_simp); try with_reducible rfl)
  try simp only [Act.put,List.setIfInBounds_toArray,List.set_cons_zero,List.set_cons_succ]
 refine wpE_end (NoPanic.normal ?_)
 clear a5 ap
 have HU2:=HU.drew
 have RB2:=RB.drew
 clear HU RB
 generalize W.drew=W2 at HU2 RB2 ⊢
 have hL2:=hL.upd0 HU2
 have a5:W2.cell? ⟨a,5,none⟩=some (.int .i64 7):=by rw [← hp.out]; exact hL2.att.head.cell 5 rfl
 go_wp2_with fail
 refine wp_region_eff (fun w'=>w'.cell? ⟨a,5,none⟩=some (.int .i64 7)) 20 (by kernel_rfl) (by kernel_rfl) a5 ?_
 repeat
  first
   | (refine wpE_skip (by decide) (by rfl) ?_)
   | ((refine wpE_take (v:=?_) (by decide) rfl (by rfl) ?_ ?_); rotate_left 1; (· ((intro w hSw; (try dsimp only at hSw); go_simp); try with_reducible rfl)))
  try simp only [Act.put,List.setIfInBounds_toArray,List.set_cons_zero,List.set_cons_succ]
 refine wpE_end (NoPanic.normal ?_)
 clear a5
 have HU:=HU2.drew
 have RB:=RB2.drew
 clear HU2 RB2 hL2
 generalize W2.drew=W at HU RB ⊢
 have hL1:=hL.upd0 HU
 go_wp2_with fail
 have hcall:=lock_code hL1 hp10 hev
 rw [HT.out,HS.out,HH.out] at hcall
 refine hcall.mono ?_
 rintro e w3 ⟨rfl,F',acc',st',rv',wv',mv',HL3,U3,hF3,ho3⟩
 clear hcall hL1 hp10
 have hnr:w.heap.size ∉ a :: (F ++ X.foot):=by
  simp only [List.mem_cons,List.mem_append,not_or]
  exact ⟨by omega,fun h=>Nat.lt_irrefl _ (hL.sep _ h).1,fun h=>Nat.lt_irrefl _ (lx _ h)⟩
 have RB3:=RB.upd U3 hnr
 have hsw:w.heap.size<W.heap.size:=RB.lt
 have U4:Upd (a :: (F ++ X.foot)) w w3:=(HU.mono (by simp)).trans U3
 clear RB U3
 obtain ⟨to,tw,⟨tk,ta,tv,tb⟩⟩:=T
 simp only [Trn.val]
 have q0:=(RB3).cell 0 rfl
 have q1:=(RB3).cell 1 rfl
 have q2:=(RB3).cell 2 rfl
 have q3:=(RB3).cell 3 rfl
 have q4:=(RB3).cell 4 rfl
 have q5:=(RB3).cell 5 rfl
 have q6:=(RB3).cell 6 rfl
 have q7:=(RB3).cell 7 rfl
 have g0:=(RB3).free 0
 have g1:=(RB3).free 1
 have g2:=(RB3).free 2
 have g3:=(RB3).free 3
 have g4:=(RB3).free 4
 have g5:=(RB3).free 5
 have g6:=(RB3).free 6
 have g7:=(RB3).free 7
 go_wp2_with fail
 exact bodyPost_ret (turn_results2 2 3 rfl _ _ _ (⟨to,tw,⟨tk,ta,tv,tb⟩⟩:Trn) (.int .i64 0) rfl rfl (turn_set RB3 rfl (⟨to,tw,⟨tk,ta,tv,tb⟩⟩:Trn))) rfl (hK _ _ ⟨rfl,fin_step hL (Nat.le_refl _) HL3 U4 (fun g hg=>(hF3 g hg).imp id (fun h=>⟨by omega,by omega⟩)) ho3 _ _ _ _ _ _ _ _⟩)
set_option maxHeartbeats 1000000 in
theorem step_8 (hL:Live w X sh acc st a s F rv wv mv) (hp:Hid (s.phase=8)) (j:Nat) (hj:Hid (s.at_=j)) (x v:Int) (hx:s.writes[j]? = some (x,v)) (hl:s.writes.length≤1024):Calls Tryz.prog 75 #[.pointer (some ⟨a,0,none⟩)] w (CallOk w X acc st a F (storeS s sh).1 0 ((storeS s sh).2.1) ((storeS s sh).2.2)):=by
 have la:=hL.lt
 have no:=hL.out
 simp only [SX.foot,List.mem_cons,List.not_mem_nil,or_false,not_or] at no
 have lx:=hL.sh.lt
 have l1:=lx X.ra (by simp [SX.foot])
 have l2:=lx X.rb (by simp [SX.foot])
 have l3:=lx X.ca (by simp [SX.foot])
 have l4:=lx X.cr (by simp [SX.foot])
 have l5:=lx X.cb (by simp [SX.foot])
 have hp10:s.phase≠10:=by have:=hp.out; omega
 generalize hTT:(storeS s sh).1=T
 generalize hSS:(storeS s sh).2.1=s1
 generalize hHH:(storeS s sh).2.2=sh1
 have HT:=Lib.hid hTT
 have HS:=Lib.hid hSS
 have HH:=Lib.hid hHH
 clear hTT hSS hHH
 have hq1:=eql_nil
 have hq2:=eql_fn
 refine calls_all fun K hK=>?_
 go_enter Tryz.func75,Tryz.ntmps75
 go_wp2_with fail
 obtain ⟨W,hW⟩:∃ W,W=w.alloc (.cells turn0.toArray 140):=⟨_,rfl⟩
 have RB:Blk W w.heap.size turn0 140:=by rw [hW]; exact Blk.new w _ _
 have HU:Upd [] w W:=by rw [hW]; exact (Upd.refl _ _).alloc _
 have hWs:W.heap.size=w.heap.size+1:=by rw [hW]; exact World.size_alloc _ _
 simp only [turn0,trnNone,evNone,Trn.cells] at hW
 rw [← hW]
 clear hW
 refine (there_code (hL.upd0 HU)).mono ?_
 rintro e w' ⟨rfl,rfl⟩
 have a5:W.cell? ⟨a,5,none⟩=some (.int .i64 8):=by rw [← hp.out]; exact (hL.upd0 HU).att.head.cell 5 rfl
 have ap:=(hL.upd0 HU).att.head.cell 20 rfl
 go_wp2_with fail
 refine wp_region_eff (fun w'=>w'.cell? ⟨a,5,none⟩=some (.int .i64 8)∧w'.cell? ⟨a,20,none⟩=some (.func (.func 101) #[.pointer (some ⟨a,0,none⟩)] #[])) 11 (by kernel_rfl) (by kernel_rfl) ⟨a5,ap⟩ ?_
 repeat
  refine wpE_take (v:=?_) (by decide) rfl (by rfl) ?_ ?_
  rotate_left 1
  ·((intro w hSw; (try dsimp only at hSw); go_simp); try with_reducible rfl)
  try simp only [Act.put,List.setIfInBounds_toArray,List.set_cons_zero,List.set_cons_succ]
 refine wpE_end (NoPanic.normal ?_)
 clear a5 ap
 have HU2:=HU.drew
 have RB2:=RB.drew
 clear HU RB
 generalize W.drew=W2 at HU2 RB2 ⊢
 have hL2:=hL.upd0 HU2
 have a5:W2.cell? ⟨a,5,none⟩=some (.int .i64 8):=by rw [← hp.out]; exact hL2.att.head.cell 5 rfl
 go_wp2_with fail
 refine wp_region_eff (fun w'=>w'.cell? ⟨a,5,none⟩=some (.int .i64 8)) 20 (by kernel_rfl) (by kernel_rfl) a5 ?_
 repeat
  first
   | (refine wpE_skip (by decide) (by rfl) ?_)
   | ((refine wpE_take (v:=?_) (by decide) rfl (by rfl) ?_ ?_); rotate_left 1; (· ((intro w hSw; (try dsimp only at hSw); go_simp); try with_reducible rfl)))
  try simp only [Act.put,List.setIfInBounds_toArray,List.set_cons_zero,List.set_cons_succ]
 refine wpE_end (NoPanic.normal ?_)
 clear a5
 have HU:=HU2.drew
 have RB:=RB2.drew
 clear HU2 RB2 hL2
 generalize W2.drew=W at HU RB ⊢
 have hL1:=hL.upd0 HU
 go_wp2_with fail
 have hcall:=store_code hL1 hp10 j hj x v hx hl
 rw [HT.out,HS.out,HH.out] at hcall
 refine hcall.mono ?_
 rintro e w3 ⟨rfl,F',acc',st',rv',wv',mv',HL3,U3,hF3,ho3⟩
 clear hcall hL1 hp10
 have hnr:w.heap.size ∉ a :: (F ++ X.foot):=by
  simp only [List.mem_cons,List.mem_append,not_or]
  exact ⟨by omega,fun h=>Nat.lt_irrefl _ (hL.sep _ h).1,fun h=>Nat.lt_irrefl _ (lx _ h)⟩
 have RB3:=RB.upd U3 hnr
 have hsw:w.heap.size<W.heap.size:=RB.lt
 have U4:Upd (a :: (F ++ X.foot)) w w3:=(HU.mono (by simp)).trans U3
 clear RB U3
 obtain ⟨to,tw,⟨tk,ta,tv,tb⟩⟩:=T
 simp only [Trn.val]
 have q0:=(RB3).cell 0 rfl
 have q1:=(RB3).cell 1 rfl
 have q2:=(RB3).cell 2 rfl
 have q3:=(RB3).cell 3 rfl
 have q4:=(RB3).cell 4 rfl
 have q5:=(RB3).cell 5 rfl
 have q6:=(RB3).cell 6 rfl
 have q7:=(RB3).cell 7 rfl
 have g0:=(RB3).free 0
 have g1:=(RB3).free 1
 have g2:=(RB3).free 2
 have g3:=(RB3).free 3
 have g4:=(RB3).free 4
 have g5:=(RB3).free 5
 have g6:=(RB3).free 6
 have g7:=(RB3).free 7
 go_wp2_with fail
 exact bodyPost_ret (turn_results2 2 3 rfl _ _ _ (⟨to,tw,⟨tk,ta,tv,tb⟩⟩:Trn) (.int .i64 0) rfl rfl (turn_set RB3 rfl (⟨to,tw,⟨tk,ta,tv,tb⟩⟩:Trn))) rfl (hK _ _ ⟨rfl,fin_step hL (Nat.le_refl _) HL3 U4 (fun g hg=>(hF3 g hg).imp id (fun h=>⟨by omega,by omega⟩)) ho3 _ _ _ _ _ _ _ _⟩)
set_option maxHeartbeats 1000000 in
theorem step_9 (hL:Live w X sh acc st a s F rv wv mv) (hp:Hid (s.phase=9)) (hev:s.snap % 2=0):Calls Tryz.prog 75 #[.pointer (some ⟨a,0,none⟩)] w (CallOk w X acc st a F (freeS s sh).1 0 ((freeS s sh).2.1) ((freeS s sh).2.2)):=by
 have la:=hL.lt
 have no:=hL.out
 simp only [SX.foot,List.mem_cons,List.not_mem_nil,or_false,not_or] at no
 have lx:=hL.sh.lt
 have l1:=lx X.ra (by simp [SX.foot])
 have l2:=lx X.rb (by simp [SX.foot])
 have l3:=lx X.ca (by simp [SX.foot])
 have l4:=lx X.cr (by simp [SX.foot])
 have l5:=lx X.cb (by simp [SX.foot])
 have hp10:s.phase≠10:=by have:=hp.out; omega
 generalize hTT:(freeS s sh).1=T
 generalize hSS:(freeS s sh).2.1=s1
 generalize hHH:(freeS s sh).2.2=sh1
 have HT:=Lib.hid hTT
 have HS:=Lib.hid hSS
 have HH:=Lib.hid hHH
 clear hTT hSS hHH
 have hq1:=eql_nil
 have hq2:=eql_fn
 refine calls_all fun K hK=>?_
 go_enter Tryz.func75,Tryz.ntmps75
 go_wp2_with fail
 obtain ⟨W,hW⟩:∃ W,W=w.alloc (.cells turn0.toArray 140):=⟨_,rfl⟩
 have RB:Blk W w.heap.size turn0 140:=by rw [hW]; exact Blk.new w _ _
 have HU:Upd [] w W:=by rw [hW]; exact (Upd.refl _ _).alloc _
 have hWs:W.heap.size=w.heap.size+1:=by rw [hW]; exact World.size_alloc _ _
 simp only [turn0,trnNone,evNone,Trn.cells] at hW
 rw [← hW]
 clear hW
 refine (there_code (hL.upd0 HU)).mono ?_
 rintro e w' ⟨rfl,rfl⟩
 have a5:W.cell? ⟨a,5,none⟩=some (.int .i64 9):=by rw [← hp.out]; exact (hL.upd0 HU).att.head.cell 5 rfl
 have ap:=(hL.upd0 HU).att.head.cell 21 rfl
 go_wp2_with fail
 refine wp_region_eff (fun w'=>w'.cell? ⟨a,5,none⟩=some (.int .i64 9)∧w'.cell? ⟨a,21,none⟩=some (.func (.func 102) #[.pointer (some ⟨a,0,none⟩)] #[])) 11 (by kernel_rfl) (by kernel_rfl) ⟨a5,ap⟩ ?_
 repeat
  refine wpE_take (v:=?_) (by decide) rfl (by rfl) ?_ ?_
  rotate_left 1
  ·((intro w hSw; (try dsimp only at hSw); go_simp); try with_reducible rfl)
  try simp only [Act.put,List.setIfInBounds_toArray,List.set_cons_zero,List.set_cons_succ]
 refine wpE_end (NoPanic.normal ?_)
 clear a5 ap
 have HU2:=HU.drew
 have RB2:=RB.drew
 clear HU RB
 generalize W.drew=W2 at HU2 RB2 ⊢
 have hL2:=hL.upd0 HU2
 have a5:W2.cell? ⟨a,5,none⟩=some (.int .i64 9):=by rw [← hp.out]; exact hL2.att.head.cell 5 rfl
 go_wp2_with fail
 refine wp_region_eff (fun w'=>w'.cell? ⟨a,5,none⟩=some (.int .i64 9)) 20 (by kernel_rfl) (by kernel_rfl) a5 ?_
 repeat
  first
   | (refine wpE_skip (by decide) (by rfl) ?_)
   | ((refine wpE_take (v:=?_) (by decide) rfl (by rfl) ?_ ?_); rotate_left 1; (· ((intro w hSw; (try dsimp only at hSw); go_simp); try with_reducible rfl)))
  try simp only [Act.put,List.setIfInBounds_toArray,List.set_cons_zero,List.set_cons_succ]
 refine wpE_end (NoPanic.normal ?_)
 clear a5
 have HU:=HU2.drew
 have RB:=RB2.drew
 clear HU2 RB2 hL2
 generalize W2.drew=W at HU RB ⊢
 have hL1:=hL.upd0 HU
 go_wp2_with fail
 have hcall:=free_code hL1 hev
 rw [HT.out,HS.out,HH.out] at hcall
 refine hcall.mono ?_
 rintro e w3 ⟨rfl,F',acc',st',rv',wv',mv',HL3,U3,hF3,ho3⟩
 clear hcall hL1 hp10
 have hnr:w.heap.size ∉ a :: (F ++ X.foot):=by
  simp only [List.mem_cons,List.mem_append,not_or]
  exact ⟨by omega,fun h=>Nat.lt_irrefl _ (hL.sep _ h).1,fun h=>Nat.lt_irrefl _ (lx _ h)⟩
 have RB3:=RB.upd U3 hnr
 have hsw:w.heap.size<W.heap.size:=RB.lt
 have U4:Upd (a :: (F ++ X.foot)) w w3:=(HU.mono (by simp)).trans U3
 clear RB U3
 obtain ⟨to,tw,⟨tk,ta,tv,tb⟩⟩:=T
 simp only [Trn.val]
 have q0:=(RB3).cell 0 rfl
 have q1:=(RB3).cell 1 rfl
 have q2:=(RB3).cell 2 rfl
 have q3:=(RB3).cell 3 rfl
 have q4:=(RB3).cell 4 rfl
 have q5:=(RB3).cell 5 rfl
 have q6:=(RB3).cell 6 rfl
 have q7:=(RB3).cell 7 rfl
 have g0:=(RB3).free 0
 have g1:=(RB3).free 1
 have g2:=(RB3).free 2
 have g3:=(RB3).free 3
 have g4:=(RB3).free 4
 have g5:=(RB3).free 5
 have g6:=(RB3).free 6
 have g7:=(RB3).free 7
 go_wp2_with fail
 exact bodyPost_ret (turn_results2 2 3 rfl _ _ _ (⟨to,tw,⟨tk,ta,tv,tb⟩⟩:Trn) (.int .i64 0) rfl rfl (turn_set RB3 rfl (⟨to,tw,⟨tk,ta,tv,tb⟩⟩:Trn))) rfl (hK _ _ ⟨rfl,fin_step hL (Nat.le_refl _) HL3 U4 (fun g hg=>(hF3 g hg).imp id (fun h=>⟨by omega,by omega⟩)) ho3 _ _ _ _ _ _ _ _⟩)
set_option maxHeartbeats 1000000 in
theorem step_2no (hL:Live w X sh acc st a s F rv wv mv) (hp:Hid (s.phase=2)) (hin:¬ s.addr<sh.row.length):Calls Tryz.prog 75 #[.pointer (some ⟨a,0,none⟩)] w (CallOk w X acc st a F trnNone 4 s sh):=by
 have la:=hL.lt
 have no:=hL.out
 simp only [SX.foot,List.mem_cons,List.not_mem_nil,or_false,not_or] at no
 have lx:=hL.sh.lt
 have l1:=lx X.ra (by simp [SX.foot])
 have l2:=lx X.rb (by simp [SX.foot])
 have l3:=lx X.ca (by simp [SX.foot])
 have l4:=lx X.cr (by simp [SX.foot])
 have l5:=lx X.cb (by simp [SX.foot])
 have hhas:=fun W (h:Upd [] w W)=>has_live (hL.upd0 h) s.addr
 rw [decide_eq_false hin] at hhas
 have HAS:=Lib.hid hhas
 clear hhas hin
 have hq1:=eql_nil
 have hq2:=eql_fn
 refine calls_all fun K hK=>?_
 go_enter Tryz.func75,Tryz.ntmps75
 go_wp2_with fail
 obtain ⟨W,hW⟩:∃ W,W=w.alloc (.cells turn0.toArray 140):=⟨_,rfl⟩
 have RB:Blk W w.heap.size turn0 140:=by rw [hW]; exact Blk.new w _ _
 have HU:Upd [] w W:=by rw [hW]; exact (Upd.refl _ _).alloc _
 have hWs:W.heap.size=w.heap.size+1:=by rw [hW]; exact World.size_alloc _ _
 simp only [turn0,trnNone,evNone,Trn.cells] at hW
 rw [← hW]
 clear hW
 refine (there_code (hL.upd0 HU)).mono ?_
 rintro e w' ⟨rfl,rfl⟩
 have a5:W.cell? ⟨a,5,none⟩=some (.int .i64 2):=by rw [← hp.out]; exact (hL.upd0 HU).att.head.cell 5 rfl
 have ap:=(hL.upd0 HU).att.head.cell 14 rfl
 go_wp2_with fail
 refine wp_region_eff (fun w'=>w'.cell? ⟨a,5,none⟩=some (.int .i64 2)∧w'.cell? ⟨a,14,none⟩=some (.func (.func 95) #[.pointer (some ⟨a,0,none⟩)] #[])) 11 (by kernel_rfl) (by kernel_rfl) ⟨a5,ap⟩ ?_
 repeat
  refine wpE_take (v:=?_) (by decide) rfl (by rfl) ?_ ?_
  rotate_left 1
  ·((intro w hSw; (try dsimp only at hSw); go_simp); try with_reducible rfl)
  try simp only [Act.put,List.setIfInBounds_toArray,List.set_cons_zero,List.set_cons_succ]
 refine wpE_end (NoPanic.normal ?_)
 clear a5 ap
 have HU2:=HU.drew
 have RB2:=RB.drew
 clear HU RB
 generalize W.drew=W2 at HU2 RB2 ⊢
 have hL2:=hL.upd0 HU2
 have a5:W2.cell? ⟨a,5,none⟩=some (.int .i64 2):=by rw [← hp.out]; exact hL2.att.head.cell 5 rfl
 go_wp2_with fail
 have a0:=hL2.att.head.cell 0 rfl
 have a7:=hL2.att.head.cell 7 rfl
 refine wp_region_eff (fun w'=>w'.cell? ⟨a,5,none⟩=some (.int .i64 2)∧w'.cell? ⟨a,0,none⟩=some (.pointer (some ⟨X.ra,0,none⟩))∧w'.cell? ⟨a,7,none⟩=some (.int .u64 s.addr)) 20 (by kernel_rfl) (by kernel_rfl) ⟨a5,a0,a7⟩ ?_
 repeat
  refine wpE_take (v:=?_) (by decide) rfl (by rfl) ?_ ?_
  rotate_left 1
  ·((intro w hSw; (try dsimp only at hSw); go_simp); try with_reducible rfl)
  try simp only [Act.put,List.setIfInBounds_toArray,List.set_cons_zero,List.set_cons_succ]
 refine wpE_eff (by decide) rfl (by kernel_rfl) (by rfl) (fun K2 hK2=>?_)
 go_simp
 refine (HAS.out _ HU2.drew).mono ?_
 rintro e w' ⟨rfl,rfl⟩
 refine hK2.out _ _ ⟨a5,a0,a7⟩ ?_
 clear hK2 K2
 repeat
  refine wpE_take (v:=?_) (by decide) rfl (by rfl) ?_ ?_
  rotate_left 1
  ·((intro w hSw; (try dsimp only at hSw); go_simp); try with_reducible rfl)
  try simp only [Act.put,List.setIfInBounds_toArray,List.set_cons_zero,List.set_cons_succ]
 refine wpE_end (NoPanic.normal ?_)
 clear a5 a0 a7
 have HU:=HU2.drew
 have RB:=RB2.drew
 clear HU2 RB2 hL2
 generalize W2.drew=W at HU RB ⊢
 have hL1:=hL.upd0 HU
 have q0:=(RB).cell 0 rfl
 have q1:=(RB).cell 1 rfl
 have q2:=(RB).cell 2 rfl
 have q3:=(RB).cell 3 rfl
 have q4:=(RB).cell 4 rfl
 have q5:=(RB).cell 5 rfl
 have q6:=(RB).cell 6 rfl
 have q7:=(RB).cell 7 rfl
 have g0:=(RB).free 0
 have g1:=(RB).free 1
 have g2:=(RB).free 2
 have g3:=(RB).free 3
 have g4:=(RB).free 4
 have g5:=(RB).free 5
 have g6:=(RB).free 6
 have g7:=(RB).free 7
 go_wp2_with fail
 exact bodyPost_ret (turn_results2 2 3 rfl _ _ _ trnNone (.int .i64 4) rfl rfl (turn_set RB rfl trnNone)) rfl (hK _ _ ⟨rfl,fin_step hL (Nat.le_refl _) hL1 (HU.mono (by simp)) (fun g hg=>.inl hg) (.inl ⟨rfl,rfl⟩) _ _ _ _ _ _ _ _⟩)
set_option maxHeartbeats 1000000 in
theorem step_2 (hL:Live w X sh acc st a s F rv wv mv) (hp:Hid (s.phase=2)) (hin:s.addr<sh.row.length):Calls Tryz.prog 75 #[.pointer (some ⟨a,0,none⟩)] w (CallOk w X acc st a F (loadS s sh).1 0 (loadS s sh).2 sh):=by
 have la:=hL.lt
 have no:=hL.out
 simp only [SX.foot,List.mem_cons,List.not_mem_nil,or_false,not_or] at no
 have lx:=hL.sh.lt
 have l1:=lx X.ra (by simp [SX.foot])
 have l2:=lx X.rb (by simp [SX.foot])
 have l3:=lx X.ca (by simp [SX.foot])
 have l4:=lx X.cr (by simp [SX.foot])
 have l5:=lx X.cb (by simp [SX.foot])
 have hp10:s.phase≠10:=by have:=hp.out; omega
 have hhas:=fun W (h:Upd [] w W)=>has_live (hL.upd0 h) s.addr
 rw [decide_eq_true hin] at hhas
 have HAS:=Lib.hid hhas
 clear hhas hin
 have hT:(loadS s sh).1=going:=rfl
 rw [hT]
 clear hT
 have hq1:=eql_nil
 have hq2:=eql_fn
 refine calls_all fun K hK=>?_
 go_enter Tryz.func75,Tryz.ntmps75
 go_wp2_with fail
 obtain ⟨W,hW⟩:∃ W,W=w.alloc (.cells turn0.toArray 140):=⟨_,rfl⟩
 have RB:Blk W w.heap.size turn0 140:=by rw [hW]; exact Blk.new w _ _
 have HU:Upd [] w W:=by rw [hW]; exact (Upd.refl _ _).alloc _
 have hWs:W.heap.size=w.heap.size+1:=by rw [hW]; exact World.size_alloc _ _
 simp only [turn0,trnNone,evNone,Trn.cells] at hW
 rw [← hW]
 clear hW
 refine (there_code (hL.upd0 HU)).mono ?_
 rintro e w' ⟨rfl,rfl⟩
 have a5:W.cell? ⟨a,5,none⟩=some (.int .i64 2):=by rw [← hp.out]; exact (hL.upd0 HU).att.head.cell 5 rfl
 have ap:=(hL.upd0 HU).att.head.cell 14 rfl
 go_wp2_with fail
 refine wp_region_eff (fun w'=>w'.cell? ⟨a,5,none⟩=some (.int .i64 2)∧w'.cell? ⟨a,14,none⟩=some (.func (.func 95) #[.pointer (some ⟨a,0,none⟩)] #[])) 11 (by kernel_rfl) (by kernel_rfl) ⟨a5,ap⟩ ?_
 repeat
  refine wpE_take (v:=?_) (by decide) rfl (by rfl) ?_ ?_
  rotate_left 1
  ·((intro w hSw; (try dsimp only at hSw); go_simp); try with_reducible rfl)
  try simp only [Act.put,List.setIfInBounds_toArray,List.set_cons_zero,List.set_cons_succ]
 refine wpE_end (NoPanic.normal ?_)
 clear a5 ap
 have HU2:=HU.drew
 have RB2:=RB.drew
 clear HU RB
 generalize W.drew=W2 at HU2 RB2 ⊢
 have hL2:=hL.upd0 HU2
 have a5:W2.cell? ⟨a,5,none⟩=some (.int .i64 2):=by rw [← hp.out]; exact hL2.att.head.cell 5 rfl
 go_wp2_with fail
 have a0:=hL2.att.head.cell 0 rfl
 have a7:=hL2.att.head.cell 7 rfl
 refine wp_region_eff (fun w'=>w'.cell? ⟨a,5,none⟩=some (.int .i64 2)∧w'.cell? ⟨a,0,none⟩=some (.pointer (some ⟨X.ra,0,none⟩))∧w'.cell? ⟨a,7,none⟩=some (.int .u64 s.addr)) 20 (by kernel_rfl) (by kernel_rfl) ⟨a5,a0,a7⟩ ?_
 repeat
  refine wpE_take (v:=?_) (by decide) rfl (by rfl) ?_ ?_
  rotate_left 1
  ·((intro w hSw; (try dsimp only at hSw); go_simp); try with_reducible rfl)
  try simp only [Act.put,List.setIfInBounds_toArray,List.set_cons_zero,List.set_cons_succ]
 refine wpE_eff (by decide) rfl (by kernel_rfl) (by rfl) (fun K2 hK2=>?_)
 go_simp
 refine (HAS.out _ HU2.drew).mono ?_
 rintro e w' ⟨rfl,rfl⟩
 refine hK2.out _ _ ⟨a5,a0,a7⟩ ?_
 clear hK2 K2
 repeat
  refine wpE_take (v:=?_) (by decide) rfl (by rfl) ?_ ?_
  rotate_left 1
  ·((intro w hSw; (try dsimp only at hSw); go_simp); try with_reducible rfl)
  try simp only [Act.put,List.setIfInBounds_toArray,List.set_cons_zero,List.set_cons_succ]
 refine wpE_end (NoPanic.normal ?_)
 clear a5 a0 a7
 have HU:=HU2.drew
 have RB:=RB2.drew
 clear HU2 RB2 hL2
 generalize W2.drew=W at HU RB ⊢
 have hL1:=hL.upd0 HU
 go_wp2_with fail
 refine (aload_code hL1 hp10).mono ?_
 rintro e w3 ⟨rfl,F',acc',st',rv',wv',mv',HL3,U3,hF3,ho3⟩
 generalize going=T at hK ⊢
 clear hL1 hp10
 have hnr:w.heap.size ∉ a :: (F ++ X.foot):=by
  simp only [List.mem_cons,List.mem_append,not_or]
  exact ⟨by omega,fun h=>Nat.lt_irrefl _ (hL.sep _ h).1,fun h=>Nat.lt_irrefl _ (lx _ h)⟩
 have RB3:=RB.upd U3 hnr
 have hsw:w.heap.size<W.heap.size:=RB.lt
 have U4:Upd (a :: (F ++ X.foot)) w w3:=(HU.mono (by simp)).trans U3
 clear RB U3
 obtain ⟨to,tw,⟨tk,ta,tv,tb⟩⟩:=T
 simp only [Trn.val]
 have q0:=(RB3).cell 0 rfl
 have q1:=(RB3).cell 1 rfl
 have q2:=(RB3).cell 2 rfl
 have q3:=(RB3).cell 3 rfl
 have q4:=(RB3).cell 4 rfl
 have q5:=(RB3).cell 5 rfl
 have q6:=(RB3).cell 6 rfl
 have q7:=(RB3).cell 7 rfl
 have g0:=(RB3).free 0
 have g1:=(RB3).free 1
 have g2:=(RB3).free 2
 have g3:=(RB3).free 3
 have g4:=(RB3).free 4
 have g5:=(RB3).free 5
 have g6:=(RB3).free 6
 have g7:=(RB3).free 7
 go_wp2_with fail
 exact bodyPost_ret (turn_results2 2 3 rfl _ _ _ (⟨to,tw,⟨tk,ta,tv,tb⟩⟩:Trn) (.int .i64 0) rfl rfl (turn_set RB3 rfl (⟨to,tw,⟨tk,ta,tv,tb⟩⟩:Trn))) rfl (hK _ _ ⟨rfl,fin_step hL (Nat.le_refl _) HL3 U4 (fun g hg=>(hF3 g hg).imp id (fun h=>⟨by omega,by omega⟩)) ho3 _ _ _ _ _ _ _ _⟩)
theorem step_code (hL:Live w X sh acc st a s F rv wv mv) (hM:May s) :
  Calls Tryz.prog 75 #[.pointer (some ⟨a,0,none⟩)] w (CallOk w X acc st a F (stepS s sh).1 (stepS s sh).2.1 (stepS s sh).2.2.1 (stepS s sh).2.2.2):=by
 have hph:=hM.ph
 have:s.phase=1∨s.phase=2∨s.phase=3∨s.phase=4∨s.phase=5∨s.phase=6∨s.phase=7∨s.phase=8∨s.phase=9∨s.phase=10:=by omega
 rcases this with h | h | h | h | h | h | h | h | h | h
 ·rw [show stepS s sh=(trnNone,2,s,sh) by unfold stepS; simp [h]]
  exact step_nil1 hL (Lib.hid h)
 ·by_cases hin:s.addr<sh.row.length
  ·rw [show stepS s sh=((loadS s sh).1,0,(loadS s sh).2,sh) by unfold stepS; rw [if_pos h,if_pos hin]]
   exact step_2 hL (Lib.hid h) hin
  ·rw [show stepS s sh=(trnNone,4,s,sh) by unfold stepS; rw [if_pos h,if_neg hin]]
   exact step_2no hL (Lib.hid h) hin
 ·rw [show stepS s sh=((lookS s sh).1,0,(lookS s sh).2,sh) by unfold stepS; simp [h]]
  exact step_3 hL (Lib.hid h) (hM.gets (by simp [getsB,h])).1
 ·rw [show stepS s sh=((waitS s sh).1,0,(waitS s sh).2,sh) by unfold stepS; simp [h]]
  rw [show (waitS s sh).1=going by unfold waitS; split <;> rfl]
  exact step_4 hL (Lib.hid h)
 ·rw [show stepS s sh=((checkS s sh).1,0,(checkS s sh).2,sh) by unfold stepS; simp [h]]
  have h5:=hM.at5 h
  obtain ⟨j,hj⟩:=Int.eq_ofNat_of_zero_le h5.1
  have hjl:j<s.reads.length:=by omega
  obtain ⟨c,hc⟩:∃ c,s.reads[j]? = some c:=⟨_,List.getElem?_eq_getElem hjl⟩
  exact step_5 hL (Lib.hid h) j (Lib.hid hj) c.1 c.2 hc hM.lenR
 ·rw [show stepS s sh=((closeS s sh).1,0,(closeS s sh).2,sh) by unfold stepS; simp [h]]
  exact step_6 hL (Lib.hid h)
 ·rw [show stepS s sh=((lockS s sh).1,0,(lockS s sh).2.1,(lockS s sh).2.2) by unfold stepS; simp [h]]
  exact step_7 hL (Lib.hid h) hM.even.1
 ·rw [show stepS s sh=((storeS s sh).1,0,(storeS s sh).2.1,(storeS s sh).2.2) by unfold stepS; simp [h]]
  have h8:=hM.at8 h
  obtain ⟨j,hj⟩:=Int.eq_ofNat_of_zero_le h8.1
  have hjl:j<s.writes.length:=by omega
  obtain ⟨c,hc⟩:∃ c,s.writes[j]? = some c:=⟨_,List.getElem?_eq_getElem hjl⟩
  exact step_8 hL (Lib.hid h) j (Lib.hid hj) c.1 c.2 hc hM.lenW
 ·rw [show stepS s sh=((freeS s sh).1,0,(freeS s sh).2.1,(freeS s sh).2.2) by unfold stepS; simp [h]]
  exact step_9 hL (Lib.hid h) hM.even.1
 ·rw [show stepS s sh=(trnNone,2,s,sh) by unfold stepS; simp [h]]
  exact step_nil10 hL (Lib.hid h)
end
end Go.Proofs.YtehopaabfoopeaaGreat
set_option linter.unusedSimpArgs false
set_option linter.unusedVariables false
set_option maxRecDepth 100000
namespace Go.Proofs.YtehopaabfoopeaaGreat
open Go.RowKit
open Go.Maps
theorem turn_results3 {fn:Func} (p k m:Nat) (hr:fn.results = #[.tmp p,.cell k 140,.tmp m]) (t:Array Value) (w:World) (rb:Nat) (T:Trn) (u v:Value) (h1:t.getD p undef=u) (h2:t.getD k undef=.pointer (some ⟨rb,0,none⟩)) (h3:t.getD m undef=v) (hb:Blk w rb T.cells 140) :
  (results fn t).run Tryz.prog w=.ok (.tuple #[u,T.val,v]) w:=by
 have c0:=hb.cell 0 rfl
 have c1:=hb.cell 1 rfl
 have c2:=hb.cell 2 rfl
 have c3:=hb.cell 3 rfl
 have c4:=hb.cell 4 rfl
 have c5:=hb.cell 5 rfl
 have c6:=hb.cell 6 rfl
 have c7:=hb.cell 7 rfl
 have h1':t[p]?.getD undef=u:=by simpa using h1
 have h2':t[k]?.getD undef=.pointer (some ⟨rb,0,none⟩):=by simpa using h2
 have h3':t[m]?.getD undef=v:=by simpa using h3
 simp [results,hr,h1',h2',h3',go_sem,c0,c1,c2,c3,c4,c5,c6,c7,Trn.val]
section
variable {w:World} {X:SX} {sh:Sh} {acc st:Int}
def Begun (w:World) (X:SX) (sh:Sh) (acc st:Int) (e:Ending) (w':World):Prop:=
 ∃ a F rv wv mv,e=.returned (.tuple #[.pointer (some ⟨a,0,none⟩),(⟨6,0,⟨1,0,sh.clock,false⟩⟩:Trn).val,.int .i64 0])∧Live w' X sh acc (wrap64 (st+1)) a (fresh sh.clock) F rv wv mv∧Upd X.foot w w'∧w.heap.size≤a∧∀ g ∈ F,w.heap.size≤g
def NotBegun (w:World) (X:SX) (sh:Sh) (acc st:Int) (e:Ending) (w':World):Prop:=
 e=.returned (.tuple #[.pointer none,(⟨7,0,evNone⟩:Trn).val,.int .i64 0])∧X.At w' sh acc (wrap64 (st+1))∧Upd X.foot w w'
theorem SX.At.clkd {w w1:World} {st':Int} (h:X.At w sh acc st) (u:Upd [X.ca,X.cr,X.cb] w w1) (c:ClockAt w1 X.ca X.cr X.cb sh.clock st'):X.At w1 sh acc st':=
 ⟨h.row.upd u (by have:=h.a1; simp; omega) (by have:=h.a2; simp; omega),c,h.a1,h.a2,h.wide⟩
set_option maxHeartbeats 1000000 in
theorem begin_odd (h:X.At w sh acc st) (hc:sh.clock % 2=1):Calls Tryz.prog 107 #[.pointer (some ⟨X.ra,0,none⟩),.pointer (some ⟨X.ca,0,none⟩)] w (NotBegun w X sh acc st):=by
 have hl1:((sh.row.length:Int) == 0)=false:=by have:=h.row.len1; rw [beq_eq_false_iff_ne]; omega
 have hop:=fun W=>open_any sh.clock W
 rw [show opn sh.clock=false by rw [opn_eq h.wide.clock.1 h.wide.clock.2]; simp; omega] at hop
 have HOP:=Lib.hid hop
 have l3:=h.clk.ltc
 have l4:=h.clk.lta
 have l5:=h.clk.ltb
 clear hop hc
 refine calls_all fun K hK=>?_
 go_enter Tryz.func107,Tryz.ntmps107
 go_wp2_with fail
 obtain ⟨W,hW⟩:∃ W,W=w.alloc (.cells turn0.toArray 140):=⟨_,rfl⟩
 have RB:Blk W w.heap.size turn0 140:=by rw [hW]; exact Blk.new w _ _
 have HU:Upd [] w W:=by rw [hW]; exact (Upd.refl _ _).alloc _
 have hWs:W.heap.size=w.heap.size+1:=by rw [hW]; exact World.size_alloc _ _
 simp only [turn0,trnNone,evNone,Trn.cells] at hW
 rw [← hW]
 clear hW
 have h1:=h.upd HU (by simp)
 refine (len_row h1.row).mono ?_
 rintro e w' ⟨rfl,rfl⟩
 go_wp2_with fail
 refine (clkLoad h1.clk).mono ?_
 rintro e w1 ⟨rfl,c1,u1⟩
 have h2:=h1.clkd u1 c1
 have RB2:=RB.upd u1 (by simp; omega)
 have U2:Upd X.foot w w1:=(HU.mono (by simp)).trans (u1.mono (by simp [SX.foot]))
 clear RB HU h1 u1 c1
 go_wp2_with fail
 refine (HOP.out w1).mono ?_
 rintro e w' ⟨rfl,rfl⟩
 have q0:=(RB2).cell 0 rfl
 have q1:=(RB2).cell 1 rfl
 have q2:=(RB2).cell 2 rfl
 have q3:=(RB2).cell 3 rfl
 have q4:=(RB2).cell 4 rfl
 have q5:=(RB2).cell 5 rfl
 have q6:=(RB2).cell 6 rfl
 have q7:=(RB2).cell 7 rfl
 have g0:=(RB2).free 0
 have g1:=(RB2).free 1
 have g2:=(RB2).free 2
 have g3:=(RB2).free 3
 have g4:=(RB2).free 4
 have g5:=(RB2).free 5
 have g6:=(RB2).free 6
 have g7:=(RB2).free 7
 go_wp2_with fail
 exact bodyPost_ret (turn_results3 4 5 6 rfl _ _ _ (⟨7,0,evNone⟩:Trn) (.pointer none) (.int .i64 0) rfl rfl rfl (turn_set RB2 rfl (⟨7,0,evNone⟩:Trn))) rfl (hK _ _ ⟨rfl,h2.upd (at8 _ _ _ _ _ _ _ _) (fun g hg=>by have:=h.lt g hg; simp; omega),upd8 U2 (Nat.le_refl _) _ _ _ _ _ _ _ _⟩)
set_option maxHeartbeats 1000000 in
theorem begin_even (h:X.At w sh acc st) (hc:sh.clock % 2=0):Calls Tryz.prog 107 #[.pointer (some ⟨X.ra,0,none⟩),.pointer (some ⟨X.ca,0,none⟩)] w (Begun w X sh acc st):=by
 have hl1:((sh.row.length:Int) == 0)=false:=by have:=h.row.len1; rw [beq_eq_false_iff_ne]; omega
 have hop:=fun W=>open_any sh.clock W
 rw [show opn sh.clock=true by rw [opn_eq h.wide.clock.1 h.wide.clock.2]; simpa using hc] at hop
 have HOP:=Lib.hid hop
 have l3:=h.clk.ltc
 have l4:=h.clk.lta
 have l5:=h.clk.ltb
 clear hop hc
 refine calls_all fun K hK=>?_
 go_enter Tryz.func107,Tryz.ntmps107
 go_wp2_with fail
 obtain ⟨W,hW⟩:∃ W,W=w.alloc (.cells turn0.toArray 140):=⟨_,rfl⟩
 have RB:Blk W w.heap.size turn0 140:=by rw [hW]; exact Blk.new w _ _
 have HU:Upd [] w W:=by rw [hW]; exact (Upd.refl _ _).alloc _
 have hWs:W.heap.size=w.heap.size+1:=by rw [hW]; exact World.size_alloc _ _
 simp only [turn0,trnNone,evNone,Trn.cells] at hW
 rw [← hW]
 clear hW
 have h1:=h.upd HU (by simp)
 refine (len_row h1.row).mono ?_
 rintro e w' ⟨rfl,rfl⟩
 go_wp2_with fail
 refine (clkLoad h1.clk).mono ?_
 rintro e w1 ⟨rfl,c1,u1⟩
 have h2:=h1.clkd u1 c1
 have RB2:=RB.upd u1 (by simp; omega)
 have U2:Upd X.foot w w1:=(HU.mono (by simp)).trans (u1.mono (by simp [SX.foot]))
 have hwl:=RB2.lt
 clear RB HU h1 u1 c1
 go_wp2_with fail
 refine (HOP.out w1).mono ?_
 rintro e w' ⟨rfl,rfl⟩
 go_wp2_with fail
 have hb:=Blk.new w1 (head0 X.ra X.ca (fresh sh.clock) (.slice none 0 0) (.slice none 0 0)) 132
 have u3:Upd [] w1 (w1.alloc (.cells (head0 X.ra X.ca (fresh sh.clock) (.slice none 0 0) (.slice none 0 0)).toArray 132)):=(Upd.refl [] _).alloc _
 have hs3:(w1.alloc (.cells (head0 X.ra X.ca (fresh sh.clock) (.slice none 0 0) (.slice none 0 0)).toArray 132)).heap.size=w1.heap.size+1:=World.size_alloc _ _
 have hn:∀ W F,OwnP W (.slice none 0 0) [] F:=fun W F=>⟨World.ownsRow_nil _ _ _ _,fun _=>rfl,by simp [Value.ownBlock]⟩
 have hmade:=made_code (F:=[]) hb (hn _ _) (hn _ _) (by simp [Value.ownBlock]) (by simp [fresh]) (by simp [fresh]) (by simp [fresh])
 refine hmade.mono ?_
 rintro e w4 ⟨rfl,m,hm1,hm2,hA,u4⟩
 rw [hs3] at hm1
 have u34:Upd [] w1 w4:=u3.tr u4 (by simp) (fun x hx=>by simp at hx; omega)
 have h4:=h2.upd u34 (by simp)
 have RB4:=RB2.upd u34 (by simp)
 have U4:=U2.trans (u34.mono (by simp))
 have HL:Live w4 X sh acc (wrap64 (st+1)) w1.heap.size (fresh sh.clock) [m] (.slice none 0 0) (.slice none 0 0) (.map (some m)):=by
  have hwf:∀ g ∈ X.foot,g<w1.heap.size:=h2.lt
  refine ⟨hA,h4,fun g hg=>?_,wide_fresh h.wide.clock⟩
  simp at hg
  subst hg
  exact ⟨hm2,fun hm=>by have:=hwf _ hm; omega,by omega⟩
 clear hA h4 h2 hb u3 hs3 hmade RB2 U2 u4 u34 hn
 have q0:=(RB4).cell 0 rfl
 have q1:=(RB4).cell 1 rfl
 have q2:=(RB4).cell 2 rfl
 have q3:=(RB4).cell 3 rfl
 have q4:=(RB4).cell 4 rfl
 have q5:=(RB4).cell 5 rfl
 have q6:=(RB4).cell 6 rfl
 have q7:=(RB4).cell 7 rfl
 have g0:=(RB4).free 0
 have g1:=(RB4).free 1
 have g2:=(RB4).free 2
 have g3:=(RB4).free 3
 have g4:=(RB4).free 4
 have g5:=(RB4).free 5
 have g6:=(RB4).free 6
 have g7:=(RB4).free 7
 go_wp2_with fail
 exact bodyPost_ret (turn_results3 4 5 6 rfl _ _ _ (⟨6,0,⟨1,0,sh.clock,false⟩⟩:Trn) (.pointer (some ⟨w1.heap.size,0,none⟩)) (.int .i64 0) rfl rfl rfl (turn_set RB4 rfl (⟨6,0,⟨1,0,sh.clock,false⟩⟩:Trn))) rfl
  (hK _ _ ⟨w1.heap.size,[m],_,_,_,rfl,HL.upd (at8 _ _ _ _ _ _ _ _) (by simp; omega) (fun g hg=>by simp at hg; subst hg; simp; omega) (fun g hg=>by have:=h.lt g hg; simp; omega),upd8 U4 (Nat.le_refl _) _ _ _ _ _ _ _ _,by omega,fun g hg=>by simp at hg; omega⟩)
end
end Go.Proofs.YtehopaabfoopeaaGreat
