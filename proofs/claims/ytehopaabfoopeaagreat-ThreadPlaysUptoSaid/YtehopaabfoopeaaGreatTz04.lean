/- An attempt's calls: idle, Get, Put, End, Step, Drop, Phase, Locked. No conditions. An attempt's calls, the second part: Put. No conditions. -/
import Derived.Test.YtehopaabfoopeaaGreatTz03
set_option linter.unusedSimpArgs false
set_option linter.unusedVariables false
set_option maxRecDepth 100000
namespace Go.Proofs.YtehopaabfoopeaaGreat
open Go.RowKit
open Go.Maps
section
variable {w:World} {X:SX} {sh:Sh} {acc st:Int} {a:Nat} {s:AS} {F:List Nat} {rv wv mv:Value}
def CallOk (w:World) (X:SX) (acc st:Int) (a:Nat) (F:List Nat) (T:Trn) (r:Int) (s':AS) (sh':Sh) (e:Ending) (w':World):Prop:=
 e=.returned (.tuple #[T.val,.int .i64 r])∧StepOk w X acc st a F T s' sh' (.returned T.val) w'
theorem there_code (hL:Live w X sh acc st a s F rv wv mv):Calls Tryz.prog 72 #[.pointer (some ⟨a,0,none⟩)] w fun e w'=>e=.returned (.bool true)∧w=w':=by
 have a1:=hL.att.head.cell 1 rfl
 refine calls_all fun K hK=>?_
 go_enter Tryz.func72,Tryz.ntmps72
 go_wp2
 all_goals exact ⟨rfl,rfl⟩
theorem idle_code (hL:Live w X sh acc st a s F rv wv mv):Calls Tryz.prog 116 #[.pointer (some ⟨a,0,none⟩)] w fun e w'=>e=.returned (.int .i64 (if s.phase=1 then 0 else 2))∧w=w':=by
 have a5:=hL.att.head.cell 5 rfl
 by_cases hp:s.phase=1
 ·rw [if_pos hp]
  have h1:(s.phase != 1)=false:=by simp [hp]
  clear hp
  refine calls_all fun K hK=>?_
  go_enter Tryz.func116,Tryz.ntmps116
  go_wp2_with fail
  refine (there_code hL).mono ?_
  rintro e w' ⟨rfl,rfl⟩
  go_wp2
  all_goals exact ⟨rfl,rfl⟩
 ·rw [if_neg hp]
  have h1:(s.phase != 1)=true:=by simp [hp]
  clear hp
  refine calls_all fun K hK=>?_
  go_enter Tryz.func116,Tryz.ntmps116
  go_wp2_with fail
  refine (there_code hL).mono ?_
  rintro e w' ⟨rfl,rfl⟩
  go_wp2
  all_goals exact ⟨rfl,rfl⟩
theorem phase_code (hL:Live w X sh acc st a s F rv wv mv):Calls Tryz.prog 73 #[.pointer (some ⟨a,0,none⟩)] w fun e w'=>e=.returned (.int .i64 s.phase)∧w=w':=by
 have a5:=hL.att.head.cell 5 rfl
 refine calls_all fun K hK=>?_
 go_enter Tryz.func73,Tryz.ntmps73
 go_wp2_with fail
 refine (there_code hL).mono ?_
 rintro e w' ⟨rfl,rfl⟩
 go_wp2
 all_goals exact ⟨rfl,rfl⟩
theorem locked_code (hL:Live w X sh acc st a s F rv wv mv):Calls Tryz.prog 63 #[.pointer (some ⟨a,0,none⟩)] w fun e w'=>e=.returned (.bool (s.phase == 8 || s.phase == 9))∧w=w':=by
 have HP:=Lib.hid (phase_code hL)
 by_cases h8:s.phase=8
 ·have h1:(s.phase == 8)=true:=by simp [h8]
  rw [h1]
  clear h8
  refine calls_all fun K hK=>?_
  go_enter Tryz.func63,Tryz.ntmps63
  go_wp2_with fail
  refine (HP.out).mono ?_
  rintro e w' ⟨rfl,rfl⟩
  go_wp2
  all_goals exact ⟨rfl,rfl⟩
 ·have h1:(s.phase == 8)=false:=by simp [h8]
  rw [h1]
  clear h8
  refine calls_all fun K hK=>?_
  go_enter Tryz.func63,Tryz.ntmps63
  go_wp2_with fail
  refine (HP.out).mono ?_
  rintro e w' ⟨rfl,rfl⟩
  go_wp2_with fail
  refine (HP.out).mono ?_
  rintro e w' ⟨rfl,rfl⟩
  go_wp2
  all_goals exact ⟨rfl,rfl⟩
theorem end_code (hL:Live w X sh acc st a s F rv wv mv) (hM:May s) :
  Calls Tryz.prog 110 #[.pointer (some ⟨a,0,none⟩)] w (CallOk w X acc st a F (endS s sh).1 (endS s sh).2.1 (endS s sh).2.2.1 (endS s sh).2.2.2):=by
 have la:=hL.lt
 have no:=hL.out
 simp only [SX.foot,List.mem_cons,List.not_mem_nil,or_false,not_or] at no
 have lx:=hL.sh.lt
 have l1:=lx X.ra (by simp [SX.foot])
 have l2:=lx X.rb (by simp [SX.foot])
 have l3:=lx X.ca (by simp [SX.foot])
 have l4:=lx X.cr (by simp [SX.foot])
 have l5:=lx X.cb (by simp [SX.foot])
 by_cases hp:s.phase=1
 ·obtain ⟨p,cp,rfl⟩:=hL.att.wr.form
  by_cases hw0:s.writes=[]
  ·have he:endS s sh=(⟨4,0,⟨6,0,s.snap / 2,false⟩⟩,0,overS,sh):=by unfold endS; rw [if_neg (by simp [hp]),if_pos hw0]
   rw [he]
   have hl0:((s.writes.length:Int) == 0)=true:=by simp [hw0]
   have hid:=fun W (h:Upd [] w W)=>idle_code (hL.upd0 h)
   rw [if_pos hp] at hid
   have HI:=Lib.hid hid
   clear he hw0 hp hid
   refine calls_all fun K hK=>?_
   go_enter Tryz.func110,Tryz.ntmps110
   go_wp2_with fail
   obtain ⟨W,hW⟩:∃ W,W=w.alloc (.cells turn0.toArray 140):=⟨_,rfl⟩
   have RB:Blk W w.heap.size turn0 140:=by rw [hW]; exact Blk.new w _ _
   have HU:Upd [] w W:=by rw [hW]; exact (Upd.refl _ _).alloc _
   have hWs:W.heap.size=w.heap.size+1:=by rw [hW]; exact World.size_alloc _ _
   simp only [turn0,trnNone,evNone,Trn.cells] at hW
   rw [← hW]
   clear hW
   refine (HI.out _ HU).mono ?_
   rintro e w' ⟨rfl,rfl⟩
   have hL1:=hL.upd0 HU
   have b4:=hL1.att.head.cell 4 rfl
   have b2:=hL1.att.head.cell 2 rfl
   go_wp2_with fail
   refine (number_any s.snap W hL.wide.snap.1 hL.wide.snap.2).mono ?_
   rintro e w' ⟨rfl,rfl⟩
   go_wp2_with fail
   refine (over_code hL1 4 ⟨6,0,s.snap / 2,false⟩).mono ?_
   rintro e w3 ⟨rfl,HL3,u3⟩
   simp only [Trn.val]
   have U3:Upd (a :: (F ++ X.foot)) w w3:=(HU.mono (by simp)).trans (u3.mono (by simp; exact fun x h=>.inl (.inr (.inl h))))
   have RB3:=RB.upd u3 (by simp; exact ⟨by omega,fun h=>Nat.lt_irrefl _ (hL.sep _ h).1⟩)
   clear RB hL1 HU b4 b2
   have q0:=(RB3).cell 0 rfl
   have q1:=(RB3).cell 1 rfl
   have q2:=(RB3).cell 2 rfl
   have q3:=(RB3).cell 3 rfl
   have q4:=(RB3).cell 4 rfl
   have q5:=(RB3).cell 5 rfl
   have q6:=(RB3).cell 6 rfl
   have q7:=(RB3).cell 7 rfl
   have g0:=(RB3).free 0
   have g1:=(RB3).free 1
   have g2:=(RB3).free 2
   have g3:=(RB3).free 3
   have g4:=(RB3).free 4
   have g5:=(RB3).free 5
   have g6:=(RB3).free 6
   have g7:=(RB3).free 7
   go_wp2_with fail
   exact bodyPost_ret (turn_results2 2 3 rfl _ _ _ (⟨4,0,⟨6,0,s.snap / 2,false⟩⟩:Trn) (.int .i64 0) rfl rfl (turn_set RB3 rfl (⟨4,0,⟨6,0,s.snap / 2,false⟩⟩:Trn))) rfl (hK _ _ ⟨rfl,fin_step hL (Nat.le_refl _) HL3 U3 (fun g hg=>.inl hg) (.inl ⟨rfl,rfl⟩) _ _ _ _ _ _ _ _⟩)
  ·have he:endS s sh=((lockS s sh).1,0,(lockS s sh).2.1,(lockS s sh).2.2):=by unfold endS; rw [if_neg (by simp [hp]),if_neg hw0]
   rw [he]
   have hl0:((s.writes.length:Int) == 0)=false:=by simpa using hw0
   have hid:=fun W (h:Upd [] w W)=>idle_code (hL.upd0 h)
   rw [if_pos hp] at hid
   have HI:=Lib.hid hid
   have hp10:s.phase≠10:=by omega
   clear he hw0 hp hid
   refine calls_all fun K hK=>?_
   go_enter Tryz.func110,Tryz.ntmps110
   go_wp2_with fail
   obtain ⟨W,hW⟩:∃ W,W=w.alloc (.cells turn0.toArray 140):=⟨_,rfl⟩
   have RB:Blk W w.heap.size turn0 140:=by rw [hW]; exact Blk.new w _ _
   have HU:Upd [] w W:=by rw [hW]; exact (Upd.refl _ _).alloc _
   have hWs:W.heap.size=w.heap.size+1:=by rw [hW]; exact World.size_alloc _ _
   simp only [turn0,trnNone,evNone,Trn.cells] at hW
   rw [← hW]
   clear hW
   refine (HI.out _ HU).mono ?_
   rintro e w' ⟨rfl,rfl⟩
   have hL1:=hL.upd0 HU
   have b4:=hL1.att.head.cell 4 rfl
   go_wp2_with fail
   refine (lock_code hL1 hp10 hM.even.1).mono ?_
   rintro e w3 ⟨rfl,F',acc',st',rv',wv',mv',HL3,U3,hF3,ho3⟩
   obtain ⟨T,hT⟩:∃ T,T=(lockS s sh).1:=⟨_,rfl⟩
   rw [← hT] at hK ⊢
   clear hT b4 hL1
   have hnr:w.heap.size ∉ a :: (F ++ X.foot):=by
    simp only [List.mem_cons,List.mem_append,not_or]
    exact ⟨by omega,fun h=>Nat.lt_irrefl _ (hL.sep _ h).1,fun h=>Nat.lt_irrefl _ (lx _ h)⟩
   have RB3:=RB.upd U3 hnr
   have hsw:w.heap.size<W.heap.size:=RB.lt
   have U4:Upd (a :: (F ++ X.foot)) w w3:=(HU.mono (by simp)).trans U3
   clear RB U3
   obtain ⟨to,tw,⟨tk,ta,tv,tb⟩⟩:=T
   simp only [Trn.val]
   have q0:=(RB3).cell 0 rfl
   have q1:=(RB3).cell 1 rfl
   have q2:=(RB3).cell 2 rfl
   have q3:=(RB3).cell 3 rfl
   have q4:=(RB3).cell 4 rfl
   have q5:=(RB3).cell 5 rfl
   have q6:=(RB3).cell 6 rfl
   have q7:=(RB3).cell 7 rfl
   have g0:=(RB3).free 0
   have g1:=(RB3).free 1
   have g2:=(RB3).free 2
   have g3:=(RB3).free 3
   have g4:=(RB3).free 4
   have g5:=(RB3).free 5
   have g6:=(RB3).free 6
   have g7:=(RB3).free 7
   go_wp2_with fail
   exact bodyPost_ret (turn_results2 2 3 rfl _ _ _ (⟨to,tw,⟨tk,ta,tv,tb⟩⟩:Trn) (.int .i64 0) rfl rfl (turn_set RB3 rfl (⟨to,tw,⟨tk,ta,tv,tb⟩⟩:Trn))) rfl (hK _ _ ⟨rfl,fin_step hL (Nat.le_refl _) HL3 U4 (fun g hg=>(hF3 g hg).imp id (fun h=>⟨by omega,by omega⟩)) ho3 _ _ _ _ _ _ _ _⟩)
 ·have he:endS s sh=(trnNone,2,s,sh):=by unfold endS; rw [if_pos hp]
  rw [he]
  have hid:=fun W (h:Upd [] w W)=>idle_code (hL.upd0 h)
  rw [if_neg hp] at hid
  have HI:=Lib.hid hid
  clear he hid hp
  refine calls_all fun K hK=>?_
  go_enter Tryz.func110,Tryz.ntmps110
  go_wp2_with fail
  obtain ⟨W,hW⟩:∃ W,W=w.alloc (.cells turn0.toArray 140):=⟨_,rfl⟩
  have RB:Blk W w.heap.size turn0 140:=by rw [hW]; exact Blk.new w _ _
  have HU:Upd [] w W:=by rw [hW]; exact (Upd.refl _ _).alloc _
  have hWs:W.heap.size=w.heap.size+1:=by rw [hW]; exact World.size_alloc _ _
  simp only [turn0,trnNone,evNone,Trn.cells] at hW
  rw [← hW]
  clear hW
  refine (HI.out _ HU).mono ?_
  rintro e w' ⟨rfl,rfl⟩
  have hL1:=hL.upd0 HU
  have q0:=(RB).cell 0 rfl
  have q1:=(RB).cell 1 rfl
  have q2:=(RB).cell 2 rfl
  have q3:=(RB).cell 3 rfl
  have q4:=(RB).cell 4 rfl
  have q5:=(RB).cell 5 rfl
  have q6:=(RB).cell 6 rfl
  have q7:=(RB).cell 7 rfl
  have g0:=(RB).free 0
  have g1:=(RB).free 1
  have g2:=(RB).free 2
  have g3:=(RB).free 3
  have g4:=(RB).free 4
  have g5:=(RB).free 5
  have g6:=(RB).free 6
  have g7:=(RB).free 7
  go_wp2_with fail
  exact bodyPost_ret (turn_results2 2 3 rfl _ _ _ trnNone (.int .i64 2) rfl rfl (turn_set RB rfl trnNone)) rfl (hK _ _ ⟨rfl,fin_step hL (Nat.le_refl _) hL1 (HU.mono (by simp)) (fun g hg=>.inl hg) (.inl ⟨rfl,rfl⟩) _ _ _ _ _ _ _ _⟩)
theorem has_live (hL:Live w X sh acc st a s F rv wv mv) (x:Int):Calls Tryz.prog 80 #[.pointer (some ⟨X.ra,0,none⟩),.int .u64 x] w fun e w'=>e=.returned (.bool (decide (x<sh.row.length)))∧w=w':=has_row hL.sh.row x
set_option maxHeartbeats 2000000 in
theorem get_code (hL:Live w X sh acc st a s F rv wv mv) (hM:May s) (x:Int) (hx:0≤x∧x<18446744073709551616) :
  Calls Tryz.prog 108 #[.pointer (some ⟨a,0,none⟩),.int .u64 x] w (CallOk w X acc st a F (getS s sh x).1 (getS s sh x).2.1 (getS s sh x).2.2 sh):=by
 have la:=hL.lt
 have no:=hL.out
 simp only [SX.foot,List.mem_cons,List.not_mem_nil,or_false,not_or] at no
 have lx:=hL.sh.lt
 have l1:=lx X.ra (by simp [SX.foot])
 have l2:=lx X.rb (by simp [SX.foot])
 have l3:=lx X.ca (by simp [SX.foot])
 have l4:=lx X.cr (by simp [SX.foot])
 have l5:=lx X.cb (by simp [SX.foot])
 by_cases hp:s.phase=1
 ·obtain ⟨m,rfl,hmF,hP⟩:=hL.att.pl (by omega)
  have hid:=fun W (h:Upd [] w W)=>idle_code (hL.upd0 h)
  rw [(if_pos hp)] at hid
  have HI:=Lib.hid hid
  clear hid
  have hp10:s.phase≠10:=by omega
  cases hpl:place s.writes x with
  | some k =>
   have he:getS s sh x=(⟨2,(s.writes.getD k (0,0)).2,⟨2,x,(s.writes.getD k (0,0)).2,true⟩⟩,0,s):=by unfold getS; rw [if_neg (by simp [hp]),hpl]
   obtain ⟨hkl,v,hkv⟩:=place_some hpl
   have hgd:(s.writes.getD k (0,0)).2=v:=by simp [List.getD,hkv]
   rw [he,hgd]
   obtain ⟨g,cap,sp,rfl,hcap,GB,hgF⟩:=hL.att.wr.open (by intro e; rw [e] at hkl; simp at hkl)
   obtain ⟨hx0',hx1'⟩:=pcells_get s.writes k x v hkv
   have hx1:(pcells s.writes ++ sp)[k*2+1]? = some (.int .u64 v):=by rw [List.getElem?_append_left (by rw [pcells_len]; omega)]; exact hx1'
   have hkl':(k:Int)<(s.writes.length:Int):=by omega
   have HLK:Hid (lookV s.writes x=k∧(place s.writes x).isSome=true):=Lib.hid ⟨by unfold lookV; rw [hpl],by rw [hpl]; rfl⟩
   clear he hgd hx0' hx1' hkv hpl hp
   refine calls_all fun K hK=>?_
   go_enter Tryz.func108,Tryz.ntmps108
   go_wp2_with fail
   obtain ⟨W,hW⟩:∃ W,W=w.alloc (.cells turn0.toArray 140):=⟨_,rfl⟩
   have RB:Blk W w.heap.size turn0 140:=by rw [hW]; exact Blk.new w _ _
   have HU:Upd [] w W:=by rw [hW]; exact (Upd.refl _ _).alloc _
   have hWs:W.heap.size=w.heap.size+1:=by rw [hW]; exact World.size_alloc _ _
   simp only [turn0,trnNone,evNone,Trn.cells] at hW
   rw [← hW]
   clear hW
   refine (HI.out _ HU).mono ?_
   rintro e w' ⟨rfl,rfl⟩
   have hL1:=hL.upd0 HU
   have a11:=hL1.att.head.cell 11 rfl
   have a4:=hL1.att.head.cell 4 rfl
   have e1:=(GB.upd HU (by simp)).cell (k*2+1) hx1
   have hrun:=places_look (hP.upd HU (by simp)) hx
   rw [HLK.out.1,HLK.out.2] at hrun
   have q0:=(RB).cell 0 rfl
   have q1:=(RB).cell 1 rfl
   have q2:=(RB).cell 2 rfl
   have q3:=(RB).cell 3 rfl
   have q4:=(RB).cell 4 rfl
   have q5:=(RB).cell 5 rfl
   have q6:=(RB).cell 6 rfl
   have q7:=(RB).cell 7 rfl
   have g0:=(RB).free 0
   have g1:=(RB).free 1
   have g2:=(RB).free 2
   have g3:=(RB).free 3
   have g4:=(RB).free 4
   have g5:=(RB).free 5
   have g6:=(RB).free 6
   have g7:=(RB).free 7
   go_wp2_with ((at_lookup; with_reducible refine wpList_lookup_eq rfl _ _ _ _ rfl _ _ _ rfl rfl ?_ ?_); exact hrun)
   exact bodyPost_ret (turn_results2 4 5 rfl _ _ _ (⟨2,v,⟨2,x,v,true⟩⟩:Trn) (.int .i64 0) rfl rfl (turn_set RB rfl (⟨2,v,⟨2,x,v,true⟩⟩:Trn))) rfl (hK _ _ ⟨rfl,fin_step hL (Nat.le_refl _) hL1 (HU.mono (by simp)) (fun g hg=>.inl hg) (.inl ⟨rfl,rfl⟩) _ _ _ _ _ _ _ _⟩)
  | none =>
   have HLK:Hid (lookV s.writes x=0∧(place s.writes x).isSome=false):=Lib.hid ⟨by unfold lookV; rw [hpl],by rw [hpl]; rfl⟩
   have hhas:=fun W (h:Upd [] w W)=>has_live (hL.upd0 h) x
   by_cases hin:x<sh.row.length
   ·rw [decide_eq_true hin] at hhas
    have HH:=Lib.hid hhas
    obtain ⟨p,cp,rfl⟩:=hL.att.rd.form
    by_cases hfull:1024≤s.reads.length
    ·have he:getS s sh x=(trnNone,5,s):=by unfold getS; rw [if_neg (by simp [hp]),hpl]; simp only; rw [if_neg (by simpa using hin),if_pos hfull]
     have hf1:((s.reads.length:Int) == 1024)=true:=by have:=hM.lenR; simp; omega
     rw [he]
     clear he hpl hp hin hhas hfull
     refine calls_all fun K hK=>?_
     go_enter Tryz.func108,Tryz.ntmps108
     go_wp2_with fail
     obtain ⟨W,hW⟩:∃ W,W=w.alloc (.cells turn0.toArray 140):=⟨_,rfl⟩
     have RB:Blk W w.heap.size turn0 140:=by rw [hW]; exact Blk.new w _ _
     have HU:Upd [] w W:=by rw [hW]; exact (Upd.refl _ _).alloc _
     have hWs:W.heap.size=w.heap.size+1:=by rw [hW]; exact World.size_alloc _ _
     simp only [turn0,trnNone,evNone,Trn.cells] at hW
     rw [← hW]
     clear hW
     refine (HI.out _ HU).mono ?_
     rintro e w' ⟨rfl,rfl⟩
     have hL1:=hL.upd0 HU
     have a11:=hL1.att.head.cell 11 rfl
     have a0:=hL1.att.head.cell 0 rfl
     have a3:=hL1.att.head.cell 3 rfl
     have hrun:=places_look (hP.upd HU (by simp)) hx
     rw [HLK.out.1,HLK.out.2] at hrun
     have q0:=(RB).cell 0 rfl
     have q1:=(RB).cell 1 rfl
     have q2:=(RB).cell 2 rfl
     have q3:=(RB).cell 3 rfl
     have q4:=(RB).cell 4 rfl
     have q5:=(RB).cell 5 rfl
     have q6:=(RB).cell 6 rfl
     have q7:=(RB).cell 7 rfl
     have g0:=(RB).free 0
     have g1:=(RB).free 1
     have g2:=(RB).free 2
     have g3:=(RB).free 3
     have g4:=(RB).free 4
     have g5:=(RB).free 5
     have g6:=(RB).free 6
     have g7:=(RB).free 7
     go_wp2_with ((at_lookup; with_reducible refine wpList_lookup_eq rfl _ _ _ _ rfl _ _ _ rfl rfl ?_ ?_); exact hrun)
     refine (HH.out _ HU).mono ?_
     rintro e w' ⟨rfl,rfl⟩
     go_wp2_with fail
     exact bodyPost_ret (turn_results2 4 5 rfl _ _ _ trnNone (.int .i64 5) rfl rfl (turn_set RB rfl trnNone)) rfl (hK _ _ ⟨rfl,fin_step hL (Nat.le_refl _) hL1 (HU.mono (by simp)) (fun g hg=>.inl hg) (.inl ⟨rfl,rfl⟩) _ _ _ _ _ _ _ _⟩)
    ·have he:getS s sh x=((loadS { s with addr:=x } sh).1,0,(loadS { s with addr:=x } sh).2):=by unfold getS; rw [if_neg (by simp [hp]),hpl]; simp only; rw [if_neg (by simpa using hin),if_neg hfull]
     have hf1:((s.reads.length:Int) == 1024)=false:=by simp; omega
     rw [he]
     clear he hpl hp hin hhas hfull
     refine calls_all fun K hK=>?_
     go_enter Tryz.func108,Tryz.ntmps108
     go_wp2_with fail
     obtain ⟨W,hW⟩:∃ W,W=w.alloc (.cells turn0.toArray 140):=⟨_,rfl⟩
     have RB:Blk W w.heap.size turn0 140:=by rw [hW]; exact Blk.new w _ _
     have HU:Upd [] w W:=by rw [hW]; exact (Upd.refl _ _).alloc _
     have hWs:W.heap.size=w.heap.size+1:=by rw [hW]; exact World.size_alloc _ _
     simp only [turn0,trnNone,evNone,Trn.cells] at hW
     rw [← hW]
     clear hW
     refine (HI.out _ HU).mono ?_
     rintro e w' ⟨rfl,rfl⟩
     have hL1:=hL.upd0 HU
     have a11:=hL1.att.head.cell 11 rfl
     have a0:=hL1.att.head.cell 0 rfl
     have a3:=hL1.att.head.cell 3 rfl
     have a7:=hL1.att.head.cell 7 rfl
     have f7:=hL1.att.head.free 7
     have hrun:=places_look (hP.upd HU (by simp)) hx
     rw [HLK.out.1,HLK.out.2] at hrun
     go_wp2_with ((at_lookup; with_reducible refine wpList_lookup_eq rfl _ _ _ _ rfl _ _ _ rfl rfl ?_ ?_); exact hrun)
     refine (HH.out _ HU).mono ?_
     rintro e w' ⟨rfl,rfl⟩
     go_wp2_with fail
     have uw:Upd [a] W (W.setCell ⟨a,7,none⟩ (.int .u64 x)):=(Upd.refl _ _).setCell (.inl (by simp)) _
     have hL2:=hL1.phase (hL1.att.setAddr x) uw ⟨hL.wide.snap,hL.wide.reads,hL.wide.writes,hx,hL.wide.word,hL.wide.found⟩
     refine (aload_code hL2 hp10).mono ?_
     rintro e w3 ⟨rfl,F',acc',st',rv',wv',mv',HL3,U3',hF3',ho3⟩
     have U3:Upd (a :: (F ++ X.foot)) W w3:=(uw.mono (by simp)).trans U3'
     have hF3:∀ g ∈ F',g ∈ F∨W.heap.size≤g:=fun g hg=>(hF3' g hg).imp id (fun h=>Nat.le_trans uw.size h)
     have hT:(loadS { s with addr:=x } sh).1=going:=rfl
     rw [hT] at hK
     generalize going=T at hK ⊢
     clear hT U3' hF3' uw hL2 hL1 a11 a0 a3 a7 f7 hrun
     have hnr:w.heap.size ∉ a :: (F ++ X.foot):=by
      simp only [List.mem_cons,List.mem_append,not_or]
      exact ⟨by omega,fun h=>Nat.lt_irrefl _ (hL.sep _ h).1,fun h=>Nat.lt_irrefl _ (lx _ h)⟩
     have RB3:=RB.upd U3 hnr
     have hsw:w.heap.size<W.heap.size:=RB.lt
     have U4:Upd (a :: (F ++ X.foot)) w w3:=(HU.mono (by simp)).trans U3
     clear RB U3
     obtain ⟨to,tw,⟨tk,ta,tv,tb⟩⟩:=T
     simp only [Trn.val]
     have q0:=(RB3).cell 0 rfl
     have q1:=(RB3).cell 1 rfl
     have q2:=(RB3).cell 2 rfl
     have q3:=(RB3).cell 3 rfl
     have q4:=(RB3).cell 4 rfl
     have q5:=(RB3).cell 5 rfl
     have q6:=(RB3).cell 6 rfl
     have q7:=(RB3).cell 7 rfl
     have g0:=(RB3).free 0
     have g1:=(RB3).free 1
     have g2:=(RB3).free 2
     have g3:=(RB3).free 3
     have g4:=(RB3).free 4
     have g5:=(RB3).free 5
     have g6:=(RB3).free 6
     have g7:=(RB3).free 7
     go_wp2_with fail
     exact bodyPost_ret (turn_results2 4 5 rfl _ _ _ (⟨to,tw,⟨tk,ta,tv,tb⟩⟩:Trn) (.int .i64 0) rfl rfl (turn_set RB3 rfl (⟨to,tw,⟨tk,ta,tv,tb⟩⟩:Trn))) rfl (hK _ _ ⟨rfl,fin_step hL (Nat.le_refl _) HL3 U4 (fun g hg=>(hF3 g hg).imp id (fun h=>⟨by omega,by omega⟩)) ho3 _ _ _ _ _ _ _ _⟩)
   ·rw [decide_eq_false hin] at hhas
    have HH:=Lib.hid hhas
    have he:getS s sh x=(trnNone,4,s):=by unfold getS; rw [if_neg (by simp [hp]),hpl]; simp only; rw [if_pos hin]
    rw [he]
    clear he hpl hp hin hhas
    refine calls_all fun K hK=>?_
    go_enter Tryz.func108,Tryz.ntmps108
    go_wp2_with fail
    obtain ⟨W,hW⟩:∃ W,W=w.alloc (.cells turn0.toArray 140):=⟨_,rfl⟩
    have RB:Blk W w.heap.size turn0 140:=by rw [hW]; exact Blk.new w _ _
    have HU:Upd [] w W:=by rw [hW]; exact (Upd.refl _ _).alloc _
    have hWs:W.heap.size=w.heap.size+1:=by rw [hW]; exact World.size_alloc _ _
    simp only [turn0,trnNone,evNone,Trn.cells] at hW
    rw [← hW]
    clear hW
    refine (HI.out _ HU).mono ?_
    rintro e w' ⟨rfl,rfl⟩
    have hL1:=hL.upd0 HU
    have a11:=hL1.att.head.cell 11 rfl
    have a0:=hL1.att.head.cell 0 rfl
    have hrun:=places_look (hP.upd HU (by simp)) hx
    rw [HLK.out.1,HLK.out.2] at hrun
    have q0:=(RB).cell 0 rfl
    have q1:=(RB).cell 1 rfl
    have q2:=(RB).cell 2 rfl
    have q3:=(RB).cell 3 rfl
    have q4:=(RB).cell 4 rfl
    have q5:=(RB).cell 5 rfl
    have q6:=(RB).cell 6 rfl
    have q7:=(RB).cell 7 rfl
    have g0:=(RB).free 0
    have g1:=(RB).free 1
    have g2:=(RB).free 2
    have g3:=(RB).free 3
    have g4:=(RB).free 4
    have g5:=(RB).free 5
    have g6:=(RB).free 6
    have g7:=(RB).free 7
    go_wp2_with ((at_lookup; with_reducible refine wpList_lookup_eq rfl _ _ _ _ rfl _ _ _ rfl rfl ?_ ?_); exact hrun)
    refine (HH.out _ HU).mono ?_
    rintro e w' ⟨rfl,rfl⟩
    go_wp2_with fail
    exact bodyPost_ret (turn_results2 4 5 rfl _ _ _ trnNone (.int .i64 4) rfl rfl (turn_set RB rfl trnNone)) rfl (hK _ _ ⟨rfl,fin_step hL (Nat.le_refl _) hL1 (HU.mono (by simp)) (fun g hg=>.inl hg) (.inl ⟨rfl,rfl⟩) _ _ _ _ _ _ _ _⟩)
 ·have he:getS s sh x=(trnNone,2,s):=by unfold getS; rw [if_pos hp]
  rw [he]
  have hid:=fun W (h:Upd [] w W)=>idle_code (hL.upd0 h)
  rw [(if_neg hp)] at hid
  have HI:=Lib.hid hid
  clear hid
  clear he hp
  refine calls_all fun K hK=>?_
  go_enter Tryz.func108,Tryz.ntmps108
  go_wp2_with fail
  obtain ⟨W,hW⟩:∃ W,W=w.alloc (.cells turn0.toArray 140):=⟨_,rfl⟩
  have RB:Blk W w.heap.size turn0 140:=by rw [hW]; exact Blk.new w _ _
  have HU:Upd [] w W:=by rw [hW]; exact (Upd.refl _ _).alloc _
  have hWs:W.heap.size=w.heap.size+1:=by rw [hW]; exact World.size_alloc _ _
  simp only [turn0,trnNone,evNone,Trn.cells] at hW
  rw [← hW]
  clear hW
  refine (HI.out _ HU).mono ?_
  rintro e w' ⟨rfl,rfl⟩
  have hL1:=hL.upd0 HU
  have q0:=(RB).cell 0 rfl
  have q1:=(RB).cell 1 rfl
  have q2:=(RB).cell 2 rfl
  have q3:=(RB).cell 3 rfl
  have q4:=(RB).cell 4 rfl
  have q5:=(RB).cell 5 rfl
  have q6:=(RB).cell 6 rfl
  have q7:=(RB).cell 7 rfl
  have g0:=(RB).free 0
  have g1:=(RB).free 1
  have g2:=(RB).free 2
  have g3:=(RB).free 3
  have g4:=(RB).free 4
  have g5:=(RB).free 5
  have g6:=(RB).free 6
  have g7:=(RB).free 7
  go_wp2_with fail
  exact bodyPost_ret (turn_results2 4 5 rfl _ _ _ trnNone (.int .i64 2) rfl rfl (turn_set RB rfl trnNone)) rfl (hK _ _ ⟨rfl,fin_step hL (Nat.le_refl _) hL1 (HU.mono (by simp)) (fun g hg=>.inl hg) (.inl ⟨rfl,rfl⟩) _ _ _ _ _ _ _ _⟩)
end
end Go.Proofs.YtehopaabfoopeaaGreat
set_option linter.unusedSimpArgs false
set_option linter.unusedVariables false
set_option maxRecDepth 100000
namespace Go.Proofs.YtehopaabfoopeaaGreat
open Go.RowKit
open Go.Maps
theorem OwnP.put {w:World} {l:List (Int × Int)} {F:List Nat} {g n cap:Nat} (h:OwnP w (.slice (some ⟨g,0,none⟩) n cap) l F) {k:Nat} {x v u:Int} (hk:l[k]? = some (x,v)) :
  OwnP (w.setCell ⟨g,k*2+1,none⟩ (.int .u64 u)) (.slice (some ⟨g,0,none⟩) n cap) (l.set k (x,u)) F:=by
 obtain ⟨h1,h2⟩:=h.own
 have hkl:k<l.length:=by
  by_cases hh:k<l.length
  ·exact hh
  ·rw [List.getElem?_eq_none (by omega)] at hk; cases hk
 rcases h2 with ⟨h2,_⟩ | ⟨g',cap',cur,hv,hb,hh,hn,hm,hs,ht⟩
 ·cases h2
 ·have e:=hv
  simp only [Value.slice.injEq,Option.some.injEq,Addr.mk.injEq,and_true] at e
  obtain ⟨rfl,rfl,rfl⟩:=e
  refine ⟨⟨?_,.inr ⟨g,cap,cur.setIfInBounds (k*2+1) (.int .u64 u),?_,hb,?_,?_,hm,by simpa using hs,?_⟩⟩,fun e=>?_,h.inF⟩
  ·rw [pcells_len,List.length_set]; omega
  ·rw [List.length_set]
  ·simp [World.setCell,Array.getElem?_modify,hh]
  ·rw [List.length_set]; exact hn
  ·rw [← pcells_set l k x v u hk,List.length_set,← ht]
   simp only [Array.toList_setIfInBounds]
   rw [List.take_set]
  ·have:=congrArg List.length e
   simp at this
   subst this
   simp at hkl
section
variable {w:World} {X:SX} {sh:Sh} {acc st:Int} {a:Nat} {s:AS} {F:List Nat} {rv wv mv:Value}
theorem places_set {m:Nat} {l:List (Int × Int)} (h:PlacesAt w m l) {x u:Int} {k:Nat} (hp:place l x=some k):PlacesAt w m (l.set k (x,u)):=by
 obtain ⟨D,ho,hD⟩:=h
 refine ⟨D,by simpa using ho,fun y h0 h1=>?_⟩
 rw [place_set hp]
 exact hD y h0 h1
set_option maxHeartbeats 2000000 in
theorem put_code (hL:Live w X sh acc st a s F rv wv mv) (hM:May s) (x v:Int) (hx:0≤x∧x<18446744073709551616) (hv:0≤v∧v<18446744073709551616) :
  Calls Tryz.prog 109 #[.pointer (some ⟨a,0,none⟩),.int .u64 x,.int .u64 v] w (CallOk w X acc st a F (putS s sh x v).1 (putS s sh x v).2.1 (putS s sh x v).2.2 sh):=by
 have la:=hL.lt
 have no:=hL.out
 simp only [SX.foot,List.mem_cons,List.not_mem_nil,or_false,not_or] at no
 have lx:=hL.sh.lt
 have l1:=lx X.ra (by simp [SX.foot])
 have l2:=lx X.rb (by simp [SX.foot])
 have l3:=lx X.ca (by simp [SX.foot])
 have l4:=lx X.cr (by simp [SX.foot])
 have l5:=lx X.cb (by simp [SX.foot])
 by_cases hp:s.phase=1
 ·obtain ⟨m,rfl,hmF,hP⟩:=hL.att.pl (by omega)
  have hid:=fun W (h:Upd [] w W)=>idle_code (hL.upd0 h)
  rw [(if_pos hp)] at hid
  have HI:=Lib.hid hid
  clear hid
  have hp10:s.phase≠10:=by omega
  have hhas:=fun W (h:Upd [] w W)=>has_live (hL.upd0 h) x
  by_cases hin:x<sh.row.length
  ·rw [decide_eq_true hin] at hhas
   have HH:=Lib.hid hhas
   cases hpl:place s.writes x with
   | some k =>
    have he:putS s sh x v=(⟨3,0,⟨3,x,v,false⟩⟩,0,{ s with writes:=s.writes.set k (x,v) }):=by unfold putS; rw [if_neg (by simp [hp]),if_neg (by simpa using hin),hpl]
    obtain ⟨hkl,u,hkv⟩:=place_some hpl
    have hset:=place_set (v:=v) hpl
    have hW:Wide { s with writes:=s.writes.set k (x,v) }:=by have:=wide_put (s:=s) (sh:=sh) hL.wide hx hv; rw [he] at this; exact this
    rw [he]
    obtain ⟨g,cap,sp,rfl,hcap,GB,hgF⟩:=hL.att.wr.open (by intro e; rw [e] at hkl; simp at hkl)
    obtain ⟨hx0',hx1'⟩:=pcells_get s.writes k x u hkv
    have hx1:(pcells s.writes ++ sp)[k*2+1]? = some (.int .u64 u):=by rw [List.getElem?_append_left (by rw [pcells_len]; omega)]; exact hx1'
    have hkl':(k:Int)<(s.writes.length:Int):=by omega
    have HLK:Hid (lookV s.writes x=k∧(place s.writes x).isSome=true):=Lib.hid ⟨by unfold lookV; rw [hpl],by rw [hpl]; rfl⟩
    have HKV:=Lib.hid hkv
    have HPL:=Lib.hid hpl
    clear he hx0' hx1' hkv hpl hp hset hhas
    refine calls_all fun K hK=>?_
    go_enter Tryz.func109,Tryz.ntmps109
    go_wp2_with fail
    obtain ⟨W,hW⟩:∃ W,W=w.alloc (.cells turn0.toArray 140):=⟨_,rfl⟩
    have RB:Blk W w.heap.size turn0 140:=by rw [hW]; exact Blk.new w _ _
    have HU:Upd [] w W:=by rw [hW]; exact (Upd.refl _ _).alloc _
    have hWs:W.heap.size=w.heap.size+1:=by rw [hW]; exact World.size_alloc _ _
    simp only [turn0,trnNone,evNone,Trn.cells] at hW
    rw [← hW]
    clear hW
    refine (HI.out _ HU).mono ?_
    rintro e w' ⟨rfl,rfl⟩
    have hL1:=hL.upd0 HU
    have a0:=hL1.att.head.cell 0 rfl
    go_wp2_with fail
    refine (HH.out _ HU).mono ?_
    rintro e w' ⟨rfl,rfl⟩
    have a11:=hL1.att.head.cell 11 rfl
    have a4:=hL1.att.head.cell 4 rfl
    have GB1:=GB.upd HU (by simp)
    have e1:=GB1.cell (k*2+1) hx1
    have ef:=GB1.free (k*2+1)
    have hrun:=places_look (hP.upd HU (by simp)) hx
    rw [HLK.out.1,HLK.out.2] at hrun
    have hga:g≠a:=fun e=>hL.att.not_wr (by simp [Value.ownBlock,e])
    have hgl:=GB.lt
    have hgm:g≠m:=hP.ne_blk GB
    have ug:Upd [g] W (W.setCell ⟨g,k*2+1,none⟩ (.int .u64 v)):=(Upd.refl _ _).setCell (.inl (by simp)) _
    have hA2:AttV (W.setCell ⟨g,k*2+1,none⟩ (.int .u64 v)) a X.ra X.ca { s with writes:=s.writes.set k (x,v) } F rv (.slice (some ⟨g,0,none⟩) s.writes.length cap) (.map (some m)):=
     ⟨hL1.att.head.upd ug (by simp; omega),hL1.att.rd.upd ug (fun q hq e=>by simp at hq; subst hq; exact hL1.att.apart _ e rfl),hL1.att.wr.put HKV.out,hL1.att.apart,fun hk=>⟨m,rfl,hmF,places_set ((hP.upd HU (by simp)).upd ug (by simpa using hgm.symm)) HPL.out⟩⟩
    have HL2:=hL1.keep (ug.mono (T:=a :: F) (fun q hq=>by simp at hq; subst hq; exact .inl (List.mem_cons_of_mem _ hgF))) hA2 (fun q hq=>.inl hq) hW
    have RB2:=RB.upd ug (by simp; omega)
    have U2:Upd (a :: (F ++ X.foot)) w _:=(HU.mono (by simp)).trans (ug.mono (T:=a :: (F ++ X.foot)) (fun q hq=>by simp at hq; subst hq; exact .inl (by simp [hgF])))
    have q0:=(RB2).cell 0 rfl
    have q1:=(RB2).cell 1 rfl
    have q2:=(RB2).cell 2 rfl
    have q3:=(RB2).cell 3 rfl
    have q4:=(RB2).cell 4 rfl
    have q5:=(RB2).cell 5 rfl
    have q6:=(RB2).cell 6 rfl
    have q7:=(RB2).cell 7 rfl
    have g0:=(RB2).free 0
    have g1:=(RB2).free 1
    have g2:=(RB2).free 2
    have g3:=(RB2).free 3
    have g4:=(RB2).free 4
    have g5:=(RB2).free 5
    have g6:=(RB2).free 6
    have g7:=(RB2).free 7
    go_wp2_with ((at_lookup; with_reducible refine wpList_lookup_eq rfl _ _ _ _ rfl _ _ _ rfl rfl ?_ ?_); exact hrun)
    exact bodyPost_ret (turn_results2 6 7 rfl _ _ _ (⟨3,0,⟨3,x,v,false⟩⟩:Trn) (.int .i64 0) rfl rfl (turn_set RB2 rfl (⟨3,0,⟨3,x,v,false⟩⟩:Trn))) rfl (hK _ _ ⟨rfl,fin_step hL (Nat.le_refl _) HL2 U2 (fun g hg=>.inl hg) (.inl ⟨rfl,rfl⟩) _ _ _ _ _ _ _ _⟩)
   | none =>
    have HLK:Hid (lookV s.writes x=0∧(place s.writes x).isSome=false):=Lib.hid ⟨by unfold lookV; rw [hpl],by rw [hpl]; rfl⟩
    obtain ⟨p,cp,rfl⟩:=hL.att.wr.form
    by_cases hfull:s.writes.length<1024
    ·have he:putS s sh x v=(⟨3,0,⟨3,x,v,false⟩⟩,0,{ s with writes:=s.writes ++ [(x,v)] }):=by unfold putS; rw [if_neg (by simp [hp]),if_neg (by simpa using hin),hpl]; simp only; rw [if_pos hfull]
     have hW:Wide { s with writes:=s.writes ++ [(x,v)] }:=by have:=wide_put (s:=s) (sh:=sh) hL.wide hx hv; rw [he] at this; exact this
     rw [he]
     have hf1:(s.writes.length:Int)<1024:=by omega
     have HPL:=Lib.hid hpl
     clear he hpl hp hin hhas
     refine calls_all fun K hK=>?_
     go_enter Tryz.func109,Tryz.ntmps109
     go_wp2_with fail
     obtain ⟨W,hW⟩:∃ W,W=w.alloc (.cells turn0.toArray 140):=⟨_,rfl⟩
     have RB:Blk W w.heap.size turn0 140:=by rw [hW]; exact Blk.new w _ _
     have HU:Upd [] w W:=by rw [hW]; exact (Upd.refl _ _).alloc _
     have hWs:W.heap.size=w.heap.size+1:=by rw [hW]; exact World.size_alloc _ _
     simp only [turn0,trnNone,evNone,Trn.cells] at hW
     rw [← hW]
     clear hW
     refine (HI.out _ HU).mono ?_
     rintro e w' ⟨rfl,rfl⟩
     have hL1:=hL.upd0 HU
     have a0:=hL1.att.head.cell 0 rfl
     go_wp2_with fail
     refine (HH.out _ HU).mono ?_
     rintro e w' ⟨rfl,rfl⟩
     have a11:=hL1.att.head.cell 11 rfl
     have a4:=hL1.att.head.cell 4 rfl
     have hrun:=places_look (hP.upd HU (by simp)) hx
     rw [HLK.out.1,HLK.out.2] at hrun
     go_wp2_with ((at_lookup; with_reducible refine wpList_lookup_eq rfl _ _ _ _ rfl _ _ _ rfl rfl ?_ ?_); exact hrun)
     clear hrun
     obtain ⟨W2,hrun,hP2,u2⟩:=places_store ((hP.upd HU (by simp)).upd (Upd.refl [] _).drew (by simp)) v hx HPL.out (by omega)
     refine wp_region_eff (fun w'=>w'.cell? ⟨a,11,none⟩=some (.map (some m))∧w'.cell? ⟨a,4,none⟩=some (.slice p s.writes.length cp)) 11 (by kernel_rfl) (by kernel_rfl) ⟨a11,a4⟩ ?_
     repeat
      refine wpE_take (v:=?_) (by decide) rfl (by rfl) ?_ ?_
      rotate_left 1
      ·((intro w hSw; (try dsimp only at hSw); go_simp); try with_reducible rfl)
      try simp only [Act.put,List.setIfInBounds_toArray,List.set_cons_zero,List.set_cons_succ]
     refine wpE_tail ?_
     refine wpList_mapUpdate_eq rfl _ _ _ _ rfl _ _ _ rfl rfl rfl hrun ?_
     refine NoPanic.normal ?_
     try simp only [Act.put,List.setIfInBounds_toArray,List.set_cons_zero,List.set_cons_succ]
     have hma:a≠m:=hP.ne_blk hL.att.head
     have hu2:Upd [m] W W2:=((Upd.refl [] W).drew.mono (by simp)).trans u2
     have hh2:=hL1.att.head.upd hu2 (by simpa using hma)
     have hr2:=hL1.att.rd.upd hu2 (fun q hq e=>by simp at hq; subst hq; exact hL.att.rd.ne_map hP e)
     have hw2:=hL1.att.wr.upd hu2 (fun q hq e=>by simp at hq; subst hq; exact hL.att.wr.ne_map hP e)
     have RB2:=RB.upd hu2 (by simp; intro e; have:=hP.lt; omega)
     have U2:Upd (a :: (F ++ X.foot)) w W2:=(HU.mono (by simp)).trans (hu2.mono (T:=a :: (F ++ X.foot)) (fun q hq=>by simp at hq; subst hq; exact .inl (by simp [hmF])))
     have hlw2:W.heap.size≤W2.heap.size:=hu2.size
     obtain ⟨v6,W6,G6,hrun6,ho6,hu6,hat6,hFG,hGF⟩:=app_pair hw2 x v (by omega)
     obtain ⟨p6,q6,rfl⟩:=ho6.form
     have hl6:(s.writes ++ [(x,v)]).length=s.writes.length+1:=by simp
     rw [hl6] at hrun6 hat6
     have u5:Upd [] W2 (W2.alloc (.cells #[.int .u64 x,.int .u64 v] 71)):=(Upd.refl [] _).alloc _
     have hg6:∀ g ∈ (Value.slice p s.writes.length cp).ownBlock.toList,g ∈ F:=fun g hg=>hL.att.wr.inF g (by simpa using hg)
     have hh6:=(hh2.upd u5 (by simp)).upd hu6 (fun hg=>hL.att.not_wr (by simpa using hg))
     have hr6:=(hr2.upd u5 (by simp)).upd hu6 (fun g hg e=>hL.att.apart g e (by simpa using hg))
     have hP6:=(hP2.upd u5 (by simp)).upd hu6 (fun hg=>hL.att.wr.ne_map hP (by simpa using hg))
     have RB6:=(RB2.upd u5 (by simp)).upd hu6 (fun h=>by have:=(hL.sep _ (hg6 _ h)).1; omega)
     have U6:=(U2.trans (u5.mono (by simp))).trans (hu6.mono (T:=a :: (F ++ X.foot)) (fun g hg=>.inl (by have:=hg6 g hg; simp [this])))
     have b4:=hh6.cell 4 rfl
     have bf4:=hh6.free 4
     clear a0 a11 a4 hrun hP2 u2
     have c4:=hh2.cell 4 rfl
     have uw:Upd [a] W6 (W6.setCell ⟨a,4,none⟩ (.slice p6 (s.writes.length+1:Nat) q6)):=(Upd.refl _ _).setCell (.inl (by simp)) _
     have hwz:∀ g,(Value.slice p6 (s.writes.length+1:Nat) q6).ownBlock=some g → rv.ownBlock≠some g:=fun g hg e=>by
      rcases hat6 with k | k
      ·rw [k] at hg; exact hL.att.apart g e hg
      ·rw [k] at hg; simp at hg; have:=hL1.att.rd.lt e; omega
     have hA7:AttV (W6.setCell ⟨a,4,none⟩ (.slice p6 (s.writes.length+1:Nat) q6)) a X.ra X.ca { s with writes:=s.writes ++ [(x,v)] } G6 rv (.slice p6 (s.writes.length+1:Nat) q6) (.map (some m)):=by
      rw [hl6] at ho6
      refine ⟨hh6.set 4 _,(hr6.upd uw (fun g hg e=>?_)).mono hFG,ho6.upd uw (fun g hg e=>?_),fun g hg e=>hwz g e hg,fun _=>⟨m,rfl,hFG m hmF,hP6.upd uw (by simpa using hma.symm)⟩⟩
      ·simp at hg; subst hg; exact hL.att.not_rd e
      ·simp at hg; subst hg; exact ho6.ne_blk hh6 (by decide) e
     have HL7:=hL1.keep (((hu2.mono (T:=a :: F) (fun q hq=>by simp at hq; subst hq; exact .inl (by simp [hmF]))).trans (u5.mono (by simp))).trans ((hu6.mono (T:=a :: F) (fun g hg=>.inl (List.mem_cons_of_mem _ (hg6 g hg)))).trans (uw.mono (by simp)))) hA7 (fun g hg=>(hGF g hg).imp id (fun h=>by have:=uw.size; omega)) hW
     have RB7:=RB6.upd uw (by simp; omega)
     have U7:=U6.trans (uw.mono (T:=a :: (F ++ X.foot)) (by simp))
     have hrb:∀ g ∈ G6,g ∈ F∨w.heap.size≤g∧g≠w.heap.size:=fun g hg=>(hGF g hg).imp id (fun h=>by have:=RB2.lt; omega)
     clear uw hA7 hh2 hr2 hw2 hr6 hP6 RB2 RB6 U2 U6 u5 hu2 ho6 hwz hL1 hh6
     have q0:=(RB7).cell 0 rfl
     have q1:=(RB7).cell 1 rfl
     have q2:=(RB7).cell 2 rfl
     have q3:=(RB7).cell 3 rfl
     have q4:=(RB7).cell 4 rfl
     have q5:=(RB7).cell 5 rfl
     have q6:=(RB7).cell 6 rfl
     have q7:=(RB7).cell 7 rfl
     have g0:=(RB7).free 0
     have g1:=(RB7).free 1
     have g2:=(RB7).free 2
     have g3:=(RB7).free 3
     have g4:=(RB7).free 4
     have g5:=(RB7).free 5
     have g6:=(RB7).free 6
     have g7:=(RB7).free 7
     go_wp2_with (at_builtin; refine wpList_append_eq rfl _ _ _ _ rfl _ _ _ rfl rfl hrun6 ?_)
     exact bodyPost_ret (turn_results2 6 7 rfl _ _ _ (⟨3,0,⟨3,x,v,false⟩⟩:Trn) (.int .i64 0) rfl rfl (turn_set RB7 rfl (⟨3,0,⟨3,x,v,false⟩⟩:Trn))) rfl (hK _ _ ⟨rfl,fin_step hL (Nat.le_refl _) HL7 U7 hrb (.inl ⟨rfl,rfl⟩) _ _ _ _ _ _ _ _⟩)
    ·have he:putS s sh x v=(trnNone,5,s):=by unfold putS; rw [if_neg (by simp [hp]),if_neg (by simpa using hin),hpl]; simp only; rw [if_neg hfull]
     rw [he]
     have hf1:decide ((s.writes.length:Int)<1024)=false:=by simp; omega
     clear he hpl hp hin hhas
     refine calls_all fun K hK=>?_
     go_enter Tryz.func109,Tryz.ntmps109
     go_wp2_with fail
     obtain ⟨W,hW⟩:∃ W,W=w.alloc (.cells turn0.toArray 140):=⟨_,rfl⟩
     have RB:Blk W w.heap.size turn0 140:=by rw [hW]; exact Blk.new w _ _
     have HU:Upd [] w W:=by rw [hW]; exact (Upd.refl _ _).alloc _
     have hWs:W.heap.size=w.heap.size+1:=by rw [hW]; exact World.size_alloc _ _
     simp only [turn0,trnNone,evNone,Trn.cells] at hW
     rw [← hW]
     clear hW
     refine (HI.out _ HU).mono ?_
     rintro e w' ⟨rfl,rfl⟩
     have hL1:=hL.upd0 HU
     have a0:=hL1.att.head.cell 0 rfl
     go_wp2_with fail
     refine (HH.out _ HU).mono ?_
     rintro e w' ⟨rfl,rfl⟩
     have a11:=hL1.att.head.cell 11 rfl
     have a4:=hL1.att.head.cell 4 rfl
     have hrun:=places_look (hP.upd HU (by simp)) hx
     rw [HLK.out.1,HLK.out.2] at hrun
     have q0:=(RB).cell 0 rfl
     have q1:=(RB).cell 1 rfl
     have q2:=(RB).cell 2 rfl
     have q3:=(RB).cell 3 rfl
     have q4:=(RB).cell 4 rfl
     have q5:=(RB).cell 5 rfl
     have q6:=(RB).cell 6 rfl
     have q7:=(RB).cell 7 rfl
     have g0:=(RB).free 0
     have g1:=(RB).free 1
     have g2:=(RB).free 2
     have g3:=(RB).free 3
     have g4:=(RB).free 4
     have g5:=(RB).free 5
     have g6:=(RB).free 6
     have g7:=(RB).free 7
     go_wp2_with ((at_lookup; with_reducible refine wpList_lookup_eq rfl _ _ _ _ rfl _ _ _ rfl rfl ?_ ?_); exact hrun)
     exact bodyPost_ret (turn_results2 6 7 rfl _ _ _ trnNone (.int .i64 5) rfl rfl (turn_set RB rfl trnNone)) rfl (hK _ _ ⟨rfl,fin_step hL (Nat.le_refl _) hL1 (HU.mono (by simp)) (fun g hg=>.inl hg) (.inl ⟨rfl,rfl⟩) _ _ _ _ _ _ _ _⟩)
  ·rw [decide_eq_false hin] at hhas
   have HH:=Lib.hid hhas
   have he:putS s sh x v=(trnNone,4,s):=by unfold putS; rw [if_neg (by simp [hp]),if_pos hin]
   rw [he]
   clear he hp hin hhas
   refine calls_all fun K hK=>?_
   go_enter Tryz.func109,Tryz.ntmps109
   go_wp2_with fail
   obtain ⟨W,hW⟩:∃ W,W=w.alloc (.cells turn0.toArray 140):=⟨_,rfl⟩
   have RB:Blk W w.heap.size turn0 140:=by rw [hW]; exact Blk.new w _ _
   have HU:Upd [] w W:=by rw [hW]; exact (Upd.refl _ _).alloc _
   have hWs:W.heap.size=w.heap.size+1:=by rw [hW]; exact World.size_alloc _ _
   simp only [turn0,trnNone,evNone,Trn.cells] at hW
   rw [← hW]
   clear hW
   refine (HI.out _ HU).mono ?_
   rintro e w' ⟨rfl,rfl⟩
   have hL1:=hL.upd0 HU
   have a0:=hL1.att.head.cell 0 rfl
   go_wp2_with fail
   refine (HH.out _ HU).mono ?_
   rintro e w' ⟨rfl,rfl⟩
   have q0:=(RB).cell 0 rfl
   have q1:=(RB).cell 1 rfl
   have q2:=(RB).cell 2 rfl
   have q3:=(RB).cell 3 rfl
   have q4:=(RB).cell 4 rfl
   have q5:=(RB).cell 5 rfl
   have q6:=(RB).cell 6 rfl
   have q7:=(RB).cell 7 rfl
   have g0:=(RB).free 0
   have g1:=(RB).free 1
   have g2:=(RB).free 2
   have g3:=(RB).free 3
   have g4:=(RB).free 4
   have g5:=(RB).free 5
   have g6:=(RB).free 6
   have g7:=(RB).free 7
   go_wp2_with fail
   exact bodyPost_ret (turn_results2 6 7 rfl _ _ _ trnNone (.int .i64 4) rfl rfl (turn_set RB rfl trnNone)) rfl (hK _ _ ⟨rfl,fin_step hL (Nat.le_refl _) hL1 (HU.mono (by simp)) (fun g hg=>.inl hg) (.inl ⟨rfl,rfl⟩) _ _ _ _ _ _ _ _⟩)
 ·have he:putS s sh x v=(trnNone,2,s):=by unfold putS; rw [if_pos hp]
  rw [he]
  have hid:=fun W (h:Upd [] w W)=>idle_code (hL.upd0 h)
  rw [(if_neg hp)] at hid
  have HI:=Lib.hid hid
  clear hid
  clear he hp
  refine calls_all fun K hK=>?_
  go_enter Tryz.func109,Tryz.ntmps109
  go_wp2_with fail
  obtain ⟨W,hW⟩:∃ W,W=w.alloc (.cells turn0.toArray 140):=⟨_,rfl⟩
  have RB:Blk W w.heap.size turn0 140:=by rw [hW]; exact Blk.new w _ _
  have HU:Upd [] w W:=by rw [hW]; exact (Upd.refl _ _).alloc _
  have hWs:W.heap.size=w.heap.size+1:=by rw [hW]; exact World.size_alloc _ _
  simp only [turn0,trnNone,evNone,Trn.cells] at hW
  rw [← hW]
  clear hW
  refine (HI.out _ HU).mono ?_
  rintro e w' ⟨rfl,rfl⟩
  have hL1:=hL.upd0 HU
  have q0:=(RB).cell 0 rfl
  have q1:=(RB).cell 1 rfl
  have q2:=(RB).cell 2 rfl
  have q3:=(RB).cell 3 rfl
  have q4:=(RB).cell 4 rfl
  have q5:=(RB).cell 5 rfl
  have q6:=(RB).cell 6 rfl
  have q7:=(RB).cell 7 rfl
  have g0:=(RB).free 0
  have g1:=(RB).free 1
  have g2:=(RB).free 2
  have g3:=(RB).free 3
  have g4:=(RB).free 4
  have g5:=(RB).free 5
  have g6:=(RB).free 6
  have g7:=(RB).free 7
  go_wp2_with fail
  exact bodyPost_ret (turn_results2 6 7 rfl _ _ _ trnNone (.int .i64 2) rfl rfl (turn_set RB rfl trnNone)) rfl (hK _ _ ⟨rfl,fin_step hL (Nat.le_refl _) hL1 (HU.mono (by simp)) (fun g hg=>.inl hg) (.inl ⟨rfl,rfl⟩) _ _ _ _ _ _ _ _⟩)
end
end Go.Proofs.YtehopaabfoopeaaGreat
