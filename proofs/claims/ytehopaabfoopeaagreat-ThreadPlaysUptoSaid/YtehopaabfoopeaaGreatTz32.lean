/- A program lent: in new memory, with a mark behind it. The condition is a size. A thread that is none; cells and a clock that are none. No conditions. The law's nothing. No conditions. Threads over one row and one clock, the program's and the document's: what a step of one leaves of all. No conditions. The lists of threads that a law keeps. No conditions. The document's: is a program formed. The condition is a size. Programs among the arguments. No conditions. The document's thread: Copy. The condition is a size. -/
import Derived.Test.YtehopaabfoopeaaGreatTz30
import Derived.Test.YtehopaabfoopeaaGreatTz23
import Derived.Test.YtehopaabfoopeaaGreatTz25
import Derived.Test.YtehopaabfoopeaaGreatTz31
import Derived.Test.YtehopaabfoopeaaGreatTz08
set_option linter.unusedSimpArgs false
set_option linter.unusedVariables false
set_option maxRecDepth 100000
namespace Go.Proofs.YtehopaabfoopeaaGreat
open Go.RowKit
open Go.Maps
def markI:Ins:=⟨77,0,0,0,0⟩
theorem prog0 (W:World) (g:Nat) (hg:Blk W g [] 50) (po:Option Addr) (cap:Nat) (p:List Ins) (h:CodeAt W po p) (hl:p.length*40≤140737488355328) :
  ∃ v' W',(Builtin.append_ #[41,41] 41 #[.slice (some ⟨g,0,none⟩) 0 0,.slice po p.length cap]).run Tryz.prog W=.ok v' W'∧W'.ownsRow 0 50 5 v' p.length (codeV p)∧Upd [g] W W'∧(v'.ownBlock=some g∨v'.ownBlock=some W.heap.size):=by
 obtain ⟨i0,hi,hz0,hz1,hz2⟩:=info_parts info_instr
 have how:W.ownsRow 0 50 5 (.slice (some ⟨g,0,none⟩) 0 0) 0 []:=⟨rfl,.inr ⟨g,0,#[],rfl,Nat.zero_le _,hg,Nat.le_refl _,by decide,rfl,rfl⟩⟩
 by_cases hz:p=[]
 ·subst hz
  refine ⟨.slice (some ⟨g,0,none⟩) 0 0,W,?_,how,Upd.refl _ _,.inl rfl⟩
  cases po with
  | none=>simp [Builtin.append_,run_underlying Tryz.underlying41,sizeOf,typeInfo,hi,Builtin.lenOf,Builtin.firstCells,storeCells,Addr.add]
  | some a=>simp [Builtin.append_,run_underlying Tryz.underlying41,sizeOf,typeInfo,hi,Builtin.lenOf,Builtin.firstCells,loadCells,loadCellsFrom,storeCells,Addr.add]
 ·obtain ⟨ad,rfl,hsrc⟩:=h.src hz
  have hpos:=List.length_pos_iff.2 hz
  obtain ⟨v',w',hr,ho,hgr,_,hor⟩:=run_append_own_at (P:=Tryz.prog) (w:=W) 0 41 41 50 i0 (.agg #[.int .i64 0,.int .i64 0,.int .i64 0,.int .i64 0,.int .u64 0]) 5 40 Tryz.underlying41 hi hz0 hz1 hz2 rfl (by omega)
   (.slice (some ⟨g,0,none⟩) 0 0) 0 [] how ad p.length cap (codeV p) (codeV_len p) hsrc (fun u hu=>codeV_one hu) (by unfold maxLen; omega) (by omega) (Nat.zero_le _)
  rw [Nat.zero_add,List.nil_append] at ho
  exact ⟨v',w',hr,ho,Upd.own hgr,hor⟩
theorem prog1 {W:World} {v:Value} {n:Nat} {us:List Value} (h:W.ownsRow 0 50 5 v n us) (hl:(n+1)*40≤140737488355328) :
  ∃ v' w',(Builtin.append_ #[41,41] 41 #[v,.slice (some ⟨W.heap.size,0,none⟩) 1 1]).run Tryz.prog (W.alloc (.cells #[.int .i64 77,.int .i64 0,.int .i64 0,.int .i64 0,.int .u64 0] 50))=.ok v' w' ∧
   w'.ownsRow 0 50 5 v' (n+1) (us ++ markI.cells)∧Upd v.ownBlock.toList (W.alloc (.cells #[.int .i64 77,.int .i64 0,.int .i64 0,.int .i64 0,.int .u64 0] 50)) w'∧(v'.ownBlock=v.ownBlock∨v'.ownBlock=some (W.heap.size+1)):=by
 obtain ⟨i0,hi,hz0,hz1,hz2⟩:=info_parts info_instr
 have hW:=own_upd h ((Upd.refl [] W).alloc (.cells #[.int .i64 77,.int .i64 0,.int .i64 0,.int .i64 0,.int .u64 0] 50)) (by simp)
 obtain ⟨v',w',hr,ho,hg,hn,hat⟩:=run_append_own_at (P:=Tryz.prog) (W.alloc (.cells #[.int .i64 77,.int .i64 0,.int .i64 0,.int .i64 0,.int .u64 0] 50)) 0 41 41 50 i0 (.agg #[.int .i64 0,.int .i64 0,.int .i64 0,.int .i64 0,.int .u64 0]) 5 40 Tryz.underlying41 hi hz0 hz1 hz2 rfl (by decide) v n us hW
  ⟨W.heap.size,0,none⟩ 1 1 markI.cells rfl (news_new _ 50 rfl) (by simp [Ins.cells,markI,Value.oneCell']) (by unfold maxLen; omega) hl (Nat.zero_le _)
 rw [World.size_alloc] at hat
 exact ⟨v',w',hr,ho,Upd.own hg,hat⟩
def Lent11 (w:World) (p:List Ins) (e:Ending) (w':World):Prop:=
 ∃ g c2 sp,e=.returned (.slice (some ⟨g,0,none⟩) p.length c2)∧w.heap.size≤g∧p.length+1≤c2∧Blk w' g (codeV p ++ (markI.cells ++ sp)) 50∧Upd [] w w'
set_option maxHeartbeats 1000000 in
theorem lend_code (w:World) (po:Option Addr) (cap:Nat) (p:List Ins) (h:CodeAt w po p) (hl:p.length*40≤140737488351232) :
  Calls Tryz.prog 9 #[.slice po p.length cap] w (Lent11 w p):=by
 obtain ⟨Wb,hWb⟩:∃ W,w.alloc (.cells #[] 50)=W:=⟨_,rfl⟩
 have ub:Upd [] w Wb:=by rw [← hWb]; exact (Upd.refl [] _).alloc _
 have GB:Blk Wb w.heap.size [] 50:=by rw [← hWb]; exact Blk.new w [] 50
 obtain ⟨v1,Wc,hr1,how1,uc,hor1⟩:=prog0 Wb _ GB po cap p (h.upd0 ub) (by omega)
 obtain ⟨v2,We,hr2,how2,ue,hor2⟩:=prog1 how1 (by omega)
 have hs:=World.size_alloc w (.cells #[] 50)
 rw [hWb] at hs
 have hn1:∀ g,v1.ownBlock=some g → w.heap.size≤g:=fun g hg=>by
  rcases hor1 with e | e <;> (rw [e] at hg; cases hg; omega)
 have hsc:=uc.size
 have uac:Upd [] w Wc:=ub.tr (U:=[]) uc (fun g hg=>by simp at hg) (fun g hg=>by simp at hg; subst hg; exact .inr (Nat.le_refl _))
 have uae:Upd [] w We:=(uac.alloc _).tr (U:=[]) ue (fun g hg=>by simp at hg) (fun g hg=>.inr (hn1 g (by simpa using hg)))
 obtain ⟨p1,q1,rfl⟩:=own_form how1
 obtain ⟨k1,k2⟩:=how2
 rcases k2 with ⟨_,k2⟩ | ⟨g,c2,cur,rfl,_,hh,hnc,hcm,hcs,ht⟩
 ·omega
 ·have hg:w.heap.size≤g:=by
   rcases hor2 with e | e
   ·exact hn1 g e.symm
   ·simp only [Value.ownBlock,Option.some.injEq] at e
    omega
  have hB:Blk We g (codeV p ++ (markI.cells ++ cur.toList.drop ((p.length+1)*5))) 50:=by
   unfold Blk
   rw [← List.append_assoc,← ht,List.take_append_drop]
   simpa using hh
  have HF:=Lib.hid (show Lent11 w p (.returned (.slice (some ⟨g,0,none⟩) p.length c2)) We from ⟨g,c2,_,rfl,hg,hnc,hB,uae⟩)
  have hnc2:(p.length:Int)≤(c2:Int):=by omega
  have hnc3:p.length≤c2:=by omega
  clear h GB ub uc ue uac uae hs hsc hn1 hor1 hor2 how1 hh hcm hcs ht hB hg k1 hnc
  refine calls_all fun K hK=>?_
  go_enter Tryz.func9,Tryz.ntmps9
  go_wp2_with (first | (at_builtin; refine wpList_append_eq rfl _ _ _ _ rfl _ _ _ rfl rfl hr1 ?_) | (at_builtin; refine wpList_append_eq rfl _ _ _ _ rfl _ _ _ rfl rfl hr2 ?_))
  all_goals exact HF.out
end Go.Proofs.YtehopaabfoopeaaGreat
set_option linter.unusedSimpArgs false
set_option linter.unusedVariables false
set_option maxRecDepth 100000
namespace Go.Proofs.YtehopaabfoopeaaGreat
open Go.RowKit
open Go.Maps
theorem step_nil (w:World):Calls Tryz.prog 28 #[.pointer none] w fun e w'=>e=.returned (.tuple #[.agg #[.int .i64 0,.int .i64 0,.int .u64 0,.int .u64 0,.bool false,.int .i64 0],.bool false,.int .i64 1])∧Upd [] w w':=by
 have E1:∀ w,(binOp .eql 43 (.pointer none) (.pointer none)).run Tryz.prog w=.ok (.bool true) w:=fun w=>by kernel_rfl
 have hB:=Blk.new w (TE.cells ⟨0,0,0,false,0⟩) 86
 refine calls_all fun K hK=>?_
 go_enter Tryz.func28,Tryz.ntmps28
 go_wp2
 exact bodyPost_ret (ev_results3 2 3 4 rfl _ _ w.heap.size (⟨0,0,0,false,0⟩:TE) (.bool false) (.int .i64 1) rfl rfl rfl hB) rfl (hK _ _ ⟨rfl,(Upd.refl [] _).alloc _⟩)
theorem from_nil_row (w:World) (V:Array Value) (pv ck:Value):Calls Tryz.prog 17 #[.agg V,pv,.pointer none,ck] w fun e w'=>e=.returned (.tuple #[.pointer none,.int .i64 1])∧Upd [] w w':=by
 have E1:∀ w,(binOp .eql 28 (.pointer none) (.pointer none)).run Tryz.prog w=.ok (.bool true) w:=fun w=>by kernel_rfl
 refine calls_all fun K hK=>?_
 go_enter Tryz.func17,Tryz.ntmps17
 go_wp2
 all_goals exact ⟨rfl,(Upd.refl [] _).alloc _⟩
theorem from_nil_clk (w:World) (V:Array Value) (pv:Value) (ra:Nat):Calls Tryz.prog 17 #[.agg V,pv,.pointer (some ⟨ra,0,none⟩),.pointer none] w fun e w'=>e=.returned (.tuple #[.pointer none,.int .i64 1])∧Upd [] w w':=by
 have E1:∀ w,(binOp .eql 28 (.pointer (some ⟨ra,0,none⟩)) (.pointer none)).run Tryz.prog w=.ok (.bool false) w:=fun w=>by kernel_rfl
 have E2:∀ w,(binOp .eql 32 (.pointer none) (.pointer none)).run Tryz.prog w=.ok (.bool true) w:=fun w=>by kernel_rfl
 refine calls_all fun K hK=>?_
 go_enter Tryz.func17,Tryz.ntmps17
 go_wp2
 all_goals exact ⟨rfl,(Upd.refl [] _).alloc _⟩
theorem new_nil (w:World) (pv ck:Value):Calls Tryz.prog 10 #[pv,.pointer none,ck] w fun e w'=>e=.returned (.tuple #[.pointer none,.int .i64 1])∧Upd [] w w':=by
 have HC:=Lib.hid (fun W V=>from_nil_row W V pv ck)
 refine calls_all fun K hK=>?_
 go_enter Tryz.func10,Tryz.ntmps10
 go_wp2_with fail
 refine (HC.out _ _).mono ?_
 rintro e w2 ⟨rfl,u⟩
 go_wp2_with fail
 all_goals exact ⟨rfl,u⟩
theorem status_nil (w:World):Calls Tryz.prog 31 #[.pointer none] w fun e w'=>e=.returned (.int .i64 0)∧w=w':=by
 have E1:∀ w,(binOp .eql 43 (.pointer none) (.pointer none)).run Tryz.prog w=.ok (.bool true) w:=fun w=>by kernel_rfl
 refine calls_all fun K hK=>?_
 go_enter Tryz.func31,Tryz.ntmps31
 go_wp2
 all_goals exact ⟨rfl,rfl⟩
theorem tlocked_nil (w:World):Calls Tryz.prog 38 #[.pointer none] w fun e w'=>e=.returned (.bool false)∧w=w':=by
 have E1:∀ w,(binOp .neq 43 (.pointer none) (.pointer none)).run Tryz.prog w=.ok (.bool false) w:=fun w=>by kernel_rfl
 refine calls_all fun K hK=>?_
 go_enter Tryz.func38,Tryz.ntmps38
 go_wp2
 all_goals exact ⟨rfl,rfl⟩
theorem copy_nil (w:World) (a b:Value):Calls Tryz.prog 24 #[.pointer none,a,b] w fun e w'=>e=.returned (.pointer none)∧w=w':=by
 have E1:∀ w,(binOp .eql 43 (.pointer none) (.pointer none)).run Tryz.prog w=.ok (.bool true) w:=fun w=>by kernel_rfl
 refine calls_all fun K hK=>?_
 go_enter Tryz.func24,Tryz.ntmps24
 go_wp2
 all_goals exact ⟨rfl,rfl⟩
def noT:RT:=⟨0,0,0,zero8,false,0,zero8,0,zeroS⟩
theorem none31:∃ N:List Value,noT.val (.slice none 0 0) (.slice none 0 0)=.agg N.toArray∧Value.agg zero31=.agg N.toArray∧N.length=31∧N.toArray.all (·.oneCell')=true:=⟨zero31.toList,rfl,rfl,rfl,by kernel_rfl⟩
set_option maxHeartbeats 400000 in
theorem state_nil (w:World):Calls Tryz.prog 21 #[.pointer none] w fun e w'=>e=.returned (noT.val (.slice none 0 0) (.slice none 0 0))∧Upd [] w w':=by
 have E1:∀ w,(binOp .eql 43 (.pointer none) (.pointer none)).run Tryz.prog w=.ok (.bool true) w:=fun w=>by kernel_rfl
 obtain ⟨W1,hW1⟩:∃ W,w.alloc (.cells zero31 58)=W:=⟨_,rfl⟩
 have u1:Upd [] w W1:=by rw [← hW1]; exact (Upd.refl [] _).alloc _
 have B1:Blk W1 w.heap.size zero31.toList 58:=by rw [← hW1]; exact Blk.new w zero31.toList 58
 obtain ⟨N,hv,hy,hl,h1⟩:=none31
 have HTH:=Lib.hid (B1.there 0 31 (by simp [zero31]))
 have HU:=Lib.hid u1
 have HY:=Lib.hid hy
 rw [hv]
 clear hv u1 B1 hy
 simp only [zero31] at hW1
 refine calls_all fun K hK=>?_
 go_enter Tryz.func21,Tryz.ntmps21
 go_wp2_with (first
  | ((with_reducible refine wpList_store_mid (op:=⟨none,.store 58 (.tmp 2) (.tmp 6),_,_,_,_⟩) rfl 58 _ _ rfl w.heap.size 0 N.toArray ?_ ?_ (by simpa [hl] using HTH.out) (by simp only [List.size_toArray,hl]; kernel_rfl) h1 ?_); (· rfl); (· exact HY.out)))
 refine bodyPost_ret (tst_resultsK rfl _ _ w.heap.size N rfl (World.rangeAt_setCells_same W1 _ 0 N (by rw [hl]; exact HTH.out)) hl) rfl (hK _ _ ⟨rfl,Upd.rows _ 0 HU.out (.inr (Nat.le_refl _))⟩)
end Go.Proofs.YtehopaabfoopeaaGreat
set_option linter.unusedSimpArgs false
set_option linter.unusedVariables false
set_option maxRecDepth 100000
namespace Go.Proofs.YtehopaabfoopeaaGreat
open Go.RowKit
open Go.Maps
set_option maxHeartbeats 4000000 in
theorem nothing_code (w:World) (ra ca:Nat):Calls Tryz.prog 15 #[.pointer (some ⟨ra,0,none⟩),.pointer (some ⟨ca,0,none⟩)] w fun e w'=>e=.returned (.bool true)∧Upd [] w w':=by
 have E1:∀ w,(binOp .eql 43 (.pointer none) (.pointer none)).run Tryz.prog w=.ok (.bool true) w:=fun w=>by kernel_rfl
 refine calls_all fun K hK=>?_
 go_enter Tryz.func15,Tryz.ntmps15
 go_wp2_with fail
 refine (step_nil w).mono ?_
 rintro e W1 ⟨rfl,u1⟩
 go_upto_region 3 with (fail)
 obtain ⟨W2,hW2⟩:∃ W,W1.alloc (.cells #[.int .i64 0,.int .i64 0,.int .u64 0,.int .u64 0,.bool false,.int .i64 0] 86)=W:=⟨_,rfl⟩
 have u2:Upd [] W1 W2:=by rw [← hW2]; exact (Upd.refl [] _).alloc _
 have EB:Blk W2 W1.heap.size [.int .i64 0,.int .i64 0,.int .u64 0,.int .u64 0,.bool false,.int .i64 0] 86:=by rw [← hW2]; exact Blk.new _ _ _
 have HU2:=Lib.hid (u1.trans u2)
 rw [hW2]
 clear hW2 u1 u2
 generalize W1.heap.size=eb at EB ⊢
 have HE2:=Lib.hid EB
 clear EB
 go_wp2_with fail
 refine (doubles_code _).mono ?_
 rintro e W3 ⟨g3,rfl,_,_,u3⟩
 go_wp2_with fail
 refine (new_nil _ _ _).mono ?_
 rintro e W4 ⟨rfl,u4⟩
 go_wp2_with fail
 refine (xnew _).mono ?_
 rintro e W5 ⟨rfl,u5⟩
 go_wp2_with fail
 refine (doubles_code _).mono ?_
 rintro e W6 ⟨g6,rfl,_,_,u6⟩
 go_wp2_with fail
 refine (from_nil_clk _ _ _ ra).mono ?_
 rintro e W7 ⟨rfl,u7⟩
 have u37:=u3.trans (u4.trans (u5.trans (u6.trans u7)))
 have HE7:=Lib.hid (HE2.out.upd u37 (by simp))
 have HU7:=Lib.hid (HU2.out.trans u37)
 clear u3 u4 u5 u6 u7 u37 HE2 HU2
 have q0:=((HE7.out).cell 0 rfl)
 have q1:=((HE7.out).cell 1 rfl)
 have q2:=((HE7.out).cell 2 rfl)
 have q3:=((HE7.out).cell 3 rfl)
 have q4:=((HE7.out).cell 4 rfl)
 have q5:=((HE7.out).cell 5 rfl)
 go_wp2_with fail
 refine (num11_code _ _).mono ?_
 rintro e w8 ⟨rfl,rfl⟩
 go_wp2_with fail
 refine (status_nil _).mono ?_
 rintro e w8 ⟨rfl,rfl⟩
 go_wp2_with fail
 refine (tlocked_nil _).mono ?_
 rintro e w8 ⟨rfl,rfl⟩
 go_wp2_with fail
 refine (state_nil _).mono ?_
 rintro e W8 ⟨rfl,u8⟩
 have HZ:=Lib.hid (show noT.val (.slice none 0 0) (.slice none 0 0)=.agg #[.int .i64 0,.int .i64 0,.int .i64 0,.int .u64 0,.int .u64 0,.int .u64 0,.int .u64 0,.int .u64 0,.int .u64 0,.int .u64 0,.int .u64 0,.bool false,.int .i64 0,.int .u64 0,.int .u64 0,.int .u64 0,.int .u64 0,.int .u64 0,.int .u64 0,.int .u64 0,.int .u64 0,.int .i64 0,.int .u64 0,.slice none 0 0,.slice none 0 0,.int .i64 0,.int .i64 0,.int .u64 0,.int .u64 0,.int .u64 0,.int .i64 0] from rfl)
 have hx:=xsame W8 noT (.slice none 0 0) (.slice none 0 0) (.slice none 0 0) (.slice none 0 0) rfl rfl (SlC.nil _) (SlC.nil _) (SlC.nil _) (SlC.nil _) (by decide) (by decide)
 obtain ⟨V,hV⟩:∃ V,noT.val (.slice none 0 0) (.slice none 0 0)=V:=⟨_,rfl⟩
 rw [hV] at hx HZ ⊢
 clear hV
 have HX:=Lib.hid hx
 clear hx q0 q1 q2 q3 q4 q5
 go_wp2_with fail
 rw [← HZ.out]
 refine HX.out.mono ?_
 rintro e W9 ⟨rfl,u9⟩
 have HU9:=Lib.hid (HU7.out.trans (u8.trans u9))
 clear u8 u9 HX HU7 HZ
 go_wp2_with fail
 refine (copy_nil _ _ _).mono ?_
 rintro e w8 ⟨rfl,rfl⟩
 go_wp2_with fail
 refine (num11_code _ _).mono ?_
 rintro e w8 ⟨rfl,rfl⟩
 go_wp2_with fail
 refine (num11_code _ _).mono ?_
 rintro e w8 ⟨rfl,rfl⟩
 go_wp2_with fail
 all_goals exact ⟨rfl,HU9.out⟩
end Go.Proofs.YtehopaabfoopeaaGreat
set_option linter.unusedSimpArgs false
set_option linter.unusedVariables false
set_option maxRecDepth 100000
namespace Go.Proofs.YtehopaabfoopeaaGreat
open Go.RowKit
open Go.Maps
section
variable {w w':World} {X:SX} {sh sh':Sh} {acc st acc' st':Int} {p:List Ins} {pb cap tb:Nat} {t:TS} {o:AO}
theorem TV.shift (h:TV w X sh acc st p pb cap tb t o) {S:List Nat} (hX:X.At w' sh' acc' st') (u:Upd S w w') (hS:∀ g ∈ S,g ∈ X.foot∨¬ inTh X pb tb o g):TV w' X sh' acc' st' p pb cap tb t o:=by
 have h4:=h.ap
 have hn:∀ g,(g=tb∨g=pb∨g ∈ o.foot) → g ∉ X.foot → g ∉ S:=fun g hg hx e=>by
  rcases hS g e with k | k
  ·exact hx k
  ·exact k (by rcases hg with z | z | z; exact .inl z; exact .inr (.inl z); exact .inr (.inr (.inl z)))
 refine ⟨h.head.upd u (hn _ (.inl rfl) h4.2.1),h.prog.upd u (hn _ (.inr (.inl rfl)) h4.2.2.1),hX,?_,h.r8,h.s8,h4⟩
 rcases h.att with k | ⟨s,a,F,rv,wv,mv,e,rfl,hL⟩
 ·exact .inl k
 ·refine .inr ⟨s,a,F,rv,wv,mv,e,rfl,⟨hL.att.upd u (hn _ (.inr (.inr (by simp [AO.foot]))) hL.out) (fun g hg=>hn _ (.inr (.inr (by simp [AO.foot,hg]))) (hL.sep g hg).2.1),hX,fun g hg=>⟨Nat.lt_of_lt_of_le (hL.sep g hg).1 u.size,(hL.sep g hg).2⟩,hL.wide⟩⟩
end
structure Ths (w0:World) (X:SX) (wb qb:Nat) (θs:List Thr) (sh:Sh) (acc st:Int) (W:World):Prop where
 th:∀ (i:Nat) (θ:Thr),θs[i]? = some θ → TH W X sh acc st wb qb θ
 apart:∀ (i j:Nat) (θ η:Thr),θs[i]? = some θ → θs[j]? = some η → i≠j → ∀ g,θ.mine g → ¬ η.mine g
 new:∀ θ ∈ θs,∀ g,θ.mine g → w0.heap.size≤g
 po:∀ θ ∈ θs,∀ b o,θ.po=some ⟨b,o,none⟩ → b<w0.heap.size
 xa:X.At W sh acc st
 wo:WB W wb qb sh
 base:(∀ g ∈ X.foot,w0.heap.size≤g∧g≠wb∧g≠qb)∧w0.heap.size≤wb∧w0.heap.size≤qb
 u:Upd [] w0 W
section
variable {w0 W W':World} {X:SX} {sh sh':Sh} {acc st acc' st':Int} {wb qb:Nat} {θ η:Thr} {θs:List Thr}
theorem TH.mine_lt (h:TH W X sh acc st wb qb θ) {g:Nat} (hg:θ.mine g):g<W.heap.size:=by
 rcases hg with k | k | k | k | k | k
 ·exact h.tv.lt (.inl k)
 ·exact h.tv.lt (.inr (.inl k))
 ·exact h.tv.lt (.inr (.inr (.inl k)))
 ·rw [k]; exact h.rs.th.lt
 ·exact (h.rs.th.ap g (.inl k)).2
 ·exact (h.rs.th.ap g (.inr k)).2
theorem TH.mine_x (h:TH W X sh acc st wb qb θ) (hx:∀ g ∈ X.foot,g≠wb∧g≠qb) {g:Nat} (hg:θ.mine g):g ∉ X.foot∧g≠wb∧g≠qb:=by
 have hxi:g ∈ X.foot → inTh X θ.pb θ.tb θ.o g:=fun k=>.inr (.inr (.inr k))
 have hne:=h.rs.ne
 rcases hg with k | k | k | k | k | k
 ·have hh:=h.ap1 g (.inl k)
  exact ⟨k ▸ h.tv.ap.2.1,hh.2.1,hh.2.2.1⟩
 ·have hh:=h.ap1 g (.inr (.inl k))
  exact ⟨k ▸ h.tv.ap.2.2.1,hh.2.1,hh.2.2.1⟩
 ·have hh:=h.ap1 g (.inr (.inr (.inl k)))
  refine ⟨fun e=>?_,hh.2.1,hh.2.2.1⟩
  rcases h.tv.att with ⟨_,e0⟩ | ⟨s,a,F,rv,wv,mv,_,e0,hL⟩
  ·rw [e0] at k; simp [AO.foot] at k
  ·rw [e0] at k
   simp only [AO.foot,List.mem_cons] at k
   rcases k with rfl | k
   ·exact hL.out e
   ·exact (hL.sep g k).2.1 e
 ·exact ⟨fun e=>(h.ap1 g (hxi e)).1 k,fun e=>hne.1 (by omega),fun e=>hne.2 (by omega)⟩
 ·have:=h.rs.ap g (.inl k)
  exact ⟨fun e=>(h.ap1 g (hxi e)).2.2.2.1 k,this.1,this.2⟩
 ·have:=h.rs.ap g (.inr k)
  exact ⟨fun e=>(h.ap1 g (hxi e)).2.2.2.2 k,this.1,this.2⟩
theorem TH.other (h:TH W X sh acc st wb qb η) (hX:X.At W' sh' acc' st') (hW:WB W' wb qb sh') {S:List Nat} (u:Upd S W W') (hS:∀ g ∈ S,g ∈ X.foot∨g=wb∨g=qb∨¬ η.mine g) (hb:∀ g ∈ X.foot,g≠wb∧g≠qb) (hp:∀ b o,η.po=some ⟨b,o,none⟩ → b ∉ S):TH W' X sh' acc' st' wb qb η:=by
 have hm:∀ g,η.mine g → g ∉ S:=fun g hg e=>by
  have:=h.mine_x hb hg
  rcases hS g e with k | k | k | k
  ·exact this.1 k
  ·exact this.2.1 k
  ·exact this.2.2 k
  ·exact k hg
 refine ⟨h.tv.shift hX u (fun g hg=>?_),⟨h.rs.th.upd u (hm _ (.inr (.inr (.inr (.inl rfl))))) (fun g hg=>hm g (by rcases hg with k | k; exact .inr (.inr (.inr (.inr (.inl k)))); exact .inr (.inr (.inr (.inr (.inr k)))))),hW,h.rs.ap⟩,h.may,h.rw,h.fp,h.num,h.code.upd u hp,h.ap1,h.ap2⟩
 by_cases hx:g ∈ X.foot
 ·exact .inl hx
 ·refine .inr fun hi=>?_
  rcases hi with k | k | k | k
  ·exact hm g (.inl k) hg
  ·exact hm g (.inr (.inl k)) hg
  ·exact hm g (.inr (.inr (.inl k))) hg
  ·exact hx k
theorem Ths.mine_lt (h:Ths w0 X wb qb θs sh acc st W) {i:Nat} (hi:θs[i]? = some θ) {g:Nat} (hg:θ.mine g):g<W.heap.size:=(h.th i θ hi).mine_lt hg
theorem Ths.step (h:Ths w0 X wb qb θs sh acc st W) {n:Nat} (hn:θs[n]? = some θ) {θ':Thr} (h1:TH W' X sh' acc' st' wb qb θ') (u:Upd (θ.tb :: (θ.o.foot ++ X.foot) ++ [θ.rb,wb,qb]) W W') (hm:∀ g,θ'.mine g → θ.mine g∨W.heap.size≤g) (hpo:θ'.po=θ.po) :
  Ths w0 X wb qb (θs.set n θ') sh' acc' st' W':=by
 have hnl:=(List.getElem?_eq_some_iff.1 hn).1
 have hs0:=h.u.size
 have hset:∀ i η,(θs.set n θ')[i]? = some η → (i=n∧η=θ')∨(i≠n∧θs[i]? = some η):=fun i η hi=>by
  by_cases e:i=n
  ·subst e
   rw [List.getElem?_set_self hnl] at hi
   exact .inl ⟨rfl,by cases hi; rfl⟩
  ·rw [List.getElem?_set_ne (Ne.symm e)] at hi
   exact .inr ⟨e,hi⟩
 have hfoot:∀ g ∈ (θ.tb :: (θ.o.foot ++ X.foot) ++ [θ.rb,wb,qb]),g ∈ X.foot∨g=wb∨g=qb∨θ.mine g:=fun g hg=>by
  rcases List.mem_append.1 hg with k | k
  ·rcases List.mem_cons.1 k with k | k
   ·exact .inr (.inr (.inr (.inl k)))
   ·rcases List.mem_append.1 k with k | k
    ·exact .inr (.inr (.inr (.inr (.inr (.inl k)))))
    ·exact .inl k
  ·simp only [List.mem_cons,List.not_mem_nil,or_false] at k
   rcases k with k | k | k
   ·exact .inr (.inr (.inr (.inr (.inr (.inr (.inl k))))))
   ·exact .inr (.inl k)
   ·exact .inr (.inr (.inl k))
 have hxw:∀ g ∈ X.foot,g≠wb∧g≠qb:=fun g hg=>(h.base.1 g hg).2
 refine ⟨fun i η hi=>?_,fun i j η ζ hi hj hij g hg=>?_,fun η hη g hg=>?_,fun η hη b o e=>?_,h1.tv.xa,h1.rs.wo,h.base,?_⟩
 ·rcases hset i η hi with ⟨_,rfl⟩ | ⟨hne,hi'⟩
  ·exact h1
  ·refine (h.th i η hi').other h1.tv.xa h1.rs.wo u (fun g hg=>?_) hxw (fun b o e k=>?_)
   ·rcases hfoot g hg with k | k | k | k
    ·exact .inl k
    ·exact .inr (.inl k)
    ·exact .inr (.inr (.inl k))
    ·exact .inr (.inr (.inr (h.apart n i θ η hn hi' (Ne.symm hne) g k)))
   ·have hb:=h.po η (List.mem_of_getElem? hi') b o e
    rcases hfoot b k with z | z | z | z
    ·have:=(h.base.1 b z).1; omega
    ·have:=h.base.2.1; omega
    ·have:=h.base.2.2; omega
    ·have:=h.new θ (List.mem_of_getElem? hn) b z; omega
 ·rcases hset i η hi with ⟨e1,rfl⟩ | ⟨hne,hi'⟩
  ·rcases hset j ζ hj with ⟨e2,rfl⟩ | ⟨hne2,hj'⟩
   ·omega
   ·rcases hm g hg with k | k
    ·exact h.apart n j θ ζ hn hj' (by omega) g k
    ·intro hz
     have:=h.mine_lt hj' hz
     omega
  ·rcases hset j ζ hj with ⟨e2,rfl⟩ | ⟨hne2,hj'⟩
   ·intro hz
    rcases hm g hz with k | k
    ·exact h.apart i n η θ hi' hn (by omega) g hg k
    ·have:=h.mine_lt hi' hg
     omega
   ·exact h.apart i j η ζ hi' hj' hij g hg
 ·obtain ⟨i,hi⟩:=List.getElem?_of_mem hη
  rcases hset i η hi with ⟨_,rfl⟩ | ⟨_,hi'⟩
  ·rcases hm g hg with k | k
   ·exact h.new θ (List.mem_of_getElem? hn) g k
   ·omega
  ·exact h.new η (List.mem_of_getElem? hi') g hg
 ·obtain ⟨i,hi⟩:=List.getElem?_of_mem hη
  rcases hset i η hi with ⟨_,rfl⟩ | ⟨_,hi'⟩
  ·exact h.po θ (List.mem_of_getElem? hn) b o (by rw [← hpo]; exact e)
  ·exact h.po η (List.mem_of_getElem? hi') b o e
 ·refine h.u.tr (U:=[]) u (fun g hg=>by simp at hg) (fun g hg=>.inr ?_)
  rcases hfoot g hg with k | k | k | k
  ·exact (h.base.1 g k).1
  ·rw [k]; exact h.base.2.1
  ·rw [k]; exact h.base.2.2
  ·exact h.new θ (List.mem_of_getElem? hn) g k
theorem Ths.upd {S:List Nat} (h:Ths w0 X wb qb θs sh acc st W) (u:Upd S W W') (hS:∀ g ∈ S,w0.heap.size≤g∧g ∉ X.foot∧g≠wb∧g≠qb∧∀ θ ∈ θs,¬ θ.mine g):Ths w0 X wb qb θs sh acc st W':=by
 have hxw:∀ g ∈ X.foot,g≠wb∧g≠qb:=fun g hg=>(h.base.1 g hg).2
 have hX:=h.xa.upd u (fun g hg e=>(hS g e).2.1 hg)
 have hW:=h.wo.upd u (fun e=>(hS _ e).2.2.1 rfl) (fun e=>(hS _ e).2.2.2.1 rfl)
 exact ⟨fun i θ hi=>(h.th i θ hi).other hX hW u (fun g hg=>.inr (.inr (.inr ((hS g hg).2.2.2.2 θ (List.mem_of_getElem? hi))))) hxw (fun b o e k=>by
  have h1:=h.po θ (List.mem_of_getElem? hi) b o e
  have h2:=(hS b k).1
  omega),h.apart,h.new,h.po,hX,hW,h.base,h.u.tr (U:=[]) u (fun g hg=>by simp at hg) (fun g hg=>.inr (hS g hg).1)⟩
theorem Ths.upd0 (h:Ths w0 X wb qb θs sh acc st W) (u:Upd [] W W'):Ths w0 X wb qb θs sh acc st W':=h.upd u (by simp)
theorem Ths.push (h:Ths w0 X wb qb θs sh acc st W) (h1:TH W X sh acc st wb qb θ) (hn:∀ g,θ.mine g → w0.heap.size≤g∧∀ η ∈ θs,¬ η.mine g) (hp:∀ b o,θ.po=some ⟨b,o,none⟩ → b<w0.heap.size):Ths w0 X wb qb (θs ++ [θ]) sh acc st W:=by
 have hget:∀ i η,(θs ++ [θ])[i]? = some η → θs[i]? = some η∨(i=θs.length∧η=θ):=fun i η hi=>by
  by_cases hl:i<θs.length
  ·rw [List.getElem?_append_left hl] at hi; exact .inl hi
  ·rw [List.getElem?_append_right (by omega)] at hi
   have:i - θs.length=0:=by
    by_cases h0:i - θs.length=0
    ·exact h0
    ·rw [List.getElem?_eq_none (by simp; omega)] at hi; cases hi
   rw [this] at hi
   simp at hi
   exact .inr ⟨by omega,hi.symm⟩
 refine ⟨fun i η hi=>?_,fun i j η ζ hi hj hij g hg=>?_,fun η hη g hg=>?_,fun η hη b o e=>?_,h.xa,h.wo,h.base,h.u⟩
 ·rcases hget i η hi with k | ⟨_,rfl⟩
  ·exact h.th i η k
  ·exact h1
 ·rcases hget i η hi with k | ⟨e1,rfl⟩
  ·rcases hget j ζ hj with z | ⟨e2,rfl⟩
   ·exact h.apart i j η ζ k z hij g hg
   ·exact fun hz=>(hn g hz).2 η (List.mem_of_getElem? k) hg
  ·rcases hget j ζ hj with z | ⟨e2,rfl⟩
   ·exact (hn g hg).2 ζ (List.mem_of_getElem? z)
   ·omega
 ·rcases List.mem_append.1 hη with k | k
  ·exact h.new η k g hg
  ·simp at k; subst k; exact (hn g hg).1
 ·rcases List.mem_append.1 hη with k | k
  ·exact h.po η k b o e
  ·simp at k; subst k; exact hp b o e
end
end Go.Proofs.YtehopaabfoopeaaGreat
set_option linter.unusedSimpArgs false
set_option linter.unusedVariables false
set_option maxRecDepth 100000
namespace Go.Proofs.YtehopaabfoopeaaGreat
open Go.RowKit
open Go.Maps
theorem info_thr:(Tryz.prog.info? 43).map (fun i=>(i.zero,i.size,i.bytes))=some (some (.pointer none),1,8):=by kernel_rfl
theorem app_thr {W:World} {base:Nat} {v:Value} {n:Nat} {us:List Value} (h:W.ownsRow base 43 1 v n us) (x:Value) (hx:x.oneCell'=true) (hn:n≤1000000000000) (hb:base≤W.heap.size) :
  ∃ v' w',(Builtin.append_ #[39,39] 39 #[v,.slice (some ⟨W.heap.size,0,none⟩) 1 1]).run Tryz.prog (W.alloc (.cells #[x] 43))=.ok v' w'∧w'.ownsRow base 43 1 v' (n+1) (us ++ [x])∧Upd v.ownBlock.toList (W.alloc (.cells #[x] 43)) w'∧(v'.ownBlock=v.ownBlock∨v'.ownBlock=some (W.heap.size+1)):=by
 obtain ⟨i0,hi,hz0,hz1,hz2⟩:=info_parts info_thr
 have hW:=own_upd h ((Upd.refl [] W).alloc (.cells #[x] 43)) (by simp)
 obtain ⟨v',w',hr,ho,hg,_,hat⟩:=run_append_own_at (P:=Tryz.prog) (W.alloc (.cells #[x] 43)) base 39 39 43 i0 (.pointer none) 1 8 Tryz.underlying39 hi hz0 hz1 hz2 rfl (by decide) v n us hW
  ⟨W.heap.size,0,none⟩ 1 1 [x] rfl (news_new _ 43 rfl) (by simpa using hx) (by unfold maxLen; omega) (by omega) (by rw [World.size_alloc]; omega)
 rw [World.size_alloc] at hat
 exact ⟨v',w',hr,ho,Upd.own hg,hat⟩
theorem info_tst:(Tryz.prog.info? 60).map (fun i=>(i.zero,i.size,i.bytes))=some (some (.pointer none),1,8):=by kernel_rfl
theorem app_tst {W:World} {base:Nat} {v:Value} {n:Nat} {us:List Value} (h:W.ownsRow base 60 1 v n us) (x:Value) (hx:x.oneCell'=true) (hn:n≤1000000000000) (hb:base≤W.heap.size) :
  ∃ v' w',(Builtin.append_ #[40,40] 40 #[v,.slice (some ⟨W.heap.size,0,none⟩) 1 1]).run Tryz.prog (W.alloc (.cells #[x] 60))=.ok v' w'∧w'.ownsRow base 60 1 v' (n+1) (us ++ [x])∧Upd v.ownBlock.toList (W.alloc (.cells #[x] 60)) w'∧(v'.ownBlock=v.ownBlock∨v'.ownBlock=some (W.heap.size+1)):=by
 obtain ⟨i0,hi,hz0,hz1,hz2⟩:=info_parts info_tst
 have hW:=own_upd h ((Upd.refl [] W).alloc (.cells #[x] 60)) (by simp)
 obtain ⟨v',w',hr,ho,hg,_,hat⟩:=run_append_own_at (P:=Tryz.prog) (W.alloc (.cells #[x] 60)) base 40 40 60 i0 (.pointer none) 1 8 Tryz.underlying40 hi hz0 hz1 hz2 rfl (by decide) v n us hW
  ⟨W.heap.size,0,none⟩ 1 1 [x] rfl (news_new _ 60 rfl) (by simpa using hx) (by unfold maxLen; omega) (by omega) (by rw [World.size_alloc]; omega)
 rw [World.size_alloc] at hat
 exact ⟨v',w',hr,ho,Upd.own hg,hat⟩
theorem info_prg:(Tryz.prog.info? 41).map (fun i=>(i.zero,i.size,i.bytes))=some (some (.slice none 0 0),1,24):=by kernel_rfl
theorem app_prg {W:World} {base:Nat} {v:Value} {n:Nat} {us:List Value} (h:W.ownsRow base 41 1 v n us) (x:Value) (hx:x.oneCell'=true) (hn:n≤1000000000000) (hb:base≤W.heap.size) :
  ∃ v' w',(Builtin.append_ #[24,24] 24 #[v,.slice (some ⟨W.heap.size,0,none⟩) 1 1]).run Tryz.prog (W.alloc (.cells #[x] 41))=.ok v' w'∧w'.ownsRow base 41 1 v' (n+1) (us ++ [x])∧Upd v.ownBlock.toList (W.alloc (.cells #[x] 41)) w'∧(v'.ownBlock=v.ownBlock∨v'.ownBlock=some (W.heap.size+1)):=by
 obtain ⟨i0,hi,hz0,hz1,hz2⟩:=info_parts info_prg
 have hW:=own_upd h ((Upd.refl [] W).alloc (.cells #[x] 41)) (by simp)
 obtain ⟨v',w',hr,ho,hg,_,hat⟩:=run_append_own_at (P:=Tryz.prog) (W.alloc (.cells #[x] 41)) base 24 24 41 i0 (.slice none 0 0) 1 24 Tryz.underlying24 hi hz0 hz1 hz2 rfl (by decide) v n us hW
  ⟨W.heap.size,0,none⟩ 1 1 [x] rfl (news_new _ 41 rfl) (by simpa using hx) (by unfold maxLen; omega) (by omega) (by rw [World.size_alloc]; omega)
 rw [World.size_alloc] at hat
 exact ⟨v',w',hr,ho,Upd.own hg,hat⟩
def Thr.own (θ:Thr):Value:=.pointer (some ⟨θ.tb,0,none⟩)
def Thr.ref (θ:Thr):Value:=.pointer (some ⟨θ.rb,0,none⟩)
def Thr.code (θ:Thr):Value:=.slice θ.po θ.p.length θ.pc
structure PLs (w0:World) (X:SX) (wb qb:Nat) (θs:List Thr) (vo vr vc:Value) (W:World):Prop where
 o:W.ownsRow w0.heap.size 43 1 vo θs.length (θs.map Thr.own)
 r:W.ownsRow w0.heap.size 60 1 vr θs.length (θs.map Thr.ref)
 c:W.ownsRow w0.heap.size 41 1 vc θs.length (θs.map Thr.code)
 ap:∀ g,(vo.ownBlock=some g∨vr.ownBlock=some g∨vc.ownBlock=some g) → (w0.heap.size≤g∧g ∉ X.foot∧g≠wb∧g≠qb∧∀ θ ∈ θs,¬ θ.mine g)∧g<W.heap.size
 ne:∀ g,(vo.ownBlock=some g → vr.ownBlock≠some g∧vc.ownBlock≠some g)∧(vr.ownBlock=some g → vc.ownBlock≠some g)
section
variable {w0 W W':World} {X:SX} {sh sh':Sh} {acc st acc' st':Int} {wb qb:Nat} {θ η:Thr} {θs:List Thr} {vo vr vc:Value}
theorem PLs.upd {S:List Nat} (h:PLs w0 X wb qb θs vo vr vc W) (u:Upd S W W') (hS:∀ g ∈ S,vo.ownBlock≠some g∧vr.ownBlock≠some g∧vc.ownBlock≠some g):PLs w0 X wb qb θs vo vr vc W':=
 ⟨own_upd h.o u (fun g hg=>(hS g hg).1),own_upd h.r u (fun g hg=>(hS g hg).2.1),own_upd h.c u (fun g hg=>(hS g hg).2.2),fun g hg=>⟨(h.ap g hg).1,Nat.lt_of_lt_of_le (h.ap g hg).2 u.size⟩,h.ne⟩
theorem PLs.upd0 (h:PLs w0 X wb qb θs vo vr vc W) (u:Upd [] W W'):PLs w0 X wb qb θs vo vr vc W':=h.upd u (by simp)
theorem PLs.step (h:PLs w0 X wb qb θs vo vr vc W) {n:Nat} (hn:θs[n]? = some θ) {θ':Thr} (u:Upd (θ.tb :: (θ.o.foot ++ X.foot) ++ [θ.rb,wb,qb]) W W') (hm:∀ g,θ'.mine g → θ.mine g∨W.heap.size≤g) (h1:θ'.own=θ.own) (h2:θ'.ref=θ.ref) (h3:θ'.code=θ.code) :
  PLs w0 X wb qb (θs.set n θ') vo vr vc W':=by
 have hmem:=List.mem_of_getElem? hn
 have hfoot:∀ g ∈ (θ.tb :: (θ.o.foot ++ X.foot) ++ [θ.rb,wb,qb]),g ∈ X.foot∨g=wb∨g=qb∨θ.mine g:=fun g hg=>by
  rcases List.mem_append.1 hg with k | k
  ·rcases List.mem_cons.1 k with k | k
   ·exact .inr (.inr (.inr (.inl k)))
   ·rcases List.mem_append.1 k with k | k
    ·exact .inr (.inr (.inr (.inr (.inr (.inl k)))))
    ·exact .inl k
  ·simp only [List.mem_cons,List.not_mem_nil,or_false] at k
   rcases k with k | k | k
   ·exact .inr (.inr (.inr (.inr (.inr (.inr (.inl k))))))
   ·exact .inr (.inl k)
   ·exact .inr (.inr (.inl k))
 have hno:∀ g,(vo.ownBlock=some g∨vr.ownBlock=some g∨vc.ownBlock=some g) → g ∉ (θ.tb :: (θ.o.foot ++ X.foot) ++ [θ.rb,wb,qb]):=fun g hg e=>by
  have:=(h.ap g hg).1
  rcases hfoot g e with k | k | k | k
  ·exact this.2.1 k
  ·exact this.2.2.1 k
  ·exact this.2.2.2.1 k
  ·exact this.2.2.2.2 θ hmem k
 have hu:=h.upd u (fun g hg=>⟨fun e=>hno g (.inl e) hg,fun e=>hno g (.inr (.inl e)) hg,fun e=>hno g (.inr (.inr e)) hg⟩)
 have hset:∀ (f:Thr → Value),f θ'=f θ → (θs.set n θ').map f=θs.map f:=fun f hf=>by
  rw [List.map_set,hf]
  apply List.ext_getElem?
  intro j
  by_cases e:j=n
  ·subst e
   have hl:=(List.getElem?_eq_some_iff.1 hn).1
   rw [List.getElem?_set_self (by simpa using hl),List.getElem?_map,hn]
   rfl
  ·rw [List.getElem?_set_ne (Ne.symm e)]
 refine ⟨by rw [hset _ h1,List.length_set]; exact hu.o,by rw [hset _ h2,List.length_set]; exact hu.r,by rw [hset _ h3,List.length_set]; exact hu.c,fun g hg=>⟨?_,(hu.ap g hg).2⟩,h.ne⟩
 have hq:=h.ap g hg
 refine ⟨hq.1.1,hq.1.2.1,hq.1.2.2.1,hq.1.2.2.2.1,fun η hη hi=>?_⟩
 rcases List.mem_or_eq_of_mem_set hη with k | rfl
 ·exact hq.1.2.2.2.2 η k hi
 ·rcases hm g hi with k | k
  ·exact hq.1.2.2.2.2 θ hmem k
  ·omega
end
theorem own_row_lt {w:World} {base:Nat} {e:TypeId} {size n:Nat} {v:Value} {us:List Value} (h:w.ownsRow base e size v n us) {g:Nat} (hg:v.ownBlock=some g):g<w.heap.size:=by
 rcases h.2 with ⟨e,_⟩ | ⟨b,cap,sp,e,_,hb,_⟩
 ·rw [e] at hg; simp [Value.ownBlock] at hg
 ·rw [e] at hg
  simp only [Value.ownBlock,Option.some.injEq] at hg
  subst hg
  exact Blk.lt hb
section
variable {w0 W:World} {X:SX} {sh:Sh} {acc st:Int} {wb qb:Nat} {θ:Thr} {θs:List Thr} {vo vr vc:Value}
theorem push3 (h:PLs w0 X wb qb θs vo vr vc W) (hT:Ths w0 X wb qb θs sh acc st W) (h1:TH W X sh acc st wb qb θ) (hn:∀ g,θ.mine g → w0.heap.size≤g∧(∀ η ∈ θs,¬ η.mine g)∧vo.ownBlock≠some g∧vr.ownBlock≠some g∧vc.ownBlock≠some g) (hp:∀ b o,θ.po=some ⟨b,o,none⟩ → b<w0.heap.size) (hl:θs.length≤100000000) :
  ∃ v7 Wg v8 Wh v9 Wi,(Builtin.append_ #[39,39] 39 #[vo,.slice (some ⟨W.heap.size,0,none⟩) 1 1]).run Tryz.prog (W.alloc (.cells #[.pointer (some ⟨θ.tb,0,none⟩)] 43))=.ok v7 Wg ∧
   (Builtin.append_ #[40,40] 40 #[vr,.slice (some ⟨Wg.heap.size,0,none⟩) 1 1]).run Tryz.prog (Wg.alloc (.cells #[.pointer (some ⟨θ.rb,0,none⟩)] 60))=.ok v8 Wh ∧
   (Builtin.append_ #[24,24] 24 #[vc,.slice (some ⟨Wh.heap.size,0,none⟩) 1 1]).run Tryz.prog (Wh.alloc (.cells #[.slice θ.po θ.p.length θ.pc] 41))=.ok v9 Wi ∧
   Upd [] w0 Wg∧Upd [] w0 Wh∧Ths w0 X wb qb (θs ++ [θ]) sh acc st Wi∧PLs w0 X wb qb (θs ++ [θ]) v7 v8 v9 Wi:=by
 have hs0:=hT.u.size
 obtain ⟨v7,Wg,r7,o7,u7,n7⟩:=app_thr h.o (.pointer (some ⟨θ.tb,0,none⟩)) rfl (by omega) hs0
 have ug:Upd vo.ownBlock.toList W Wg:=((Upd.refl _ _).alloc _).trans u7
 have hsg:=ug.size
 have hszg:W.heap.size+1≤Wg.heap.size:=by have:=u7.size; rw [World.size_alloc] at this; exact this
 have hr8:=own_upd h.r ug (fun g hg=>((h.ne g).1 (by simpa using hg)).1)
 obtain ⟨v8,Wh,r8,o8,u8,n8⟩:=app_tst hr8 (.pointer (some ⟨θ.rb,0,none⟩)) rfl (by omega) (by omega)
 have uh:Upd vr.ownBlock.toList Wg Wh:=((Upd.refl _ _).alloc _).trans u8
 have hsh:=uh.size
 have hszh:Wg.heap.size+1≤Wh.heap.size:=by have:=u8.size; rw [World.size_alloc] at this; exact this
 have hc9:=own_upd (own_upd h.c ug (fun g hg=>((h.ne g).1 (by simpa using hg)).2)) uh (fun g hg=>(h.ne g).2 (by simpa using hg))
 obtain ⟨v9,Wi,r9,o9,u9,n9⟩:=app_prg hc9 (.slice θ.po θ.p.length θ.pc) rfl (by omega) (by omega)
 have ui:Upd vc.ownBlock.toList Wh Wi:=((Upd.refl _ _).alloc _).trans u9
 have hsi:=ui.size
 have hszi:Wh.heap.size+1≤Wi.heap.size:=by have:=u9.size; rw [World.size_alloc] at this; exact this
 have hol:∀ g,v7.ownBlock=some g → vo.ownBlock=some g∨g=W.heap.size+1:=fun g hg=>by
  rcases n7 with e | e
  ·exact .inl (e ▸ hg)
  ·rw [e] at hg; cases hg; exact .inr rfl
 have hrl:∀ g,v8.ownBlock=some g → vr.ownBlock=some g∨g=Wg.heap.size+1:=fun g hg=>by
  rcases n8 with e | e
  ·exact .inl (e ▸ hg)
  ·rw [e] at hg; cases hg; exact .inr rfl
 have hcl:∀ g,v9.ownBlock=some g → vc.ownBlock=some g∨g=Wh.heap.size+1:=fun g hg=>by
  rcases n9 with e | e
  ·exact .inl (e ▸ hg)
  ·rw [e] at hg; cases hg; exact .inr rfl
 have hlt7:∀ g,v7.ownBlock=some g → g<Wg.heap.size:=fun g hg=>own_row_lt o7 hg
 have hlt8:∀ g,v8.ownBlock=some g → g<Wh.heap.size:=fun g hg=>own_row_lt o8 hg
 have hlt9:∀ g,v9.ownBlock=some g → g<Wi.heap.size:=fun g hg=>own_row_lt o9 hg
 have hin:=fun g (hg:vo.ownBlock=some g∨vr.ownBlock=some g∨vc.ownBlock=some g)=>h.ap g hg
 have hXl:=hT.xa.lt
 have hWl:=hT.wo.lt
 have hTP:=hT.push h1 (fun g hg=>⟨(hn g hg).1,(hn g hg).2.1⟩) hp
 have hok:∀ g,(vo.ownBlock=some g∨vr.ownBlock=some g∨vc.ownBlock=some g) → w0.heap.size≤g∧g ∉ X.foot∧g≠wb∧g≠qb∧∀ η ∈ θs ++ [θ],¬ η.mine g:=fun g hg=>by
  have hh:=(hin g hg).1
  refine ⟨hh.1,hh.2.1,hh.2.2.1,hh.2.2.2.1,fun η hη hi=>?_⟩
  rcases List.mem_append.1 hη with k | k
  ·exact hh.2.2.2.2 η k hi
  ·simp at k
   subst k
   have:=(hn g hi).2.2
   rcases hg with z | z | z
   ·exact this.1 z
   ·exact this.2.1 z
   ·exact this.2.2 z
 have hTg:=hTP.upd ug (fun g hg=>hok g (.inl (by simpa using hg)))
 have hTh:=hTg.upd uh (fun g hg=>hok g (.inr (.inl (by simpa using hg))))
 have hTi:=hTh.upd ui (fun g hg=>hok g (.inr (.inr (by simpa using hg))))
 have hnew:∀ g,W.heap.size≤g → w0.heap.size≤g∧g ∉ X.foot∧g≠wb∧g≠qb∧∀ η ∈ θs ++ [θ],¬ η.mine g:=fun g hg=>by
  refine ⟨by omega,fun e=>by have:=hXl g e; omega,by omega,by omega,fun η hη hi=>?_⟩
  obtain ⟨i,hi'⟩:=List.getElem?_of_mem hη
  have:=hTP.mine_lt hi' hi
  omega
 refine ⟨v7,Wg,v8,Wh,v9,Wi,r7,r8,r9,hTg.u,hTh.u,hTi,⟨?_,?_,?_,fun g hg=>?_,fun g=>⟨fun hg=>⟨fun e=>?_,fun e=>?_⟩,fun hg e=>?_⟩⟩⟩
 ·have:=own_upd (own_upd o7 uh (fun g hg=>?_)) ui (fun g hg=>?_)
  ·rw [List.length_append,List.map_append]
   exact this
  ·intro e
   have hg':vr.ownBlock=some g:=by simpa using hg
   rcases hol g e with k | k
   ·exact ((h.ne g).1 k).1 hg'
   ·have:=(hin g (.inr (.inl hg'))).2; omega
  ·intro e
   have hg':vc.ownBlock=some g:=by simpa using hg
   rcases hol g e with k | k
   ·exact ((h.ne g).1 k).2 hg'
   ·have:=(hin g (.inr (.inr hg'))).2; omega
 ·have:=own_upd o8 ui (fun g hg=>?_)
  ·rw [List.length_append,List.map_append]
   exact this
  ·intro e
   have hg':vc.ownBlock=some g:=by simpa using hg
   rcases hrl g e with k | k
   ·exact (h.ne g).2 k hg'
   ·have:=(hin g (.inr (.inr hg'))).2; omega
 ·rw [List.length_append,List.map_append]
  exact o9
 ·rcases hg with k | k | k
  ·refine ⟨?_,by have:=hlt7 g k; omega⟩
   rcases hol g k with z | z
   ·exact hok g (.inl z)
   ·exact hnew g (by omega)
  ·refine ⟨?_,by have:=hlt8 g k; omega⟩
   rcases hrl g k with z | z
   ·exact hok g (.inr (.inl z))
   ·exact hnew g (by omega)
  ·refine ⟨?_,hlt9 g k⟩
   rcases hcl g k with z | z
   ·exact hok g (.inr (.inr z))
   ·exact hnew g (by omega)
 ·rcases hol g hg with k | k
  ·rcases hrl g e with z | z
   ·exact ((h.ne g).1 k).1 z
   ·have:=(hin g (.inl k)).2; omega
  ·rcases hrl g e with z | z
   ·have:=(hin g (.inr (.inl z))).2; omega
   ·have:=hlt7 g hg; omega
 ·rcases hol g hg with k | k
  ·rcases hcl g e with z | z
   ·exact ((h.ne g).1 k).2 z
   ·have:=(hin g (.inl k)).2; omega
  ·rcases hcl g e with z | z
   ·have:=(hin g (.inr (.inr z))).2; omega
   ·have:=hlt7 g hg; omega
 ·rcases hrl g hg with k | k
  ·rcases hcl g e with z | z
   ·exact (h.ne g).2 k z
   ·have:=(hin g (.inr (.inl k))).2; omega
  ·rcases hcl g e with z | z
   ·have:=(hin g (.inr (.inr z))).2; omega
   ·have:=hlt8 g hg; omega
end
theorem row_get {w:World} {base:Nat} {e:TypeId} {v:Value} {n:Nat} {us:List Value} (h:w.ownsRow base e 1 v n us) {i:Nat} {x:Value} (hi:us[i]? = some x):∃ g cap,v=.slice (some ⟨g,0,none⟩) n cap∧w.cell? ⟨g,i,none⟩=some x:=by
 obtain ⟨k1,k2⟩:=h
 have hl:=(List.getElem?_eq_some_iff.1 hi).1
 rcases k2 with ⟨_,k2⟩ | ⟨g,cap,cur,rfl,hb,hh,hnc,hm,hs,ht⟩
 ·rw [k1,k2] at hl; omega
 ·refine ⟨g,cap,rfl,?_⟩
  have hB:Blk w g (us ++ cur.toList.drop (n*1)) e:=by
   unfold Blk
   rw [← ht,List.take_append_drop]
   simpa using hh
  exact hB.cell i (by rw [List.getElem?_append_left hl]; exact hi)
end Go.Proofs.YtehopaabfoopeaaGreat
set_option linter.unusedSimpArgs false
set_option linter.unusedVariables false
set_option maxRecDepth 100000
namespace Go.Proofs.YtehopaabfoopeaaGreat
open Go.RowKit
theorem formedP_long {p:List Ins} (h:¬ (1≤p.length∧p.length≤256)):formedP p=false:=by
 unfold formedP
 by_cases h1:1≤p.length
 ·have h2:¬ p.length≤256:=fun k=>h ⟨h1,k⟩
  simp [h2]
 ·simp [h1]
set_option maxHeartbeats 1000000 in
theorem rformed_prog (w:World) (po:Option Addr) (cap:Nat) (p:List Ins) (h:CodeAt w po p) (hl:p.length≤4611686018427387904):Calls Tryz.prog 11 #[.slice po p.length cap] w fun e w'=>e=.returned (.bool (formedP p))∧Upd [] w w':=by
 by_cases h1:1≤p.length
 rotate_left 1
 ·have hf:=formedP_long (p:=p) (fun k=>h1 k.1)
  have d1:decide ((p.length:Int)<1)=true:=by simp; omega
  rw [hf]
  clear hf h h1
  refine calls_all fun K hK=>?_
  go_enter Tryz.func11,Tryz.ntmps11
  go_wp2_with fail
  all_goals exact ⟨rfl,Upd.refl _ _⟩
 by_cases h2:p.length≤256
 rotate_left 1
 ·have hf:=formedP_long (p:=p) (fun k=>h2 k.2)
  have d1:decide ((p.length:Int)<1)=false:=by simp; omega
  have d2:decide (256<(p.length:Int))=true:=by simp; omega
  rw [hf]
  clear hf h h1 h2
  refine calls_all fun K hK=>?_
  go_enter Tryz.func11,Tryz.ntmps11
  go_wp2_with fail
  all_goals exact ⟨rfl,Upd.refl _ _⟩
 have d1:decide ((p.length:Int)<1)=false:=by simp; omega
 have d2:decide (256<(p.length:Int))=false:=by simp; omega
 refine calls_all fun K hK=>?_
 go_enter Tryz.func11,Tryz.ntmps11
 go_wp2_with fail
 clear d1 d2
 go_loopw [3] (fun v7 wr=>∃ i:Nat,i≤p.length∧v7=.int .i64 i∧Upd [] w wr∧∀ j x,j<i → p[j]? = some x → formed x=true) (fun v7 _=>p.length - (intOf v7).toNat)
 case atStart=>exact ⟨0,by omega,rfl,Upd.refl _ _,fun j x hj=>by omega⟩
 case round =>
  obtain ⟨i,hi,rfl,u,hall⟩:=hrel
  have HA:=Lib.hid hall
  clear hall
  by_cases hlt:i<p.length
  ·have hlt':(i:Int)<(p.length:Int):=by omega
   obtain ⟨x,hx⟩:∃ x,p[i]? = some x:=⟨_,List.getElem?_eq_getElem hlt⟩
   obtain ⟨b,o,rfl,h0,h1,h2,h3,h4⟩:=(h.upd0 u) i x hx
   have HX:=Lib.hid hx
   clear hx
   obtain ⟨xo,xa,xb,xc,xn⟩:=x
   dsimp only at h0 h1 h2 h3 h4
   have hf:=rformed ⟨xo,xa,xb,xc,xn⟩ wr
   simp only [Ins.val] at hf
   obtain ⟨f,hff⟩:∃ f,formed ⟨xo,xa,xb,xc,xn⟩=f:=⟨_,rfl⟩
   rw [hff] at hf
   have HF:=Lib.hid hff
   clear hff
   go_wp2_with fail
   refine hf.mono ?_
   rintro e w2 ⟨rfl,u2⟩
   have u3:=u.trans u2
   clear u u2 hf h0 h1 h2 h3 h4
   cases f with
   | false =>
    have hp:=formedP_no HX.out HF.out
    go_wp2_with fail
    exact ⟨by rw [hp]; rfl,u3⟩
   | true =>
    go_wp2_with fail
    go_roundw
    case rel =>
     refine ⟨i+1,by omega,by go_num,u3,fun j x hj hx=>?_⟩
     by_cases hji:j=i
     ·subst hji
      rw [HX.out] at hx
      cases hx
      exact HF.out
     ·exact HA.out j x (by omega) hx
    case measure=>simp [intOf]; omega
  ·obtain rfl:i=p.length:=by omega
   have hall:p.all formed=true:=List.all_eq_true.2 fun x hx=>by
    obtain ⟨j,hj⟩:=List.getElem?_of_mem hx
    exact HA.out j x (List.getElem?_eq_some_iff.1 hj).1 hj
   have hp:formedP p=true:=by unfold formedP; rw [hall,decide_eq_true h1,decide_eq_true h2]; rfl
   have HP:=Lib.hid hp
   clear h hp hall
   go_wp2_with fail
   exact ⟨by rw [HP.out]; rfl,u⟩
end Go.Proofs.YtehopaabfoopeaaGreat
set_option linter.unusedSimpArgs false
set_option linter.unusedVariables false
set_option maxRecDepth 100000
namespace Go.Proofs.YtehopaabfoopeaaGreat
open Go.RowKit
open Go.Maps
structure PD where
 po:Option Addr
 cap:Nat
 p:List Ins
structure PD.At (w:World) (d:PD):Prop where
 code:CodeAt w d.po d.p
 num:∀ i ∈ d.p,0≤i.n∧i.n<18446744073709551616
 len:d.p.length*40≤140737488351232
structure Progs (w:World) (pp:Option Addr) (l:List PD):Prop where
 cell:∀ i d,l[i]? = some d → ∃ b o,pp=some ⟨b,o,none⟩∧w.cell? ⟨b,o+i,none⟩=some (.slice d.po d.p.length d.cap)
 at_:∀ d ∈ l,d.At w
theorem PD.At.upd {w w':World} {d:PD} (h:d.At w) (u:Upd [] w w'):d.At w':=⟨h.code.upd0 u,h.num,h.len⟩
theorem Progs.upd {w w':World} {pp:Option Addr} {l:List PD} (h:Progs w pp l) (u:Upd [] w w'):Progs w' pp l:=
 ⟨fun i d hd=>by
  obtain ⟨b,o,e,hc⟩:=h.cell i d hd
  exact ⟨b,o,e,(World.cell?_of_block (w:=w) (u.block b (World.block_lt_of_cell? w _ hc) (by simp))).trans hc⟩,fun d hd=>(h.at_ d hd).upd u⟩
end Go.Proofs.YtehopaabfoopeaaGreat
set_option linter.unusedSimpArgs false
set_option linter.unusedVariables false
set_option maxRecDepth 100000
namespace Go.Proofs.YtehopaabfoopeaaGreat
open Go.RowKit
open Go.Maps
theorem rcells_one {r:RT} (h8:r.regs.length=8) (k8:r.saved.length=8) {rv wv:Value} (h1:rv.oneCell'=true) (h2:wv.oneCell'=true):∀ u ∈ r.cells rv wv,u.oneCell'=true:=by
 obtain ⟨st,er,at_,rs,ins,sta,sv,fu,⟨sn,rd,wl,ph,th,ad,wo,fo,at2⟩⟩:=r
 obtain ⟨r0,r1,r2,r3,r4,r5,r6,r7,rfl⟩:=list8 h8
 obtain ⟨s0,s1,s2,s3,s4,s5,s6,s7,rfl⟩:=list8 k8
 intro u hu
 simp only [RT.cells,RT.fore,rheadV,List.map_cons,List.map_nil,List.cons_append,List.nil_append,List.mem_cons,List.not_mem_nil,or_false] at hu
 rcases hu with rfl | rfl | rfl | rfl | rfl | rfl | rfl | rfl | rfl | rfl | rfl | rfl | rfl | rfl | rfl | rfl | rfl | rfl | rfl | rfl | rfl | rfl | rfl | rfl | rfl | rfl | rfl | rfl | rfl | rfl | rfl
 all_goals first | rfl | exact h1 | exact h2
end Go.Proofs.YtehopaabfoopeaaGreat
