/- A new thread: From, New. The conditions are sizes. Threads in a law: what a step keeps. No conditions. What the laws of threads call: the counts, Locked, words and programs compared. No conditions. The law's own example: works, in ten steps. No conditions. -/
import Derived.Test.YtehopaabfoopeaaGreatTz29
import Derived.Test.YtehopaabfoopeaaGreatTz23
import Derived.Test.YtehopaabfoopeaaGreatTz07
import Derived.Test.YtehopaabfoopeaaGreatTz01
import Derived.Test.YtehopaabfoopeaaGreatTz21
import Derived.Test.YtehopaabfoopeaaGreatTz08
import Derived.Test.YtehopaabfoopeaaGreatTz25
import Derived.Test.YtehopaabfoopeaaGreatTz00
set_option linter.unusedSimpArgs false
set_option linter.unusedVariables false
set_option maxRecDepth 100000
namespace Go.Proofs.YtehopaabfoopeaaGreat
open Go.RowKit
open Go.Maps
theorem Blk.range0 {w:World} {b:Nat} {vs:List Value} {t:TypeId} (h:Blk w b vs t):w.rangeAt b 0 vs:=fun j v hj=>by rw [Nat.zero_add]; exact h.cell j hj
def NewOk (w:World) (X:SX) (sh:Sh) (acc st:Int) (p:List Ins) (e:Ending) (w':World):Prop:=
 (formedP p=true → ∃ tb pb cap,e=.returned (.tuple #[.pointer (some ⟨tb,0,none⟩),.int .i64 0])∧TV w' X sh acc st p pb cap tb newT none∧w.heap.size≤tb∧w.heap.size≤pb∧Upd [] w w')
∧(formedP p=false → e=.returned (.tuple #[.pointer none,.int .i64 180])∧Upd [] w w')
set_option maxHeartbeats 2000000 in
theorem from_new {w:World} {X:SX} {sh:Sh} {acc st:Int} {p:List Ins} {po:Option Addr} {cap:Nat} (hX:X.At w sh acc st) (hc:CodeAt w po p) (hl:p.length≤4611686018427387904) :
  Calls Tryz.prog 17 #[newV,.slice po p.length cap,.pointer (some ⟨X.ra,0,none⟩),.pointer (some ⟨X.ca,0,none⟩)] w (NewOk w X sh acc st p):=by
 obtain ⟨W1,hW1⟩:∃ W,w.alloc (.cells #[.int .i64 1,.int .i64 0,.int .i64 0,.int .u64 0,.int .u64 0,.int .u64 0,.int .u64 0,.int .u64 0,.int .u64 0,.int .u64 0,.int .u64 0,.bool false,.int .i64 0,.int .u64 0,.int .u64 0,.int .u64 0,.int .u64 0,.int .u64 0,.int .u64 0,.int .u64 0,.int .u64 0,.int .i64 0,.int .u64 0,.slice none 0 0,.slice none 0 0,.int .i64 0,.int .i64 0,.int .u64 0,.int .u64 0,.int .u64 0,.int .i64 0] 58)=W:=⟨_,rfl⟩
 have u1:Upd [] w W1:=by rw [← hW1]; exact (Upd.refl [] _).alloc _
 have B1:Blk W1 w.heap.size [.int .i64 1,.int .i64 0,.int .i64 0,.int .u64 0,.int .u64 0,.int .u64 0,.int .u64 0,.int .u64 0,.int .u64 0,.int .u64 0,.int .u64 0,.bool false,.int .i64 0,.int .u64 0,.int .u64 0,.int .u64 0,.int .u64 0,.int .u64 0,.int .u64 0,.int .u64 0,.int .u64 0,.int .i64 0,.int .u64 0,.slice none 0 0,.slice none 0 0,.int .i64 0,.int .i64 0,.int .u64 0,.int .u64 0,.int .u64 0,.int .i64 0] 58:=by rw [← hW1]; exact Blk.new w _ 58
 have EX:∀ w,(binOp .eql 28 (.pointer (some ⟨X.ra,0,none⟩)) (.pointer none)).run Tryz.prog w=.ok (.bool false) w:=fun w=>by kernel_rfl
 have EC:∀ w,(binOp .eql 32 (.pointer (some ⟨X.ca,0,none⟩)) (.pointer none)).run Tryz.prog w=.ok (.bool false) w:=fun w=>by kernel_rfl
 have hF:=formed_prog W1 po cap p (hc.upd0 u1) hl
 have HX0:=Lib.hid hX
 have HF:=Lib.hid hF
 clear hF
 unfold newV
 refine calls_all fun K hK=>?_
 go_enter Tryz.func17,Tryz.ntmps17
 go_wp2_with fail
 refine HF.out.mono ?_
 rintro e W2 ⟨rfl,u2⟩
 have U2:=Lib.hid (u1.trans u2)
 have b1:=B1.lt
 have hs2:=u2.size
 replace B1:=B1.upd u2 (by simp)
 have hX2:=hX.upd U2.out (by simp)
 have hc2:=hc.upd0 U2.out
 have HC2:=Lib.hid hc2
 have HX2:=Lib.hid hX2
 clear HF u1 u2 hc hX hc2 hX2
 cases hfp:formedP p with
 | false =>
  clear B1 EX EC
  have HFP:=Lib.hid hfp
  clear hfp
  go_wp2_with fail
  exact ⟨fun h=>by (rw [HFP.out] at h; cases h),fun _=>⟨rfl,U2.out⟩⟩
 | true =>
  obtain ⟨hp1,hp2⟩:=formedP_len hfp
  have HFP:=Lib.hid hfp
  clear hfp
  have HR:=Lib.hid B1.range0
  have HM:=Lib.hid (may_new W2 (.slice po p.length cap))
  unfold newV at HM
  have HB1:=Lib.hid B1
  clear B1
  go_upto_region 5 with (fail)
  go_wp2_with (first
   | ((with_reducible refine wpList_load_mid (op:=⟨some 26,.load 58 (.tmp 4),_,_,_,_⟩) rfl 58 _ rfl w.heap.size 0 ?_ [.int .i64 1,.int .i64 0,.int .i64 0,.int .u64 0,.int .u64 0,.int .u64 0,.int .u64 0,.int .u64 0,.int .u64 0,.int .u64 0,.int .u64 0,.bool false,.int .i64 0,.int .u64 0,.int .u64 0,.int .u64 0,.int .u64 0,.int .u64 0,.int .u64 0,.int .u64 0,.int .u64 0,.int .i64 0,.int .u64 0,.slice none 0 0,.slice none 0 0,.int .i64 0,.int .i64 0,.int .u64 0,.int .u64 0,.int .u64 0,.int .i64 0] _ HR.out Tryz.underlying58 (by rfl) (by kernel_rfl) ?_); (· rfl)))
  refine HM.out.mono ?_
  rintro e W3 ⟨rfl,u3⟩
  have B3:=HB1.out.upd u3.drew (by simp)
  have U3:=Lib.hid (U2.out.trans u3.drew)
  obtain ⟨pb,cap',W4,hrun,hPA,u4,hpb⟩:=app_code W3.drew po cap p (HC2.out.upd0 u3.drew) hp1 hp2
  have hX3:=HX2.out.upd u3.drew (by simp)
  have hs3:=u3.size
  have hW3s:W3.drew.heap.size=W3.heap.size:=rfl
  have hs4:=u4.size
  have B4:=B3.upd u4 (by simp)
  have HRUN:=Lib.hid hrun
  have HPA:=Lib.hid hPA
  have HB4:=Lib.hid B4
  have HX4:=Lib.hid (hX3.upd u4 (by simp))
  have HU4:=Lib.hid (U3.out.trans u4)
  clear hrun hPA B4 hX3 HB1 HM U2 HC2 HX2 HR u3 u4 U3
  go_upto_region 7 with (fail)
  refine wp_region_br (fun w'=>w'.rangeAt w.heap.size 0 [.int .i64 1,.int .i64 0,.int .i64 0,.int .u64 0,.int .u64 0,.int .u64 0,.int .u64 0,.int .u64 0,.int .u64 0,.int .u64 0,.int .u64 0,.bool false,.int .i64 0,.int .u64 0,.int .u64 0,.int .u64 0,.int .u64 0,.int .u64 0,.int .u64 0,.int .u64 0,.int .u64 0,.int .i64 0,.int .u64 0,.slice none 0 0,.slice none 0 0,.int .i64 0,.int .i64 0,.int .u64 0,.int .u64 0,.int .u64 0,.int .i64 0]) [0,1,3,4,2,5,6,7] (by kernel_rfl) (by kernel_rfl) B3.range0 ?_
  clear B3
  refine wpB_load_mid rfl rfl (by kernel_rfl) (by rfl) 58 _ rfl w.heap.size 0 rfl [.int .i64 1,.int .i64 0,.int .i64 0,.int .u64 0,.int .u64 0,.int .u64 0,.int .u64 0,.int .u64 0,.int .u64 0,.int .u64 0,.int .u64 0,.bool false,.int .i64 0,.int .u64 0,.int .u64 0,.int .u64 0,.int .u64 0,.int .u64 0,.int .u64 0,.int .u64 0,.int .u64 0,.int .i64 0,.int .u64 0,.slice none 0 0,.slice none 0 0,.int .i64 0,.int .i64 0,.int .u64 0,.int .u64 0,.int .u64 0,.int .i64 0] _ (fun _ h=>h) Tryz.underlying58 rfl (by kernel_rfl) ?_
  try simp only [Act.put,List.setIfInBounds_toArray,List.set_cons_zero,List.set_cons_succ]
  repeat
   first
    | (refine wpB_skip rfl (by kernel_rfl) (by rfl) ?_)
    | ((refine wpB_take (v:=?_) rfl rfl (by kernel_rfl) (by rfl) ?_ ?_); rotate_left 1; (· ((intro w hSw; (try dsimp only at hSw); go_simp); try with_reducible rfl)))
   try simp only [Act.put,List.setIfInBounds_toArray,List.set_cons_zero,List.set_cons_succ]
  refine wpB_append rfl (by kernel_rfl) (by rfl) _ _ _ _ rfl _ _ _ rfl rfl HRUN.out HB4.out.range0 ?_
  try simp only [Act.put,List.setIfInBounds_toArray,List.set_cons_zero,List.set_cons_succ]
  repeat
   first
    | (refine wpB_skip rfl (by kernel_rfl) (by rfl) ?_)
    | ((refine wpB_take (v:=?_) rfl rfl (by kernel_rfl) (by rfl) ?_ ?_); rotate_left 1; (· ((intro w hSw; (try dsimp only at hSw); go_simp); try with_reducible rfl)))
   try simp only [Act.put,List.setIfInBounds_toArray,List.set_cons_zero,List.set_cons_succ]
  refine wpB_eff rfl (by kernel_rfl) (by rfl) (fun K2 hK2=>?_)
  go_simp
  refine hK2.out _ _ (World.rangeAt_alloc HB4.out.range0 _) ?_
  clear hK2 K2
  repeat
   first
    | (refine wpB_skip rfl (by kernel_rfl) (by rfl) ?_)
    | ((refine wpB_take (v:=?_) rfl rfl (by kernel_rfl) (by rfl) ?_ ?_); rotate_left 1; (· ((intro w hSw; (try dsimp only at hSw); go_simp); try with_reducible rfl)))
   try simp only [Act.put,List.setIfInBounds_toArray,List.set_cons_zero,List.set_cons_succ]
  refine wpB_end (by kernel_rfl) (NoPanic.normal ?_)
  obtain ⟨W5,hW5⟩:∃ W,W4.alloc (.cells #[.int .i64 1,.int .i64 0,.int .i64 0,.int .u64 0,.int .u64 0,.int .u64 0,.int .u64 0,.int .u64 0,.int .u64 0,.int .u64 0,.int .u64 0,.bool false,.int .i64 0,.int .u64 0,.int .u64 0,.int .u64 0,.int .u64 0,.int .u64 0,.int .u64 0,.int .u64 0,.int .u64 0,.int .i64 0,.int .u64 0,.slice none 0 0,.slice none 0 0,.int .i64 0,.int .i64 0,.int .u64 0,.int .u64 0,.int .u64 0,.int .i64 0,.slice (some ⟨pb,0,none⟩) p.length cap',.pointer (some ⟨X.ra,0,none⟩),.pointer (some ⟨X.ca,0,none⟩),.pointer none] 102)=W:=⟨_,rfl⟩
  rw [hW5]
  have B5:Blk W5 W4.heap.size (headTV newT (progV pb cap' p) X none) 102:=by rw [← hW5]; exact Blk.new W4 _ _
  have u5:Upd [] W4 W5:=by rw [← hW5]; exact (Upd.refl [] _).alloc _
  have c11:=(HB4.out.upd u5 (by simp)).cell 11 rfl
  have HB5:=Lib.hid B5
  obtain ⟨W6,hW6'⟩:∃ W,(((((((((W5.setCell ⟨W4.heap.size,22,none⟩ (.int .u64 0)).setCell ⟨W4.heap.size,23,none⟩ (.slice none 0 0)).setCell ⟨W4.heap.size,24,none⟩ (.slice none 0 0)).setCell ⟨W4.heap.size,25,none⟩ (.int .i64 0)).setCell ⟨W4.heap.size,26,none⟩ (.int .i64 0)).setCell ⟨W4.heap.size,27,none⟩ (.int .u64 0)).setCell ⟨W4.heap.size,28,none⟩ (.int .u64 0)).setCell ⟨W4.heap.size,29,none⟩ (.int .u64 0)).setCell ⟨W4.heap.size,30,none⟩ (.int .i64 0))=W:=⟨_,rfl⟩
  have hW6:W5.setCells W4.heap.size 22 [.int .u64 0,.slice none 0 0,.slice none 0 0,.int .i64 0,.int .i64 0,.int .u64 0,.int .u64 0,.int .u64 0,.int .i64 0]=W6:=hW6'
  have hblt:=HB4.out.lt
  have hne:w.heap.size≠W4.heap.size:=by omega
  have u6:Upd [W4.heap.size] W5 W6:=by rw [← hW6]; exact Upd.rows _ 22 (Upd.refl _ _) (.inl (by simp))
  have B6:Blk W6 W4.heap.size (headTV newT (progV pb cap' p) X none) 102:=by
   have k:=Blk.rows [.int .u64 0,.slice none 0 0,.slice none 0 0,.int .i64 0,.int .i64 0,.int .u64 0,.int .u64 0,.int .u64 0,.int .i64 0] 22 B5 (by show 31≤35; omega)
   rw [hW6] at k
   exact k
  have c11':=((HB4.out.upd u5 (by simp)).upd u6 (by simpa using hne)).cell 11 rfl
  have hX6:=(HX4.out.upd u5 (by simp)).upd u6 (fun g hg e=>by simp at e; subst e; have:=HX4.out.lt _ hg; omega)
  have hP6:=(HPA.out.upd u5 (by simp)).upd u6 (by have:=HPA.out.lt; simp; omega)
  have hXf:∀ g ∈ X.foot,g<w.heap.size:=fun g hg=>(HX0.out.lt g hg)
  have HV:=Lib.hid (show TV W6 X sh acc st p pb cap' W4.heap.size newT none from ⟨B6,hP6,hX6,.inl ⟨rfl,rfl⟩,rfl,rfl,by have:=HPA.out.lt; omega,fun e=>by have:=hXf _ e; omega,fun e=>by have:=hXf _ e; omega,by simp [AO.foot],by simp [AO.foot]⟩)
  have HU6:=Lib.hid (show Upd [] w W6 from (HU4.out.trans u5).tr (U:=[]) u6 (fun g hg=>by simp at hg) (fun g hg=>by simp at hg; subst hg; exact .inr (by omega)))
  have HSZ:=Lib.hid (show w.heap.size≤W4.heap.size∧w.heap.size≤pb from ⟨by omega,by omega⟩)
  clear u5 u6 B5 B6 hX6 hP6 hXf hW5 c11 hpb hs4 hs3 hs2
  clear hW6
  have q22:=HB5.out.cell 22 rfl
  have f22:=HB5.out.free 22
  have q23:=HB5.out.cell 23 rfl
  have f23:=HB5.out.free 23
  have q24:=HB5.out.cell 24 rfl
  have f24:=HB5.out.free 24
  have q25:=HB5.out.cell 25 rfl
  have f25:=HB5.out.free 25
  have q26:=HB5.out.cell 26 rfl
  have f26:=HB5.out.free 26
  have q27:=HB5.out.cell 27 rfl
  have f27:=HB5.out.free 27
  have q28:=HB5.out.cell 28 rfl
  have f28:=HB5.out.free 28
  have q29:=HB5.out.cell 29 rfl
  have f29:=HB5.out.free 29
  have q30:=HB5.out.cell 30 rfl
  have f30:=HB5.out.free 30
  go_upto_region 9 with (fail)
  clear hW6'
  go_wp2_with fail
  exact ⟨fun _=>⟨_,_,_,rfl,HV.out,HSZ.out.1,HSZ.out.2,HU6.out⟩,fun h=>by (rw [HFP.out] at h; cases h)⟩
theorem new_code {w:World} {X:SX} {sh:Sh} {acc st:Int} {p:List Ins} {po:Option Addr} {cap:Nat} (hX:X.At w sh acc st) (hc:CodeAt w po p) (hl:p.length≤4611686018427387904) :
  Calls Tryz.prog 10 #[.slice po p.length cap,.pointer (some ⟨X.ra,0,none⟩),.pointer (some ⟨X.ca,0,none⟩)] w (NewOk w X sh acc st p):=by
 have HC:=Lib.hid (from_new (cap:=cap) hX hc hl)
 unfold newV at HC
 clear hX hc hl
 refine calls_all fun K hK=>?_
 go_enter Tryz.func10,Tryz.ntmps10
 go_wp2_with fail
 refine HC.out.mono ?_
 rintro e W2 ⟨h1,h2⟩
 cases hf:formedP p with
 | true =>
  obtain ⟨tb,pb,cap2,rfl,hV,ht,hp,u⟩:=h1 hf
  have HV:=Lib.hid (And.intro hV (And.intro ht (And.intro hp u)))
  have HF:=Lib.hid hf
  clear h1 h2 hf hV ht hp u HC
  go_wp2_with fail
  exact ⟨fun _=>⟨tb,pb,cap2,rfl,HV.out⟩,fun k=>by (rw [HF.out] at k; cases k)⟩
 | false =>
  obtain ⟨rfl,u⟩:=h2 hf
  have HU:=Lib.hid u
  have HF:=Lib.hid hf
  clear h1 h2 hf u HC
  go_wp2_with fail
  exact ⟨fun k=>by (rw [HF.out] at k; cases k),fun _=>⟨rfl,HU.out⟩⟩
end Go.Proofs.YtehopaabfoopeaaGreat
set_option linter.unusedSimpArgs false
set_option linter.unusedVariables false
set_option maxRecDepth 100000
namespace Go.Proofs.YtehopaabfoopeaaGreat
open Go.RowKit
open Go.Maps
structure TL (w0:World) (X:SX) (p:List Ins) (pb cap tb:Nat) (t:TS) (sh:Sh) (o:AO) (W:World):Prop where
 tv:∃ acc st,TV W X sh acc st p pb cap tb t o
 may:TMay p t
 rw:RW t
 new:∀ g,inTh X pb tb o g → w0.heap.size≤g
 u:Upd [] w0 W
theorem tmay_new {p:List Ins}:TMay p newT:=⟨by simp [newT],by simp [newT],by simp [newT],fun _=>⟨rfl,rfl,rfl⟩,fun s h=>by cases h⟩
theorem rw_new:RW newT:=⟨rw_zero,rw_zero⟩
section
variable {w0 W W':World} {X:SX} {p:List Ins} {pb cap tb:Nat} {t:TS} {sh:Sh} {o:AO}
theorem TL.wide (h:TL w0 X p pb cap tb t sh o W):TWide t:=by
 obtain ⟨acc,st,hv⟩:=h.tv
 refine ⟨⟨hv.r8,h.rw.1⟩,⟨hv.s8,h.rw.2⟩,fun s hs=>?_⟩
 rcases hv.att with ⟨k,_⟩ | ⟨s',a,F,rv,wv,mv,e,_,hL⟩
 ·rw [k] at hs; cases hs
 ·rw [e] at hs; cases hs; exact hL.wide
theorem TL.shw (h:TL w0 X p pb cap tb t sh o W):WideSh sh:=by
 obtain ⟨acc,st,hv⟩:=h.tv
 exact hv.xa.wide
theorem TL.upd {S:List Nat} (h:TL w0 X p pb cap tb t sh o W) (u:Upd S W W') (hS:∀ g ∈ S,¬ inTh X pb tb o g) (hS0:∀ g ∈ S,w0.heap.size≤g):TL w0 X p pb cap tb t sh o W':=by
 obtain ⟨acc,st,hv⟩:=h.tv
 exact ⟨⟨acc,st,hv.updn u hS⟩,h.may,h.rw,h.new,h.u.tr (U:=[]) u (fun g hg=>by simp at hg) (fun g hg=>.inr (hS0 g hg))⟩
theorem TL.upd0 (h:TL w0 X p pb cap tb t sh o W) (u:Upd [] W W'):TL w0 X p pb cap tb t sh o W':=h.upd u (by simp) (by simp)
def TLStep (w0:World) (X:SX) (p:List Ins) (pb cap tb:Nat) (o:AO) (W:World) (R:Told × TS × Sh) (e:Ending) (W':World):Prop:=
 e=.returned (.tuple #[R.1.1.val,.bool R.1.2,.int .i64 0])∧∃ o',TL w0 X p pb cap tb R.2.1 R.2.2 o' W'∧Upd (tb :: (o.foot ++ X.foot)) W W'∧∀ g ∈ o'.foot,g ∈ o.foot∨W.heap.size≤g
theorem tl_step (h:TL w0 X p pb cap tb t sh o W) (hfp:formedP p=true) (hnum:∀ i ∈ p,0≤i.n∧i.n<18446744073709551616):Calls Tryz.prog 28 #[.pointer (some ⟨tb,0,none⟩)] W (TLStep w0 X p pb cap tb o W (StepT p t sh)):=by
 have hw:=h.wide
 have hsw:=h.shw
 obtain ⟨acc,st,hv⟩:=h.tv
 have hs0:=h.u.size
 refine (Step_code hv h.may hw hfp hnum).mono fun e W' ⟨he,o',acc',st',V,u,hf,_⟩=>⟨he,o',⟨⟨acc',st',V⟩,tmay_step h.may hfp hnum hsw,rw_step h.rw hw.att hnum hsw,fun g hg=>?_,?_⟩,u,hf⟩
 ·rcases hg with k | k | k | k
  ·exact h.new g (.inl k)
  ·exact h.new g (.inr (.inl k))
  ·rcases hf g k with z | z
   ·exact h.new g (.inr (.inr (.inl z)))
   ·omega
  ·exact h.new g (.inr (.inr (.inr k)))
 ·refine h.u.tr (U:=[]) u (fun g hg=>by simp at hg) (fun g hg=>.inr ?_)
  rcases List.mem_cons.1 hg with k | k
  ·exact h.new g (.inl k)
  ·rcases List.mem_append.1 k with k | k
   ·exact h.new g (.inr (.inr (.inl k)))
   ·exact h.new g (.inr (.inr (.inr k)))
theorem tl_state (h:TL w0 X p pb cap tb t sh o W):Calls Tryz.prog 21 #[.pointer (some ⟨tb,0,none⟩)] W (TStateOk W t):=by
 obtain ⟨acc,st,hv⟩:=h.tv
 exact state_tv hv (fun s hs=>(h.may.ins s hs).2.2.2.1)
theorem tl_status (h:TL w0 X p pb cap tb t sh o W):Calls Tryz.prog 31 #[.pointer (some ⟨tb,0,none⟩)] W fun e w'=>e=.returned (.int .i64 t.st)∧W=w':=by
 obtain ⟨acc,st,hv⟩:=h.tv
 exact status_code hv
theorem foot_in {g:Nat} (hg:g ∈ tb :: (o.foot ++ X.foot)):inTh X pb tb o g:=by
 rcases List.mem_cons.1 hg with k | k
 ·exact .inl k
 ·rcases List.mem_append.1 k with k | k
  ·exact .inr (.inr (.inl k))
  ·exact .inr (.inr (.inr k))
theorem tl_new (hX:XAt W X sh) (hn:∀ g ∈ X.foot,w0.heap.size≤g) (u:Upd [] w0 W) {po:Option Addr} (hc:CodeAt W po p) (hl:p.length≤4611686018427387904):Calls Tryz.prog 10 #[.slice po p.length cap,.pointer (some ⟨X.ra,0,none⟩),.pointer (some ⟨X.ca,0,none⟩)] W fun e W' =>
  (formedP p=true → ∃ tb pb cap',e=.returned (.tuple #[.pointer (some ⟨tb,0,none⟩),.int .i64 0])∧TL w0 X p pb cap' tb newT sh none W'∧Upd [] W W')
 ∧(formedP p=false → e=.returned (.tuple #[.pointer none,.int .i64 180])∧Upd [] W W'):=by
 obtain ⟨acc,st,hX⟩:=hX
 have hs0:=u.size
 refine (new_code (cap:=cap) hX hc hl).mono fun e W' ⟨h1,h2⟩=>⟨fun hf=>?_,h2⟩
 obtain ⟨tb,pb,cap',he,hV,ht,hp,u'⟩:=h1 hf
 refine ⟨tb,pb,cap',he,⟨⟨acc,st,hV⟩,tmay_new,rw_new,fun g hg=>?_,u.trans u'⟩,u'⟩
 rcases hg with k | k | k | k
 ·omega
 ·omega
 ·simp [AO.foot] at k
 ·exact hn g k
theorem TL.moved (h:TL w0 X p pb cap tb t sh o W) (hX:XAt W' X sh) (u:Upd X.foot W W'):TL w0 X p pb cap tb t sh o W':=by
 obtain ⟨acc,st,hv⟩:=h.tv
 obtain ⟨acc',st',hX⟩:=hX
 exact ⟨⟨acc',st',hv.moved hX u (fun g hg=>hg)⟩,h.may,h.rw,h.new,h.u.tr (U:=[]) u (fun g hg=>by simp at hg) (fun g hg=>.inr (h.new g (.inr (.inr (.inr hg)))))⟩
theorem TL.xat (h:TL w0 X p pb cap tb t sh o W):XAt W X sh:=by
 obtain ⟨acc,st,hv⟩:=h.tv
 exact ⟨acc,st,hv.xa⟩
theorem tl_load (h:TL w0 X p pb cap tb t sh o W) (x:Int) (hx:0≤x):Calls Tryz.prog 29 #[.pointer (some ⟨X.ra,0,none⟩),.int .u64 x] W fun e w'=>e=.returned (.tuple #[.int .u64 (loadW sh.row x),.int .i64 (rLoad sh.row x).2])∧TL w0 X p pb cap tb t sh o w'∧Upd X.foot W w':=
 (h.xat.load x hx).mono fun e w' ⟨he,hX,u⟩=>⟨he,h.moved hX u,u⟩
theorem tl_clk (h:TL w0 X p pb cap tb t sh o W):Calls Tryz.prog 30 #[.pointer (some ⟨X.ca,0,none⟩)] W fun e w'=>e=.returned (.tuple #[.int .u64 sh.clock,.int .i64 0])∧TL w0 X p pb cap tb t sh o w'∧Upd X.foot W w':=
 h.xat.clk.mono fun e w' ⟨he,hX,u⟩=>⟨he,h.moved hX u,u⟩
end
end Go.Proofs.YtehopaabfoopeaaGreat
set_option linter.unusedSimpArgs false
set_option linter.unusedVariables false
set_option maxRecDepth 100000
namespace Go.Proofs.YtehopaabfoopeaaGreat
open Go.RowKit
open Go.Maps
theorem acc_any {w:World} {a b:Nat} {ws:List Int} {acc:Int} (h:RowAt w a b ws acc) :
  Calls Tryz.prog 33 #[.pointer (some ⟨a,0,none⟩)] w fun e w'=>e=.returned (.int .u64 acc)∧w=w':=by
 obtain ⟨cap,h0⟩:=h.c0
 have h1:=h.c1
 refine calls_all fun K hK=>?_
 go_enter Tryz.func33,Tryz.ntmps33
 go_wp2
 all_goals exact ⟨rfl,rfl⟩
theorem same_words (w:World) (p q:Option Addr) (zs:List Int) (c d:Nat) (hx:SlI w .u64 p zs) (hy:SlI w .u64 q zs) (hn:zs.length≤4611686018427387904) :
  Calls Tryz.prog 36 #[.slice p zs.length c,.slice q zs.length d] w fun e w'=>e=.returned (.bool true)∧Upd [] w w':=by
 have HC:=Lib.hid hx
 have HC':=Lib.hid hy
 clear hx hy
 refine calls_all fun K hK=>?_
 go_enter Tryz.func36,Tryz.ntmps36
 go_wp2_with fail
 go_loopw [5] (fun v5 wr=>∃ k:Nat,k≤zs.length∧v5=.int .i64 k∧Upd [] w wr) (fun v5 _=>zs.length - (intOf v5).toNat)
 case atStart=>exact ⟨0,by omega,rfl,Upd.refl _ _⟩
 case round =>
  obtain ⟨k,hk,rfl,hu⟩:=hrel
  have HU:=Lib.hid hu
  clear hu
  by_cases hlt:k<zs.length
  ·have hlt':(k:Int)<(zs.length:Int):=by omega
   have hz:zs≠[]:=fun e=>by subst e; simp at hlt
   obtain ⟨b,o,rfl⟩:=HC.out.ne hz
   obtain ⟨b',o',rfl⟩:=HC'.out.ne hz
   have c0:=HC.out.cells b o rfl k hlt
   have d0:=HC'.out.cells b' o' rfl k hlt
   have hcell:∀ (b' o':Nat) (v:Value),w.cell? ⟨b',o',none⟩=some v → wr.cell? ⟨b',o',none⟩=some v:=fun b' o' v h=>(World.cell?_of_block (w:=w) (HU.out.block b' (World.block_lt_of_cell? w _ h) (by simp))).trans h
   replace c0:=hcell _ _ _ c0
   replace d0:=hcell _ _ _ d0
   clear hcell hz
   have hxx:(wd zs k != wd zs k)=false:=by simp
   go_wp2_with fail
   refine wp_region_eff (fun w'=>w'.cell? ⟨b,o+k,none⟩=some (.int .u64 (wd zs k))∧w'.cell? ⟨b',o'+k,none⟩=some (.int .u64 (wd zs k))) 9 (by kernel_rfl) (by kernel_rfl) ⟨c0,d0⟩ ?_
   repeat
    refine wpE_take (v:=?_) (by decide) rfl (by rfl) ?_ ?_
    rotate_left 1
    ·((intro w hSw; (try dsimp only at hSw); go_simp); try with_reducible rfl)
    try simp only [Act.put,List.setIfInBounds_toArray,List.set_cons_zero,List.set_cons_succ]
   refine wpE_end (NoPanic.normal ?_)
   have HU2:=Lib.hid HU.out.drew
   clear c0 d0
   generalize wr.drew=wr2 at HU2 ⊢
   go_wp2_with fail
   go_roundw
   case rel=>exact ⟨k+1,by omega,by go_num,HU2.out⟩
   case measure=>simp [intOf]; omega
  ·obtain rfl:k=zs.length:=by omega
   go_wp2_with fail
   all_goals exact ⟨rfl,HU.out⟩
set_option maxHeartbeats 1000000 in
theorem same_prog (w:World) (p p':Option Addr) (cap cap':Nat) (l:List Ins) (hc:CodeAt w p l) (hc':CodeAt w p' l) (hl:l.length≤4611686018427387904):Calls Tryz.prog 12 #[.slice p l.length cap,.slice p' l.length cap'] w fun e w'=>e=.returned (.bool true)∧Upd [] w w':=by
 have HC:=Lib.hid hc
 have HC':=Lib.hid hc'
 clear hc hc'
 have h0:(0:Int)≤(l.length:Int):=by omega
 refine calls_all fun K hK=>?_
 go_enter Tryz.func12,Tryz.ntmps12
 go_wp2_with fail
 go_loopw [5] (fun v5 wr=>∃ k:Nat,k≤l.length∧v5=.int .i64 k∧Upd [] w wr) (fun v5 _=>l.length - (intOf v5).toNat)
 case atStart=>exact ⟨0,by omega,rfl,Upd.refl _ _⟩
 case round =>
  obtain ⟨k,hk,rfl,hu⟩:=hrel
  have HU:=Lib.hid hu
  clear hu
  by_cases hlt:k<l.length
  ·have hlt':(k:Int)<(l.length:Int):=by omega
   obtain ⟨⟨io,ia,ib,ic,ni⟩,hxy⟩:∃ c,l[k]? = some c:=⟨_,List.getElem?_eq_getElem hlt⟩
   obtain ⟨b,o,rfl,c0,c1,c2,c3,c4⟩:=HC.out k _ hxy
   obtain ⟨b',o',rfl,d0,d1,d2,d3,d4⟩:=HC'.out k _ hxy
   dsimp only at c0 c1 c2 c3 c4 d0 d1 d2 d3 d4
   have hcell:∀ (b' o':Nat) (v:Value),w.cell? ⟨b',o',none⟩=some v → wr.cell? ⟨b',o',none⟩=some v:=fun b' o' v h=>(World.cell?_of_block (w:=w) (HU.out.block b' (World.block_lt_of_cell? w _ h) (by simp))).trans h
   replace c0:=hcell _ _ _ c0
   replace d0:=hcell _ _ _ d0
   replace c1:=hcell _ _ _ c1
   replace d1:=hcell _ _ _ d1
   replace c2:=hcell _ _ _ c2
   replace d2:=hcell _ _ _ d2
   replace c3:=hcell _ _ _ c3
   replace d3:=hcell _ _ _ d3
   replace c4:=hcell _ _ _ c4
   replace d4:=hcell _ _ _ d4
   clear hcell hxy
   go_wp2_with fail
   refine wp_region_eff (fun w'=>w'.cell? ⟨b,o+k*5,none⟩=some (.int .i64 io)∧w'.cell? ⟨b,o+k*5+1,none⟩=some (.int .i64 ia)∧w'.cell? ⟨b,o+k*5+2,none⟩=some (.int .i64 ib)∧w'.cell? ⟨b,o+k*5+3,none⟩=some (.int .i64 ic)∧w'.cell? ⟨b,o+k*5+4,none⟩=some (.int .u64 ni)∧w'.cell? ⟨b',o'+k*5,none⟩=some (.int .i64 io)∧w'.cell? ⟨b',o'+k*5+1,none⟩=some (.int .i64 ia)∧w'.cell? ⟨b',o'+k*5+2,none⟩=some (.int .i64 ib)∧w'.cell? ⟨b',o'+k*5+3,none⟩=some (.int .i64 ic)∧w'.cell? ⟨b',o'+k*5+4,none⟩=some (.int .u64 ni)) 9 (by kernel_rfl) (by kernel_rfl) ⟨c0,c1,c2,c3,c4,d0,d1,d2,d3,d4⟩ ?_
   repeat
    refine wpE_take (v:=?_) (by decide) rfl (by rfl) ?_ ?_
    rotate_left 1
    ·((intro w hSw; (try dsimp only at hSw); go_simp); try with_reducible rfl)
    try simp only [Act.put,List.setIfInBounds_toArray,List.set_cons_zero,List.set_cons_succ]
   refine wpE_end (NoPanic.normal ?_)
   have HU2:=Lib.hid HU.out.drew
   clear c0 c1 c2 c3 c4 d0 d1 d2 d3 d4
   generalize wr.drew=wr2 at HU2 ⊢
   go_wp2_with fail
   go_roundw
   case rel=>exact ⟨k+1,by omega,by go_num,HU2.out⟩
   case measure=>simp [intOf]; omega
  ·obtain rfl:k=l.length:=by omega
   go_wp2_with fail
   all_goals exact ⟨rfl,HU.out⟩
section
variable {w:World} {X:SX} {sh:Sh} {acc st:Int} {p:List Ins} {pb cap tb:Nat} {t:TS} {o:AO}
def lockedT (t:TS):Bool:=match t.att with | none=>false | some s=>s.phase == 8 || s.phase == 9
theorem tlocked_code (h:TV w X sh acc st p pb cap tb t o):Calls Tryz.prog 38 #[.pointer (some ⟨tb,0,none⟩)] w fun e w'=>e=.returned (.bool (lockedT t))∧w=w':=by
 have c34:w.cell? ⟨tb,34,none⟩=some (.pointer o.ptr):=h.head.cell 34 (head_cell h.r8 h.s8).2.2.2.2.2.2
 rcases h.att with ⟨ha,rfl⟩ | ⟨s,a,F,rv,wv,mv,ha,rfl,hL⟩
 ·have hl:lockedT t=false:=by unfold lockedT; rw [ha]
  rw [hl]
  simp only [AO.ptr,Option.map_none] at c34
  have E3:∀ w,(binOp .neq 100 (.pointer none) (.pointer none)).run Tryz.prog w=.ok (.bool false) w:=fun w=>by kernel_rfl
  clear h ha hl
  refine calls_all fun K hK=>?_
  go_enter Tryz.func38,Tryz.ntmps38
  go_wp2_with fail
  all_goals exact ⟨rfl,rfl⟩
 ·have hl:lockedT t=(s.phase == 8 || s.phase == 9):=by unfold lockedT; rw [ha]
  rw [hl]
  simp only [AO.ptr,Option.map_some] at c34
  have HC:=Lib.hid (locked_code hL)
  clear h ha hl hL
  refine calls_all fun K hK=>?_
  go_enter Tryz.func38,Tryz.ntmps38
  go_wp2_with fail
  refine HC.out.mono ?_
  rintro e w2 ⟨rfl,rfl⟩
  clear HC
  cases hb:(s.phase == 8 || s.phase == 9) with
  | true =>
   go_wp2_with fail
   all_goals exact ⟨rfl,rfl⟩
  | false =>
   go_wp2_with fail
   all_goals exact ⟨rfl,rfl⟩
end
end Go.Proofs.YtehopaabfoopeaaGreat
set_option linter.unusedSimpArgs false
set_option linter.unusedVariables false
set_option maxRecDepth 100000
namespace Go.Proofs.YtehopaabfoopeaaGreat
open Go.RowKit
open Go.Maps
def doublesP:List Ins:=[⟨12,0,0,0,0⟩,⟨13,1,0,0,0⟩,⟨3,1,1,1,0⟩,⟨14,1,0,0,0⟩,⟨15,0,0,0,0⟩,⟨17,0,0,0,0⟩]
theorem doubles_formed:formedP doublesP=true:=by decide
theorem doubles_num:∀ i ∈ doublesP,0≤i.n∧i.n<18446744073709551616:=by
 intro i hi
 simp only [doublesP,List.mem_cons,List.not_mem_nil,or_false] at hi
 rcases hi with rfl | rfl | rfl | rfl | rfl | rfl <;> simp
theorem code_of_blk {w:World} {g:Nat} {p:List Ins} {sp:List Value} (h:Blk w g (codeV p ++ sp) 50):CodeAt w (some ⟨g,0,none⟩) p:=by
 intro i x hx
 obtain ⟨k0,k1,k2,k3,k4⟩:=codeV_get p i x hx
 have hi:=(List.getElem?_eq_some_iff.1 hx).1
 have hl:=codeV_len p
 refine ⟨g,0,rfl,?_,?_,?_,?_,?_⟩
 ·rw [Nat.zero_add]; exact h.cell _ (by rw [List.getElem?_append_left (by omega)]; exact k0)
 ·rw [Nat.zero_add]; exact h.cell _ (by rw [List.getElem?_append_left (by omega)]; exact k1)
 ·rw [Nat.zero_add]; exact h.cell _ (by rw [List.getElem?_append_left (by omega)]; exact k2)
 ·rw [Nat.zero_add]; exact h.cell _ (by rw [List.getElem?_append_left (by omega)]; exact k3)
 ·rw [Nat.zero_add]; exact h.cell _ (by rw [List.getElem?_append_left (by omega)]; exact k4)
theorem doubles_code (w:World):Calls Tryz.prog 27 #[] w fun e w'=>∃ g,e=.returned (.slice (some ⟨g,0,none⟩) 6 6)∧Blk w' g (codeV doublesP) 50∧w.heap.size≤g∧Upd [] w w':=by
 refine calls_all fun K hK=>?_
 go_enter Tryz.func27,Tryz.ntmps27
 go_wp2
 exact ⟨_,rfl,Blk.new w (codeV doublesP) 50,Nat.le_refl _,(Upd.refl [] w).alloc _⟩
theorem num11_code (n:Int) (w:World):Calls Tryz.prog 7 #[.int .i64 n] w fun e w'=>e=.returned (.int .i64 n)∧w=w':=by
 refine calls_all fun K hK=>?_
 go_enter Tryz.func7,Tryz.ntmps7
 go_wp2
 all_goals first | exact ⟨rfl,rfl⟩ | rfl
def runW:Nat → TS × Sh
 | 0=>(newT,⟨[7],0⟩)
 | k+1=>(StepT doublesP (runW k).1 (runW k).2).2
def toldW:Nat → Nat
 | 0=>0
 | k+1=>toldW k+if (StepT doublesP (runW k).1 (runW k).2).1.2=true then 1 else 0
theorem run9:toldW 9=6∧(runW 9).2.row=[14]∧(runW 9).2.clock=2∧(runW 9).1.st=2∧(runW 9).1.regs=[0,14,0,0,0,0,0,0]:=by
 decide
theorem toldW_le:∀ k,toldW k≤k
 | 0=>Nat.le_refl _
 | k+1=>by
  have:=toldW_le k
  unfold toldW
  split <;> omega
set_option maxHeartbeats 4000000 in
theorem works11_code (w:World):Calls Tryz.prog 8 #[] w fun e w'=>e=.returned (.bool true)∧Upd [] w w':=by
 refine calls_all fun K hK=>?_
 go_enter Tryz.func8,Tryz.ntmps8
 go_wp2_with fail
 have hs:SlI (w.alloc (.cells #[.int .u64 7] 23)) .u64 (some ⟨w.heap.size,0,none⟩) [7]:=SlI.of_blk (sp:=[]) (t:=23) (Blk.new w [.int .u64 7] 23)
 have u0:=(Upd.refl [] w).alloc (.cells #[.int .u64 7] 23)
 refine (of_ok (some ⟨w.heap.size,0,none⟩) 1 [7] _ hs (by simp) (by simp)).mono ?_
 rintro e W1 ⟨ra,rb,rfl,hR,hra,hrb,u1⟩
 have U1:=u0.trans u1
 rw [World.size_alloc] at hra hrb
 clear hs u0 u1
 go_wp2_with fail
 refine (clkNew W1).mono ?_
 rintro e W2 ⟨ca,cr,cb,rfl,hC,k1,k2,k3,u2⟩
 have hX:XAt W2 ⟨ra,rb,ca,cr,cb⟩ ⟨[7],0⟩:=XAt.made hR hC u2 k1 k2 k3 ⟨by simp,by simp⟩
 have hs1:=U1.size
 have hX0:∀ g ∈ SX.foot ⟨ra,rb,ca,cr,cb⟩,w.heap.size≤g:=by simp [SX.foot]; omega
 have U2:=U1.trans u2
 clear hR hC u2 k1 k2 k3 hra hrb hs1 U1
 generalize hXe:(⟨ra,rb,ca,cr,cb⟩:SX)=X at hX hX0
 obtain rfl:X.ra=ra:=by rw [← hXe]
 obtain rfl:X.ca=ca:=by rw [← hXe]
 clear hXe
 go_wp2_with fail
 refine (doubles_code W2).mono ?_
 rintro e W3 ⟨g,rfl,hB,hg,u3⟩
 have hc:=code_of_blk (sp:=[]) (by simpa using hB)
 have HN:=Lib.hid (tl_new (w0:=w) (cap:=6) (hX.upd u3 (by simp)) hX0 (U2.trans u3) hc (by decide))
 clear hX hX0 U2 u3 hB hg hc
 go_wp2_with fail
 refine HN.out.mono ?_
 rintro e W4 ⟨h1,_⟩
 obtain ⟨tb,pb,cap',rfl,hT,_⟩:=h1 doubles_formed
 have HT:=Lib.hid hT
 clear h1 hT HN
 have E1:∀ w,(binOp .eql 28 (.pointer (some ⟨X.ra,0,none⟩)) (.pointer none)).run Tryz.prog w=.ok (.bool false) w:=fun w=>by kernel_rfl
 have E2:∀ w,(binOp .eql 32 (.pointer (some ⟨X.ca,0,none⟩)) (.pointer none)).run Tryz.prog w=.ok (.bool false) w:=fun w=>by kernel_rfl
 have E3:∀ w,(binOp .eql 43 (.pointer (some ⟨tb,0,none⟩)) (.pointer none)).run Tryz.prog w=.ok (.bool false) w:=fun w=>by kernel_rfl
 go_wp2_with (go_at_call 7; refine (num11_code _ _).mono ?_; rintro e w' ⟨rfl,rfl⟩)
 clear E1 E2 E3
 go_loopw [6,7] (fun v6 v7 wr=>∃ (k:Nat) (o:AO),k≤9∧v7=.int .i64 (k:Int)∧v6=.int .i64 (toldW k:Int)∧TL w X doublesP pb cap' tb (runW k).1 (runW k).2 o wr) (fun _ v7 _=>9 - (intOf v7).toNat)
 case atStart=>exact ⟨0,none,by omega,rfl,rfl,HT.out⟩
 case round =>
  clear HT
  obtain ⟨k,o,hk,rfl,rfl,hT⟩:=hrel
  have HT:=Lib.hid hT
  clear hT
  by_cases hlt:k<9
  ·have hlt':(k:Int)<9:=by omega
   have hb:=toldW_le k
   obtain ⟨c,hc⟩:∃ c,toldW k=c:=⟨_,rfl⟩
   rw [hc] at hb
   have HS:=tl_step HT.out doubles_formed doubles_num
   obtain ⟨R,hR⟩:∃ R,StepT doublesP (runW k).1 (runW k).2=R:=⟨_,rfl⟩
   rw [hR] at HS
   have h1:(runW (k+1))=R.2:=by rw [← hR]; rfl
   have h2:toldW (k+1)=c+if R.1.2=true then 1 else 0:=by rw [← hR,← hc]; rfl
   rw [hc]
   have H1:=Lib.hid h1
   have H2:=Lib.hid h2
   have HC:=Lib.hid HS
   clear h1 h2 hR hc HS
   go_wp2_with fail
   refine HC.out.mono ?_
   rintro e W5 ⟨rfl,o',hT,_,_⟩
   have HT5:=Lib.hid hT
   obtain ⟨⟨⟨ek,ea,ew,eo,ee⟩,tl⟩,t2,sh2⟩:=R
   dsimp only at HT5 H1 H2
   simp only [TE.val]
   clear hT HT HC
   cases tl with
   | true =>
    go_wp2_with fail
    go_roundw
    case rel=>exact ⟨k+1,o',by omega,by go_num,by rw [H2.out]; simp,by rw [H1.out]; exact HT5.out.upd0 ((Upd.refl [] _).alloc _)⟩
    case measure=>simp [intOf]; omega
   | false =>
    go_wp2_with fail
    go_roundw
    case rel=>exact ⟨k+1,o',by omega,by go_num,by rw [H2.out]; simp,by rw [H1.out]; exact HT5.out.upd0 ((Upd.refl [] _).alloc _)⟩
    case measure=>simp [intOf]; omega
  ·obtain rfl:k=9:=by omega
   obtain ⟨r1,r2,r3,r4,r5⟩:=run9
   obtain ⟨q,hq⟩:∃ q,runW 9=q:=⟨_,rfl⟩
   rw [hq] at HT r2 r3 r4 r5
   rw [r1]
   obtain ⟨⟨st,er,at_,rs,sta,sv,fu,att⟩,⟨row,clk⟩⟩:=q
   dsimp only at r2 r3 r4 r5 HT
   subst r2 r3 r4 r5
   clear hq r1
   go_wp2_with fail
   refine (tl_load HT.out 0 (by omega)).mono ?_
   rintro e W5 ⟨rfl,hT,_⟩
   have HT5:=Lib.hid hT
   clear hT HT
   have e1:loadW [14] 0=14:=by decide
   have e2:(rLoad [14] 0).2=0:=by decide
   dsimp only
   rw [e1,e2]
   clear e1 e2
   go_wp2_with fail
   refine (tl_clk HT5.out).mono ?_
   rintro e W6 ⟨rfl,hT,_⟩
   have HT6:=Lib.hid hT
   clear hT HT5
   go_wp2_with fail
   refine (tl_status HT6.out).mono ?_
   rintro e W7 ⟨rfl,rfl⟩
   go_wp2_with fail
   refine (tl_state HT6.out).mono ?_
   rintro e W8 ⟨rv,wv,rfl,hT⟩
   have hU:=HT6.out.u.trans hT.u
   have hs8:sv.length=8:=by obtain ⟨acc,st,hv⟩:=HT6.out.tv; exact hv.s8
   obtain ⟨s0,s1,s2,s3,s4,s5,s6,s7,rfl⟩:=list8 hs8
   clear hs8 hT HT6
   obtain ⟨a,ha⟩:∃ a:AS,att.getD zeroS=a:=⟨_,rfl⟩
   obtain ⟨b,hb⟩:∃ b:Bool,(TS.mk 2 er at_ [0,14,0,0,0,0,0,0] sta [s0,s1,s2,s3,s4,s5,s6,s7] fu att).ins=b:=⟨_,rfl⟩
   simp only [RT.val,RT.cells,RT.fore,TS.rt,rheadV,ha,hb,List.map_cons,List.map_nil,List.cons_append,List.nil_append]
   clear ha hb
   have EF:∀ w,(Instr.field 58 (.agg #[.int .i64 2,.int .i64 er,.int .i64 at_,.int .u64 0,.int .u64 14,.int .u64 0,.int .u64 0,.int .u64 0,.int .u64 0,.int .u64 0,.int .u64 0,.bool b,.int .i64 sta,.int .u64 s0,.int .u64 s1,.int .u64 s2,.int .u64 s3,.int .u64 s4,.int .u64 s5,.int .u64 s6,.int .u64 s7,.int .i64 fu,.int .u64 a.snap,rv,wv,.int .i64 a.phase,.int .i64 a.thn,.int .u64 a.addr,.int .u64 a.word,.int .u64 a.found,.int .i64 a.at_]) 3).run Tryz.prog w=.ok (.agg #[.int .u64 0,.int .u64 14,.int .u64 0,.int .u64 0,.int .u64 0,.int .u64 0,.int .u64 0,.int .u64 0]) w:=fun w=>by kernel_rfl
   have EI:∀ w,(Instr.index 52 (.agg #[.int .u64 0,.int .u64 14,.int .u64 0,.int .u64 0,.int .u64 0,.int .u64 0,.int .u64 0,.int .u64 0]) (.int .i64 1)).run Tryz.prog w=.ok (.int .u64 14) w:=fun w=>by kernel_rfl
   go_wp2_with fail
   exact ⟨rfl,hU⟩
end Go.Proofs.YtehopaabfoopeaaGreat
