/- A law's step: the program's thread and the document's, side by side. No conditions. -/
import Derived.Test.YtehopaabfoopeaaGreatTz24
import Derived.Test.YtehopaabfoopeaaGreatTz30
set_option linter.unusedSimpArgs false
set_option linter.unusedVariables false
set_option maxRecDepth 100000
namespace Go.Proofs.YtehopaabfoopeaaGreat
open Go.RowKit
open Go.Maps
structure Thr where
 p:List Ins
 pb:Nat
 cap:Nat
 tb:Nat
 t:TS
 o:AO
 rb:Nat
 rv:Value
 wv:Value
 po:Option Addr
 pc:Nat
def Thr.mine (θ:Thr) (g:Nat):Prop:=g=θ.tb∨g=θ.pb∨g ∈ θ.o.foot∨g=θ.rb∨θ.rv.ownBlock=some g∨θ.wv.ownBlock=some g
structure TH (w:World) (X:SX) (sh:Sh) (acc st:Int) (wb qb:Nat) (θ:Thr):Prop where
 tv:TV w X sh acc st θ.p θ.pb θ.cap θ.tb θ.t θ.o
 rs:RS w θ.rb wb qb θ.t.rt sh θ.rv θ.wv
 may:TMay θ.p θ.t
 rw:RW θ.t
 fp:formedP θ.p=true
 num:∀ i ∈ θ.p,0≤i.n∧i.n<18446744073709551616
 code:CodeAt w θ.po θ.p
 ap1:∀ g,inTh X θ.pb θ.tb θ.o g → g≠θ.rb∧g≠wb∧g≠qb∧θ.rv.ownBlock≠some g∧θ.wv.ownBlock≠some g
 ap2:∀ b o,θ.po=some ⟨b,o,none⟩ → ¬ inTh X θ.pb θ.tb θ.o b∧b≠θ.rb∧b≠wb∧b≠qb
def Thr.next (θ:Thr) (t:TS) (o:AO) (rv wv:Value):Thr:={ θ with t:=t,o:=o,rv:=rv,wv:=wv }
def LOk (W:World) (X:SX) (sh:Sh) (acc st:Int) (wb qb:Nat) (θ:Thr) (e:Ending) (W':World):Prop:=
 e=.returned (.bool true)∧∃ o' rv' wv' acc' st',TH W' X (StepT θ.p θ.t sh).2.2 acc' st' wb qb (θ.next (StepT θ.p θ.t sh).2.1 o' rv' wv') ∧
  Upd (θ.tb :: (θ.o.foot ++ X.foot) ++ [θ.rb,wb,qb]) W W'∧(∀ g,(θ.next (StepT θ.p θ.t sh).2.1 o' rv' wv').mine g → θ.mine g∨W.heap.size≤g)∧(0≤acc'∧0≤st'∧acc'+st'≤acc+st+2)
section
variable {W W':World} {X:SX} {sh:Sh} {acc st:Int} {wb qb:Nat} {θ:Thr}
theorem TH.wide (h:TH W X sh acc st wb qb θ):TWide θ.t:=by
 refine ⟨⟨h.tv.r8,h.rw.1⟩,⟨h.tv.s8,h.rw.2⟩,fun s hs=>?_⟩
 rcases h.tv.att with ⟨k,_⟩ | ⟨s',a,F,rv,wv,mv,e,_,hL⟩
 ·rw [k] at hs; cases hs
 ·rw [e] at hs; cases hs; exact hL.wide
theorem TH.fit (h:TH W X sh acc st wb qb θ):Fit θ.p θ.t.rt:=by
 have hw:=h.wide
 refine ⟨h.fp,h.num,h.rw.1,fun hi=>?_,fun hi=>?_,fun hi=>?_,fun hi h1=>?_⟩
 all_goals
  cases ha:θ.t.att with
  | none =>
   have:θ.t.rt.ins=θ.t.ins:=rfl
   rw [this] at hi
   unfold TS.ins at hi
   rw [ha] at hi
   simp at hi
  | some s=>?_
 ·rw [rt_a ha]; exact hw.att s ha
 ·rw [rt_a ha]
  obtain ⟨_,_,_,hM,_,_⟩:=h.may.ins s ha
  exact ⟨hM.lenR,hM.lenW⟩
 ·exact (h.may.ins s ha).2.2.1
 ·obtain ⟨_,_,_,hM,h10,hp⟩:=h.may.ins s ha
  rw [rt_a ha] at h1 ⊢
  exact ⟨hM,h10,placed_at hp h1⟩
theorem TH.upd {S:List Nat} (h:TH W X sh acc st wb qb θ) (u:Upd S W W') (h1:∀ g ∈ S,¬ inTh X θ.pb θ.tb θ.o g) (h2:∀ g ∈ S,g≠θ.rb∧g≠wb∧g≠qb∧θ.rv.ownBlock≠some g∧θ.wv.ownBlock≠some g) (h3:∀ b o,θ.po=some ⟨b,o,none⟩ → b ∉ S):TH W' X sh acc st wb qb θ:=
 ⟨h.tv.updn u h1,h.rs.upd u ⟨fun e=>(h2 _ e).1 rfl,fun e=>(h2 _ e).2.1 rfl,fun e=>(h2 _ e).2.2.1 rfl⟩ (fun g hg e=>by
  rcases hg with k | k
  ·exact (h2 g e).2.2.2.1 k
  ·exact (h2 g e).2.2.2.2 k),h.may,h.rw,h.fp,h.num,h.code.upd u h3,h.ap1,h.ap2⟩
theorem TH.upd0 (h:TH W X sh acc st wb qb θ) (u:Upd [] W W'):TH W' X sh acc st wb qb θ:=h.upd u (by simp) (by simp) (by simp)
theorem wrap_u64_in {x:Int} (h:0≤x∧x<18446744073709551616):IntKind.u64.wrap x=x:=by rw [IntKind.wrap_u64]; omega
theorem once_sum {acc' st':Int} (h:Once acc st acc' st') (h0:0≤acc∧0≤st∧acc+st≤4611686018427387904):0≤acc'∧0≤st'∧acc'+st'≤acc+st+1:=by
 rcases h with ⟨rfl,rfl⟩ | ⟨rfl,rfl⟩ | ⟨rfl,rfl⟩
 ·omega
 ·unfold up64
  rw [wrap_u64_in (by omega)]
  omega
 ·unfold wrap64
  omega
theorem rt_lens {p:List Ins} {t:TS} (hm:TMay p t):t.rt.a.reads.length≤1024∧t.rt.a.writes.length≤1024:=by
 cases ha:t.att with
 | none =>
  have:t.rt.a=zeroS:=by obtain ⟨st,er,at_,rs,sta,sv,fu,att⟩:=t; cases ha; rfl
  rw [this]
  exact ⟨by decide,by decide⟩
 | some s =>
  rw [rt_a ha]
  obtain ⟨_,_,_,hM,_,_⟩:=hm.ins s ha
  exact ⟨hM.lenR,hM.lenW⟩
set_option maxHeartbeats 8000000 in
theorem lstep (h:TH W X sh acc st wb qb θ) (hb:0≤acc∧0≤st∧acc+st≤4611686018427387000) :
  Calls Tryz.prog 14 #[.pointer (some ⟨θ.tb,0,none⟩),.pointer (some ⟨X.ra,0,none⟩),.pointer (some ⟨X.ca,0,none⟩),.slice θ.po θ.p.length θ.pc,.pointer (some ⟨θ.rb,0,none⟩),.pointer (some ⟨wb,0,none⟩)] W (LOk W X sh acc st wb qb θ):=by
 have hwid:=h.wide
 have hfit:=h.fit
 have hsw:=h.tv.xa.wide
 have hst:=Step_code h.tv h.may hwid h.fp h.num
 have hmay2:=tmay_step h.may h.fp h.num hsw
 have hrw2:=rw_step h.rw hwid.att h.num hsw
 have heq:=step_eq h.may hwid hsw h.fp
 obtain ⟨R,hR⟩:∃ R,StepT θ.p θ.t sh=R:=⟨_,rfl⟩
 have HRR:=Lib.hid hR
 rw [hR] at hst hmay2 hrw2 heq
 obtain ⟨⟨⟨ek,ea,ew,eo,ee⟩,tl⟩,t2,sh2⟩:=R
 dsimp only at hst hmay2 hrw2
 unfold asR at heq
 dsimp only at heq
 have HT:=Lib.hid h
 have HST:=Lib.hid hst
 have HEQ:=Lib.hid heq
 have HFT:=Lib.hid hfit
 have HMY:=Lib.hid hmay2
 have HRW:=Lib.hid hrw2
 obtain ⟨p,pb,cap,tb,t,o,rb,rv,wv,po,pc⟩:=θ
 dsimp only at HT HST HEQ HFT HMY HRW ⊢
 have HB:=Lib.hid hb
 have HPB:=Lib.hid (show ∀ b o2,po=some ⟨b,o2,none⟩ → b<W.heap.size from fun b o9 e=>by
  subst e
  have hl:1≤p.length:=(formedP_len HT.out.fp).1
  obtain ⟨x,hx⟩:∃ x,p[0]? = some x:=⟨_,List.getElem?_eq_getElem (by omega)⟩
  obtain ⟨b3,o3,e3,c3,_⟩:=HT.out.code 0 x hx
  cases e3
  exact World.block_lt_of_cell? _ _ c3)
 have hc1:IntKind.u64.wrap st=st:=wrap_u64_in (by omega)
 have hc2:IntKind.u64.wrap (acc+st)=acc+st:=wrap_u64_in (by omega)
 have hc3:IntKind.u64.wrap (acc+st+1)=acc+st+1:=wrap_u64_in (by omega)
 clear h hwid hfit hsw hst hmay2 hrw2 heq hR hb
 refine calls_all fun K hK=>?_
 go_enter Tryz.func14,Tryz.ntmps14
 go_wp2_with fail
 refine (acc_any HT.out.tv.xa.row).mono ?_
 rintro e w2 ⟨rfl,rfl⟩
 go_wp2_with fail
 refine (clkSteps HT.out.tv.xa.clk).mono ?_
 rintro e w2 ⟨rfl,rfl⟩
 go_wp2_with fail
 refine HST.out.mono ?_
 rintro e W1 ⟨rfl,o2,acc2,st2,V1,u1,hf,honce⟩
 simp only [TE.val]
 have hsum:=once_sum honce ⟨HB.out.1,HB.out.2.1,by have:=HB.out; omega⟩
 have hb:=HB.out
 have hc4:IntKind.u64.wrap st2=st2:=wrap_u64_in (by omega)
 have hc5:IntKind.u64.wrap (acc2+st2)=acc2+st2:=wrap_u64_in (by omega)
 have bg:decide (acc+st+1<acc2+st2)=false:=decide_eq_false (by omega)
 have HSM:=Lib.hid hsum
 have hin1:∀ g ∈ tb :: (o.foot ++ X.foot),inTh X pb tb o g:=fun g hg=>foot_in hg
 have hrs1:=HT.out.rs.upd u1 ⟨fun e=>(HT.out.ap1 _ (hin1 _ e)).1 rfl,fun e=>(HT.out.ap1 _ (hin1 _ e)).2.1 rfl,fun e=>(HT.out.ap1 _ (hin1 _ e)).2.2.1 rfl⟩ (fun g hg e=>by
  rcases hg with k | k
  ·exact (HT.out.ap1 g (hin1 _ e)).2.2.2.1 k
  ·exact (HT.out.ap1 g (hin1 _ e)).2.2.2.2 k)
 have hcd1:=HT.out.code.upd u1 (fun b o2 e k=>(HT.out.ap2 b o2 e).1 (hin1 _ k))
 have hn1:∀ g,inTh X pb tb o2 g → inTh X pb tb o g∨W.heap.size≤g:=fun g hg=>by
  rcases hg with k | k | k | k
  ·exact .inl (.inl k)
  ·exact .inl (.inr (.inl k))
  ·rcases hf g k with z | z
   ·exact .inl (.inr (.inr (.inl z)))
   ·exact .inr z
  ·exact .inl (.inr (.inr (.inr k)))
 obtain ⟨W2,hW2⟩:∃ W,W1.alloc (.cells #[.int .i64 0,.int .i64 ek,.int .u64 ea,.int .u64 ew,.bool eo,.int .i64 ee] 86)=W:=⟨_,rfl⟩
 have u2:Upd [] W1 W2:=by rw [← hW2]; exact (Upd.refl [] _).alloc _
 have EB1:Blk W2 W1.heap.size [.int .i64 0,.int .i64 ek,.int .u64 ea,.int .u64 ew,.bool eo,.int .i64 ee] 86:=by rw [← hW2]; exact Blk.new _ _ _
 have HV2:=Lib.hid (V1.upd0 u2)
 have HR2:=Lib.hid (hrs1.upd0 u2)
 have HC2:=Lib.hid (hcd1.upd0 u2)
 have HE1:=Lib.hid EB1
 have HU2:=Lib.hid (u1.trans (u2.mono (by simp)))
 have HZ1:=Lib.hid u1.size
 have HZ2:=Lib.hid (Nat.le_trans u1.size u2.size)
 have HPO:=Lib.hid (show ∀ b o2,po=some ⟨b,o2,none⟩ → b<W.heap.size from fun b o2 e=>HPB.out b o2 e)
 have HB8:=Lib.hid (show rb<W1.heap.size∧wb<W1.heap.size∧qb<W1.heap.size from ⟨hrs1.th.lt,hrs1.wo.lt.1,hrs1.wo.lt.2⟩)
 have HN1:=Lib.hid hn1
 have HF1:=Lib.hid hf
 clear V1 hrs1 hcd1 EB1 u1 u2 hin1 hn1 hf honce hsum hb HST
 go_upto_region 3 with (fail)
 clear hW2
 go_wp2_with fail
 refine (acc_any HV2.out.xa.row).mono ?_
 rintro e w2 ⟨rfl,rfl⟩
 go_wp2_with fail
 refine (clkSteps HV2.out.xa.clk).mono ?_
 rintro e w2 ⟨rfl,rfl⟩
 go_wp2_with fail
 refine (num11_code _ _).mono ?_
 rintro e w2 ⟨rfl,rfl⟩
 have hx:=xStep_code (cap:=pc) HR2.out HFT.out HC2.out (fun b o2 e=>(HT.out.ap2 b o2 e).2)
 rw [HEQ.out] at hx
 have HX:=Lib.hid hx
 clear hx
 go_wp2_with fail
 refine HX.out.mono ?_
 rintro e W3 ⟨rfl,rv2,wv2,hrs3,u3,hn3⟩
 simp only [TE.val]
 have hlt0:rb<W.heap.size∧wb<W.heap.size∧qb<W.heap.size:=⟨HT.out.rs.th.lt,HT.out.rs.wo.lt.1,HT.out.rs.wo.lt.2⟩
 have hsz2:=HU2.out.size
 have hnot:∀ g,g=rb∨g=wb∨g=qb → ¬ inTh X pb tb o2 g:=fun g hg hi=>by
  rcases HN1.out g hi with k | k
  ·have:=HT.out.ap1 g k
   rcases hg with rfl | rfl | rfl
   ·exact this.1 rfl
   ·exact this.2.1 rfl
   ·exact this.2.2.1 rfl
  ·rcases hg with rfl | rfl | rfl <;> omega
 have hown:∀ g,rv2.ownBlock=some g∨wv2.ownBlock=some g → ¬ inTh X pb tb o2 g:=fun g hg hi=>by
  rcases hn3 g hg with k | k
  ·rcases HN1.out g hi with z | z
   ·have:=HT.out.ap1 g z
    rcases k with k | k
    ·exact this.2.2.2.1 k
    ·exact this.2.2.2.2 k
   ·have h9:∀ q,rv.ownBlock=some q∨wv.ownBlock=some q → q<W.heap.size:=fun q hq=>(HT.out.rs.th.ap q hq).2
    have:=h9 g k
    omega
  ·have:=HV2.out.lt hi
   omega
 have V3:=HV2.out.updn u3 (fun g hg=>hnot g (by simpa using hg))
 have hc3:=HC2.out.upd u3 (fun b o9 e k=>by
  have:=(HT.out.ap2 b o9 e).2
  simp at k
  rcases k with k | k | k
  ·exact this.1 k
  ·exact this.2.1 k
  ·exact this.2.2 k)
 have E3:=HE1.out.upd u3 (by have:=HU2.out.size; have h9:=HE1.out.lt; intro e; simp at e; have h8:=HB8.out; omega)
 obtain ⟨W4,hW4⟩:∃ W,W3.alloc (.cells #[.int .i64 0,.int .i64 ek,.int .u64 ea,.int .u64 ew,.bool eo,.int .i64 ee] 86)=W:=⟨_,rfl⟩
 have u4:Upd [] W3 W4:=by rw [← hW4]; exact (Upd.refl [] _).alloc _
 have EB2:Blk W4 W3.heap.size [.int .i64 0,.int .i64 ek,.int .u64 ea,.int .u64 ew,.bool eo,.int .i64 ee] 86:=by rw [← hW4]; exact Blk.new _ _ _
 have HV4:=Lib.hid (V3.upd0 u4)
 have HR4:=Lib.hid (hrs3.upd0 u4)
 have HC4:=Lib.hid (hc3.upd0 u4)
 have HE14:=Lib.hid (E3.upd u4 (by simp))
 have HE24:=Lib.hid EB2
 have HZ3:=Lib.hid (show W.heap.size≤W3.heap.size from Nat.le_trans HZ2.out u3.size)
 have HU4:=Lib.hid ((HU2.out.mono (T:=tb :: (o.foot ++ X.foot) ++ [rb,wb,qb]) (fun g hg=>.inl (List.mem_append_left _ hg))).trans ((u3.mono (T:=tb :: (o.foot ++ X.foot) ++ [rb,wb,qb]) (fun g hg=>.inl (List.mem_append_right _ hg))).trans (u4.mono (by simp))))
 have HOW:=Lib.hid hown
 have HN3:=Lib.hid hn3
 clear HV2 HR2 HC2 HE1 HU2 HX hrs3 u3 hn3 V3 hc3 E3 EB2 u4 hown hlt0 hsz2
 have HNO:=Lib.hid hnot
 clear hnot
 go_upto_region 6 with (fail)
 clear hW4
 go_wp2_with fail
 refine (clkLoad HV4.out.xa.clk).mono ?_
 rintro e W5 ⟨rfl,c5,u5⟩
 have hx5:=HV4.out.xa.clkd u5 c5
 have hsub5:∀ g ∈ [X.ca,X.cr,X.cb],g ∈ X.foot:=fun g hg=>by simp [SX.foot] at hg ⊢; omega
 have V5:=HV4.out.moved hx5 u5 hsub5
 have hin5:∀ g ∈ [X.ca,X.cr,X.cb],inTh X pb tb o2 g:=fun g hg=>.inr (.inr (.inr (hsub5 g hg)))
 have hr5:=HR4.out.upd u5 ⟨fun e=>HNO.out _ (.inl rfl) (hin5 _ e),fun e=>HNO.out _ (.inr (.inl rfl)) (hin5 _ e),fun e=>HNO.out _ (.inr (.inr rfl)) (hin5 _ e)⟩ (fun g hg e=>HOW.out g hg (hin5 g e))
 have hX5:=HT.out.tv.xa.lt
 have hz1:=HZ1.out
 have HE15:=Lib.hid (HE14.out.upd u5 (by have h1:=hX5 X.ca (by simp [SX.foot]); have h2:=hX5 X.cr (by simp [SX.foot]); have h3:=hX5 X.cb (by simp [SX.foot]); intro e; simp at e; omega))
 have HE25:=Lib.hid (HE24.out.upd u5 (by have h1:=hX5 X.ca (by simp [SX.foot]); have h2:=hX5 X.cr (by simp [SX.foot]); have h3:=hX5 X.cb (by simp [SX.foot]); have:=HZ3.out; intro e; simp at e; omega))
 have hc5:=HC4.out.upd u5 (fun b o9 e k=>(HT.out.ap2 b o9 e).1 (.inr (.inr (.inr (hsub5 _ k)))))
 have hU5:Upd (tb :: (o.foot ++ X.foot) ++ [rb,wb,qb]) W W5:=HU4.out.trans (u5.mono (fun g hg=>.inl (List.mem_append_left _ (List.mem_cons_of_mem _ (List.mem_append_right _ (hsub5 g hg))))))
 have hwst:wrap64 (st2+1)=st2+1:=by have:=HSM.out; have:=HB.out; unfold wrap64; omega
 rw [hwst] at V5
 have hTH:TH W5 X sh2 acc2 (st2+1) wb qb ⟨p,pb,cap,tb,t2,o2,rb,rv2,wv2,po,pc⟩:=
  ⟨V5,hr5,HMY.out,HRW.out,HT.out.fp,HT.out.num,hc5,fun g hg=>⟨fun e=>HNO.out g (.inl e) hg,fun e=>HNO.out g (.inr (.inl e)) hg,fun e=>HNO.out g (.inr (.inr e)) hg,fun e=>HOW.out g (.inl e) hg,fun e=>HOW.out g (.inr e) hg⟩,fun b o9 e=>⟨fun hi=>by
   rcases HN1.out b hi with z | z
   ·exact (HT.out.ap2 b o9 e).1 z
   ·have:=HPO.out b o9 e
    omega,(HT.out.ap2 b o9 e).2⟩⟩
 have hmine:∀ g,(⟨p,pb,cap,tb,t2,o2,rb,rv2,wv2,po,pc⟩:Thr).mine g → (⟨p,pb,cap,tb,t,o,rb,rv,wv,po,pc⟩:Thr).mine g∨W.heap.size≤g:=fun g hg=>by
  rcases hg with k | k | k | k | k | k
  ·exact .inl (.inl k)
  ·exact .inl (.inr (.inl k))
  ·rcases HF1.out g k with z | z
   ·exact .inl (.inr (.inr (.inl z)))
   ·exact .inr z
  ·exact .inl (.inr (.inr (.inr (.inl k))))
  ·rcases HN3.out g (.inl k) with (z | z) | z
   ·exact .inl (.inr (.inr (.inr (.inr (.inl z)))))
   ·exact .inl (.inr (.inr (.inr (.inr (.inr z)))))
   ·exact .inr (by have:=HZ2.out; omega)
  ·rcases HN3.out g (.inr k) with (z | z) | z
   ·exact .inl (.inr (.inr (.inr (.inr (.inl z)))))
   ·exact .inl (.inr (.inr (.inr (.inr (.inr z)))))
   ·exact .inr (by have:=HZ2.out; omega)
 have HFIN:=Lib.hid (show ∀ w',Upd [] W5 w' → LOk W X sh acc st wb qb ⟨p,pb,cap,tb,t,o,rb,rv,wv,po,pc⟩ (.returned (.bool true)) w' from fun w' u=>by
  refine ⟨rfl,o2,rv2,wv2,acc2,st2+1,?_,hU5.trans (u.mono (by simp)),?_,?_⟩
  ·rw [HRR.out]
   exact hTH.upd0 u
  ·rw [HRR.out]
   exact hmine
  ·have:=HSM.out
   omega)
 have HV5:=Lib.hid V5
 have HR5:=Lib.hid hr5
 have c11:W5.cell? ⟨rb,11,none⟩=some (.bool t2.rt.ins):=hr5.th.head.cell 11 (rcells hr5.th.r8 hr5.th.s8 rv2 wv2).2.2.1
 have c25:W5.cell? ⟨rb,25,none⟩=some (.int .i64 t2.rt.a.phase):=hr5.th.head.cell 25 (rcells hr5.th.r8 hr5.th.s8 rv2 wv2).2.2.2.2.2.1
 have hatt:=V5.att
 obtain ⟨b1,hb1⟩:∃ b,W1.heap.size=b:=⟨_,rfl⟩
 obtain ⟨b2,hb2⟩:∃ b,W3.heap.size=b:=⟨_,rfl⟩
 rw [hb1] at HE15 ⊢
 rw [hb2] at HE25 ⊢
 clear c5 u5 hx5 V5 hin5 hr5 hX5 hz1 hc5 hU5 hwst hTH hmine hsub5 HE14 HE24 HC4 HU4 HV4 HR4 HNO HOW HN3 HN1 HF1 hb1 hb2 HB8
 rcases hatt with ⟨ha,ho⟩ | ⟨s,a,F,rv9,wv9,mv,ha,ho,hL⟩
 ·have hi:t2.rt.ins=false:=by show t2.ins=false; unfold TS.ins; rw [ha]; rfl
  rw [hi] at c11
  have HLK:Hid (lockedT t2=false):=Lib.hid (by unfold lockedT; rw [ha])
  clear ha ho hi c25
  go_upto_region 8 with (fail)
  obtain ⟨W6,hW6⟩:∃ W,W5.drew=W:=⟨_,rfl⟩
  have u6:Upd [] W5 W6:=by rw [← hW6]; exact (Upd.refl [] _).drew
  obtain ⟨cq,hwh⟩:=HR5.out.wo.head
  have d0:=hwh.cell 0 rfl
  have d1:=hwh.cell 1 rfl
  have hst0:=HR5.out.th.head.cell 0 (rcells HR5.out.th.r8 HR5.out.th.s8 rv2 wv2).1
  have hcl:=rcells_len HR5.out.th.r8 HR5.out.th.s8 rv2 wv2
  have hrg:=HR5.out.th.head.range
  have HV:=Lib.hid (show t2.rt.val rv2 wv2=.agg (t2.rt.cells rv2 wv2).toArray from rfl)
  obtain ⟨CL,hCL⟩:∃ L,t2.rt.cells rv2 wv2=L:=⟨_,rfl⟩
  rw [hCL] at hcl hrg HV
  have HSU:=Lib.hid (show ∀ w',Upd [] W5 w' → (w'.cell? ⟨b1,0,none⟩=some (.int .i64 0)∧w'.cell? ⟨b2,0,none⟩=some (.int .i64 0)∧w'.cell? ⟨b1,1,none⟩=some (.int .i64 ek)∧w'.cell? ⟨b2,1,none⟩=some (.int .i64 ek)∧w'.cell? ⟨b1,2,none⟩=some (.int .u64 ea)∧w'.cell? ⟨b2,2,none⟩=some (.int .u64 ea)∧w'.cell? ⟨b1,3,none⟩=some (.int .u64 ew)∧w'.cell? ⟨b2,3,none⟩=some (.int .u64 ew)∧w'.cell? ⟨b1,4,none⟩=some (.bool eo)∧w'.cell? ⟨b2,4,none⟩=some (.bool eo)∧w'.cell? ⟨b1,5,none⟩=some (.int .i64 ee)∧w'.cell? ⟨b2,5,none⟩=some (.int .i64 ee))∧(w'.cell? ⟨wb,0,none⟩=some (.slice (some ⟨qb,0,none⟩) sh2.row.length cq)∧w'.cell? ⟨wb,1,none⟩=some (.int .u64 sh2.clock))∧w'.cell? ⟨rb,0,none⟩=some (.int .i64 t2.st)∧w'.rangeAt rb 0 CL from fun w' u=>⟨⟨u.cell (by simp) (HE15.out.cell 0 rfl),u.cell (by simp) (HE25.out.cell 0 rfl),u.cell (by simp) (HE15.out.cell 1 rfl),u.cell (by simp) (HE25.out.cell 1 rfl),u.cell (by simp) (HE15.out.cell 2 rfl),u.cell (by simp) (HE25.out.cell 2 rfl),u.cell (by simp) (HE15.out.cell 3 rfl),u.cell (by simp) (HE25.out.cell 3 rfl),u.cell (by simp) (HE15.out.cell 4 rfl),u.cell (by simp) (HE25.out.cell 4 rfl),u.cell (by simp) (HE15.out.cell 5 rfl),u.cell (by simp) (HE25.out.cell 5 rfl)⟩,⟨u.cell (by simp) d0,u.cell (by simp) d1⟩,u.cell (by simp) hst0,fun j v hj=>u.cell (by simp) (hrg j v hj)⟩)
  clear hrg hst0 hwh
  refine wp_region_br (fun w'=>(w'.cell? ⟨b1,0,none⟩=some (.int .i64 0)∧w'.cell? ⟨b2,0,none⟩=some (.int .i64 0)∧w'.cell? ⟨b1,1,none⟩=some (.int .i64 ek)∧w'.cell? ⟨b2,1,none⟩=some (.int .i64 ek)∧w'.cell? ⟨b1,2,none⟩=some (.int .u64 ea)∧w'.cell? ⟨b2,2,none⟩=some (.int .u64 ea)∧w'.cell? ⟨b1,3,none⟩=some (.int .u64 ew)∧w'.cell? ⟨b2,3,none⟩=some (.int .u64 ew)∧w'.cell? ⟨b1,4,none⟩=some (.bool eo)∧w'.cell? ⟨b2,4,none⟩=some (.bool eo)∧w'.cell? ⟨b1,5,none⟩=some (.int .i64 ee)∧w'.cell? ⟨b2,5,none⟩=some (.int .i64 ee))∧(w'.cell? ⟨wb,0,none⟩=some (.slice (some ⟨qb,0,none⟩) sh2.row.length cq)∧w'.cell? ⟨wb,1,none⟩=some (.int .u64 sh2.clock))∧w'.cell? ⟨rb,0,none⟩=some (.int .i64 t2.st)∧w'.rangeAt rb 0 CL) [0,1,2,3,4,5,6,7,8,9,10,11,12,13,14,15,16,17,18,19,20,21,22,24,25,26,27,23,28,29,30,31,33,34,35,32,36,37,38,39,41,42,43,44,40,45,46,47,48,50,49,51,52,53] (by kernel_rfl) (by kernel_rfl) (by rw [hW6]; exact HSU.out _ u6) ?_
  rw [hW6]
  clear hW6 d0 d1
  repeat
   first
    | (refine wpB_skip rfl (by kernel_rfl) (by rfl) ?_)
    | ((refine wpB_take (v:=?_) rfl rfl (by kernel_rfl) (by rfl) ?_ ?_); rotate_left 1; (· ((intro w hSw; (try dsimp only at hSw); go_simp); try with_reducible rfl)))
   try simp only [Act.put,List.setIfInBounds_toArray,List.set_cons_zero,List.set_cons_succ]
  refine wpB_eff rfl (by kernel_rfl) (by rfl) (fun K2 hK2=>?_)
  go_simp
  refine (num11_code _ _).mono ?_
  rintro e w9 ⟨rfl,rfl⟩
  refine hK2.out _ _ (HSU.out _ u6) ?_
  clear hK2 K2
  repeat
   first
    | (refine wpB_skip rfl (by kernel_rfl) (by rfl) ?_)
    | ((refine wpB_take (v:=?_) rfl rfl (by kernel_rfl) (by rfl) ?_ ?_); rotate_left 1; (· ((intro w hSw; (try dsimp only at hSw); go_simp); try with_reducible rfl)))
   try simp only [Act.put,List.setIfInBounds_toArray,List.set_cons_zero,List.set_cons_succ]
  refine wpB_eff rfl (by kernel_rfl) (by rfl) (fun K2 hK2=>?_)
  go_simp
  refine (words_row (HV5.out.upd0 u6).xa.row).mono ?_
  rintro e W7 ⟨g7,sp7,rfl,hg7,B7,u7⟩
  have u67:=u6.trans u7
  refine hK2.out _ _ (HSU.out _ u67) ?_
  clear hK2 K2
  repeat
   first
    | (refine wpB_skip rfl (by kernel_rfl) (by rfl) ?_)
    | ((refine wpB_take (v:=?_) rfl rfl (by kernel_rfl) (by rfl) ?_ ?_); rotate_left 1; (· ((intro w hSw; (try dsimp only at hSw); go_simp); try with_reducible rfl)))
   try simp only [Act.put,List.setIfInBounds_toArray,List.set_cons_zero,List.set_cons_succ]
  refine wpB_eff rfl (by kernel_rfl) (by rfl) (fun K2 hK2=>?_)
  go_simp
  obtain ⟨spq,hbq⟩:=(HR5.out.upd0 u67).wo.row
  refine (same_words W7 _ _ sh2.row _ cq (SlI.of_blk B7) (SlI.of_blk hbq) (by have:=HR5.out.wo.len; omega)).mono ?_
  rintro e W8 ⟨rfl,u8⟩
  have u68:=u67.trans u8
  refine hK2.out _ _ (HSU.out _ u68) ?_
  clear hK2 K2 B7 hbq hg7 u7 u8 u67
  repeat
   first
    | (refine wpB_skip rfl (by kernel_rfl) (by rfl) ?_)
    | ((refine wpB_take (v:=?_) rfl rfl (by kernel_rfl) (by rfl) ?_ ?_); rotate_left 1; (· ((intro w hSw; (try dsimp only at hSw); go_simp); try with_reducible rfl)))
   try simp only [Act.put,List.setIfInBounds_toArray,List.set_cons_zero,List.set_cons_succ]
  refine wpB_load_mid rfl rfl (by kernel_rfl) (by rfl) 58 _ rfl rb 0 rfl CL _ (fun _ h=>h.2.2.2) Tryz.underlying58 (by rfl) (by rw [hcl]; kernel_rfl) ?_
  try simp only [Act.put,List.setIfInBounds_toArray,List.set_cons_zero,List.set_cons_succ]
  repeat
   first
    | (refine wpB_skip rfl (by kernel_rfl) (by rfl) ?_)
    | ((refine wpB_take (v:=?_) rfl rfl (by kernel_rfl) (by rfl) ?_ ?_); rotate_left 1; (· ((intro w hSw; (try dsimp only at hSw); go_simp); try with_reducible rfl)))
   try simp only [Act.put,List.setIfInBounds_toArray,List.set_cons_zero,List.set_cons_succ]
  refine wpB_eff rfl (by kernel_rfl) (by rfl) (fun K2 hK2=>?_)
  go_simp
  refine (state_tv (HV5.out.upd0 u68) (fun s hs=>(HMY.out.ins s hs).2.2.2.1)).mono ?_
  rintro e W9 ⟨r9,w9,rfl,hN9⟩
  have u69:=u68.trans hN9.u
  refine hK2.out _ _ (HSU.out _ u69) ?_
  clear hK2 K2
  repeat
   first
    | (refine wpB_skip rfl (by kernel_rfl) (by rfl) ?_)
    | ((refine wpB_take (v:=?_) rfl rfl (by kernel_rfl) (by rfl) ?_ ?_); rotate_left 1; (· ((intro w hSw; (try dsimp only at hSw); go_simp); try with_reducible rfl)))
   try simp only [Act.put,List.setIfInBounds_toArray,List.set_cons_zero,List.set_cons_succ]
  refine wpB_eff rfl (by kernel_rfl) (by rfl) (fun K2 hK2=>?_)
  go_simp
  have hx9:=xsame W9 t2.rt r9 w9 rv2 wv2 HR5.out.th.r8 HR5.out.th.s8 hN9.rd.slc hN9.wr.slc (HR5.out.upd0 u69).th.rd (HR5.out.upd0 u69).th.wr (by have:=(rt_lens HMY.out).1; omega) (by have:=(rt_lens HMY.out).2; omega)
  rw [HV.out] at hx9
  refine hx9.mono ?_
  rintro e W10 ⟨rfl,u10⟩
  have u610:=u69.trans u10
  refine hK2.out _ _ (HSU.out _ u610) ?_
  clear hK2 K2 hx9 u10 hN9
  repeat
   first
    | (refine wpB_skip rfl (by kernel_rfl) (by rfl) ?_)
    | ((refine wpB_take (v:=?_) rfl rfl (by kernel_rfl) (by rfl) ?_ ?_); rotate_left 1; (· ((intro w hSw; (try dsimp only at hSw); go_simp); try with_reducible rfl)))
   try simp only [Act.put,List.setIfInBounds_toArray,List.set_cons_zero,List.set_cons_succ]
  refine wpB_eff rfl (by kernel_rfl) (by rfl) (fun K2 hK2=>?_)
  go_simp
  refine (status_code (HV5.out.upd0 u610)).mono ?_
  rintro e w11 ⟨rfl,rfl⟩
  refine hK2.out _ _ (HSU.out _ u610) ?_
  clear hK2 K2
  repeat
   first
    | (refine wpB_skip rfl (by kernel_rfl) (by rfl) ?_)
    | ((refine wpB_take (v:=?_) rfl rfl (by kernel_rfl) (by rfl) ?_ ?_); rotate_left 1; (· ((intro w hSw; (try dsimp only at hSw); go_simp); try with_reducible rfl)))
   try simp only [Act.put,List.setIfInBounds_toArray,List.set_cons_zero,List.set_cons_succ]
  refine wpB_eff rfl (by kernel_rfl) (by rfl) (fun K2 hK2=>?_)
  go_simp
  have hlc:=tlocked_code (HV5.out.upd0 u610)
  rw [HLK.out] at hlc
  refine hlc.mono ?_
  rintro e w11 ⟨rfl,rfl⟩
  refine hK2.out _ _ (HSU.out _ u610) ?_
  clear hK2 K2 hlc
  repeat
   first
    | (refine wpB_skip rfl (by kernel_rfl) (by rfl) ?_)
    | ((refine wpB_take (v:=?_) rfl rfl (by kernel_rfl) (by rfl) ?_ ?_); rotate_left 1; (· ((intro w hSw; (try dsimp only at hSw); go_simp); try with_reducible rfl)))
   try simp only [Act.put,List.setIfInBounds_toArray,List.set_cons_zero,List.set_cons_succ]
  refine wpB_end (by kernel_rfl) (NoPanic.normal ?_)
  go_wp2_with fail
  all_goals exact HFIN.out _ u610
 ·have hi:t2.rt.ins=true:=rt_ins ha
  rw [hi] at c11
  rw [rt_a ha] at c25
  by_cases e8:s.phase=8
  ·rw [e8] at c25
   have HLK:Hid (lockedT t2=true):=Lib.hid (by unfold lockedT; rw [ha]; simp [e8])
   clear ha ho hi e8 hL
   go_upto_region 8 with (fail)
   obtain ⟨W6,hW6⟩:∃ W,W5.drew=W:=⟨_,rfl⟩
   have u6:Upd [] W5 W6:=by rw [← hW6]; exact (Upd.refl [] _).drew
   obtain ⟨cq,hwh⟩:=HR5.out.wo.head
   have d0:=hwh.cell 0 rfl
   have d1:=hwh.cell 1 rfl
   have hst0:=HR5.out.th.head.cell 0 (rcells HR5.out.th.r8 HR5.out.th.s8 rv2 wv2).1
   have hcl:=rcells_len HR5.out.th.r8 HR5.out.th.s8 rv2 wv2
   have hrg:=HR5.out.th.head.range
   have HV:=Lib.hid (show t2.rt.val rv2 wv2=.agg (t2.rt.cells rv2 wv2).toArray from rfl)
   obtain ⟨CL,hCL⟩:∃ L,t2.rt.cells rv2 wv2=L:=⟨_,rfl⟩
   rw [hCL] at hcl hrg HV
   have HSU:=Lib.hid (show ∀ w',Upd [] W5 w' → (w'.cell? ⟨b1,0,none⟩=some (.int .i64 0)∧w'.cell? ⟨b2,0,none⟩=some (.int .i64 0)∧w'.cell? ⟨b1,1,none⟩=some (.int .i64 ek)∧w'.cell? ⟨b2,1,none⟩=some (.int .i64 ek)∧w'.cell? ⟨b1,2,none⟩=some (.int .u64 ea)∧w'.cell? ⟨b2,2,none⟩=some (.int .u64 ea)∧w'.cell? ⟨b1,3,none⟩=some (.int .u64 ew)∧w'.cell? ⟨b2,3,none⟩=some (.int .u64 ew)∧w'.cell? ⟨b1,4,none⟩=some (.bool eo)∧w'.cell? ⟨b2,4,none⟩=some (.bool eo)∧w'.cell? ⟨b1,5,none⟩=some (.int .i64 ee)∧w'.cell? ⟨b2,5,none⟩=some (.int .i64 ee))∧(w'.cell? ⟨wb,0,none⟩=some (.slice (some ⟨qb,0,none⟩) sh2.row.length cq)∧w'.cell? ⟨wb,1,none⟩=some (.int .u64 sh2.clock))∧w'.cell? ⟨rb,0,none⟩=some (.int .i64 t2.st)∧w'.rangeAt rb 0 CL from fun w' u=>⟨⟨u.cell (by simp) (HE15.out.cell 0 rfl),u.cell (by simp) (HE25.out.cell 0 rfl),u.cell (by simp) (HE15.out.cell 1 rfl),u.cell (by simp) (HE25.out.cell 1 rfl),u.cell (by simp) (HE15.out.cell 2 rfl),u.cell (by simp) (HE25.out.cell 2 rfl),u.cell (by simp) (HE15.out.cell 3 rfl),u.cell (by simp) (HE25.out.cell 3 rfl),u.cell (by simp) (HE15.out.cell 4 rfl),u.cell (by simp) (HE25.out.cell 4 rfl),u.cell (by simp) (HE15.out.cell 5 rfl),u.cell (by simp) (HE25.out.cell 5 rfl)⟩,⟨u.cell (by simp) d0,u.cell (by simp) d1⟩,u.cell (by simp) hst0,fun j v hj=>u.cell (by simp) (hrg j v hj)⟩)
   clear hrg hst0 hwh
   refine wp_region_br (fun w'=>(w'.cell? ⟨b1,0,none⟩=some (.int .i64 0)∧w'.cell? ⟨b2,0,none⟩=some (.int .i64 0)∧w'.cell? ⟨b1,1,none⟩=some (.int .i64 ek)∧w'.cell? ⟨b2,1,none⟩=some (.int .i64 ek)∧w'.cell? ⟨b1,2,none⟩=some (.int .u64 ea)∧w'.cell? ⟨b2,2,none⟩=some (.int .u64 ea)∧w'.cell? ⟨b1,3,none⟩=some (.int .u64 ew)∧w'.cell? ⟨b2,3,none⟩=some (.int .u64 ew)∧w'.cell? ⟨b1,4,none⟩=some (.bool eo)∧w'.cell? ⟨b2,4,none⟩=some (.bool eo)∧w'.cell? ⟨b1,5,none⟩=some (.int .i64 ee)∧w'.cell? ⟨b2,5,none⟩=some (.int .i64 ee))∧(w'.cell? ⟨wb,0,none⟩=some (.slice (some ⟨qb,0,none⟩) sh2.row.length cq)∧w'.cell? ⟨wb,1,none⟩=some (.int .u64 sh2.clock))∧w'.cell? ⟨rb,0,none⟩=some (.int .i64 t2.st)∧w'.rangeAt rb 0 CL) [0,1,2,3,4,5,6,7,8,9,10,11,12,13,14,15,16,17,18,19,20,21,22,24,25,26,27,23,28,29,30,31,33,34,35,32,36,37,38,39,41,42,43,44,40,45,46,47,48,50,49,51,52,53] (by kernel_rfl) (by kernel_rfl) (by rw [hW6]; exact HSU.out _ u6) ?_
   rw [hW6]
   clear hW6 d0 d1
   repeat
    first
     | (refine wpB_skip rfl (by kernel_rfl) (by rfl) ?_)
     | ((refine wpB_take (v:=?_) rfl rfl (by kernel_rfl) (by rfl) ?_ ?_); rotate_left 1; (· ((intro w hSw; (try dsimp only at hSw); go_simp); try with_reducible rfl)))
    try simp only [Act.put,List.setIfInBounds_toArray,List.set_cons_zero,List.set_cons_succ]
   refine wpB_eff rfl (by kernel_rfl) (by rfl) (fun K2 hK2=>?_)
   go_simp
   refine (num11_code _ _).mono ?_
   rintro e w9 ⟨rfl,rfl⟩
   refine hK2.out _ _ (HSU.out _ u6) ?_
   clear hK2 K2
   repeat
    first
     | (refine wpB_skip rfl (by kernel_rfl) (by rfl) ?_)
     | ((refine wpB_take (v:=?_) rfl rfl (by kernel_rfl) (by rfl) ?_ ?_); rotate_left 1; (· ((intro w hSw; (try dsimp only at hSw); go_simp); try with_reducible rfl)))
    try simp only [Act.put,List.setIfInBounds_toArray,List.set_cons_zero,List.set_cons_succ]
   refine wpB_eff rfl (by kernel_rfl) (by rfl) (fun K2 hK2=>?_)
   go_simp
   refine (words_row (HV5.out.upd0 u6).xa.row).mono ?_
   rintro e W7 ⟨g7,sp7,rfl,hg7,B7,u7⟩
   have u67:=u6.trans u7
   refine hK2.out _ _ (HSU.out _ u67) ?_
   clear hK2 K2
   repeat
    first
     | (refine wpB_skip rfl (by kernel_rfl) (by rfl) ?_)
     | ((refine wpB_take (v:=?_) rfl rfl (by kernel_rfl) (by rfl) ?_ ?_); rotate_left 1; (· ((intro w hSw; (try dsimp only at hSw); go_simp); try with_reducible rfl)))
    try simp only [Act.put,List.setIfInBounds_toArray,List.set_cons_zero,List.set_cons_succ]
   refine wpB_eff rfl (by kernel_rfl) (by rfl) (fun K2 hK2=>?_)
   go_simp
   obtain ⟨spq,hbq⟩:=(HR5.out.upd0 u67).wo.row
   refine (same_words W7 _ _ sh2.row _ cq (SlI.of_blk B7) (SlI.of_blk hbq) (by have:=HR5.out.wo.len; omega)).mono ?_
   rintro e W8 ⟨rfl,u8⟩
   have u68:=u67.trans u8
   refine hK2.out _ _ (HSU.out _ u68) ?_
   clear hK2 K2 B7 hbq hg7 u7 u8 u67
   repeat
    first
     | (refine wpB_skip rfl (by kernel_rfl) (by rfl) ?_)
     | ((refine wpB_take (v:=?_) rfl rfl (by kernel_rfl) (by rfl) ?_ ?_); rotate_left 1; (· ((intro w hSw; (try dsimp only at hSw); go_simp); try with_reducible rfl)))
    try simp only [Act.put,List.setIfInBounds_toArray,List.set_cons_zero,List.set_cons_succ]
   refine wpB_load_mid rfl rfl (by kernel_rfl) (by rfl) 58 _ rfl rb 0 rfl CL _ (fun _ h=>h.2.2.2) Tryz.underlying58 (by rfl) (by rw [hcl]; kernel_rfl) ?_
   try simp only [Act.put,List.setIfInBounds_toArray,List.set_cons_zero,List.set_cons_succ]
   repeat
    first
     | (refine wpB_skip rfl (by kernel_rfl) (by rfl) ?_)
     | ((refine wpB_take (v:=?_) rfl rfl (by kernel_rfl) (by rfl) ?_ ?_); rotate_left 1; (· ((intro w hSw; (try dsimp only at hSw); go_simp); try with_reducible rfl)))
    try simp only [Act.put,List.setIfInBounds_toArray,List.set_cons_zero,List.set_cons_succ]
   refine wpB_eff rfl (by kernel_rfl) (by rfl) (fun K2 hK2=>?_)
   go_simp
   refine (state_tv (HV5.out.upd0 u68) (fun s hs=>(HMY.out.ins s hs).2.2.2.1)).mono ?_
   rintro e W9 ⟨r9,w9,rfl,hN9⟩
   have u69:=u68.trans hN9.u
   refine hK2.out _ _ (HSU.out _ u69) ?_
   clear hK2 K2
   repeat
    first
     | (refine wpB_skip rfl (by kernel_rfl) (by rfl) ?_)
     | ((refine wpB_take (v:=?_) rfl rfl (by kernel_rfl) (by rfl) ?_ ?_); rotate_left 1; (· ((intro w hSw; (try dsimp only at hSw); go_simp); try with_reducible rfl)))
    try simp only [Act.put,List.setIfInBounds_toArray,List.set_cons_zero,List.set_cons_succ]
   refine wpB_eff rfl (by kernel_rfl) (by rfl) (fun K2 hK2=>?_)
   go_simp
   have hx9:=xsame W9 t2.rt r9 w9 rv2 wv2 HR5.out.th.r8 HR5.out.th.s8 hN9.rd.slc hN9.wr.slc (HR5.out.upd0 u69).th.rd (HR5.out.upd0 u69).th.wr (by have:=(rt_lens HMY.out).1; omega) (by have:=(rt_lens HMY.out).2; omega)
   rw [HV.out] at hx9
   refine hx9.mono ?_
   rintro e W10 ⟨rfl,u10⟩
   have u610:=u69.trans u10
   refine hK2.out _ _ (HSU.out _ u610) ?_
   clear hK2 K2 hx9 u10 hN9
   repeat
    first
     | (refine wpB_skip rfl (by kernel_rfl) (by rfl) ?_)
     | ((refine wpB_take (v:=?_) rfl rfl (by kernel_rfl) (by rfl) ?_ ?_); rotate_left 1; (· ((intro w hSw; (try dsimp only at hSw); go_simp); try with_reducible rfl)))
    try simp only [Act.put,List.setIfInBounds_toArray,List.set_cons_zero,List.set_cons_succ]
   refine wpB_eff rfl (by kernel_rfl) (by rfl) (fun K2 hK2=>?_)
   go_simp
   refine (status_code (HV5.out.upd0 u610)).mono ?_
   rintro e w11 ⟨rfl,rfl⟩
   refine hK2.out _ _ (HSU.out _ u610) ?_
   clear hK2 K2
   repeat
    first
     | (refine wpB_skip rfl (by kernel_rfl) (by rfl) ?_)
     | ((refine wpB_take (v:=?_) rfl rfl (by kernel_rfl) (by rfl) ?_ ?_); rotate_left 1; (· ((intro w hSw; (try dsimp only at hSw); go_simp); try with_reducible rfl)))
    try simp only [Act.put,List.setIfInBounds_toArray,List.set_cons_zero,List.set_cons_succ]
   refine wpB_eff rfl (by kernel_rfl) (by rfl) (fun K2 hK2=>?_)
   go_simp
   have hlc:=tlocked_code (HV5.out.upd0 u610)
   rw [HLK.out] at hlc
   refine hlc.mono ?_
   rintro e w11 ⟨rfl,rfl⟩
   refine hK2.out _ _ (HSU.out _ u610) ?_
   clear hK2 K2 hlc
   repeat
    first
     | (refine wpB_skip rfl (by kernel_rfl) (by rfl) ?_)
     | ((refine wpB_take (v:=?_) rfl rfl (by kernel_rfl) (by rfl) ?_ ?_); rotate_left 1; (· ((intro w hSw; (try dsimp only at hSw); go_simp); try with_reducible rfl)))
    try simp only [Act.put,List.setIfInBounds_toArray,List.set_cons_zero,List.set_cons_succ]
   refine wpB_end (by kernel_rfl) (NoPanic.normal ?_)
   go_wp2_with fail
   all_goals exact HFIN.out _ u610
  ·have b8:(s.phase == 8)=false:=by simp [e8]
   by_cases e9:s.phase=9
   ·rw [e9] at c25 b8
    have HLK:Hid (lockedT t2=true):=Lib.hid (by unfold lockedT; rw [ha]; simp [e9])
    clear ha ho hi e8 e9 hL
    go_upto_region 8 with (fail)
    obtain ⟨W6,hW6⟩:∃ W,W5.drew=W:=⟨_,rfl⟩
    have u6:Upd [] W5 W6:=by rw [← hW6]; exact (Upd.refl [] _).drew
    obtain ⟨cq,hwh⟩:=HR5.out.wo.head
    have d0:=hwh.cell 0 rfl
    have d1:=hwh.cell 1 rfl
    have hst0:=HR5.out.th.head.cell 0 (rcells HR5.out.th.r8 HR5.out.th.s8 rv2 wv2).1
    have hcl:=rcells_len HR5.out.th.r8 HR5.out.th.s8 rv2 wv2
    have hrg:=HR5.out.th.head.range
    have HV:=Lib.hid (show t2.rt.val rv2 wv2=.agg (t2.rt.cells rv2 wv2).toArray from rfl)
    obtain ⟨CL,hCL⟩:∃ L,t2.rt.cells rv2 wv2=L:=⟨_,rfl⟩
    rw [hCL] at hcl hrg HV
    have HSU:=Lib.hid (show ∀ w',Upd [] W5 w' → (w'.cell? ⟨b1,0,none⟩=some (.int .i64 0)∧w'.cell? ⟨b2,0,none⟩=some (.int .i64 0)∧w'.cell? ⟨b1,1,none⟩=some (.int .i64 ek)∧w'.cell? ⟨b2,1,none⟩=some (.int .i64 ek)∧w'.cell? ⟨b1,2,none⟩=some (.int .u64 ea)∧w'.cell? ⟨b2,2,none⟩=some (.int .u64 ea)∧w'.cell? ⟨b1,3,none⟩=some (.int .u64 ew)∧w'.cell? ⟨b2,3,none⟩=some (.int .u64 ew)∧w'.cell? ⟨b1,4,none⟩=some (.bool eo)∧w'.cell? ⟨b2,4,none⟩=some (.bool eo)∧w'.cell? ⟨b1,5,none⟩=some (.int .i64 ee)∧w'.cell? ⟨b2,5,none⟩=some (.int .i64 ee))∧(w'.cell? ⟨wb,0,none⟩=some (.slice (some ⟨qb,0,none⟩) sh2.row.length cq)∧w'.cell? ⟨wb,1,none⟩=some (.int .u64 sh2.clock))∧w'.cell? ⟨rb,0,none⟩=some (.int .i64 t2.st)∧w'.rangeAt rb 0 CL from fun w' u=>⟨⟨u.cell (by simp) (HE15.out.cell 0 rfl),u.cell (by simp) (HE25.out.cell 0 rfl),u.cell (by simp) (HE15.out.cell 1 rfl),u.cell (by simp) (HE25.out.cell 1 rfl),u.cell (by simp) (HE15.out.cell 2 rfl),u.cell (by simp) (HE25.out.cell 2 rfl),u.cell (by simp) (HE15.out.cell 3 rfl),u.cell (by simp) (HE25.out.cell 3 rfl),u.cell (by simp) (HE15.out.cell 4 rfl),u.cell (by simp) (HE25.out.cell 4 rfl),u.cell (by simp) (HE15.out.cell 5 rfl),u.cell (by simp) (HE25.out.cell 5 rfl)⟩,⟨u.cell (by simp) d0,u.cell (by simp) d1⟩,u.cell (by simp) hst0,fun j v hj=>u.cell (by simp) (hrg j v hj)⟩)
    clear hrg hst0 hwh
    refine wp_region_br (fun w'=>(w'.cell? ⟨b1,0,none⟩=some (.int .i64 0)∧w'.cell? ⟨b2,0,none⟩=some (.int .i64 0)∧w'.cell? ⟨b1,1,none⟩=some (.int .i64 ek)∧w'.cell? ⟨b2,1,none⟩=some (.int .i64 ek)∧w'.cell? ⟨b1,2,none⟩=some (.int .u64 ea)∧w'.cell? ⟨b2,2,none⟩=some (.int .u64 ea)∧w'.cell? ⟨b1,3,none⟩=some (.int .u64 ew)∧w'.cell? ⟨b2,3,none⟩=some (.int .u64 ew)∧w'.cell? ⟨b1,4,none⟩=some (.bool eo)∧w'.cell? ⟨b2,4,none⟩=some (.bool eo)∧w'.cell? ⟨b1,5,none⟩=some (.int .i64 ee)∧w'.cell? ⟨b2,5,none⟩=some (.int .i64 ee))∧(w'.cell? ⟨wb,0,none⟩=some (.slice (some ⟨qb,0,none⟩) sh2.row.length cq)∧w'.cell? ⟨wb,1,none⟩=some (.int .u64 sh2.clock))∧w'.cell? ⟨rb,0,none⟩=some (.int .i64 t2.st)∧w'.rangeAt rb 0 CL) [0,1,2,3,4,5,6,7,8,9,10,11,12,13,14,15,16,17,18,19,20,21,22,24,25,26,27,23,28,29,30,31,33,34,35,32,36,37,38,39,41,42,43,44,40,45,46,47,48,50,49,51,52,53] (by kernel_rfl) (by kernel_rfl) (by rw [hW6]; exact HSU.out _ u6) ?_
    rw [hW6]
    clear hW6 d0 d1
    repeat
     first
      | (refine wpB_skip rfl (by kernel_rfl) (by rfl) ?_)
      | ((refine wpB_take (v:=?_) rfl rfl (by kernel_rfl) (by rfl) ?_ ?_); rotate_left 1; (· ((intro w hSw; (try dsimp only at hSw); go_simp); try with_reducible rfl)))
     try simp only [Act.put,List.setIfInBounds_toArray,List.set_cons_zero,List.set_cons_succ]
    refine wpB_eff rfl (by kernel_rfl) (by rfl) (fun K2 hK2=>?_)
    go_simp
    refine (num11_code _ _).mono ?_
    rintro e w9 ⟨rfl,rfl⟩
    refine hK2.out _ _ (HSU.out _ u6) ?_
    clear hK2 K2
    repeat
     first
      | (refine wpB_skip rfl (by kernel_rfl) (by rfl) ?_)
      | ((refine wpB_take (v:=?_) rfl rfl (by kernel_rfl) (by rfl) ?_ ?_); rotate_left 1; (· ((intro w hSw; (try dsimp only at hSw); go_simp); try with_reducible rfl)))
     try simp only [Act.put,List.setIfInBounds_toArray,List.set_cons_zero,List.set_cons_succ]
    refine wpB_eff rfl (by kernel_rfl) (by rfl) (fun K2 hK2=>?_)
    go_simp
    refine (words_row (HV5.out.upd0 u6).xa.row).mono ?_
    rintro e W7 ⟨g7,sp7,rfl,hg7,B7,u7⟩
    have u67:=u6.trans u7
    refine hK2.out _ _ (HSU.out _ u67) ?_
    clear hK2 K2
    repeat
     first
      | (refine wpB_skip rfl (by kernel_rfl) (by rfl) ?_)
      | ((refine wpB_take (v:=?_) rfl rfl (by kernel_rfl) (by rfl) ?_ ?_); rotate_left 1; (· ((intro w hSw; (try dsimp only at hSw); go_simp); try with_reducible rfl)))
     try simp only [Act.put,List.setIfInBounds_toArray,List.set_cons_zero,List.set_cons_succ]
    refine wpB_eff rfl (by kernel_rfl) (by rfl) (fun K2 hK2=>?_)
    go_simp
    obtain ⟨spq,hbq⟩:=(HR5.out.upd0 u67).wo.row
    refine (same_words W7 _ _ sh2.row _ cq (SlI.of_blk B7) (SlI.of_blk hbq) (by have:=HR5.out.wo.len; omega)).mono ?_
    rintro e W8 ⟨rfl,u8⟩
    have u68:=u67.trans u8
    refine hK2.out _ _ (HSU.out _ u68) ?_
    clear hK2 K2 B7 hbq hg7 u7 u8 u67
    repeat
     first
      | (refine wpB_skip rfl (by kernel_rfl) (by rfl) ?_)
      | ((refine wpB_take (v:=?_) rfl rfl (by kernel_rfl) (by rfl) ?_ ?_); rotate_left 1; (· ((intro w hSw; (try dsimp only at hSw); go_simp); try with_reducible rfl)))
     try simp only [Act.put,List.setIfInBounds_toArray,List.set_cons_zero,List.set_cons_succ]
    refine wpB_load_mid rfl rfl (by kernel_rfl) (by rfl) 58 _ rfl rb 0 rfl CL _ (fun _ h=>h.2.2.2) Tryz.underlying58 (by rfl) (by rw [hcl]; kernel_rfl) ?_
    try simp only [Act.put,List.setIfInBounds_toArray,List.set_cons_zero,List.set_cons_succ]
    repeat
     first
      | (refine wpB_skip rfl (by kernel_rfl) (by rfl) ?_)
      | ((refine wpB_take (v:=?_) rfl rfl (by kernel_rfl) (by rfl) ?_ ?_); rotate_left 1; (· ((intro w hSw; (try dsimp only at hSw); go_simp); try with_reducible rfl)))
     try simp only [Act.put,List.setIfInBounds_toArray,List.set_cons_zero,List.set_cons_succ]
    refine wpB_eff rfl (by kernel_rfl) (by rfl) (fun K2 hK2=>?_)
    go_simp
    refine (state_tv (HV5.out.upd0 u68) (fun s hs=>(HMY.out.ins s hs).2.2.2.1)).mono ?_
    rintro e W9 ⟨r9,w9,rfl,hN9⟩
    have u69:=u68.trans hN9.u
    refine hK2.out _ _ (HSU.out _ u69) ?_
    clear hK2 K2
    repeat
     first
      | (refine wpB_skip rfl (by kernel_rfl) (by rfl) ?_)
      | ((refine wpB_take (v:=?_) rfl rfl (by kernel_rfl) (by rfl) ?_ ?_); rotate_left 1; (· ((intro w hSw; (try dsimp only at hSw); go_simp); try with_reducible rfl)))
     try simp only [Act.put,List.setIfInBounds_toArray,List.set_cons_zero,List.set_cons_succ]
    refine wpB_eff rfl (by kernel_rfl) (by rfl) (fun K2 hK2=>?_)
    go_simp
    have hx9:=xsame W9 t2.rt r9 w9 rv2 wv2 HR5.out.th.r8 HR5.out.th.s8 hN9.rd.slc hN9.wr.slc (HR5.out.upd0 u69).th.rd (HR5.out.upd0 u69).th.wr (by have:=(rt_lens HMY.out).1; omega) (by have:=(rt_lens HMY.out).2; omega)
    rw [HV.out] at hx9
    refine hx9.mono ?_
    rintro e W10 ⟨rfl,u10⟩
    have u610:=u69.trans u10
    refine hK2.out _ _ (HSU.out _ u610) ?_
    clear hK2 K2 hx9 u10 hN9
    repeat
     first
      | (refine wpB_skip rfl (by kernel_rfl) (by rfl) ?_)
      | ((refine wpB_take (v:=?_) rfl rfl (by kernel_rfl) (by rfl) ?_ ?_); rotate_left 1; (· ((intro w hSw; (try dsimp only at hSw); go_simp); try with_reducible rfl)))
     try simp only [Act.put,List.setIfInBounds_toArray,List.set_cons_zero,List.set_cons_succ]
    refine wpB_eff rfl (by kernel_rfl) (by rfl) (fun K2 hK2=>?_)
    go_simp
    refine (status_code (HV5.out.upd0 u610)).mono ?_
    rintro e w11 ⟨rfl,rfl⟩
    refine hK2.out _ _ (HSU.out _ u610) ?_
    clear hK2 K2
    repeat
     first
      | (refine wpB_skip rfl (by kernel_rfl) (by rfl) ?_)
      | ((refine wpB_take (v:=?_) rfl rfl (by kernel_rfl) (by rfl) ?_ ?_); rotate_left 1; (· ((intro w hSw; (try dsimp only at hSw); go_simp); try with_reducible rfl)))
     try simp only [Act.put,List.setIfInBounds_toArray,List.set_cons_zero,List.set_cons_succ]
    refine wpB_eff rfl (by kernel_rfl) (by rfl) (fun K2 hK2=>?_)
    go_simp
    have hlc:=tlocked_code (HV5.out.upd0 u610)
    rw [HLK.out] at hlc
    refine hlc.mono ?_
    rintro e w11 ⟨rfl,rfl⟩
    refine hK2.out _ _ (HSU.out _ u610) ?_
    clear hK2 K2 hlc
    repeat
     first
      | (refine wpB_skip rfl (by kernel_rfl) (by rfl) ?_)
      | ((refine wpB_take (v:=?_) rfl rfl (by kernel_rfl) (by rfl) ?_ ?_); rotate_left 1; (· ((intro w hSw; (try dsimp only at hSw); go_simp); try with_reducible rfl)))
     try simp only [Act.put,List.setIfInBounds_toArray,List.set_cons_zero,List.set_cons_succ]
    refine wpB_end (by kernel_rfl) (NoPanic.normal ?_)
    go_wp2_with fail
    all_goals exact HFIN.out _ u610
   ·have b9:(s.phase == 9)=false:=by simp [e9]
    have HLK:Hid (lockedT t2=false):=Lib.hid (by unfold lockedT; rw [ha]; simp [e8,e9])
    clear ha ho hi e8 e9 hL
    go_upto_region 8 with (fail)
    obtain ⟨W6,hW6⟩:∃ W,W5.drew=W:=⟨_,rfl⟩
    have u6:Upd [] W5 W6:=by rw [← hW6]; exact (Upd.refl [] _).drew
    obtain ⟨cq,hwh⟩:=HR5.out.wo.head
    have d0:=hwh.cell 0 rfl
    have d1:=hwh.cell 1 rfl
    have hst0:=HR5.out.th.head.cell 0 (rcells HR5.out.th.r8 HR5.out.th.s8 rv2 wv2).1
    have hcl:=rcells_len HR5.out.th.r8 HR5.out.th.s8 rv2 wv2
    have hrg:=HR5.out.th.head.range
    have HV:=Lib.hid (show t2.rt.val rv2 wv2=.agg (t2.rt.cells rv2 wv2).toArray from rfl)
    obtain ⟨CL,hCL⟩:∃ L,t2.rt.cells rv2 wv2=L:=⟨_,rfl⟩
    rw [hCL] at hcl hrg HV
    have HSU:=Lib.hid (show ∀ w',Upd [] W5 w' → (w'.cell? ⟨b1,0,none⟩=some (.int .i64 0)∧w'.cell? ⟨b2,0,none⟩=some (.int .i64 0)∧w'.cell? ⟨b1,1,none⟩=some (.int .i64 ek)∧w'.cell? ⟨b2,1,none⟩=some (.int .i64 ek)∧w'.cell? ⟨b1,2,none⟩=some (.int .u64 ea)∧w'.cell? ⟨b2,2,none⟩=some (.int .u64 ea)∧w'.cell? ⟨b1,3,none⟩=some (.int .u64 ew)∧w'.cell? ⟨b2,3,none⟩=some (.int .u64 ew)∧w'.cell? ⟨b1,4,none⟩=some (.bool eo)∧w'.cell? ⟨b2,4,none⟩=some (.bool eo)∧w'.cell? ⟨b1,5,none⟩=some (.int .i64 ee)∧w'.cell? ⟨b2,5,none⟩=some (.int .i64 ee))∧(w'.cell? ⟨wb,0,none⟩=some (.slice (some ⟨qb,0,none⟩) sh2.row.length cq)∧w'.cell? ⟨wb,1,none⟩=some (.int .u64 sh2.clock))∧w'.cell? ⟨rb,0,none⟩=some (.int .i64 t2.st)∧w'.rangeAt rb 0 CL from fun w' u=>⟨⟨u.cell (by simp) (HE15.out.cell 0 rfl),u.cell (by simp) (HE25.out.cell 0 rfl),u.cell (by simp) (HE15.out.cell 1 rfl),u.cell (by simp) (HE25.out.cell 1 rfl),u.cell (by simp) (HE15.out.cell 2 rfl),u.cell (by simp) (HE25.out.cell 2 rfl),u.cell (by simp) (HE15.out.cell 3 rfl),u.cell (by simp) (HE25.out.cell 3 rfl),u.cell (by simp) (HE15.out.cell 4 rfl),u.cell (by simp) (HE25.out.cell 4 rfl),u.cell (by simp) (HE15.out.cell 5 rfl),u.cell (by simp) (HE25.out.cell 5 rfl)⟩,⟨u.cell (by simp) d0,u.cell (by simp) d1⟩,u.cell (by simp) hst0,fun j v hj=>u.cell (by simp) (hrg j v hj)⟩)
    clear hrg hst0 hwh
    refine wp_region_br (fun w'=>(w'.cell? ⟨b1,0,none⟩=some (.int .i64 0)∧w'.cell? ⟨b2,0,none⟩=some (.int .i64 0)∧w'.cell? ⟨b1,1,none⟩=some (.int .i64 ek)∧w'.cell? ⟨b2,1,none⟩=some (.int .i64 ek)∧w'.cell? ⟨b1,2,none⟩=some (.int .u64 ea)∧w'.cell? ⟨b2,2,none⟩=some (.int .u64 ea)∧w'.cell? ⟨b1,3,none⟩=some (.int .u64 ew)∧w'.cell? ⟨b2,3,none⟩=some (.int .u64 ew)∧w'.cell? ⟨b1,4,none⟩=some (.bool eo)∧w'.cell? ⟨b2,4,none⟩=some (.bool eo)∧w'.cell? ⟨b1,5,none⟩=some (.int .i64 ee)∧w'.cell? ⟨b2,5,none⟩=some (.int .i64 ee))∧(w'.cell? ⟨wb,0,none⟩=some (.slice (some ⟨qb,0,none⟩) sh2.row.length cq)∧w'.cell? ⟨wb,1,none⟩=some (.int .u64 sh2.clock))∧w'.cell? ⟨rb,0,none⟩=some (.int .i64 t2.st)∧w'.rangeAt rb 0 CL) [0,1,2,3,4,5,6,7,8,9,10,11,12,13,14,15,16,17,18,19,20,21,22,24,25,26,27,23,28,29,30,31,33,34,35,32,36,37,38,39,41,42,43,44,40,45,46,47,48,50,49,51,52,53] (by kernel_rfl) (by kernel_rfl) (by rw [hW6]; exact HSU.out _ u6) ?_
    rw [hW6]
    clear hW6 d0 d1
    repeat
     first
      | (refine wpB_skip rfl (by kernel_rfl) (by rfl) ?_)
      | ((refine wpB_take (v:=?_) rfl rfl (by kernel_rfl) (by rfl) ?_ ?_); rotate_left 1; (· ((intro w hSw; (try dsimp only at hSw); go_simp); try with_reducible rfl)))
     try simp only [Act.put,List.setIfInBounds_toArray,List.set_cons_zero,List.set_cons_succ]
    refine wpB_eff rfl (by kernel_rfl) (by rfl) (fun K2 hK2=>?_)
    go_simp
    refine (num11_code _ _).mono ?_
    rintro e w9 ⟨rfl,rfl⟩
    refine hK2.out _ _ (HSU.out _ u6) ?_
    clear hK2 K2
    repeat
     first
      | (refine wpB_skip rfl (by kernel_rfl) (by rfl) ?_)
      | ((refine wpB_take (v:=?_) rfl rfl (by kernel_rfl) (by rfl) ?_ ?_); rotate_left 1; (· ((intro w hSw; (try dsimp only at hSw); go_simp); try with_reducible rfl)))
     try simp only [Act.put,List.setIfInBounds_toArray,List.set_cons_zero,List.set_cons_succ]
    refine wpB_eff rfl (by kernel_rfl) (by rfl) (fun K2 hK2=>?_)
    go_simp
    refine (words_row (HV5.out.upd0 u6).xa.row).mono ?_
    rintro e W7 ⟨g7,sp7,rfl,hg7,B7,u7⟩
    have u67:=u6.trans u7
    refine hK2.out _ _ (HSU.out _ u67) ?_
    clear hK2 K2
    repeat
     first
      | (refine wpB_skip rfl (by kernel_rfl) (by rfl) ?_)
      | ((refine wpB_take (v:=?_) rfl rfl (by kernel_rfl) (by rfl) ?_ ?_); rotate_left 1; (· ((intro w hSw; (try dsimp only at hSw); go_simp); try with_reducible rfl)))
     try simp only [Act.put,List.setIfInBounds_toArray,List.set_cons_zero,List.set_cons_succ]
    refine wpB_eff rfl (by kernel_rfl) (by rfl) (fun K2 hK2=>?_)
    go_simp
    obtain ⟨spq,hbq⟩:=(HR5.out.upd0 u67).wo.row
    refine (same_words W7 _ _ sh2.row _ cq (SlI.of_blk B7) (SlI.of_blk hbq) (by have:=HR5.out.wo.len; omega)).mono ?_
    rintro e W8 ⟨rfl,u8⟩
    have u68:=u67.trans u8
    refine hK2.out _ _ (HSU.out _ u68) ?_
    clear hK2 K2 B7 hbq hg7 u7 u8 u67
    repeat
     first
      | (refine wpB_skip rfl (by kernel_rfl) (by rfl) ?_)
      | ((refine wpB_take (v:=?_) rfl rfl (by kernel_rfl) (by rfl) ?_ ?_); rotate_left 1; (· ((intro w hSw; (try dsimp only at hSw); go_simp); try with_reducible rfl)))
     try simp only [Act.put,List.setIfInBounds_toArray,List.set_cons_zero,List.set_cons_succ]
    refine wpB_load_mid rfl rfl (by kernel_rfl) (by rfl) 58 _ rfl rb 0 rfl CL _ (fun _ h=>h.2.2.2) Tryz.underlying58 (by rfl) (by rw [hcl]; kernel_rfl) ?_
    try simp only [Act.put,List.setIfInBounds_toArray,List.set_cons_zero,List.set_cons_succ]
    repeat
     first
      | (refine wpB_skip rfl (by kernel_rfl) (by rfl) ?_)
      | ((refine wpB_take (v:=?_) rfl rfl (by kernel_rfl) (by rfl) ?_ ?_); rotate_left 1; (· ((intro w hSw; (try dsimp only at hSw); go_simp); try with_reducible rfl)))
     try simp only [Act.put,List.setIfInBounds_toArray,List.set_cons_zero,List.set_cons_succ]
    refine wpB_eff rfl (by kernel_rfl) (by rfl) (fun K2 hK2=>?_)
    go_simp
    refine (state_tv (HV5.out.upd0 u68) (fun s hs=>(HMY.out.ins s hs).2.2.2.1)).mono ?_
    rintro e W9 ⟨r9,w9,rfl,hN9⟩
    have u69:=u68.trans hN9.u
    refine hK2.out _ _ (HSU.out _ u69) ?_
    clear hK2 K2
    repeat
     first
      | (refine wpB_skip rfl (by kernel_rfl) (by rfl) ?_)
      | ((refine wpB_take (v:=?_) rfl rfl (by kernel_rfl) (by rfl) ?_ ?_); rotate_left 1; (· ((intro w hSw; (try dsimp only at hSw); go_simp); try with_reducible rfl)))
     try simp only [Act.put,List.setIfInBounds_toArray,List.set_cons_zero,List.set_cons_succ]
    refine wpB_eff rfl (by kernel_rfl) (by rfl) (fun K2 hK2=>?_)
    go_simp
    have hx9:=xsame W9 t2.rt r9 w9 rv2 wv2 HR5.out.th.r8 HR5.out.th.s8 hN9.rd.slc hN9.wr.slc (HR5.out.upd0 u69).th.rd (HR5.out.upd0 u69).th.wr (by have:=(rt_lens HMY.out).1; omega) (by have:=(rt_lens HMY.out).2; omega)
    rw [HV.out] at hx9
    refine hx9.mono ?_
    rintro e W10 ⟨rfl,u10⟩
    have u610:=u69.trans u10
    refine hK2.out _ _ (HSU.out _ u610) ?_
    clear hK2 K2 hx9 u10 hN9
    repeat
     first
      | (refine wpB_skip rfl (by kernel_rfl) (by rfl) ?_)
      | ((refine wpB_take (v:=?_) rfl rfl (by kernel_rfl) (by rfl) ?_ ?_); rotate_left 1; (· ((intro w hSw; (try dsimp only at hSw); go_simp); try with_reducible rfl)))
     try simp only [Act.put,List.setIfInBounds_toArray,List.set_cons_zero,List.set_cons_succ]
    refine wpB_eff rfl (by kernel_rfl) (by rfl) (fun K2 hK2=>?_)
    go_simp
    refine (status_code (HV5.out.upd0 u610)).mono ?_
    rintro e w11 ⟨rfl,rfl⟩
    refine hK2.out _ _ (HSU.out _ u610) ?_
    clear hK2 K2
    repeat
     first
      | (refine wpB_skip rfl (by kernel_rfl) (by rfl) ?_)
      | ((refine wpB_take (v:=?_) rfl rfl (by kernel_rfl) (by rfl) ?_ ?_); rotate_left 1; (· ((intro w hSw; (try dsimp only at hSw); go_simp); try with_reducible rfl)))
     try simp only [Act.put,List.setIfInBounds_toArray,List.set_cons_zero,List.set_cons_succ]
    refine wpB_eff rfl (by kernel_rfl) (by rfl) (fun K2 hK2=>?_)
    go_simp
    have hlc:=tlocked_code (HV5.out.upd0 u610)
    rw [HLK.out] at hlc
    refine hlc.mono ?_
    rintro e w11 ⟨rfl,rfl⟩
    refine hK2.out _ _ (HSU.out _ u610) ?_
    clear hK2 K2 hlc
    repeat
     first
      | (refine wpB_skip rfl (by kernel_rfl) (by rfl) ?_)
      | ((refine wpB_take (v:=?_) rfl rfl (by kernel_rfl) (by rfl) ?_ ?_); rotate_left 1; (· ((intro w hSw; (try dsimp only at hSw); go_simp); try with_reducible rfl)))
     try simp only [Act.put,List.setIfInBounds_toArray,List.set_cons_zero,List.set_cons_succ]
    refine wpB_end (by kernel_rfl) (NoPanic.normal ?_)
    go_wp2_with fail
    all_goals exact HFIN.out _ u610
end
end Go.Proofs.YtehopaabfoopeaaGreat
