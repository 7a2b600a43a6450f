/- The document's thread: a get's look at the clock. No conditions. -/
import Derived.Test.YtehopaabfoopeaaGreatTz21
set_option linter.unusedSimpArgs false
set_option linter.unusedVariables false
set_option maxRecDepth 100000
namespace Go.Proofs.YtehopaabfoopeaaGreat
open Go.RowKit
open Go.Maps
theorem rcells2 {r:RT} (h8:r.regs.length=8) (k8:r.saved.length=8) (rv wv:Value):(r.cells rv wv)[26]? = some (.int .i64 r.a.thn)∧(r.cells rv wv)[27]? = some (.int .u64 r.a.addr)∧(r.cells rv wv)[28]? = some (.int .u64 r.a.word)∧(r.cells rv wv)[29]? = some (.int .u64 r.a.found)∧(r.cells rv wv)[30]? = some (.int .i64 r.a.at_):=by
 obtain ⟨st,er,at_,rs,ins,sta,sv,fu,⟨sn,rd,wl,ph,th,ad,wo,fo,at2⟩⟩:=r
 obtain ⟨r0,r1,r2,r3,r4,r5,r6,r7,rfl⟩:=list8 h8
 obtain ⟨s0,s1,s2,s3,s4,s5,s6,s7,rfl⟩:=list8 k8
 exact ⟨rfl,rfl,rfl,rfl,rfl⟩
theorem rsets {r:RT} (h8:r.regs.length=8) (k8:r.saved.length=8) (rv wv:Value) (x:Int):(r.cells rv wv).set 25 (.int .i64 x)=(withR r { r.a with phase:=x }).cells rv wv∧(r.cells rv wv).set 26 (.int .i64 x)=(withR r { r.a with thn:=x }).cells rv wv∧(r.cells rv wv).set 28 (.int .u64 x)=(withR r { r.a with word:=x }).cells rv wv:=by
 obtain ⟨st,er,at_,rs,ins,sta,sv,fu,⟨sn,rd,wl,ph,th,ad,wo,fo,at2⟩⟩:=r
 obtain ⟨r0,r1,r2,r3,r4,r5,r6,r7,rfl⟩:=list8 h8
 obtain ⟨s0,s1,s2,s3,s4,s5,s6,s7,rfl⟩:=list8 k8
 exact ⟨rfl,rfl,rfl⟩
def LkOk (W We:World) (v2:Value) (l:List (Int × Int)):Prop:=Upd [] W We∧SlC We v2 l∧∃ g cap,v2=.slice (some ⟨g,0,none⟩) l.length cap∧W.heap.size≤g∧g<We.heap.size
section
variable {w w':World} {rb wb qb:Nat} {r:RT} {sh:Sh} {rv wv:Value} {po:Option Addr} {cap:Nat} {p:List Ins}
theorem lk_fin {W We:World} {v2:Value} {l:List (Int × Int)} (hz:l≠[]) (u:Upd [] W We) (h:Row2 We v2 l) (hn:∀ g,v2.ownBlock=some g → W.heap.size≤g):LkOk W We v2 l:=by
 obtain ⟨g,cap,sp,rfl,B⟩:=h.open hz
 exact ⟨u,slc_of_blk B,g,cap,rfl,hn g rfl,B.lt⟩
theorem lk1 (W:World) {v:Value} {l:List (Int × Int)} (h:SlC W v l) (hl:l.length≤1024) (x y:Int) :
  ∃ v1 Wc v2 We,(Builtin.append_ #[53,53] 53 #[.slice (some ⟨W.heap.size,0,none⟩) 0 0,v]).run Tryz.prog (W.alloc (.cells #[] 71))=.ok v1 Wc∧Upd [] W Wc ∧
   (Builtin.append_ #[53,53] 53 #[v1,.slice (some ⟨Wc.heap.size,0,none⟩) 1 1]).run Tryz.prog (Wc.alloc (.cells #[.int .u64 x,.int .u64 y] 71))=.ok v2 We∧LkOk W We v2 (l ++ [(x,y)]):=by
 have u1:Upd [] W (W.alloc (.cells #[] 71)):=(Upd.refl [] _).alloc _
 obtain ⟨v1,Wc,hr1,hrow1,uc,hor1⟩:=app_from0 _ _ (Blk.new W [] 71) _ _ (h.upd0 u1) (by omega)
 obtain ⟨v2,We,hr2,hrow2,ue,hor2⟩:=app_row hrow1 x y (by omega)
 have hs:=World.size_alloc W (.cells #[] 71)
 have hsc:=uc.size
 have hn1:∀ g,v1.ownBlock=some g → W.heap.size≤g:=fun g hg=>by
  rcases hor1 with e | e <;> (rw [e] at hg; cases hg; omega)
 have uac:Upd [] W Wc:=u1.tr (U:=[]) uc (fun g hg=>by simp at hg) (fun g hg=>by simp at hg; subst hg; exact .inr (Nat.le_refl _))
 refine ⟨v1,Wc,v2,We,hr1,uac,hr2,lk_fin (by simp) ?_ hrow2 (fun g hg=>?_)⟩
 ·exact (uac.alloc _).tr (U:=[]) ue (fun g hg=>by simp at hg) (fun g hg=>.inr (hn1 g (by simpa using hg)))
 ·rcases hor2 with e | e
  ·exact hn1 g (e ▸ hg)
  ·rw [e] at hg; cases hg; omega
theorem lk23 (W W2:World) (g c:Nat) {v:Value} {l:List (Int × Int)} (h:SlC W v l) (hl:l.length≤1024) (x y:Int) (u:Upd [] W W2) (hg:Blk W2 g [] 71) (hc:Blk W2 c [.int .u64 x,.int .u64 y] 71) (hgn:W.heap.size≤g) :
  ∃ v1 Wc v2 We,(Builtin.append_ #[53,53] 53 #[.slice (some ⟨g,0,none⟩) 0 0,v]).run Tryz.prog W2=.ok v1 Wc∧Upd [] W Wc ∧
   (Builtin.append_ #[53,53] 53 #[v1,.slice (some ⟨c,0,none⟩) 1 1]).run Tryz.prog Wc=.ok v2 We∧LkOk W We v2 (l ++ [(x,y)]):=by
 obtain ⟨v1,Wc,hr1,hrow1,uc,hor1⟩:=app_from0 _ _ hg _ _ (h.upd0 u) (by omega)
 have hgc:c≠g:=fun e=>by subst e; have:=(hg.inj hc).1; simp at this
 have hc2:=hc.upd uc (by simpa using hgc)
 have hsl:SlC Wc (.slice (some ⟨c,0,none⟩) [(x,y)].length 1) [(x,y)]:=slc_of_blk (sp:=[]) hc2
 obtain ⟨v2,We,hr2,hrow2,ue,hor2⟩:=app_row2 hrow1 hsl (by simp) (by simp; omega)
 have hs:=u.size
 have hsc:=uc.size
 have hn1:∀ k,v1.ownBlock=some k → W.heap.size≤k:=fun k hk=>by
  rcases hor1 with e | e <;> (rw [e] at hk; cases hk; omega)
 have uac:Upd [] W Wc:=u.tr (U:=[]) uc (fun k hk=>by simp at hk) (fun k hk=>by simp at hk; subst hk; exact .inr hgn)
 refine ⟨v1,Wc,v2,We,hr1,uac,hr2,lk_fin (by simp) ?_ hrow2 (fun k hk=>?_)⟩
 ·exact uac.tr (U:=[]) ue (fun k hk=>by simp at hk) (fun k hk=>.inr (hn1 k (by simpa using hk)))
 ·rcases hor2 with e | e
  ·exact hn1 k (e ▸ hk)
  ·rw [e] at hk; cases hk; omega
set_option maxHeartbeats 4000000 in
theorem xlook_code (h:RS w rb wb qb r sh rv wv) (hc:CodeAt w po p) (hpl:p.length≤256) (hat:0≤r.at_∧r.at_<p.length) (ha:0≤(insAt p r.at_).a∧(insAt p r.at_).a<8) (hl:r.a.reads.length≤1023) (hpb:∀ b o,po=some ⟨b,o,none⟩ → b≠rb∧b≠wb∧b≠qb) :
  Calls Tryz.prog 83 #[.slice po p.length cap,.pointer (some ⟨rb,0,none⟩),.pointer (some ⟨wb,0,none⟩)] w (RSOk w rb wb qb rv wv (lookR p r sh)):=by
 obtain ⟨k,hk⟩:∃ k:Nat,r.at_=k:=⟨r.at_.toNat,by omega⟩
 obtain ⟨ins,hins⟩:∃ x,p[k]? = some x:=⟨_,List.getElem?_eq_getElem (by omega)⟩
 have hia:insAt p r.at_=ins:=by
  rw [hk]
  unfold insAt
  rw [if_neg (by omega),List.getD_eq_getElem?_getD,Int.toNat_natCast,hins]
  rfl
 obtain ⟨T,hT⟩:∃ T,lookR p r sh=T:=⟨_,rfl⟩
 unfold lookR at hT
 rw [hia] at ha hT
 obtain ⟨A,hA⟩:∃ A:Nat,ins.a=A:=⟨ins.a.toNat,by omega⟩
 obtain ⟨pb,o,rfl,_,q1,_⟩:=hc k ins hins
 obtain ⟨hpr,hpw,hpq⟩:=hpb _ _ rfl
 rw [hA] at q1 hT ha
 obtain ⟨x,hx⟩:∃ x,r.a.addr=x:=⟨_,rfl⟩
 obtain ⟨y,hy⟩:∃ y,r.a.word=y:=⟨_,rfl⟩
 rw [hx,hy] at hT
 rw [show lookR p r sh=T from by unfold lookR; rw [hia,hA,hx,hy]; exact hT]
 have HT:=Lib.hid hT
 have hkn:(k:Int)<(p.length:Int):=by omega
 have hA8:(A:Int)<8:=by omega
 have hA8n:A<8:=by omega
 have hwa:wrap64 (r.at_+1)=r.at_+1:=by unfold wrap64; omega
 have HK:=Lib.hid hk
 have hlk:r.a.reads.length≤1024:=by omega
 clear hT hins hc hat hia hA hpb ha hk
 obtain ⟨W1,hW1⟩:∃ W,w.alloc (.cells #[.int .i64 0,.int .i64 0,.int .u64 0,.int .u64 0,.bool false,.int .i64 0] 86)=W:=⟨_,rfl⟩
 have u1:Upd [] w W1:=by rw [← hW1]; exact (Upd.refl [] _).alloc _
 have EB:Blk W1 w.heap.size (TE.cells ⟨0,0,0,false,0⟩) 86:=by rw [← hW1]; exact Blk.new w _ _
 have hlt1:=h.th.lt
 have hlt2:=h.wo.lt
 have hnes:=h.ne
 have hnew:=h.wo.ne
 have HNB:=Lib.hid (show rb≠w.heap.size∧wb≠w.heap.size∧qb≠w.heap.size from ⟨by omega,by omega,by omega⟩)
 have HNL:=Lib.hid (show ∀ g,rv.ownBlock=some g∨wv.ownBlock=some g → g≠w.heap.size from fun g hg=>by have:=(h.th.ap g hg).2; omega)
 have HN:=Lib.hid (show ∀ g,rv.ownBlock=some g∨wv.ownBlock=some g → (rv.ownBlock=some g∨wv.ownBlock=some g)∨w.heap.size≤g from fun g hg=>.inl hg)
 have HS:=Lib.hid (h.upd0 u1)
 have HE:=Lib.hid EB
 have HU:=Lib.hid (show Upd [rb,wb,qb] w W1 from u1.mono (by simp))
 have hne1:rb≠w.heap.size:=by omega
 have hne2:wb≠w.heap.size:=by omega
 have hne3:qb≠w.heap.size:=by omega
 have hne4:rb≠wb:=hnes.1
 have hne5:rb≠qb:=hnes.2
 clear EB u1 h hlt1 hlt2
 replace q1:=HU.out.cell (by simp; exact ⟨hpr,hpw,hpq⟩) q1
 have k8:=HS.out.th.r8
 have j8:=HS.out.th.s8
 have c27:=HS.out.th.head.cell 27 (rcells2 k8 j8 rv wv).2.1
 have c28:=HS.out.th.head.cell 28 (rcells2 k8 j8 rv wv).2.2.1
 rw [hx] at c27
 rw [hy] at c28
 have HX:=Lib.hid hx
 have HY:=Lib.hid hy
 clear hx hy
 by_cases hcl:sh.clock=r.a.snap
 ·have hTT:T=(telling 2 x y,nextR (setRR (withR r { r.a with word:=0,reads:=r.a.reads ++ [(x,y)],addr:=0,phase:=1 }) (A:Int) y),sh):=by
   rw [← HT.out,if_pos hcl]
  subst hTT
  have b:(sh.clock != r.a.snap)=false:=by simp [hcl]
  have HCL:=Lib.hid hcl
  clear HT hcl
  refine calls_all fun K hK=>?_
  go_enter Tryz.func83,Tryz.ntmps83
  go_upto_region 2 with (fail)
  refine wp_region_br (fun w'=>w'.cell? ⟨rb,27,none⟩=some (.int .u64 x)∧w'.cell? ⟨rb,28,none⟩=some (.int .u64 y)) [0,1,2,3,4,5,6,7,8,9,10] (by kernel_rfl) (by kernel_rfl) ⟨c27,c28⟩ ?_
  obtain ⟨W2,hdr⟩:∃ W,(W1).drew=W:=⟨_,rfl⟩
  have udr:Upd [] W1 W2:=by rw [← hdr]; exact (Upd.refl [] _).drew
  have HS2:=Lib.hid (HS.out.upd0 udr)
  have HE2:=Lib.hid (HE.out.upd udr (by simp))
  have HU2:=Lib.hid (HU.out.trans (udr.mono (by simp)))
  have UW2:=Lib.hid udr
  clear HS HE HU udr
  have HS:=HS2
  have HE:=HE2
  have HU:=HU2
  clear HS2 HE2 HU2
  rw [hdr]
  clear hdr
  replace c27:=UW2.out.cell (by simp) c27
  replace c28:=UW2.out.cell (by simp) c28
  replace q1:=UW2.out.cell (by simp) q1
  repeat
   first
    | (refine wpB_skip rfl (by kernel_rfl) (by rfl) ?_)
    | ((refine wpB_take (v:=?_) rfl rfl (by kernel_rfl) (by rfl) ?_ ?_); rotate_left 1; (· ((intro w hSw; (try dsimp only at hSw); go_simp); try with_reducible rfl)))
   try simp only [Act.put,List.setIfInBounds_toArray,List.set_cons_zero,List.set_cons_succ]
  refine wpB_eff rfl (by kernel_rfl) (by rfl) (fun K2 hK2=>?_)
  go_simp
  have ua:∀ c,Upd [] W2 (W2.alloc c):=fun c=>(Upd.refl [] _).alloc _
  refine hK2.out _ _ ⟨(ua _).cell (by simp) c27,(ua _).cell (by simp) c28⟩ ?_
  clear hK2 K2
  repeat
   first
    | (refine wpB_skip rfl (by kernel_rfl) (by rfl) ?_)
    | ((refine wpB_take (v:=?_) rfl rfl (by kernel_rfl) (by rfl) ?_ ?_); rotate_left 1; (· ((intro w hSw; (try dsimp only at hSw); go_simp); try with_reducible rfl)))
   try simp only [Act.put,List.setIfInBounds_toArray,List.set_cons_zero,List.set_cons_succ]
  refine wpB_eff rfl (by kernel_rfl) (by rfl) (fun K2 hK2=>?_)
  go_simp
  refine hK2.out _ _ ⟨(ua _).cell (by simp) c27,(ua _).cell (by simp) c28⟩ ?_
  clear hK2 K2
  refine wpB_end (by kernel_rfl) (NoPanic.normal ?_)
  obtain ⟨W3,hW3⟩:∃ W,W2.alloc (.cells #[.int .u64 x,.int .u64 y] 71)=W:=⟨_,rfl⟩
  have u3:Upd [] W2 W3:=by rw [← hW3]; exact (Upd.refl [] _).alloc _
  have CB:Blk W3 W2.heap.size [.int .u64 x,.int .u64 y] 71:=by rw [← hW3]; exact Blk.new W2 _ _
  rw [hW3]
  replace q1:=u3.cell (by simp) q1
  replace c28:=u3.cell (by simp) c28
  have l1:=HS.out.th.lt
  have l2:=HS.out.wo.lt
  have l3:=HE.out.lt
  obtain ⟨cb,hcb⟩:∃ b,W2.heap.size=b:=⟨_,rfl⟩
  rw [hcb] at CB l1 l2 l3 ⊢
  have HCN:=Lib.hid (show cb≠rb∧cb≠wb∧cb≠qb∧w.heap.size<cb from ⟨by omega,by omega,by omega,l3⟩)
  have HC:=Lib.hid CB
  have HE3:=Lib.hid (HE.out.upd u3 (by simp))
  have HU3:=Lib.hid (HU.out.trans (u3.mono (by simp)))
  have HS3:=Lib.hid (HS.out.upd0 u3)
  clear HS HE HU CB u3 ua hW3 c27 hcb l1 l2 l3
  have HS:=HS3
  have HE:=HE3
  have HU:=HU3
  clear HS3 HE3 HU3
  have f28:=HS.out.th.head.free 28
  go_upto_region 4 with (fail)
  have hnc:=HCN.out
  have q4:=(show Upd [rb] W3 (W3.setCell ⟨rb,28,none⟩ (.int .u64 0)) from (Upd.refl [rb] _).setCell (.inl (by simp)) _).cell (by simpa using hpr) q1
  have HC4:=Lib.hid (HC.out.upd (show Upd [rb] W3 (W3.setCell ⟨rb,28,none⟩ (.int .u64 0)) from (Upd.refl [rb] _).setCell (.inl (by simp)) _) (by simpa using hnc.1))
  clear q1 HC hnc f28 c28
  have HC:=HC4
  have q1:=q4
  clear HC4 q4
  obtain ⟨W4,hW4⟩:∃ W,W3.setCell ⟨rb,28,none⟩ (.int .u64 0)=W:=⟨_,rfl⟩
  rw [hW4] at HC q1
  have hs4:=HS.out.one (r':=withR r { r.a with word:=0 }) 28 (.int .u64 0) (rsets k8 j8 rv wv 0).2.2 rfl rfl k8 j8
  rw [hW4] at hs4
  have u4:Upd [rb] W3 W4:=by rw [← hW4]; exact (Upd.refl [rb] _).setCell (.inl (by simp)) _
  have HE4:=Lib.hid (HE.out.upd u4 (by have:=HNB.out; simp; omega))
  have HU4:=Lib.hid (HU.out.trans (u4.mono (by simp)))
  have HS4:=Lib.hid hs4
  rw [hW4]
  clear HS HE HU u4 hs4 hW4
  have HS:=HS4
  have HE:=HE4
  have HU:=HU4
  clear HS4 HE4 HU4
  have c22:=HS.out.th.head.cell 22 (rcells (r:=withR r { r.a with word:=0 }) k8 j8 rv wv).2.2.2.2.2.2.1
  replace c22:W4.cell? ⟨rb,22,none⟩=some (.int .u64 r.a.snap):=c22
  obtain ⟨cap4,hW⟩:=HS.out.wo.head
  have d1:=hW.cell 1 rfl
  clear hW
  refine wp_region_br (fun w'=>w'.cell? ⟨rb,22,none⟩=some (.int .u64 r.a.snap)∧w'.cell? ⟨wb,1,none⟩=some (.int .u64 sh.clock)) [0,1,2,3,4,5,6,7,8] (by kernel_rfl) (by kernel_rfl) ⟨c22,d1⟩ ?_
  repeat
   first
    | (refine wpB_skip rfl (by kernel_rfl) (by rfl) ?_)
    | ((refine wpB_take (v:=?_) rfl rfl (by kernel_rfl) (by rfl) ?_ ?_); rotate_left 1; (· ((intro w hSw; (try dsimp only at hSw); go_simp); try with_reducible rfl)))
   try simp only [Act.put,List.setIfInBounds_toArray,List.set_cons_zero,List.set_cons_succ]
  refine wpB_end (by kernel_rfl) (NoPanic.normal ?_)
  have HC5:=Lib.hid (HC.out.upd (show Upd [] W4 W4.drew from (Upd.refl [] _).drew) (by simp))
  have q5:=(show Upd [] W4 W4.drew from (Upd.refl [] _).drew).cell (by simp) q1
  clear HC q1 c22 d1
  have HC:=HC5
  have q1:=q5
  clear HC5 q5
  obtain ⟨W5,hW5⟩:∃ W,W4.drew=W:=⟨_,rfl⟩
  rw [hW5] at HC q1
  have u5:Upd [] W4 W5:=by rw [← hW5]; exact (Upd.refl [] _).drew
  have HE5:=Lib.hid (HE.out.upd u5 (by simp))
  have HU5:=Lib.hid (HU.out.trans (u5.mono (by simp)))
  have HS5:=Lib.hid (HS.out.upd0 u5)
  rw [hW5]
  clear HS HE HU u5 hW5
  have HS:=HS5
  have HE:=HE5
  have HU:=HU5
  clear HS5 HE5 HU5
  go_upto_region 8 with (fail)
  refine wp_region_brT (fun w'=>w'.cell? ⟨rb,23,none⟩=some rv∧w'.cell? ⟨cb,0,none⟩=some (.int .u64 x)∧w'.cell? ⟨cb,1,none⟩=some (.int .u64 y)) [0,2,3,4,5,7,1,6,8,9,10,11,12] 12 (by kernel_rfl) (by kernel_rfl) (by kernel_rfl) ?_
  obtain ⟨W6,hdr⟩:∃ W,(W5).drew=W:=⟨_,rfl⟩
  have udr:Upd [] W5 W6:=by rw [← hdr]; exact (Upd.refl [] _).drew
  have HS2:=Lib.hid (HS.out.upd0 udr)
  have HE2:=Lib.hid (HE.out.upd udr (by simp))
  have HU2:=Lib.hid (HU.out.trans (udr.mono (by simp)))
  have UW6:=Lib.hid udr
  clear HS HE HU udr
  have HS:=HS2
  have HE:=HE2
  have HU:=HU2
  clear HS2 HE2 HU2
  rw [hdr]
  clear hdr
  replace q1:=UW6.out.cell (by simp) q1
  have HC6:=Lib.hid (HC.out.upd UW6.out (by simp))
  clear HC
  have HC:=HC6
  clear HC6
  have c23:W6.cell? ⟨rb,23,none⟩=some rv:=HS.out.th.head.cell 23 (rcells (r:=withR r { r.a with word:=0 }) k8 j8 rv wv).2.2.2.2.2.2.2.2
  have hS:W6.cell? ⟨rb,23,none⟩=some rv∧W6.cell? ⟨cb,0,none⟩=some (.int .u64 x)∧W6.cell? ⟨cb,1,none⟩=some (.int .u64 y):=⟨c23,HC.out.cell 0 rfl,HC.out.cell 1 rfl⟩
  have HSU:=Lib.hid (show ∀ W,Upd [] W6 W → W.cell? ⟨rb,23,none⟩=some rv∧W.cell? ⟨cb,0,none⟩=some (.int .u64 x)∧W.cell? ⟨cb,1,none⟩=some (.int .u64 y) from fun W u=>⟨u.cell (by simp) hS.1,u.cell (by simp) hS.2.1,u.cell (by simp) hS.2.2⟩)
  have hsl:SlC W6 rv r.a.reads:=HS.out.th.rd
  have HRF:=Lib.hid HS.out.th.rd
  repeat
   first
    | ((refine wpC_take (v:=?_) rfl (by decide) rfl (by kernel_rfl) (by rfl) hS ?_ ?_); rotate_left 1; (· ((intro w hSw; (try dsimp only at hSw); go_simp); try with_reducible rfl)))
   try simp only [Act.put,List.setIfInBounds_toArray,List.set_cons_zero,List.set_cons_succ]
  clear hS
  refine wpC_two (i:=1) (j:=8) [1,6,9,10,11,12] (by kernel_rfl) rfl rfl (by rfl) (by rfl) (fun K2 hK2=>?_) (fun K2 hK2=>?_)
  ·go_simp
   have ub:Upd [] W6 (W6.alloc (.cells #[] 71)):=(Upd.refl [] _).alloc _
   refine hK2.out _ _ (.inr (HSU.out _ ub)) ?_
   clear hK2 K2
   refine wpC_two (i:=6) (j:=8) [6,9,10,11,12] (by kernel_rfl) rfl rfl (by rfl) (by rfl) (fun K2 hK2=>?_) (fun K2 hK2=>?_)
   ·obtain ⟨v1,Wc,v2,We,hr1,uc,hr2,hl3⟩:=lk1 W6 hsl hlk x y
    have HL:=Lib.hid hl3
    clear hl3 hsl
    refine wpC_append_K (.tmp 42) (.tmp 46) 53 53 rfl _ _ _ rfl rfl hr1 ?_
    refine hK2.out _ _ (.inr (HSU.out _ uc)) ?_
    clear hK2 K2 hr1 ub
    refine wpC_eff rfl (by kernel_rfl) (by rfl) (fun K2 hK2=>?_)
    go_simp
    refine hK2.out _ _ (.inr (HSU.out _ (uc.alloc _))) ?_
    clear hK2 K2
    refine wpC_append rfl (by kernel_rfl) (by rfl) (.tmp 47) (.tmp 49) 53 53 rfl _ _ _ rfl rfl hr2 (HSU.out _ HL.out.1) ?_
    clear hr2 uc
    try simp only [Act.put,List.setIfInBounds_toArray,List.set_cons_zero,List.set_cons_succ]
    have hS:=HSU.out _ HL.out.1
    repeat
     first
      | ((refine wpC_take (v:=?_) rfl (by decide) rfl (by kernel_rfl) (by rfl) hS ?_ ?_); rotate_left 1; (· ((intro w hSw; (try dsimp only at hSw); go_simp); try with_reducible rfl)))
     try simp only [Act.put,List.setIfInBounds_toArray,List.set_cons_zero,List.set_cons_succ]
    clear hS HSU
    have hse:=HS.out.upd0 HL.out.1
    obtain ⟨gl,cl,hv2,hga,hgb⟩:=HL.out.2.2
    rw [show (r.a.reads ++ [(x,y)]).length=r.a.reads.length+1 from by simp] at hv2
    have hsl:=HL.out.2.1
    rw [hv2] at hsl
    have e23:=hse.th.head.cell 23 (rcells (r:=withR r { r.a with word:=0 }) k8 j8 rv wv).2.2.2.2.2.2.2.2
    have f23:=hse.th.head.free 23
    have l1:=HS.out.th.lt
    have l2:=HS.out.wo.lt
    have l3:=HE.out.lt
    have hgs:gl≠rb∧gl≠wb∧gl≠qb:=⟨by omega,by omega,by omega⟩
    have hs5:RS ((We).setCell ⟨rb,23,none⟩ (.slice (some ⟨gl,0,none⟩) (r.a.reads.length+1) cl)) rb wb qb (withR r { r.a with word:=0,reads:=r.a.reads ++ [(x,y)] }) sh (.slice (some ⟨gl,0,none⟩) (r.a.reads.length+1) cl) wv:=hse.setRd (.slice (some ⟨gl,0,none⟩) (r.a.reads.length+1) cl) _ hsl (fun q hq=>by cases hq; exact ⟨hgs.1,hgs.2.1,hgs.2.2,hgb⟩)
    subst hv2
    refine wpC_eff rfl (by kernel_rfl) (by rfl) (fun K2 hK2=>?_)
    go_simp
    refine hK2.out _ _ (.inl (by decide)) ?_
    refine wpC_end (by kernel_rfl) (NoPanic.normal ?_)
    clear hK2 K2
    obtain ⟨W7,hW7⟩:∃ W,(We).setCell ⟨rb,23,none⟩ (.slice (some ⟨gl,0,none⟩) (r.a.reads.length+1) cl)=W:=⟨_,rfl⟩
    have u7:Upd [rb] We W7:=by rw [← hW7]; exact (Upd.refl [rb] _).setCell (.inl (by simp)) _
    rw [hW7] at hs5 ⊢
    have hgw:gl≠w.heap.size:=by omega
    have hgw2:w.heap.size≤gl:=by omega
    have HS6:=Lib.hid hs5
    have HE6:=Lib.hid ((HE.out.upd HL.out.1 (by simp)).upd u7 (by have:=HNB.out; simp; omega))
    have HC6:=Lib.hid ((HC.out.upd HL.out.1 (by simp)).upd u7 (by have:=HCN.out; simp; omega))
    have HU6:=Lib.hid ((HU.out.trans (HL.out.1.mono (by simp))).trans (u7.mono (by simp)))
    have HNL6:=Lib.hid (show ∀ q,(Value.slice (some ⟨gl,0,none⟩) (r.a.reads.length+1) cl).ownBlock=some q∨wv.ownBlock=some q → q≠w.heap.size from fun q hq=>by
     rcases hq with e | e
     ·cases e; exact hgw
     ·exact HNL.out q (.inr e))
    have HN6:=Lib.hid (show ∀ q,(Value.slice (some ⟨gl,0,none⟩) (r.a.reads.length+1) cl).ownBlock=some q∨wv.ownBlock=some q → (rv.ownBlock=some q∨wv.ownBlock=some q)∨w.heap.size≤q from fun q hq=>by
     rcases hq with e | e
     ·cases e; exact .inr hgw2
     ·exact .inl (.inr e))
    have q6:=u7.cell (by simpa using hpr) (HL.out.1.cell (by simp) q1)
    clear HS HE HU HNL HN HC HL hs5 u7 hW7 hse hsl e23 f23 hga hgb hgw hgw2 l1 l2 l3 c23 q1
    have HS:=HS6
    have HE:=HE6
    have HU:=HU6
    have HNL:=HNL6
    have HN:=HN6
    have HC:=HC6
    have q1:=q6
    clear HS6 HE6 HU6 HNL6 HN6 HC6 q6
    clear k8 j8
    have k9:=HS.out.th.r8
    have j9:=HS.out.th.s8
    have c27:=HS.out.th.head.cell 27 (rcells2 (r:=withR r { r.a with word:=0,reads:=r.a.reads ++ [(x,y)] }) k9 j9 _ wv).2.1
    have f27:=HS.out.th.head.free 27
    have c25:=HS.out.th.head.cell 25 (rcells (r:=withR r { r.a with word:=0,reads:=r.a.reads ++ [(x,y)] }) k9 j9 _ wv).2.2.2.2.2.1
    have f25:=HS.out.th.head.free 25
    go_upto_region 11 with (fail)
    clear c27 f27 c25 f25
    obtain ⟨W8,hW2⟩:∃ W,((W7.setCell ⟨rb,27,none⟩ (.int .u64 0)).setCell ⟨rb,25,none⟩ (.int .i64 1))=W:=⟨_,rfl⟩
    have hs2:=((HS.out.one (r':=withR r { r.a with word:=0,reads:=r.a.reads ++ [(x,y)],addr:=0 }) 27 (.int .u64 0) (rset_addr (r:=withR r { r.a with word:=0,reads:=r.a.reads ++ [(x,y)] }) k9 j9 _ wv 0) rfl rfl k9 j9).one (r':=withR r { r.a with word:=0,reads:=r.a.reads ++ [(x,y)],addr:=0,phase:=1 }) 25 (.int .i64 1) (rsets (r:=withR r { r.a with word:=0,reads:=r.a.reads ++ [(x,y)],addr:=0 }) k9 j9 _ wv 1).1 rfl rfl k9 j9)
    rw [hW2] at hs2
    have uu:Upd [rb] W7 W8:=by
     rw [← hW2]
     repeat (first | refine Upd.drew ?_ | refine Upd.setCell ?_ (.inl (by simp)) _ | with_reducible exact Upd.refl _ _)
    have HE2:=Lib.hid (HE.out.upd uu (by have:=HNB.out; simp; omega))
    have HC2:=Lib.hid (HC.out.upd uu (by have:=HCN.out; simp; omega))
    have HU2:=Lib.hid (HU.out.trans (uu.mono (by simp)))
    have HS2:=Lib.hid hs2
    have q2:=uu.cell (by simpa using hpr) q1
    clear HS HE HU HC q1 uu hs2
    have HS:=HS2
    have HE:=HE2
    have HU:=HU2
    have HC:=HC2
    have q1:=q2
    clear HS2 HE2 HU2 HC2 q2
    rw [hW2]
    clear hW2
    refine wp_region_ordT (fun w'=>w'.cell? ⟨rb,2,none⟩=some (.int .i64 (k:Int))∧w'.cell? ⟨pb,o+k*5+1,none⟩=some (.int .i64 (A:Int))∧w'.cell? ⟨cb,1,none⟩=some (.int .u64 y)) [0,1,2,3,4,5,6,7,8,9,10,11,12,13,14] [14] (by kernel_rfl) (by kernel_rfl) ?_
    obtain ⟨W9,hW2⟩:∃ W,W8.drew=W:=⟨_,rfl⟩
    have hs2:=HS.out.upd0 ((Upd.refl [] _).drew)
    rw [hW2] at hs2
    have uu:Upd [rb] W8 W9:=by
     rw [← hW2]
     repeat (first | refine Upd.drew ?_ | refine Upd.setCell ?_ (.inl (by simp)) _ | with_reducible exact Upd.refl _ _)
    have HE2:=Lib.hid (HE.out.upd uu (by have:=HNB.out; simp; omega))
    have HC2:=Lib.hid (HC.out.upd uu (by have:=HCN.out; simp; omega))
    have HU2:=Lib.hid (HU.out.trans (uu.mono (by simp)))
    have HS2:=Lib.hid hs2
    have q2:=uu.cell (by simpa using hpr) q1
    clear HS HE HU HC q1 uu hs2
    have HS:=HS2
    have HE:=HE2
    have HU:=HU2
    have HC:=HC2
    have q1:=q2
    clear HS2 HE2 HU2 HC2 q2
    rw [hW2]
    clear hW2
    have c2:W9.cell? ⟨rb,2,none⟩=some (.int .i64 r.at_):=HS.out.th.head.cell 2 (rcells (r:=withR r { r.a with word:=0,reads:=r.a.reads ++ [(x,y)],addr:=0,phase:=1 }) k9 j9 _ wv).2.1
    rw [HK.out] at c2
    have hS:W9.cell? ⟨rb,2,none⟩=some (.int .i64 (k:Int))∧W9.cell? ⟨pb,o+k*5+1,none⟩=some (.int .i64 (A:Int))∧W9.cell? ⟨cb,1,none⟩=some (.int .u64 y):=⟨c2,q1,HC.out.cell 1 rfl⟩
    have dA:=HS.out.th.head.cell _ (rcell_reg (r:=withR r { r.a with word:=0,reads:=r.a.reads ++ [(x,y)],addr:=0,phase:=1 }) k9 _ wv hA8n)
    have fA:=HS.out.th.head.free (3+A)
    clear c2
    repeat
     first
      | (refine wpT_skip rfl (by decide) (by assumption) (by rfl) ?_)
      | ((refine wpT_take (v:=?_) rfl (by decide) (by assumption) rfl (by rfl) ?_ ?_); rotate_left 1; (· ((intro w hSw; (try dsimp only at hSw); go_simp); try with_reducible rfl)))
     try simp only [Act.put,List.setIfInBounds_toArray,List.set_cons_zero,List.set_cons_succ]
    refine wpT_last rfl (by decide) (by kernel_rfl) (by rfl) (fun K2 hK2=>?_)
    go_simp
    refine hK2.out _ _ ?_
    refine wpT_end (NoPanic.normal ?_)
    clear hK2 K2
    clear hS dA fA
    obtain ⟨Wf,hW2⟩:∃ W,W9.setCell ⟨rb,3+A,none⟩ (.int .u64 y)=W:=⟨_,rfl⟩
    have hs2:=HS.out.one (r':=setRR (withR r { r.a with word:=0,reads:=r.a.reads ++ [(x,y)],addr:=0,phase:=1 }) (A:Int) y) (3+A) (.int .u64 y) (rset_reg (r:=withR r { r.a with word:=0,reads:=r.a.reads ++ [(x,y)],addr:=0,phase:=1 }) k9 _ wv hA8n y) rfl rfl (by unfold setRR; simp; exact k9) j9
    rw [hW2] at hs2
    have uu:Upd [rb] W9 Wf:=by
     rw [← hW2]
     repeat (first | refine Upd.drew ?_ | refine Upd.setCell ?_ (.inl (by simp)) _ | with_reducible exact Upd.refl _ _)
    have HE2:=Lib.hid (HE.out.upd uu (by have:=HNB.out; simp; omega))
    have HC2:=Lib.hid (HC.out.upd uu (by have:=HCN.out; simp; omega))
    have HU2:=Lib.hid (HU.out.trans (uu.mono (by simp)))
    have HS2:=Lib.hid hs2
    have q2:=uu.cell (by simpa using hpr) q1
    clear HS HE HU HC q1 uu hs2
    have HS:=HS2
    have HE:=HE2
    have HU:=HU2
    have HC:=HC2
    have q1:=q2
    clear HS2 HE2 HU2 HC2 q2
    rw [hW2]
    clear hW2
    have k10:=HS.out.th.r8
    have c2:Wf.cell? ⟨rb,2,none⟩=some (.int .i64 r.at_):=HS.out.th.head.cell 2 (rcells (r:=setRR (withR r { r.a with word:=0,reads:=r.a.reads ++ [(x,y)],addr:=0,phase:=1 }) (A:Int) y) k10 j9 _ wv).2.1
    have f2:=HS.out.th.head.free 2
    go_upto_region 13 with (fail)
    clear c2 f2
    obtain ⟨Wg,hW2⟩:∃ W,Wf.setCell ⟨rb,2,none⟩ (.int .i64 (r.at_+1))=W:=⟨_,rfl⟩
    have hs2:=HS.out.one (r':=nextR (setRR (withR r { r.a with word:=0,reads:=r.a.reads ++ [(x,y)],addr:=0,phase:=1 }) (A:Int) y)) 2 (.int .i64 (r.at_+1)) rfl rfl rfl k10 j9
    rw [hW2] at hs2
    have uu:Upd [rb] Wf Wg:=by
     rw [← hW2]
     repeat (first | refine Upd.drew ?_ | refine Upd.setCell ?_ (.inl (by simp)) _ | with_reducible exact Upd.refl _ _)
    have HE2:=Lib.hid (HE.out.upd uu (by have:=HNB.out; simp; omega))
    have HC2:=Lib.hid (HC.out.upd uu (by have:=HCN.out; simp; omega))
    have HU2:=Lib.hid (HU.out.trans (uu.mono (by simp)))
    have HS2:=Lib.hid hs2
    have q2:=uu.cell (by simpa using hpr) q1
    clear HS HE HU HC q1 uu hs2
    have HS:=HS2
    have HE:=HE2
    have HU:=HU2
    have HC:=HC2
    have q1:=q2
    clear HS2 HE2 HU2 HC2 q2
    rw [hW2]
    clear hW2
    have i0:=HC.out.cell 0 rfl
    have i1:=HC.out.cell 1 rfl
    go_wp2_with fail
    clear i0 i1
    refine (x11event_any _ _ _ _).mono ?_
    rintro e W9 ⟨rfl,u9⟩
    simp only [TE.val]
    replace HE:=Lib.hid (HE.out.upd u9 (by simp))
    replace HS:=Lib.hid (HS.out.upd0 u9)
    replace HU:=Lib.hid (HU.out.trans (u9.mono (by simp)))
    clear u9
    have q0:=(HE.out).cell 0 rfl
    have q1:=(HE.out).cell 1 rfl
    have q2:=(HE.out).cell 2 rfl
    have q3:=(HE.out).cell 3 rfl
    have q4:=(HE.out).cell 4 rfl
    have q5:=(HE.out).cell 5 rfl
    have f0:=(HE.out).free 0
    have f1:=(HE.out).free 1
    have f2:=(HE.out).free 2
    have f3:=(HE.out).free 3
    have f4:=(HE.out).free 4
    have f5:=(HE.out).free 5
    dsimp only at q0 q1 q2 q3 q4 q5
    go_wp2_with fail
    refine bodyPost_ret (ev_results2 6 7 rfl _ _ w.heap.size (⟨2,x,y,false,0⟩:TE) (.bool true) rfl rfl (ev_set HE.out (⟨2,x,y,false,0⟩:TE))) rfl (hK _ _ ?_)
    refine ⟨rfl,_,_,HS.out.box (ev_upd (S:=[w.heap.size]) (Upd.refl _ _) (.inl (by simp)) _ _ _ _ _ _) HNB.out HNL.out,ev_upd HU.out (.inr (Nat.le_refl _)) _ _ _ _ _ _,HN.out⟩
   ·go_simp
    have ug:Upd [] W6 ((W6.alloc (.cells #[] 71)).alloc (.cells #[.int .u64 x,.int .u64 y] 71)):=ub.alloc _
    have GB:=(Blk.new W6 [] 71).alloc (.cells #[.int .u64 x,.int .u64 y] 71)
    have CX:=Blk.new (W6.alloc (.cells #[] 71)) [.int .u64 x,.int .u64 y] 71
    rw [World.size_alloc] at CX
    refine hK2.out _ _ (.inr (HSU.out _ ug)) ?_
    clear hK2 K2
    obtain ⟨v1,Wc,v2,We,hr1,uc,hr2,hl3⟩:=lk23 W6 _ _ _ hsl hlk x y ug GB CX (Nat.le_refl _)
    have HL:=Lib.hid hl3
    clear hl3 hsl GB CX ub
    refine wpC_append rfl (by kernel_rfl) (by rfl) (.tmp 42) (.tmp 46) 53 53 rfl _ _ _ rfl rfl hr1 (HSU.out _ uc) ?_
    clear hr1 ug
    try simp only [Act.put,List.setIfInBounds_toArray,List.set_cons_zero,List.set_cons_succ]
    refine wpC_append rfl (by kernel_rfl) (by rfl) (.tmp 47) (.tmp 49) 53 53 rfl _ _ _ rfl rfl hr2 (HSU.out _ HL.out.1) ?_
    clear hr2 uc
    try simp only [Act.put,List.setIfInBounds_toArray,List.set_cons_zero,List.set_cons_succ]
    have hS:=HSU.out _ HL.out.1
    repeat
     first
      | ((refine wpC_take (v:=?_) rfl (by decide) rfl (by kernel_rfl) (by rfl) hS ?_ ?_); rotate_left 1; (· ((intro w hSw; (try dsimp only at hSw); go_simp); try with_reducible rfl)))
     try simp only [Act.put,List.setIfInBounds_toArray,List.set_cons_zero,List.set_cons_succ]
    clear hS HSU
    have hse:=HS.out.upd0 HL.out.1
    obtain ⟨gl,cl,hv2,hga,hgb⟩:=HL.out.2.2
    rw [show (r.a.reads ++ [(x,y)]).length=r.a.reads.length+1 from by simp] at hv2
    have hsl:=HL.out.2.1
    rw [hv2] at hsl
    have e23:=hse.th.head.cell 23 (rcells (r:=withR r { r.a with word:=0 }) k8 j8 rv wv).2.2.2.2.2.2.2.2
    have f23:=hse.th.head.free 23
    have l1:=HS.out.th.lt
    have l2:=HS.out.wo.lt
    have l3:=HE.out.lt
    have hgs:gl≠rb∧gl≠wb∧gl≠qb:=⟨by omega,by omega,by omega⟩
    have hs5:RS ((We).setCell ⟨rb,23,none⟩ (.slice (some ⟨gl,0,none⟩) (r.a.reads.length+1) cl)) rb wb qb (withR r { r.a with word:=0,reads:=r.a.reads ++ [(x,y)] }) sh (.slice (some ⟨gl,0,none⟩) (r.a.reads.length+1) cl) wv:=hse.setRd (.slice (some ⟨gl,0,none⟩) (r.a.reads.length+1) cl) _ hsl (fun q hq=>by cases hq; exact ⟨hgs.1,hgs.2.1,hgs.2.2,hgb⟩)
    subst hv2
    refine wpC_eff rfl (by kernel_rfl) (by rfl) (fun K2 hK2=>?_)
    go_simp
    refine hK2.out _ _ (.inl (by decide)) ?_
    refine wpC_end (by kernel_rfl) (NoPanic.normal ?_)
    clear hK2 K2
    obtain ⟨W7,hW7⟩:∃ W,(We).setCell ⟨rb,23,none⟩ (.slice (some ⟨gl,0,none⟩) (r.a.reads.length+1) cl)=W:=⟨_,rfl⟩
    have u7:Upd [rb] We W7:=by rw [← hW7]; exact (Upd.refl [rb] _).setCell (.inl (by simp)) _
    rw [hW7] at hs5 ⊢
    have hgw:gl≠w.heap.size:=by omega
    have hgw2:w.heap.size≤gl:=by omega
    have HS6:=Lib.hid hs5
    have HE6:=Lib.hid ((HE.out.upd HL.out.1 (by simp)).upd u7 (by have:=HNB.out; simp; omega))
    have HC6:=Lib.hid ((HC.out.upd HL.out.1 (by simp)).upd u7 (by have:=HCN.out; simp; omega))
    have HU6:=Lib.hid ((HU.out.trans (HL.out.1.mono (by simp))).trans (u7.mono (by simp)))
    have HNL6:=Lib.hid (show ∀ q,(Value.slice (some ⟨gl,0,none⟩) (r.a.reads.length+1) cl).ownBlock=some q∨wv.ownBlock=some q → q≠w.heap.size from fun q hq=>by
     rcases hq with e | e
     ·cases e; exact hgw
     ·exact HNL.out q (.inr e))
    have HN6:=Lib.hid (show ∀ q,(Value.slice (some ⟨gl,0,none⟩) (r.a.reads.length+1) cl).ownBlock=some q∨wv.ownBlock=some q → (rv.ownBlock=some q∨wv.ownBlock=some q)∨w.heap.size≤q from fun q hq=>by
     rcases hq with e | e
     ·cases e; exact .inr hgw2
     ·exact .inl (.inr e))
    have q6:=u7.cell (by simpa using hpr) (HL.out.1.cell (by simp) q1)
    clear HS HE HU HNL HN HC HL hs5 u7 hW7 hse hsl e23 f23 hga hgb hgw hgw2 l1 l2 l3 c23 q1
    have HS:=HS6
    have HE:=HE6
    have HU:=HU6
    have HNL:=HNL6
    have HN:=HN6
    have HC:=HC6
    have q1:=q6
    clear HS6 HE6 HU6 HNL6 HN6 HC6 q6
    clear k8 j8
    have k9:=HS.out.th.r8
    have j9:=HS.out.th.s8
    have c27:=HS.out.th.head.cell 27 (rcells2 (r:=withR r { r.a with word:=0,reads:=r.a.reads ++ [(x,y)] }) k9 j9 _ wv).2.1
    have f27:=HS.out.th.head.free 27
    have c25:=HS.out.th.head.cell 25 (rcells (r:=withR r { r.a with word:=0,reads:=r.a.reads ++ [(x,y)] }) k9 j9 _ wv).2.2.2.2.2.1
    have f25:=HS.out.th.head.free 25
    go_upto_region 11 with (fail)
    clear c27 f27 c25 f25
    obtain ⟨W8,hW2⟩:∃ W,((W7.setCell ⟨rb,27,none⟩ (.int .u64 0)).setCell ⟨rb,25,none⟩ (.int .i64 1))=W:=⟨_,rfl⟩
    have hs2:=((HS.out.one (r':=withR r { r.a with word:=0,reads:=r.a.reads ++ [(x,y)],addr:=0 }) 27 (.int .u64 0) (rset_addr (r:=withR r { r.a with word:=0,reads:=r.a.reads ++ [(x,y)] }) k9 j9 _ wv 0) rfl rfl k9 j9).one (r':=withR r { r.a with word:=0,reads:=r.a.reads ++ [(x,y)],addr:=0,phase:=1 }) 25 (.int .i64 1) (rsets (r:=withR r { r.a with word:=0,reads:=r.a.reads ++ [(x,y)],addr:=0 }) k9 j9 _ wv 1).1 rfl rfl k9 j9)
    rw [hW2] at hs2
    have uu:Upd [rb] W7 W8:=by
     rw [← hW2]
     repeat (first | refine Upd.drew ?_ | refine Upd.setCell ?_ (.inl (by simp)) _ | with_reducible exact Upd.refl _ _)
    have HE2:=Lib.hid (HE.out.upd uu (by have:=HNB.out; simp; omega))
    have HC2:=Lib.hid (HC.out.upd uu (by have:=HCN.out; simp; omega))
    have HU2:=Lib.hid (HU.out.trans (uu.mono (by simp)))
    have HS2:=Lib.hid hs2
    have q2:=uu.cell (by simpa using hpr) q1
    clear HS HE HU HC q1 uu hs2
    have HS:=HS2
    have HE:=HE2
    have HU:=HU2
    have HC:=HC2
    have q1:=q2
    clear HS2 HE2 HU2 HC2 q2
    rw [hW2]
    clear hW2
    refine wp_region_ordT (fun w'=>w'.cell? ⟨rb,2,none⟩=some (.int .i64 (k:Int))∧w'.cell? ⟨pb,o+k*5+1,none⟩=some (.int .i64 (A:Int))∧w'.cell? ⟨cb,1,none⟩=some (.int .u64 y)) [0,1,2,3,4,5,6,7,8,9,10,11,12,13,14] [14] (by kernel_rfl) (by kernel_rfl) ?_
    obtain ⟨W9,hW2⟩:∃ W,W8.drew=W:=⟨_,rfl⟩
    have hs2:=HS.out.upd0 ((Upd.refl [] _).drew)
    rw [hW2] at hs2
    have uu:Upd [rb] W8 W9:=by
     rw [← hW2]
     repeat (first | refine Upd.drew ?_ | refine Upd.setCell ?_ (.inl (by simp)) _ | with_reducible exact Upd.refl _ _)
    have HE2:=Lib.hid (HE.out.upd uu (by have:=HNB.out; simp; omega))
    have HC2:=Lib.hid (HC.out.upd uu (by have:=HCN.out; simp; omega))
    have HU2:=Lib.hid (HU.out.trans (uu.mono (by simp)))
    have HS2:=Lib.hid hs2
    have q2:=uu.cell (by simpa using hpr) q1
    clear HS HE HU HC q1 uu hs2
    have HS:=HS2
    have HE:=HE2
    have HU:=HU2
    have HC:=HC2
    have q1:=q2
    clear HS2 HE2 HU2 HC2 q2
    rw [hW2]
    clear hW2
    have c2:W9.cell? ⟨rb,2,none⟩=some (.int .i64 r.at_):=HS.out.th.head.cell 2 (rcells (r:=withR r { r.a with word:=0,reads:=r.a.reads ++ [(x,y)],addr:=0,phase:=1 }) k9 j9 _ wv).2.1
    rw [HK.out] at c2
    have hS:W9.cell? ⟨rb,2,none⟩=some (.int .i64 (k:Int))∧W9.cell? ⟨pb,o+k*5+1,none⟩=some (.int .i64 (A:Int))∧W9.cell? ⟨cb,1,none⟩=some (.int .u64 y):=⟨c2,q1,HC.out.cell 1 rfl⟩
    have dA:=HS.out.th.head.cell _ (rcell_reg (r:=withR r { r.a with word:=0,reads:=r.a.reads ++ [(x,y)],addr:=0,phase:=1 }) k9 _ wv hA8n)
    have fA:=HS.out.th.head.free (3+A)
    clear c2
    repeat
     first
      | (refine wpT_skip rfl (by decide) (by assumption) (by rfl) ?_)
      | ((refine wpT_take (v:=?_) rfl (by decide) (by assumption) rfl (by rfl) ?_ ?_); rotate_left 1; (· ((intro w hSw; (try dsimp only at hSw); go_simp); try with_reducible rfl)))
     try simp only [Act.put,List.setIfInBounds_toArray,List.set_cons_zero,List.set_cons_succ]
    refine wpT_last rfl (by decide) (by kernel_rfl) (by rfl) (fun K2 hK2=>?_)
    go_simp
    refine hK2.out _ _ ?_
    refine wpT_end (NoPanic.normal ?_)
    clear hK2 K2
    clear hS dA fA
    obtain ⟨Wf,hW2⟩:∃ W,W9.setCell ⟨rb,3+A,none⟩ (.int .u64 y)=W:=⟨_,rfl⟩
    have hs2:=HS.out.one (r':=setRR (withR r { r.a with word:=0,reads:=r.a.reads ++ [(x,y)],addr:=0,phase:=1 }) (A:Int) y) (3+A) (.int .u64 y) (rset_reg (r:=withR r { r.a with word:=0,reads:=r.a.reads ++ [(x,y)],addr:=0,phase:=1 }) k9 _ wv hA8n y) rfl rfl (by unfold setRR; simp; exact k9) j9
    rw [hW2] at hs2
    have uu:Upd [rb] W9 Wf:=by
     rw [← hW2]
     repeat (first | refine Upd.drew ?_ | refine Upd.setCell ?_ (.inl (by simp)) _ | with_reducible exact Upd.refl _ _)
    have HE2:=Lib.hid (HE.out.upd uu (by have:=HNB.out; simp; omega))
    have HC2:=Lib.hid (HC.out.upd uu (by have:=HCN.out; simp; omega))
    have HU2:=Lib.hid (HU.out.trans (uu.mono (by simp)))
    have HS2:=Lib.hid hs2
    have q2:=uu.cell (by simpa using hpr) q1
    clear HS HE HU HC q1 uu hs2
    have HS:=HS2
    have HE:=HE2
    have HU:=HU2
    have HC:=HC2
    have q1:=q2
    clear HS2 HE2 HU2 HC2 q2
    rw [hW2]
    clear hW2
    have k10:=HS.out.th.r8
    have c2:Wf.cell? ⟨rb,2,none⟩=some (.int .i64 r.at_):=HS.out.th.head.cell 2 (rcells (r:=setRR (withR r { r.a with word:=0,reads:=r.a.reads ++ [(x,y)],addr:=0,phase:=1 }) (A:Int) y) k10 j9 _ wv).2.1
    have f2:=HS.out.th.head.free 2
    go_upto_region 13 with (fail)
    clear c2 f2
    obtain ⟨Wg,hW2⟩:∃ W,Wf.setCell ⟨rb,2,none⟩ (.int .i64 (r.at_+1))=W:=⟨_,rfl⟩
    have hs2:=HS.out.one (r':=nextR (setRR (withR r { r.a with word:=0,reads:=r.a.reads ++ [(x,y)],addr:=0,phase:=1 }) (A:Int) y)) 2 (.int .i64 (r.at_+1)) rfl rfl rfl k10 j9
    rw [hW2] at hs2
    have uu:Upd [rb] Wf Wg:=by
     rw [← hW2]
     repeat (first | refine Upd.drew ?_ | refine Upd.setCell ?_ (.inl (by simp)) _ | with_reducible exact Upd.refl _ _)
    have HE2:=Lib.hid (HE.out.upd uu (by have:=HNB.out; simp; omega))
    have HC2:=Lib.hid (HC.out.upd uu (by have:=HCN.out; simp; omega))
    have HU2:=Lib.hid (HU.out.trans (uu.mono (by simp)))
    have HS2:=Lib.hid hs2
    have q2:=uu.cell (by simpa using hpr) q1
    clear HS HE HU HC q1 uu hs2
    have HS:=HS2
    have HE:=HE2
    have HU:=HU2
    have HC:=HC2
    have q1:=q2
    clear HS2 HE2 HU2 HC2 q2
    rw [hW2]
    clear hW2
    have i0:=HC.out.cell 0 rfl
    have i1:=HC.out.cell 1 rfl
    go_wp2_with fail
    clear i0 i1
    refine (x11event_any _ _ _ _).mono ?_
    rintro e W9 ⟨rfl,u9⟩
    simp only [TE.val]
    replace HE:=Lib.hid (HE.out.upd u9 (by simp))
    replace HS:=Lib.hid (HS.out.upd0 u9)
    replace HU:=Lib.hid (HU.out.trans (u9.mono (by simp)))
    clear u9
    have q0:=(HE.out).cell 0 rfl
    have q1:=(HE.out).cell 1 rfl
    have q2:=(HE.out).cell 2 rfl
    have q3:=(HE.out).cell 3 rfl
    have q4:=(HE.out).cell 4 rfl
    have q5:=(HE.out).cell 5 rfl
    have f0:=(HE.out).free 0
    have f1:=(HE.out).free 1
    have f2:=(HE.out).free 2
    have f3:=(HE.out).free 3
    have f4:=(HE.out).free 4
    have f5:=(HE.out).free 5
    dsimp only at q0 q1 q2 q3 q4 q5
    go_wp2_with fail
    refine bodyPost_ret (ev_results2 6 7 rfl _ _ w.heap.size (⟨2,x,y,false,0⟩:TE) (.bool true) rfl rfl (ev_set HE.out (⟨2,x,y,false,0⟩:TE))) rfl (hK _ _ ?_)
    refine ⟨rfl,_,_,HS.out.box (ev_upd (S:=[w.heap.size]) (Upd.refl _ _) (.inl (by simp)) _ _ _ _ _ _) HNB.out HNL.out,ev_upd HU.out (.inr (Nat.le_refl _)) _ _ _ _ _ _,HN.out⟩
  ·go_simp
   have ub:Upd [] W6 (W6.alloc (.cells #[.int .u64 x,.int .u64 y] 71)):=(Upd.refl [] _).alloc _
   refine hK2.out _ _ (.inr (HSU.out _ ub)) ?_
   clear hK2 K2
   refine wpC_eff rfl (by kernel_rfl) (by rfl) (fun K2 hK2=>?_)
   go_simp
   have ug:Upd [] W6 ((W6.alloc (.cells #[.int .u64 x,.int .u64 y] 71)).alloc (.cells #[] 71)):=ub.alloc _
   have CX:=(Blk.new W6 [.int .u64 x,.int .u64 y] 71).alloc (.cells #[] 71)
   have GB:=Blk.new (W6.alloc (.cells #[.int .u64 x,.int .u64 y] 71)) [] 71
   rw [World.size_alloc] at GB
   refine hK2.out _ _ (.inr (HSU.out _ ug)) ?_
   clear hK2 K2
   obtain ⟨v1,Wc,v2,We,hr1,uc,hr2,hl3⟩:=lk23 W6 _ _ _ hsl hlk x y ug GB CX (Nat.le_succ _)
   have HL:=Lib.hid hl3
   clear hl3 hsl GB CX ub
   try simp only [Act.put,List.setIfInBounds_toArray,List.set_cons_zero,List.set_cons_succ]
   refine wpC_append rfl (by kernel_rfl) (by rfl) (.tmp 42) (.tmp 46) 53 53 rfl _ _ _ rfl rfl hr1 (HSU.out _ uc) ?_
   clear hr1 ug
   try simp only [Act.put,List.setIfInBounds_toArray,List.set_cons_zero,List.set_cons_succ]
   refine wpC_append rfl (by kernel_rfl) (by rfl) (.tmp 47) (.tmp 49) 53 53 rfl _ _ _ rfl rfl hr2 (HSU.out _ HL.out.1) ?_
   clear hr2 uc
   try simp only [Act.put,List.setIfInBounds_toArray,List.set_cons_zero,List.set_cons_succ]
   have hS:=HSU.out _ HL.out.1
   repeat
    first
     | ((refine wpC_take (v:=?_) rfl (by decide) rfl (by kernel_rfl) (by rfl) hS ?_ ?_); rotate_left 1; (· ((intro w hSw; (try dsimp only at hSw); go_simp); try with_reducible rfl)))
    try simp only [Act.put,List.setIfInBounds_toArray,List.set_cons_zero,List.set_cons_succ]
   clear hS HSU
   have hse:=HS.out.upd0 HL.out.1
   obtain ⟨gl,cl,hv2,hga,hgb⟩:=HL.out.2.2
   rw [show (r.a.reads ++ [(x,y)]).length=r.a.reads.length+1 from by simp] at hv2
   have hsl:=HL.out.2.1
   rw [hv2] at hsl
   have e23:=hse.th.head.cell 23 (rcells (r:=withR r { r.a with word:=0 }) k8 j8 rv wv).2.2.2.2.2.2.2.2
   have f23:=hse.th.head.free 23
   have l1:=HS.out.th.lt
   have l2:=HS.out.wo.lt
   have l3:=HE.out.lt
   have hgs:gl≠rb∧gl≠wb∧gl≠qb:=⟨by omega,by omega,by omega⟩
   have hs5:RS ((We).setCell ⟨rb,23,none⟩ (.slice (some ⟨gl,0,none⟩) (r.a.reads.length+1) cl)) rb wb qb (withR r { r.a with word:=0,reads:=r.a.reads ++ [(x,y)] }) sh (.slice (some ⟨gl,0,none⟩) (r.a.reads.length+1) cl) wv:=hse.setRd (.slice (some ⟨gl,0,none⟩) (r.a.reads.length+1) cl) _ hsl (fun q hq=>by cases hq; exact ⟨hgs.1,hgs.2.1,hgs.2.2,hgb⟩)
   subst hv2
   refine wpC_eff rfl (by kernel_rfl) (by rfl) (fun K2 hK2=>?_)
   go_simp
   refine hK2.out _ _ (.inl (by decide)) ?_
   refine wpC_end (by kernel_rfl) (NoPanic.normal ?_)
   clear hK2 K2
   obtain ⟨W7,hW7⟩:∃ W,(We).setCell ⟨rb,23,none⟩ (.slice (some ⟨gl,0,none⟩) (r.a.reads.length+1) cl)=W:=⟨_,rfl⟩
   have u7:Upd [rb] We W7:=by rw [← hW7]; exact (Upd.refl [rb] _).setCell (.inl (by simp)) _
   rw [hW7] at hs5 ⊢
   have hgw:gl≠w.heap.size:=by omega
   have hgw2:w.heap.size≤gl:=by omega
   have HS6:=Lib.hid hs5
   have HE6:=Lib.hid ((HE.out.upd HL.out.1 (by simp)).upd u7 (by have:=HNB.out; simp; omega))
   have HC6:=Lib.hid ((HC.out.upd HL.out.1 (by simp)).upd u7 (by have:=HCN.out; simp; omega))
   have HU6:=Lib.hid ((HU.out.trans (HL.out.1.mono (by simp))).trans (u7.mono (by simp)))
   have HNL6:=Lib.hid (show ∀ q,(Value.slice (some ⟨gl,0,none⟩) (r.a.reads.length+1) cl).ownBlock=some q∨wv.ownBlock=some q → q≠w.heap.size from fun q hq=>by
    rcases hq with e | e
    ·cases e; exact hgw
    ·exact HNL.out q (.inr e))
   have HN6:=Lib.hid (show ∀ q,(Value.slice (some ⟨gl,0,none⟩) (r.a.reads.length+1) cl).ownBlock=some q∨wv.ownBlock=some q → (rv.ownBlock=some q∨wv.ownBlock=some q)∨w.heap.size≤q from fun q hq=>by
    rcases hq with e | e
    ·cases e; exact .inr hgw2
    ·exact .inl (.inr e))
   have q6:=u7.cell (by simpa using hpr) (HL.out.1.cell (by simp) q1)
   clear HS HE HU HNL HN HC HL hs5 u7 hW7 hse hsl e23 f23 hga hgb hgw hgw2 l1 l2 l3 c23 q1
   have HS:=HS6
   have HE:=HE6
   have HU:=HU6
   have HNL:=HNL6
   have HN:=HN6
   have HC:=HC6
   have q1:=q6
   clear HS6 HE6 HU6 HNL6 HN6 HC6 q6
   clear k8 j8
   have k9:=HS.out.th.r8
   have j9:=HS.out.th.s8
   have c27:=HS.out.th.head.cell 27 (rcells2 (r:=withR r { r.a with word:=0,reads:=r.a.reads ++ [(x,y)] }) k9 j9 _ wv).2.1
   have f27:=HS.out.th.head.free 27
   have c25:=HS.out.th.head.cell 25 (rcells (r:=withR r { r.a with word:=0,reads:=r.a.reads ++ [(x,y)] }) k9 j9 _ wv).2.2.2.2.2.1
   have f25:=HS.out.th.head.free 25
   go_upto_region 11 with (fail)
   clear c27 f27 c25 f25
   obtain ⟨W8,hW2⟩:∃ W,((W7.setCell ⟨rb,27,none⟩ (.int .u64 0)).setCell ⟨rb,25,none⟩ (.int .i64 1))=W:=⟨_,rfl⟩
   have hs2:=((HS.out.one (r':=withR r { r.a with word:=0,reads:=r.a.reads ++ [(x,y)],addr:=0 }) 27 (.int .u64 0) (rset_addr (r:=withR r { r.a with word:=0,reads:=r.a.reads ++ [(x,y)] }) k9 j9 _ wv 0) rfl rfl k9 j9).one (r':=withR r { r.a with word:=0,reads:=r.a.reads ++ [(x,y)],addr:=0,phase:=1 }) 25 (.int .i64 1) (rsets (r:=withR r { r.a with word:=0,reads:=r.a.reads ++ [(x,y)],addr:=0 }) k9 j9 _ wv 1).1 rfl rfl k9 j9)
   rw [hW2] at hs2
   have uu:Upd [rb] W7 W8:=by
    rw [← hW2]
    repeat (first | refine Upd.drew ?_ | refine Upd.setCell ?_ (.inl (by simp)) _ | with_reducible exact Upd.refl _ _)
   have HE2:=Lib.hid (HE.out.upd uu (by have:=HNB.out; simp; omega))
   have HC2:=Lib.hid (HC.out.upd uu (by have:=HCN.out; simp; omega))
   have HU2:=Lib.hid (HU.out.trans (uu.mono (by simp)))
   have HS2:=Lib.hid hs2
   have q2:=uu.cell (by simpa using hpr) q1
   clear HS HE HU HC q1 uu hs2
   have HS:=HS2
   have HE:=HE2
   have HU:=HU2
   have HC:=HC2
   have q1:=q2
   clear HS2 HE2 HU2 HC2 q2
   rw [hW2]
   clear hW2
   refine wp_region_ordT (fun w'=>w'.cell? ⟨rb,2,none⟩=some (.int .i64 (k:Int))∧w'.cell? ⟨pb,o+k*5+1,none⟩=some (.int .i64 (A:Int))∧w'.cell? ⟨cb,1,none⟩=some (.int .u64 y)) [0,1,2,3,4,5,6,7,8,9,10,11,12,13,14] [14] (by kernel_rfl) (by kernel_rfl) ?_
   obtain ⟨W9,hW2⟩:∃ W,W8.drew=W:=⟨_,rfl⟩
   have hs2:=HS.out.upd0 ((Upd.refl [] _).drew)
   rw [hW2] at hs2
   have uu:Upd [rb] W8 W9:=by
    rw [← hW2]
    repeat (first | refine Upd.drew ?_ | refine Upd.setCell ?_ (.inl (by simp)) _ | with_reducible exact Upd.refl _ _)
   have HE2:=Lib.hid (HE.out.upd uu (by have:=HNB.out; simp; omega))
   have HC2:=Lib.hid (HC.out.upd uu (by have:=HCN.out; simp; omega))
   have HU2:=Lib.hid (HU.out.trans (uu.mono (by simp)))
   have HS2:=Lib.hid hs2
   have q2:=uu.cell (by simpa using hpr) q1
   clear HS HE HU HC q1 uu hs2
   have HS:=HS2
   have HE:=HE2
   have HU:=HU2
   have HC:=HC2
   have q1:=q2
   clear HS2 HE2 HU2 HC2 q2
   rw [hW2]
   clear hW2
   have c2:W9.cell? ⟨rb,2,none⟩=some (.int .i64 r.at_):=HS.out.th.head.cell 2 (rcells (r:=withR r { r.a with word:=0,reads:=r.a.reads ++ [(x,y)],addr:=0,phase:=1 }) k9 j9 _ wv).2.1
   rw [HK.out] at c2
   have hS:W9.cell? ⟨rb,2,none⟩=some (.int .i64 (k:Int))∧W9.cell? ⟨pb,o+k*5+1,none⟩=some (.int .i64 (A:Int))∧W9.cell? ⟨cb,1,none⟩=some (.int .u64 y):=⟨c2,q1,HC.out.cell 1 rfl⟩
   have dA:=HS.out.th.head.cell _ (rcell_reg (r:=withR r { r.a with word:=0,reads:=r.a.reads ++ [(x,y)],addr:=0,phase:=1 }) k9 _ wv hA8n)
   have fA:=HS.out.th.head.free (3+A)
   clear c2
   repeat
    first
     | (refine wpT_skip rfl (by decide) (by assumption) (by rfl) ?_)
     | ((refine wpT_take (v:=?_) rfl (by decide) (by assumption) rfl (by rfl) ?_ ?_); rotate_left 1; (· ((intro w hSw; (try dsimp only at hSw); go_simp); try with_reducible rfl)))
    try simp only [Act.put,List.setIfInBounds_toArray,List.set_cons_zero,List.set_cons_succ]
   refine wpT_last rfl (by decide) (by kernel_rfl) (by rfl) (fun K2 hK2=>?_)
   go_simp
   refine hK2.out _ _ ?_
   refine wpT_end (NoPanic.normal ?_)
   clear hK2 K2
   clear hS dA fA
   obtain ⟨Wf,hW2⟩:∃ W,W9.setCell ⟨rb,3+A,none⟩ (.int .u64 y)=W:=⟨_,rfl⟩
   have hs2:=HS.out.one (r':=setRR (withR r { r.a with word:=0,reads:=r.a.reads ++ [(x,y)],addr:=0,phase:=1 }) (A:Int) y) (3+A) (.int .u64 y) (rset_reg (r:=withR r { r.a with word:=0,reads:=r.a.reads ++ [(x,y)],addr:=0,phase:=1 }) k9 _ wv hA8n y) rfl rfl (by unfold setRR; simp; exact k9) j9
   rw [hW2] at hs2
   have uu:Upd [rb] W9 Wf:=by
    rw [← hW2]
    repeat (first | refine Upd.drew ?_ | refine Upd.setCell ?_ (.inl (by simp)) _ | with_reducible exact Upd.refl _ _)
   have HE2:=Lib.hid (HE.out.upd uu (by have:=HNB.out; simp; omega))
   have HC2:=Lib.hid (HC.out.upd uu (by have:=HCN.out; simp; omega))
   have HU2:=Lib.hid (HU.out.trans (uu.mono (by simp)))
   have HS2:=Lib.hid hs2
   have q2:=uu.cell (by simpa using hpr) q1
   clear HS HE HU HC q1 uu hs2
   have HS:=HS2
   have HE:=HE2
   have HU:=HU2
   have HC:=HC2
   have q1:=q2
   clear HS2 HE2 HU2 HC2 q2
   rw [hW2]
   clear hW2
   have k10:=HS.out.th.r8
   have c2:Wf.cell? ⟨rb,2,none⟩=some (.int .i64 r.at_):=HS.out.th.head.cell 2 (rcells (r:=setRR (withR r { r.a with word:=0,reads:=r.a.reads ++ [(x,y)],addr:=0,phase:=1 }) (A:Int) y) k10 j9 _ wv).2.1
   have f2:=HS.out.th.head.free 2
   go_upto_region 13 with (fail)
   clear c2 f2
   obtain ⟨Wg,hW2⟩:∃ W,Wf.setCell ⟨rb,2,none⟩ (.int .i64 (r.at_+1))=W:=⟨_,rfl⟩
   have hs2:=HS.out.one (r':=nextR (setRR (withR r { r.a with word:=0,reads:=r.a.reads ++ [(x,y)],addr:=0,phase:=1 }) (A:Int) y)) 2 (.int .i64 (r.at_+1)) rfl rfl rfl k10 j9
   rw [hW2] at hs2
   have uu:Upd [rb] Wf Wg:=by
    rw [← hW2]
    repeat (first | refine Upd.drew ?_ | refine Upd.setCell ?_ (.inl (by simp)) _ | with_reducible exact Upd.refl _ _)
   have HE2:=Lib.hid (HE.out.upd uu (by have:=HNB.out; simp; omega))
   have HC2:=Lib.hid (HC.out.upd uu (by have:=HCN.out; simp; omega))
   have HU2:=Lib.hid (HU.out.trans (uu.mono (by simp)))
   have HS2:=Lib.hid hs2
   have q2:=uu.cell (by simpa using hpr) q1
   clear HS HE HU HC q1 uu hs2
   have HS:=HS2
   have HE:=HE2
   have HU:=HU2
   have HC:=HC2
   have q1:=q2
   clear HS2 HE2 HU2 HC2 q2
   rw [hW2]
   clear hW2
   have i0:=HC.out.cell 0 rfl
   have i1:=HC.out.cell 1 rfl
   go_wp2_with fail
   clear i0 i1
   refine (x11event_any _ _ _ _).mono ?_
   rintro e W9 ⟨rfl,u9⟩
   simp only [TE.val]
   replace HE:=Lib.hid (HE.out.upd u9 (by simp))
   replace HS:=Lib.hid (HS.out.upd0 u9)
   replace HU:=Lib.hid (HU.out.trans (u9.mono (by simp)))
   clear u9
   have q0:=(HE.out).cell 0 rfl
   have q1:=(HE.out).cell 1 rfl
   have q2:=(HE.out).cell 2 rfl
   have q3:=(HE.out).cell 3 rfl
   have q4:=(HE.out).cell 4 rfl
   have q5:=(HE.out).cell 5 rfl
   have f0:=(HE.out).free 0
   have f1:=(HE.out).free 1
   have f2:=(HE.out).free 2
   have f3:=(HE.out).free 3
   have f4:=(HE.out).free 4
   have f5:=(HE.out).free 5
   dsimp only at q0 q1 q2 q3 q4 q5
   go_wp2_with fail
   refine bodyPost_ret (ev_results2 6 7 rfl _ _ w.heap.size (⟨2,x,y,false,0⟩:TE) (.bool true) rfl rfl (ev_set HE.out (⟨2,x,y,false,0⟩:TE))) rfl (hK _ _ ?_)
   refine ⟨rfl,_,_,HS.out.box (ev_upd (S:=[w.heap.size]) (Upd.refl _ _) (.inl (by simp)) _ _ _ _ _ _) HNB.out HNL.out,ev_upd HU.out (.inr (Nat.le_refl _)) _ _ _ _ _ _,HN.out⟩
 ·have hTT:T=(quiet,withR r { r.a with word:=0,phase:=4,thn:=2 },sh):=by
   rw [← HT.out,if_neg hcl]
  subst hTT
  have b:(sh.clock != r.a.snap)=true:=by simp [hcl]
  clear HT hcl
  refine calls_all fun K hK=>?_
  go_enter Tryz.func83,Tryz.ntmps83
  go_upto_region 2 with (fail)
  refine wp_region_br (fun w'=>w'.cell? ⟨rb,27,none⟩=some (.int .u64 x)∧w'.cell? ⟨rb,28,none⟩=some (.int .u64 y)) [0,1,2,3,4,5,6,7,8,9,10] (by kernel_rfl) (by kernel_rfl) ⟨c27,c28⟩ ?_
  obtain ⟨W2,hdr⟩:∃ W,(W1).drew=W:=⟨_,rfl⟩
  have udr:Upd [] W1 W2:=by rw [← hdr]; exact (Upd.refl [] _).drew
  have HS2:=Lib.hid (HS.out.upd0 udr)
  have HE2:=Lib.hid (HE.out.upd udr (by simp))
  have HU2:=Lib.hid (HU.out.trans (udr.mono (by simp)))
  have UW2:=Lib.hid udr
  clear HS HE HU udr
  have HS:=HS2
  have HE:=HE2
  have HU:=HU2
  clear HS2 HE2 HU2
  rw [hdr]
  clear hdr
  replace c27:=UW2.out.cell (by simp) c27
  replace c28:=UW2.out.cell (by simp) c28
  replace q1:=UW2.out.cell (by simp) q1
  repeat
   first
    | (refine wpB_skip rfl (by kernel_rfl) (by rfl) ?_)
    | ((refine wpB_take (v:=?_) rfl rfl (by kernel_rfl) (by rfl) ?_ ?_); rotate_left 1; (· ((intro w hSw; (try dsimp only at hSw); go_simp); try with_reducible rfl)))
   try simp only [Act.put,List.setIfInBounds_toArray,List.set_cons_zero,List.set_cons_succ]
  refine wpB_eff rfl (by kernel_rfl) (by rfl) (fun K2 hK2=>?_)
  go_simp
  have ua:∀ c,Upd [] W2 (W2.alloc c):=fun c=>(Upd.refl [] _).alloc _
  refine hK2.out _ _ ⟨(ua _).cell (by simp) c27,(ua _).cell (by simp) c28⟩ ?_
  clear hK2 K2
  repeat
   first
    | (refine wpB_skip rfl (by kernel_rfl) (by rfl) ?_)
    | ((refine wpB_take (v:=?_) rfl rfl (by kernel_rfl) (by rfl) ?_ ?_); rotate_left 1; (· ((intro w hSw; (try dsimp only at hSw); go_simp); try with_reducible rfl)))
   try simp only [Act.put,List.setIfInBounds_toArray,List.set_cons_zero,List.set_cons_succ]
  refine wpB_eff rfl (by kernel_rfl) (by rfl) (fun K2 hK2=>?_)
  go_simp
  refine hK2.out _ _ ⟨(ua _).cell (by simp) c27,(ua _).cell (by simp) c28⟩ ?_
  clear hK2 K2
  refine wpB_end (by kernel_rfl) (NoPanic.normal ?_)
  obtain ⟨W3,hW3⟩:∃ W,W2.alloc (.cells #[.int .u64 x,.int .u64 y] 71)=W:=⟨_,rfl⟩
  have u3:Upd [] W2 W3:=by rw [← hW3]; exact (Upd.refl [] _).alloc _
  have CB:Blk W3 W2.heap.size [.int .u64 x,.int .u64 y] 71:=by rw [← hW3]; exact Blk.new W2 _ _
  rw [hW3]
  replace q1:=u3.cell (by simp) q1
  replace c28:=u3.cell (by simp) c28
  have l1:=HS.out.th.lt
  have l2:=HS.out.wo.lt
  have l3:=HE.out.lt
  obtain ⟨cb,hcb⟩:∃ b,W2.heap.size=b:=⟨_,rfl⟩
  rw [hcb] at CB l1 l2 l3 ⊢
  have HCN:=Lib.hid (show cb≠rb∧cb≠wb∧cb≠qb∧w.heap.size<cb from ⟨by omega,by omega,by omega,l3⟩)
  have HC:=Lib.hid CB
  have HE3:=Lib.hid (HE.out.upd u3 (by simp))
  have HU3:=Lib.hid (HU.out.trans (u3.mono (by simp)))
  have HS3:=Lib.hid (HS.out.upd0 u3)
  clear HS HE HU CB u3 ua hW3 c27 hcb l1 l2 l3
  have HS:=HS3
  have HE:=HE3
  have HU:=HU3
  clear HS3 HE3 HU3
  have f28:=HS.out.th.head.free 28
  go_upto_region 4 with (fail)
  have hnc:=HCN.out
  have q4:=(show Upd [rb] W3 (W3.setCell ⟨rb,28,none⟩ (.int .u64 0)) from (Upd.refl [rb] _).setCell (.inl (by simp)) _).cell (by simpa using hpr) q1
  have HC4:=Lib.hid (HC.out.upd (show Upd [rb] W3 (W3.setCell ⟨rb,28,none⟩ (.int .u64 0)) from (Upd.refl [rb] _).setCell (.inl (by simp)) _) (by simpa using hnc.1))
  clear q1 HC hnc f28 c28
  have HC:=HC4
  have q1:=q4
  clear HC4 q4
  obtain ⟨W4,hW4⟩:∃ W,W3.setCell ⟨rb,28,none⟩ (.int .u64 0)=W:=⟨_,rfl⟩
  rw [hW4] at HC q1
  have hs4:=HS.out.one (r':=withR r { r.a with word:=0 }) 28 (.int .u64 0) (rsets k8 j8 rv wv 0).2.2 rfl rfl k8 j8
  rw [hW4] at hs4
  have u4:Upd [rb] W3 W4:=by rw [← hW4]; exact (Upd.refl [rb] _).setCell (.inl (by simp)) _
  have HE4:=Lib.hid (HE.out.upd u4 (by have:=HNB.out; simp; omega))
  have HU4:=Lib.hid (HU.out.trans (u4.mono (by simp)))
  have HS4:=Lib.hid hs4
  rw [hW4]
  clear HS HE HU u4 hs4 hW4
  have HS:=HS4
  have HE:=HE4
  have HU:=HU4
  clear HS4 HE4 HU4
  have c22:=HS.out.th.head.cell 22 (rcells (r:=withR r { r.a with word:=0 }) k8 j8 rv wv).2.2.2.2.2.2.1
  replace c22:W4.cell? ⟨rb,22,none⟩=some (.int .u64 r.a.snap):=c22
  obtain ⟨cap4,hW⟩:=HS.out.wo.head
  have d1:=hW.cell 1 rfl
  clear hW
  refine wp_region_br (fun w'=>w'.cell? ⟨rb,22,none⟩=some (.int .u64 r.a.snap)∧w'.cell? ⟨wb,1,none⟩=some (.int .u64 sh.clock)) [0,1,2,3,4,5,6,7,8] (by kernel_rfl) (by kernel_rfl) ⟨c22,d1⟩ ?_
  repeat
   first
    | (refine wpB_skip rfl (by kernel_rfl) (by rfl) ?_)
    | ((refine wpB_take (v:=?_) rfl rfl (by kernel_rfl) (by rfl) ?_ ?_); rotate_left 1; (· ((intro w hSw; (try dsimp only at hSw); go_simp); try with_reducible rfl)))
   try simp only [Act.put,List.setIfInBounds_toArray,List.set_cons_zero,List.set_cons_succ]
  refine wpB_end (by kernel_rfl) (NoPanic.normal ?_)
  have HC5:=Lib.hid (HC.out.upd (show Upd [] W4 W4.drew from (Upd.refl [] _).drew) (by simp))
  have q5:=(show Upd [] W4 W4.drew from (Upd.refl [] _).drew).cell (by simp) q1
  clear HC q1 c22 d1
  have HC:=HC5
  have q1:=q5
  clear HC5 q5
  obtain ⟨W5,hW5⟩:∃ W,W4.drew=W:=⟨_,rfl⟩
  rw [hW5] at HC q1
  have u5:Upd [] W4 W5:=by rw [← hW5]; exact (Upd.refl [] _).drew
  have HE5:=Lib.hid (HE.out.upd u5 (by simp))
  have HU5:=Lib.hid (HU.out.trans (u5.mono (by simp)))
  have HS5:=Lib.hid (HS.out.upd0 u5)
  rw [hW5]
  clear HS HE HU u5 hW5
  have HS:=HS5
  have HE:=HE5
  have HU:=HU5
  clear HS5 HE5 HU5
  have c25:W5.cell? ⟨rb,25,none⟩=some (.int .i64 r.a.phase):=HS.out.th.head.cell 25 (rcells (r:=withR r { r.a with word:=0 }) k8 j8 rv wv).2.2.2.2.2.1
  have f25:=HS.out.th.head.free 25
  have c26:W5.cell? ⟨rb,26,none⟩=some (.int .i64 r.a.thn):=HS.out.th.head.cell 26 (rcells2 (r:=withR r { r.a with word:=0 }) k8 j8 rv wv).1
  have f26:=HS.out.th.head.free 26
  go_upto_region 7 with (fail)
  clear c25 f25 c26 f26
  obtain ⟨W6,hW2⟩:∃ W,((W5.setCell ⟨rb,25,none⟩ (.int .i64 4)).setCell ⟨rb,26,none⟩ (.int .i64 2))=W:=⟨_,rfl⟩
  have hs2:=((HS.out.one (r':=withR r { r.a with word:=0,phase:=4 }) 25 (.int .i64 4) (rsets (r:=withR r { r.a with word:=0 }) k8 j8 rv wv 4).1 rfl rfl k8 j8).one (r':=withR r { r.a with word:=0,phase:=4,thn:=2 }) 26 (.int .i64 2) (rsets (r:=withR r { r.a with word:=0,phase:=4 }) k8 j8 rv wv 2).2.1 rfl rfl k8 j8)
  rw [hW2] at hs2
  have uu:Upd [rb,wb,qb] W5 W6:=by
   rw [← hW2]
   repeat (first | refine Upd.drew ?_ | refine Upd.setCell ?_ (.inl (by simp)) _ | with_reducible exact Upd.refl _ _)
  have HE2:=Lib.hid (HE.out.upd uu (by have:=HNB.out; simp; omega))
  have HU2:=Lib.hid (HU.out.trans uu)
  have HS2:=Lib.hid hs2
  clear HS HE HU uu hs2
  have HS:=HS2
  have HE:=HE2
  have HU:=HU2
  clear HS2 HE2 HU2
  rw [hW2]
  clear hW2
  have q0:=(HE.out).cell 0 rfl
  have q1:=(HE.out).cell 1 rfl
  have q2:=(HE.out).cell 2 rfl
  have q3:=(HE.out).cell 3 rfl
  have q4:=(HE.out).cell 4 rfl
  have q5:=(HE.out).cell 5 rfl
  have f0:=(HE.out).free 0
  have f1:=(HE.out).free 1
  have f2:=(HE.out).free 2
  have f3:=(HE.out).free 3
  have f4:=(HE.out).free 4
  have f5:=(HE.out).free 5
  dsimp only at q0 q1 q2 q3 q4 q5
  go_wp2_with fail
  refine bodyPost_ret (ev_results2 6 7 rfl _ _ w.heap.size (⟨0,0,0,false,0⟩:TE) (.bool false) rfl rfl (ev_set HE.out (⟨0,0,0,false,0⟩:TE))) rfl (hK _ _ ?_)
  refine ⟨rfl,_,_,HS.out.box (ev_upd (S:=[w.heap.size]) (Upd.refl _ _) (.inl (by simp)) _ _ _ _ _ _) HNB.out HNL.out,ev_upd HU.out (.inr (Nat.le_refl _)) _ _ _ _ _ _,HN.out⟩
end
end Go.Proofs.YtehopaabfoopeaaGreat
