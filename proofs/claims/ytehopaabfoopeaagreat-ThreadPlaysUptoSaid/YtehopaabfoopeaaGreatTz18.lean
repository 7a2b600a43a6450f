/- The document's thread: a put of a new entry. No conditions. -/
import Derived.Test.YtehopaabfoopeaaGreatTz17
set_option linter.unusedSimpArgs false
set_option linter.unusedVariables false
set_option maxRecDepth 100000
namespace Go.Proofs.YtehopaabfoopeaaGreat
open Go.RowKit
open Go.Maps
section
variable {v w w':World} {rb wb qb:Nat} {r:RT} {sh:Sh} {rv wv:Value} {po:Option Addr} {cap:Nat} {p:List Ins}
set_option maxHeartbeats 8000000 in
theorem xinside_put2 (h0:RS v rb wb qb r sh rv wv) (A B C:Nat) (ni:Int) (hA:A<8) (hB:B<8) (hat:0≤r.at_∧r.at_≤1000000) (hrw:∀ x ∈ r.regs,W64 x) (hlr:r.a.reads.length≤1024) (hlw:r.a.writes.length≤1024) (hin:rgR r (B:Int)<sh.row.length) (hpl0:place r.a.writes (rgR r (B:Int))=none) (hfull:r.a.writes.length≠1024) :
  Calls Tryz.prog 59 #[(⟨14,A,B,C,ni⟩:Ins).val,.pointer (some ⟨rb,0,none⟩),.pointer (some ⟨wb,0,none⟩)] v (RSOk v rb wb qb rv wv (putR ⟨14,A,B,C,ni⟩ r sh)):=by
 simp only [Ins.val]
 obtain ⟨io,hio⟩:∃ io:Int,(14:Int)=io:=⟨_,rfl⟩
 rw [hio]
 obtain ⟨T,hT⟩:∃ T,putR ⟨io,A,B,C,ni⟩ r sh=T:=⟨_,rfl⟩
 have HT:=Lib.hid hT
 rw [hT]
 clear hT
 obtain ⟨w,hw⟩:∃ W,v.alloc (.cells #[.int .i64 io,.int .i64 (A:Int),.int .i64 (B:Int),.int .i64 (C:Int),.int .u64 ni] 50)=W:=⟨_,rfl⟩
 have u0:Upd [] v w:=by rw [← hw]; exact (Upd.refl [] _).alloc _
 have IB:Blk w v.heap.size [.int .i64 io,.int .i64 (A:Int),.int .i64 (B:Int),.int .i64 (C:Int),.int .u64 ni] 50:=by rw [← hw]; exact Blk.new v _ _
 have hib:=IB.lt
 have hl1:=h0.th.lt
 have hl2:=h0.wo.lt
 have HIN:=Lib.hid (show v.heap.size ∉ [rb,wb,qb] from by simp; omega)
 have h:=h0.upd0 u0
 refine (?_:Calls Tryz.prog _ _ v (RSOk w rb wb qb rv wv T)).mono (fun e w2 k=>k.base u0)
 clear h0 u0 hl1 hl2
 obtain ⟨W1,hW1⟩:∃ W,w.alloc (.cells #[.int .i64 0,.int .i64 0,.int .u64 0,.int .u64 0,.bool false,.int .i64 0] 86)=W:=⟨_,rfl⟩
 have u1:Upd [] w W1:=by rw [← hW1]; exact (Upd.refl [] _).alloc _
 have EB:Blk W1 w.heap.size (TE.cells ⟨0,0,0,false,0⟩) 86:=by rw [← hW1]; exact Blk.new w _ _
 have hlt1:=h.th.lt
 have hlt2:=h.wo.lt
 have hnes:=h.ne
 have hnew:=h.wo.ne
 have HNB:=Lib.hid (show rb≠w.heap.size∧wb≠w.heap.size∧qb≠w.heap.size from ⟨by omega,by omega,by omega⟩)
 have HNL:=Lib.hid (show ∀ g,rv.ownBlock=some g∨wv.ownBlock=some g → g≠w.heap.size from fun g hg=>by have:=(h.th.ap g hg).2; omega)
 have HN:=Lib.hid (show ∀ g,rv.ownBlock=some g∨wv.ownBlock=some g → (rv.ownBlock=some g∨wv.ownBlock=some g)∨w.heap.size≤g from fun g hg=>.inl hg)
 have HS:=Lib.hid (h.upd0 u1)
 have HE:=Lib.hid EB
 have HU:=Lib.hid (show Upd [rb,wb,qb] w W1 from u1.mono (by simp))
 have hne1:rb≠w.heap.size:=by omega
 have hne2:wb≠w.heap.size:=by omega
 have hne3:qb≠w.heap.size:=by omega
 have hne4:rb≠wb:=hnes.1
 have hne5:rb≠qb:=hnes.2
 clear EB u1 h hlt1 hlt2
 have hlen:=HS.out.wo.len
 have hul:IntKind.u64.wrap (sh.row.length:Int)=sh.row.length:=by rw [IntKind.wrap_u64]; omega
 have hwa:wrap64 (r.at_+1)=r.at_+1:=by unfold wrap64; omega
 have hr8:=HS.out.th.r8
 have hs8:=HS.out.th.s8
 have dA:=HS.out.th.head.cell _ (rcell_reg hr8 rv wv hA)
 have dB:=HS.out.th.head.cell _ (rcell_reg hr8 rv wv hB)
 have c2:=HS.out.th.head.cell 2 (rcells hr8 hs8 rv wv).2.1
 have fA:=HS.out.th.head.free (3+A)
 have g2:=HS.out.th.head.free 2
 have hwB:W64 (r.regs.getD B 0):=by
  rw [List.getD_eq_getElem?_getD,List.getElem?_eq_getElem (by omega)]; exact hrw _ (List.getElem_mem _)
 have hwA:W64 (r.regs.getD A 0):=by
  rw [List.getD_eq_getElem?_getD,List.getElem?_eq_getElem (by omega)]; exact hrw _ (List.getElem_mem _)
 obtain ⟨x,hx⟩:∃ x:Nat,r.regs.getD B 0=x:=⟨(r.regs.getD B 0).toNat,by have:=hwB.1; omega⟩
 obtain ⟨y,hy⟩:∃ y:Int,r.regs.getD A 0=y:=⟨_,rfl⟩
 rw [hx] at dB
 rw [hy] at dA hwA
 have HX:=Lib.hid (show rgR r (B:Int)=x from hx)
 have HY:=Lib.hid (show rgR r (A:Int)=y from hy)
 have hAi:(A:Int)<8:=by omega
 have hBi:(B:Int)<8:=by omega
 have i0:=HU.out.cell HIN.out (IB.cell 0 rfl)
 have i1:=HU.out.cell HIN.out (IB.cell 1 rfl)
 have i2:=HU.out.cell HIN.out (IB.cell 2 rfl)
 have i4:=HU.out.cell HIN.out (IB.cell 4 rfl)
 obtain ⟨pw,cw,hwv,_⟩:=HS.out.th.wr
 have HWV:=Lib.hid hwv
 clear hx hy hwB hwv hr8 hs8
 subst hio
 have hxl:(x:Int)<sh.row.length:=by rw [← HX.out]; exact hin
 have hpl:place r.a.writes (x:Int)=none:=by rw [← HX.out]; exact hpl0
 clear hin hpl0
 obtain ⟨cap,hW⟩:=HS.out.wo.head
 have d0:=hW.cell 0 rfl
 clear hW
 have b:decide ((sh.row.length:Int)≤(x:Int))=false:=decide_eq_false (by omega)
 have b2:decide (sh.row.length≤x)=false:=decide_eq_false (by omega)
 obtain ⟨k,hkl⟩:∃ k,r.a.writes.length=k:=⟨_,rfl⟩
 obtain ⟨WL,hWL⟩:∃ WL,r.a.writes ++ [((x:Int),(0:Int))]=WL:=⟨_,rfl⟩
 have hlen2:WL.length=k+1:=by rw [← hWL,List.length_append,hkl]; rfl
 have hTT:T=(telling 3 x y,nextR (withR r { r.a with writes:=WL.set k ((x:Int),y) }),sh):=by
  have hs:WL.set k ((x:Int),y)=r.a.writes ++ [((x:Int),y)]:=by rw [← hWL,← hkl]; simp
  rw [hs,← HT.out]
  unfold putR
  rw [HX.out,if_neg (fun h=>h hxl),hpl,HY.out]
  simp only
  rw [if_neg hfull]
 subst hTT
 have HPL:=Lib.hid (show placeI r.a.writes (x:Int) = -1 from by unfold placeI; rw [hpl])
 have HKU:Hid (WL[k]? = some ((x:Int),(0:Int))):=Lib.hid (by rw [← hWL,← hkl]; simp)
 have bf:((r.a.writes.length:Int) == 1024)=false:=by simp; omega
 have hw1:wrap64 ((WL.length:Int) - 1)=(k:Int):=by unfold wrap64; rw [hlen2]; omega
 have wl0:WL≠[]:=fun e=>by rw [e] at hlen2; simp at hlen2
 have HWB:=Lib.hid (show WL.length≤1025 from by omega)
 have HWL:=Lib.hid hWL
 have HL2:=Lib.hid hlen2
 have HKL:=Lib.hid hkl
 have hki:(k:Int)<(WL.length:Int):=by omega
 clear HT hpl hxl hWL hfull hlen2 hkl
 refine calls_all fun K hK=>?_
 go_enter Tryz.func59,Tryz.ntmps59
 go_upto_region 2 with (fail)
 refine wp_region_br (fun w'=>w'.cell? ⟨v.heap.size,2,none⟩=some (.int .i64 (B:Int))∧w'.cell? ⟨rb,3+B,none⟩=some (.int .u64 (x:Int))) [0,1,2,3,4,5,6,7] (by kernel_rfl) (by kernel_rfl) ⟨i2,dB⟩ ?_
 repeat
  first
   | (refine wpB_skip rfl (by kernel_rfl) (by rfl) ?_)
   | ((refine wpB_take (v:=?_) rfl rfl (by kernel_rfl) (by rfl) ?_ ?_); rotate_left 1; (· ((intro w hSw; (try dsimp only at hSw); go_simp); try with_reducible rfl)))
  try simp only [Act.put,List.setIfInBounds_toArray,List.set_cons_zero,List.set_cons_succ]
 refine wpB_end (by kernel_rfl) (NoPanic.normal ?_)
 obtain ⟨W2,hdr⟩:∃ W,(W1).drew=W:=⟨_,rfl⟩
 have udr:Upd [] W1 W2:=by rw [← hdr]; exact (Upd.refl [] _).drew
 have HS2:=Lib.hid (HS.out.upd0 udr)
 have HE2:=Lib.hid (HE.out.upd udr (by simp))
 have HU2:=Lib.hid (HU.out.trans (udr.mono (by simp)))
 have UW2:=Lib.hid udr
 clear HS HE HU udr
 have HS:=HS2
 have HE:=HE2
 have HU:=HU2
 clear HS2 HE2 HU2
 rw [hdr]
 clear hdr
 replace i0:=UW2.out.cell (by simp) i0
 replace i1:=UW2.out.cell (by simp) i1
 replace i4:=UW2.out.cell (by simp) i4
 replace dA:=UW2.out.cell (by simp) dA
 clear dB i2 c2 fA g2 hw hW1
 have hr8:=HS.out.th.r8
 have hs8:=HS.out.th.s8
 have c24:=HS.out.th.head.cell 24 (rcells hr8 hs8 rv wv).2.2.2.2.2.2.2.1
 have hfi:=xfind_code (x:Int) HS.out.th.wr (by omega)
 rw [HWV.out] at c24 hfi
 rw [HPL.out] at hfi
 have HFI:=Lib.hid hfi
 clear hfi
 go_wp2_with fail
 refine HFI.out.mono ?_
 rintro e w2 ⟨rfl,rfl⟩
 clear HFI
 replace d0:=UW2.out.cell (by simp) d0
 have hsl:=HS.out.th.wr
 rw [HWV.out] at hsl
 go_upto_region 22 with (fail)
 clear d0
 have hlen2:=HL2.out
 have hkl:=HKL.out
 obtain ⟨Wb,hWb⟩:∃ W,W2.alloc (.cells #[] 71)=W:=⟨_,rfl⟩
 have ub:Upd [] W2 Wb:=by rw [← hWb]; exact (Upd.refl [] _).alloc _
 have GB:Blk Wb W2.heap.size [] 71:=by rw [← hWb]; exact Blk.new W2 [] 71
 obtain ⟨v1,Wc,hr1,hrow1,uc,hor1⟩:=app_from0 Wb _ GB _ _ (hsl.upd0 ub) (by omega)
 obtain ⟨v2,We,hr2,hrow2,ue,hor2⟩:=app_row hrow1 (x:Int) 0 (by omega)
 have hsb:Wb.heap.size=W2.heap.size+1:=by rw [← hWb]; exact World.size_alloc _ _
 have hsc:=uc.size
 have uac:Upd [] W2 Wc:=ub.tr (U:=[]) uc (fun g hg=>by simp at hg) (fun g hg=>by simp at hg; subst hg; exact .inr (Nat.le_refl _))
 have h1n:∀ g,v1.ownBlock=some g → W2.heap.size≤g:=fun g hg=>by
  rcases hor1 with e | e <;> (rw [e] at hg; cases hg; omega)
 have h2n:∀ g,v2.ownBlock=some g → W2.heap.size≤g:=fun g hg=>by
  rcases hor2 with e | e
  ·exact h1n g (e ▸ hg)
  ·rw [e] at hg; cases hg; omega
 have uae:Upd [] W2 We:=(uac.alloc _).tr (U:=[]) ue (fun g hg=>by simp at hg) (fun g hg=>.inr (h1n g (by simpa using hg)))
 obtain ⟨p1,q1,rfl⟩:=own_form hrow1
 rw [HWL.out] at hrow2
 obtain ⟨g1,c1,sp1,rfl,BL1⟩:=hrow2.open wl0
 have hg1:W2.heap.size≤g1:=h2n g1 rfl
 have c24b:=ub.cell (by simp) c24
 have l1:=HS.out.th.lt
 have l2:=HS.out.wo.lt
 have l3:=HE.out.lt
 have hnes:=HS.out.ne
 have hgs:g1≠rb∧g1≠wb∧g1≠qb∧g1<We.heap.size:=⟨by omega,by omega,by omega,BL1.lt⟩
 have hgw:g1≠w.heap.size:=by omega
 have hgw2:w.heap.size≤g1:=by omega
 have hse:=HS.out.upd0 uae
 have hs24:=hse.setW (.slice (some ⟨g1,0,none⟩) WL.length c1) WL (slc_of_blk BL1) (fun q hq=>by cases hq; exact hgs)
 have e24:=hse.th.head.cell 24 (rcells hr8 hs8 rv wv).2.2.2.2.2.2.2.1
 have f24:=hse.th.head.free 24
 have ie:=uae.cell (by simp) i1
 have de:=uae.cell (by simp) dA
 have HEe:=HE.out.upd uae (by simp)
 have HUe:=HU.out.trans (uae.mono (by simp))
 obtain ⟨W4,hW4⟩:∃ W,We.setCell ⟨rb,24,none⟩ (.slice (some ⟨g1,0,none⟩) WL.length c1)=W:=⟨_,rfl⟩
 have u4:Upd [rb] We W4:=by rw [← hW4]; exact (Upd.refl [rb] _).setCell (.inl (by simp)) _
 have dn:=hs24.th.head.cell (3+A) (rcell_reg (r:=withR r { r.a with writes:=WL }) hr8 rv _ hA)
 rw [show (withR r { r.a with writes:=WL }).regs.getD A 0=y from HY.out] at dn
 have c4:=hs24.th.head.cell 24 (rcells (r:=withR r { r.a with writes:=WL }) hr8 hs8 rv _).2.2.2.2.2.2.2.1
 rw [hW4] at hs24 dn c4
 have in4:=u4.cell (by have:=HIN.out; simp at this ⊢; exact this.1) ie
 have HS4:=Lib.hid hs24
 have HE4:=Lib.hid (HEe.upd u4 (by have:=HNB.out; simp; omega))
 have HU4:=Lib.hid (HUe.trans (u4.mono (by simp)))
 clear HS HE HU hs24 hse HEe HUe u4 ie de hlen2 hkl hsl hrow1 hor1 hor2 uc ue uac uae h1n h2n hsb hsc BL1 hrow2 GB ub hgs hgw hgw2 hg1 l1 l2 l3 hnes
 go_upto_region 24 with (first | (at_builtin; refine wpList_append_eq rfl _ _ _ _ rfl _ _ _ rfl rfl hr1 ?_) | (at_builtin; refine wpList_append_eq rfl _ _ _ _ rfl _ _ _ rfl rfl hr2 ?_))
 clear hr1 hr2 c24b e24 f24 hWb hW4 dA i1 c24
 have HS:=HS4
 have HE:=HE4
 have HU:=HU4
 have i1:=in4
 have dA:=dn
 have c24:=c4
 have hsl:=HS.out.th.wr
 dsimp only [withR] at hsl
 clear HS4 HE4 HU4 in4 dn c4
 have hwb:=HWB.out
 obtain ⟨Wb,hWb⟩:∃ W,(W4).alloc (.cells #[] 71)=W:=⟨_,rfl⟩
 have ub:Upd [] W4 Wb:=by rw [← hWb]; exact (Upd.refl [] _).alloc _
 have GB:Blk Wb (W4).heap.size [] 71:=by rw [← hWb]; exact Blk.new W4 [] 71
 obtain ⟨vl,Wc,hr,hrow,uc,hor⟩:=app_from0 Wb _ GB _ _ (hsl.upd0 ub) (by omega)
 have hsb:Wb.heap.size=(W4).heap.size+1:=by rw [← hWb]; exact World.size_alloc _ _
 have uac:Upd [] W4 Wc:=ub.tr (U:=[]) uc (fun g hg=>by simp at hg) (fun g hg=>by simp at hg; subst hg; exact .inr (Nat.le_refl _))
 have hgn:∀ g,vl.ownBlock=some g → (W4).heap.size≤g:=fun g hg=>by
  rcases hor with e | e <;> (rw [e] at hg; cases hg; omega)
 obtain ⟨g,cl,sp,hvl,BL⟩:=hrow.open wl0
 subst hvl
 have hga:(W4).heap.size≤g:=hgn g rfl
 have l1:=HS.out.th.lt
 have l2:=HS.out.wo.lt
 have l3:=HE.out.lt
 have HGN:=Lib.hid (show g≠rb∧g≠wb∧g≠qb∧g≠w.heap.size from ⟨by omega,by omega,by omega,by omega⟩)
 have HGW:=Lib.hid (show w.heap.size≤g from by omega)
 have HLG:=Lib.hid (show ∀ q,rv.ownBlock=some q∨((Value.slice (some ⟨g1,0,none⟩) WL.length c1)).ownBlock=some q → q≠g from fun q hq=>by have:=(HS.out.th.ap q hq).2; omega)
 have HBL:=Lib.hid BL
 have HSc:=Lib.hid (HS.out.upd0 uac)
 have HEc:=Lib.hid (HE.out.upd uac (by simp))
 have HUc:=Lib.hid (HU.out.trans (uac.mono (by simp)))
 have i1c:=uac.cell (by simp) i1
 have dAc:=uac.cell (by simp) dA
 have c24b:=ub.cell (by simp) c24
 go_upto_region 25 with (at_builtin; refine wpList_append_eq rfl _ _ _ _ rfl _ _ _ rfl rfl hr ?_)
 clear hr hrow uc hor uac hgn BL hsb ub GB hWb HS HE HU i1 dA l1 l2 l3 hga hsl c24b c24
 have HS:=HSc
 have HE:=HEc
 have HU:=HUc
 clear HSc HEc HUc
 clear hwb HWB
 refine wp_region_ordT (fun w'=>w'.cell? ⟨v.heap.size,1,none⟩=some (.int .i64 (A:Int))∧w'.cell? ⟨rb,3+A,none⟩=some (.int .u64 y)) [0,1,2,3,4,5,6,7,8,9,10,11] [11] (by kernel_rfl) (by kernel_rfl) ?_
 obtain ⟨W5,hdr⟩:∃ W,(Wc).drew=W:=⟨_,rfl⟩
 have udr:Upd [] Wc W5:=by rw [← hdr]; exact (Upd.refl [] _).drew
 have HS2:=Lib.hid (HS.out.upd0 udr)
 have HE2:=Lib.hid (HE.out.upd udr (by simp))
 have HU2:=Lib.hid (HU.out.trans (udr.mono (by simp)))
 have UW5:=Lib.hid udr
 clear HS HE HU udr
 have HS:=HS2
 have HE:=HE2
 have HU:=HU2
 clear HS2 HE2 HU2
 rw [hdr]
 clear hdr
 have hS:(W5).cell? ⟨v.heap.size,1,none⟩=some (.int .i64 (A:Int))∧(W5).cell? ⟨rb,3+A,none⟩=some (.int .u64 y):=⟨(UW5).out.cell (by simp) i1c,(UW5).out.cell (by simp) dAc⟩
 have BL5:=HBL.out.upd (UW5).out (by simp)
 have hplen:=pcells_len (WL)
 have hkn:k<(WL).length:=(List.getElem?_eq_some_iff.1 HKU.out).1
 have hg1:=BL5.cell (k*2+1) (by rw [List.getElem?_append_left (by omega)]; exact (pcells_get _ k _ _ HKU.out).2)
 have hf1:=BL5.free (k*2+1)
 clear i1c dAc HBL
 repeat
  first
   | (refine wpT_skip rfl (by decide) (by assumption) (by rfl) ?_)
   | ((refine wpT_take (v:=?_) rfl (by decide) (by assumption) rfl (by rfl) ?_ ?_); rotate_left 1; (· ((intro w hSw; (try dsimp only at hSw); go_simp); try with_reducible rfl)))
  try simp only [Act.put,List.setIfInBounds_toArray,List.set_cons_zero,List.set_cons_succ]
 refine wpT_last rfl (by decide) (by kernel_rfl) (by rfl) (fun K2 hK2=>?_)
 go_simp
 refine hK2.out _ _ ?_
 refine wpT_end (NoPanic.normal ?_)
 clear hK2 K2
 clear hS
 have u6:Upd [g] W5 ((W5).setCell ⟨g,k*2+1,none⟩ (.int .u64 y)):=(Upd.refl [g] _).setCell (.inl (by simp)) _
 obtain ⟨W6,hWc⟩:∃ W,(W5).setCell ⟨g,k*2+1,none⟩ (.int .u64 y)=W:=⟨_,rfl⟩
 have BL6:=BL5.set (k*2+1) (.int .u64 y)
 rw [hWc] at u6 BL6 ⊢
 rw [List.set_append_left _ _ (by omega),pcells_set _ k _ _ y HKU.out] at BL6
 have hgs:=HGN.out
 have HS6:=Lib.hid (HS.out.upd u6 (by simp; omega) (fun q hq=>by simpa using HLG.out q hq))
 have HE6:=Lib.hid (HE.out.upd u6 (by simp; omega))
 have HU6:=Lib.hid (HU.out.tr (U:=[rb,wb,qb]) u6 (fun q hq=>.inl hq) (fun q hq=>by simp at hq; subst hq; exact .inr (by have:=HGW.out; omega)))
 have hsl6:SlC W6 (.slice (some ⟨g,0,none⟩) (WL).length cl) ((WL).set k ((x:Int),y)):=by
  have:=slc_of_blk (cap:=cl) BL6
  rwa [List.length_set] at this
 have hg6:=BL6.cell (k*2+1) (by rw [List.getElem?_append_left (by rw [pcells_len,List.length_set]; omega)]; exact (pcells_get _ k _ _ (by rw [List.getElem?_set_self (by omega)])).2)
 have hgl:=BL6.lt
 clear HS HE HU hg1 hf1 BL5 hWc u6
 have HS:=HS6
 have HE:=HE6
 have HU:=HU6
 clear HS6 HE6 HU6
 have k8:=HS.out.th.r8
 have j8:=HS.out.th.s8
 have c24:=HS.out.th.head.cell 24 (rcells k8 j8 rv ((Value.slice (some ⟨g1,0,none⟩) WL.length c1))).2.2.2.2.2.2.2.1
 have g24:=HS.out.th.head.free 24
 have c2:(W6).cell? ⟨rb,2,none⟩=some (.int .i64 r.at_):=HS.out.th.head.cell 2 (rcells k8 j8 rv ((Value.slice (some ⟨g1,0,none⟩) WL.length c1))).2.1
 have g2:=HS.out.th.head.free 2
 have hgr:g≠rb:=hgs.1
 have hrg:rb≠g:=hgr.symm
 go_upto_region 28 with (fail)
 have hs7:=(HS.out.setW (.slice (some ⟨g,0,none⟩) (WL).length cl) _ hsl6 (fun q hq=>by cases hq; exact ⟨hgs.1,hgs.2.1,hgs.2.2.1,hgl⟩)).one (r':=nextR (withR r { r.a with writes:=(WL).set k ((x:Int),y) })) 2 (.int .i64 (r.at_+1)) rfl rfl rfl k8 j8
 obtain ⟨W7,hWd⟩:∃ W,((W6).setCell ⟨rb,24,none⟩ (.slice (some ⟨g,0,none⟩) (WL).length cl)).setCell ⟨rb,2,none⟩ (.int .i64 (r.at_+1))=W:=⟨_,rfl⟩
 have u7:Upd [rb] W6 W7:=by rw [← hWd]; exact ((Upd.refl [rb] _).setCell (.inl (by simp)) _).setCell (.inl (by simp)) _
 rw [hWd] at hs7 ⊢
 have hg7:=u7.cell (by simpa using hgr) hg6
 have hnb:=HNB.out
 have HE7:=Lib.hid (HE.out.upd u7 (by simp; omega))
 have HU7:=Lib.hid (HU.out.trans (u7.mono (by simp)))
 have HNL7:=Lib.hid (show ∀ q,rv.ownBlock=some q∨(Value.slice (some ⟨g,0,none⟩) (WL).length cl).ownBlock=some q → q≠w.heap.size from fun q hq=>by
  rcases hq with e | e
  ·exact HNL.out q (.inl e)
  ·cases e; exact hgs.2.2.2)
 have HN7:=Lib.hid (show ∀ q,rv.ownBlock=some q∨(Value.slice (some ⟨g,0,none⟩) (WL).length cl).ownBlock=some q → (rv.ownBlock=some q∨wv.ownBlock=some q)∨w.heap.size≤q from fun q hq=>by
  rcases hq with e | e
  ·exact .inl (.inl e)
  ·cases e; exact .inr HGW.out)
 have HS7:=Lib.hid hs7
 clear HS HE HU HNL HN hs7 u7 hWd c24 g24 c2 g2 hsl6 hg6 hgs hnb
 have HS:=HS7
 have HE:=HE7
 have HU:=HU7
 have HNL:=HNL7
 have HN:=HN7
 clear HS7 HE7 HU7 HNL7 HN7
 go_wp2_with fail
 clear hg7
 refine (x11event_any _ _ _ _).mono ?_
 rintro e W9 ⟨rfl,u9⟩
 simp only [TE.val]
 replace HE:=Lib.hid (HE.out.upd u9 (by simp))
 replace HS:=Lib.hid (HS.out.upd0 u9)
 replace HU:=Lib.hid (HU.out.trans (u9.mono (by simp)))
 clear u9
 have q0:=(HE.out).cell 0 rfl
 have q1:=(HE.out).cell 1 rfl
 have q2:=(HE.out).cell 2 rfl
 have q3:=(HE.out).cell 3 rfl
 have q4:=(HE.out).cell 4 rfl
 have q5:=(HE.out).cell 5 rfl
 have f0:=(HE.out).free 0
 have f1:=(HE.out).free 1
 have f2:=(HE.out).free 2
 have f3:=(HE.out).free 3
 have f4:=(HE.out).free 4
 have f5:=(HE.out).free 5
 dsimp only at q0 q1 q2 q3 q4 q5
 go_wp2_with fail
 refine bodyPost_ret (ev_results2 6 7 rfl _ _ w.heap.size (⟨3,x,y,false,0⟩:TE) (.bool true) rfl rfl (ev_set HE.out (⟨3,x,y,false,0⟩:TE))) rfl (hK _ _ ?_)
 refine ⟨rfl,_,_,HS.out.box (ev_upd (S:=[w.heap.size]) (Upd.refl _ _) (.inl (by simp)) _ _ _ _ _ _) HNB.out HNL.out,ev_upd HU.out (.inr (Nat.le_refl _)) _ _ _ _ _ _,HN.out⟩
end
end Go.Proofs.YtehopaabfoopeaaGreat
