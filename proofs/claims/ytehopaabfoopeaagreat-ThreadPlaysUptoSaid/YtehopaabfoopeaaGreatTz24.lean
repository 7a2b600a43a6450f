/- The document's thread: a step outside. No conditions. The document's thread: Step. No conditions. -/
import Derived.Test.YtehopaabfoopeaaGreatTz23
set_option linter.unusedSimpArgs false
set_option linter.unusedVariables false
set_option maxRecDepth 100000
namespace Go.Proofs.YtehopaabfoopeaaGreat
open Go.RowKit
open Go.Maps
section
variable {w w':World} {rb wb qb:Nat} {r:RT} {sh:Sh} {rv wv:Value} {po:Option Addr} {cap:Nat} {p:List Ins}
set_option maxHeartbeats 8000000 in
theorem xStep_out (h:RS w rb wb qb r sh rv wv) (hF0:Fit p r) (hc:CodeAt w po p) (hpb:∀ b o,po=some ⟨b,o,none⟩ → b≠rb∧b≠wb∧b≠qb) (hst:r.st=1) (hu:¬ (r.ins=true∧r.a.phase≠1)) (hb:¬ (opAt p r.at_=0∨(r.ins=true∧(formI (opAt p r.at_)).ins=false)∨(r.ins=false∧(formI (opAt p r.at_)).out=false))) (hi:r.ins=false) :
  Calls Tryz.prog 35 #[.slice po p.length cap,.pointer (some ⟨rb,0,none⟩),.pointer (some ⟨wb,0,none⟩)] w (RSOk w rb wb qb rv wv (StepR p r sh)):=by
 obtain ⟨T,hT⟩:∃ T,StepR p r sh=T:=⟨_,rfl⟩
 rw [hT]
 have HT:=Lib.hid hT
 clear hT
 have HF:=Lib.hid hF0
 have HPB:=Lib.hid hpb
 have HC0:=Lib.hid hc
 have hpl:=(formedP_len hF0.fp).2
 have hpl4:p.length≤4611686018427387904:=by omega
 have HU0:Hid (Upd [] w (w.alloc (.cells #[.int .i64 0,.int .i64 0,.int .u64 0,.int .u64 0,.bool false,.int .i64 0] 86))):=Lib.hid ((Upd.refl [] _).alloc _)
 clear hF0 hc hpb
 obtain ⟨W1,hW1⟩:∃ W,w.alloc (.cells #[.int .i64 0,.int .i64 0,.int .u64 0,.int .u64 0,.bool false,.int .i64 0] 86)=W:=⟨_,rfl⟩
 have u1:Upd [] w W1:=by rw [← hW1]; exact (Upd.refl [] _).alloc _
 have EB:Blk W1 w.heap.size (TE.cells ⟨0,0,0,false,0⟩) 86:=by rw [← hW1]; exact Blk.new w _ _
 have hlt1:=h.th.lt
 have hlt2:=h.wo.lt
 have hnes:=h.ne
 have hnew:=h.wo.ne
 have HNB:=Lib.hid (show rb≠w.heap.size∧wb≠w.heap.size∧qb≠w.heap.size from ⟨by omega,by omega,by omega⟩)
 have HNL:=Lib.hid (show ∀ g,rv.ownBlock=some g∨wv.ownBlock=some g → g≠w.heap.size from fun g hg=>by have:=(h.th.ap g hg).2; omega)
 have HN:=Lib.hid (show ∀ g,rv.ownBlock=some g∨wv.ownBlock=some g → (rv.ownBlock=some g∨wv.ownBlock=some g)∨w.heap.size≤g from fun g hg=>.inl hg)
 have HS:=Lib.hid (h.upd0 u1)
 have HE:=Lib.hid EB
 have HU:=Lib.hid (show Upd [rb,wb,qb] w W1 from u1.mono (by simp))
 have hne1:rb≠w.heap.size:=by omega
 have hne2:wb≠w.heap.size:=by omega
 have hne3:qb≠w.heap.size:=by omega
 have hne4:rb≠wb:=hnes.1
 have hne5:rb≠qb:=hnes.2
 clear EB u1 h hlt1 hlt2
 rw [hW1] at HU0
 have HCD:=Lib.hid (HC0.out.upd0 HU0.out)
 clear HC0
 have k8:=HS.out.th.r8
 have j8:=HS.out.th.s8
 have c0:=HS.out.th.head.cell 0 (rcells k8 j8 rv wv).1
 have c11:=HS.out.th.head.cell 11 (rcells k8 j8 rv wv).2.2.1
 have c25:=HS.out.th.head.cell 25 (rcells k8 j8 rv wv).2.2.2.2.2.1
 rw [hst] at c0
 have hT1:T=stepR p r sh:=by rw [← HT.out]; unfold StepR; rw [if_neg (fun k=>k hst)]
 obtain ⟨F,hF⟩:∃ F,formI (opAt p r.at_)=F:=⟨_,rfl⟩
 obtain ⟨FR,fn,ft,fo,fi⟩:=F
 have hT2:T=(if r.ins=true∧r.fuel=4096 then ((failR r 6).1,(failR r 6).2,sh) else goR p (fuelR r) sh):=by
  rw [hT1]; unfold stepR; rw [if_neg hu,if_neg hb]
 have ho:opAt p r.at_≠0:=fun k=>hb (.inl k)
 have bo:(opAt p r.at_ == 0)=false:=by simp [ho]
 have hatp:=opAt_in ho
 obtain ⟨hABC,hN,hO1,hO2,hPK⟩:=fit_ins HF.out.fp HF.out.num hatp.1 hatp.2
 obtain ⟨k,hk⟩:∃ k:Nat,r.at_=k:=⟨r.at_.toNat,by omega⟩
 have HO:=Lib.hid ho
 rw [hF] at hb
 dsimp only at hb
 clear HT hT1
 rw [hi] at c11
 have hfo:fo=true:=by
  cases fo with
  | true=>rfl
  | false=>exact absurd (.inr (.inr ⟨hi,rfl⟩)) hb
 subst hfo
 obtain ⟨ra,hra⟩:∃ ra,fuelR r=ra:=⟨_,rfl⟩
 have hra2:ra=r:=by rw [← hra]; unfold fuelR; rw [if_neg (by rw [hi]; simp)]
 have HT:Hid (goR p ra sh=T):=Lib.hid (by rw [hT2,if_neg (fun k=>by rw [hi] at k; simp at k),hra])
 have hrw:=HF.out.rw
 obtain ⟨⟨io,ia,ib,ic,ni⟩,hI⟩:∃ I,insAt p r.at_=I:=⟨_,rfl⟩
 rw [hI] at hABC hN hPK
 have hIo:io=opAt p r.at_:=by unfold opAt; rw [hI]
 have HMOP:=Lib.hid (show ∀ W,RS W rb wb qb ra sh rv wv → (io=10∨io=11∨io=12∨io=17) → Calls Tryz.prog 60 #[.agg #[.int .i64 io,.int .i64 ia,.int .i64 ib,.int .i64 ic,.int .u64 ni],.pointer (some ⟨rb,0,none⟩),.pointer (some ⟨wb,0,none⟩)] W (RSOk W rb wb qb rv wv (outsideR ⟨io,ia,ib,ic,ni⟩ ra sh)) from fun W hW hio=>by
  obtain ⟨A,rfl⟩:∃ A:Nat,ia=A:=⟨ia.toNat,by have:=hABC.1.1; dsimp only at this; omega⟩
  obtain ⟨B,rfl⟩:∃ B:Nat,ib=B:=⟨ib.toNat,by have:=hABC.2.1.1; dsimp only at this; omega⟩
  obtain ⟨C,rfl⟩:∃ C:Nat,ic=C:=⟨ic.toNat,by have:=hABC.2.2.1; dsimp only at this; omega⟩
  have hA8:A<8:=by have:=hABC.1.2; dsimp only at this; omega
  have hB8:B<8:=by have:=hABC.2.1.2; dsimp only at this; omega
  rcases hio with e | e | e | e
  ·exact xoutside_mem hW io A B C ni hA8 hB8 (by rw [hra2]; exact ⟨hatp.1,show r.at_≤1000000 by omega⟩) (by rw [hra2]; exact hrw) (.inl e)
  ·exact xoutside_mem hW io A B C ni hA8 hB8 (by rw [hra2]; exact ⟨hatp.1,show r.at_≤1000000 by omega⟩) (by rw [hra2]; exact hrw) (.inr e)
  ·exact xoutside_rest hW io A B C ni hA8 hB8 (by rw [hra2]; exact ⟨hatp.1,show r.at_≤1000000 by omega⟩) (by rw [hra2]; exact hrw) (.inr e)
  ·exact xoutside_rest hW io A B C ni hA8 hB8 (by rw [hra2]; exact ⟨hatp.1,show r.at_≤1000000 by omega⟩) (by rw [hra2]; exact hrw) (.inl e))
 have HIN2:Hid (ra.ins=false):=Lib.hid (by rw [hra2]; exact hi)
 have hop13:(plainR ⟨io,ia,ib,ic,ni⟩ r.regs k).2.2=false → io=10∨io=11∨io=12∨io=17:=fun hp=>by
  have h10:10≤io:=plainR_no hp (show 1≤io by omega)
  have:=(form_in (o:=io) ⟨h10,by omega⟩).2 (by rw [hIo,hF])
  exact this
 clear hI
 have hph:=hi
 have hfu:=hi
 obtain ⟨⟨rz,kz,okz⟩,hpr⟩:∃ x,plainR ⟨io,ia,ib,ic,ni⟩ r.regs k=x:=⟨_,rfl⟩
 have hz:rz.length=8:=by have:=plainR_len ⟨io,ia,ib,ic,ni⟩ r.regs k; rw [hpr] at this; rw [this]; exact k8
 rw [hpr] at hop13
 have HOP:=Lib.hid hop13
 have hpc:∀ W,Calls Tryz.prog 58 #[.agg #[.int .i64 io,.int .i64 ia,.int .i64 ib,.int .i64 ic,.int .u64 ni],.agg (r.regs.map (Value.int .u64)).toArray,.int .i64 k] W fun e w'=>e=.returned (.tuple #[.agg (rz.map (Value.int .u64)).toArray,.int .i64 kz,.bool okz])∧Upd [] W w':=fun W=>by
  have h9:=xplain_code W ⟨io,ia,ib,ic,ni⟩ r.regs k k8 hABC.1 hABC.2.1 hABC.2.2 hN ⟨by omega,by omega⟩ hrw
  rw [hpr] at h9
  exact h9
 have hreg:ra.regs=r.regs:=by rw [hra2]
 have hraat:ra.at_=r.at_:=by rw [hra2]
 rw [← hreg] at hpc hpr
 have HPL:=Lib.hid hpc
 have HPR:=Lib.hid hpr
 have HIA:Hid (insAt p ra.at_=⟨io,ia,ib,ic,ni⟩):=Lib.hid (by rw [hraat,hk]; rw [hk] at hPK; unfold insAt; rw [if_neg (by omega),List.getD_eq_getElem?_getD,hPK]; rfl)
 have HPK:Hid (p[k]? = some ⟨io,ia,ib,ic,ni⟩):=Lib.hid (by rw [hk] at hPK; exact hPK)
 have HK:=Lib.hid (show ra.at_=k from hraat.trans hk)
 have HR2:=Lib.hid hra2
 have hkn:(k:Int)<(p.length:Int):=by omega
 clear hT2 hb ho hu hph hst hfu hABC hN hO1 hO2 hPK hk hatp hpc hpr hop13 hrw hreg hraat hra hra2 hIo
 have c2:=HS.out.th.head.cell 2 (rcells k8 j8 rv wv).2.1
 have HIN:=Lib.hid (rinfo (opAt p r.at_))
 rw [hF] at HIN
 simp only [Form.val] at HIN
 refine calls_all fun K hK=>?_
 go_enter Tryz.func35,Tryz.ntmps35
 go_wp2_with fail
 refine (xop_code HCD.out hpl4 r.at_).mono ?_
 rintro e w2 ⟨rfl,rfl⟩
 go_wp2_with fail
 refine (HIN.out _).mono ?_
 rintro e W2 ⟨rfl,u2⟩
 clear HIN
 go_upto_region 6 with (fail)
 obtain ⟨W3,hW3⟩:∃ W,W2.alloc (.cells #[.int .i64 (FR:Int),.bool fn,.bool ft,.bool true,.bool fi] 116)=W:=⟨_,rfl⟩
 rw [hW3]
 have u3:Upd [] W1 W3:=by rw [← hW3]; exact u2.alloc _
 have FB:Blk W3 W2.heap.size [.int .i64 (FR:Int),.bool fn,.bool ft,.bool true,.bool fi] 116:=by rw [← hW3]; exact Blk.new _ _ _
 have g3:=FB.cell 3 rfl
 have g4:=FB.cell 4 rfl
 have HS3:=Lib.hid (HS.out.upd0 u3)
 have HE3:=Lib.hid (HE.out.upd u3 (by simp))
 have HU3:=Lib.hid (HU.out.trans (u3.mono (by simp)))
 have HC3:=Lib.hid (HCD.out.upd0 u3)
 clear HS HE HU HCD FB c2 u2 u3 c0 c11 c25 hW3
 have HS:=HS3
 have HE:=HE3
 have HU:=HU3
 have HCD:=HC3
 clear HS3 HE3 HU3 HC3
 have c11:=HS.out.th.head.cell 11 (rcells k8 j8 rv wv).2.2.1
 rw [hi] at c11
 have c2:=HS.out.th.head.cell 2 (rcells k8 j8 rv wv).2.1
 have c21:=HS.out.th.head.cell 21 (rcells k8 j8 rv wv).2.2.2.2.1
 go_wp2_with fail
 refine (xop_code HCD.out hpl4 r.at_).mono ?_
 rintro e w2 ⟨rfl,rfl⟩
 go_upto_region 12 with (fail)
 clear c11 c2 c21 g3 g4 hW1
 rw [← HR2.out] at HS
 have m8:=HS.out.th.r8
 have n8:=HS.out.th.s8
 have HIA2:=HIA.out
 obtain ⟨pb,o,hpo,q0,q1,q2,q3,q4⟩:=HCD.out k ⟨io,ia,ib,ic,ni⟩ HPK.out
 have HPO:=Lib.hid hpo
 subst hpo
 clear HIA2
 dsimp only at q0 q1 q2 q3 q4
 have c2:=HS.out.th.head.cell 2 (rcells m8 n8 rv wv).2.1
 rw [HK.out] at c2
 refine wp_region_br (fun w'=>w'.cell? ⟨rb,2,none⟩=some (.int .i64 (k:Int))∧(w'.cell? ⟨pb,o+k*5,none⟩=some (.int .i64 io)∧w'.cell? ⟨pb,o+k*5+1,none⟩=some (.int .i64 ia)∧w'.cell? ⟨pb,o+k*5+2,none⟩=some (.int .i64 ib)∧w'.cell? ⟨pb,o+k*5+3,none⟩=some (.int .i64 ic)∧w'.cell? ⟨pb,o+k*5+4,none⟩=some (.int .u64 ni))∧w'.rangeAt rb 3 (ra.regs.map (Value.int .u64))) [0,1,2,3,4,5,6,7,8,9,10,11,12,13,14,15,16,17,18,19,20,21,22,23] (by kernel_rfl) (by kernel_rfl) ⟨c2,⟨q0,q1,q2,q3,q4⟩,HS.out.regsAt⟩ ?_
 have ud:Upd [] W3 W3.drew:=(Upd.refl [] _).drew
 obtain ⟨W5,hW5⟩:∃ W,W3.drew=W:=⟨_,rfl⟩
 rw [hW5] at ud ⊢
 have HSU:=Lib.hid (show ∀ W,Upd [] W5 W → W.cell? ⟨rb,2,none⟩=some (.int .i64 (k:Int))∧(W.cell? ⟨pb,o+k*5,none⟩=some (.int .i64 io)∧W.cell? ⟨pb,o+k*5+1,none⟩=some (.int .i64 ia)∧W.cell? ⟨pb,o+k*5+2,none⟩=some (.int .i64 ib)∧W.cell? ⟨pb,o+k*5+3,none⟩=some (.int .i64 ic)∧W.cell? ⟨pb,o+k*5+4,none⟩=some (.int .u64 ni))∧W.rangeAt rb 3 (ra.regs.map (Value.int .u64)) from fun W u=>⟨(ud.trans u).cell (by simp) c2,⟨(ud.trans u).cell (by simp) q0,(ud.trans u).cell (by simp) q1,(ud.trans u).cell (by simp) q2,(ud.trans u).cell (by simp) q3,(ud.trans u).cell (by simp) q4⟩,(HS.out.upd0 (ud.trans u)).regsAt⟩)
 have HS5:=Lib.hid (HS.out.upd0 ud)
 have HE5:=Lib.hid (HE.out.upd ud (by simp))
 have HU5:=Lib.hid (HU.out.trans (ud.mono (by simp)))
 clear HS HE HU HCD ud hW5 c2 q0 q1 q2 q3 q4
 have HS:=HS5
 have HE:=HE5
 have HU:=HU5
 clear HS5 HE5 HU5
 repeat
  first
   | (refine wpB_skip rfl (by kernel_rfl) (by rfl) ?_)
   | ((refine wpB_take (v:=?_) rfl rfl (by kernel_rfl) (by rfl) ?_ ?_); rotate_left 1; (· ((intro w hSw; (try dsimp only at hSw); go_simp); try with_reducible rfl)))
  try simp only [Act.put,List.setIfInBounds_toArray,List.set_cons_zero,List.set_cons_succ]
 refine wpB_load_mid rfl rfl (by kernel_rfl) (by rfl) 52 _ rfl rb 3 rfl (ra.regs.map (Value.int .u64)) _ (fun _ h=>h.2.2) Tryz.underlying52 (by rfl) (by rw [List.length_map,m8]; kernel_rfl) ?_
 try simp only [Act.put,List.setIfInBounds_toArray,List.set_cons_zero,List.set_cons_succ]
 repeat
  first
   | (refine wpB_skip rfl (by kernel_rfl) (by rfl) ?_)
   | ((refine wpB_take (v:=?_) rfl rfl (by kernel_rfl) (by rfl) ?_ ?_); rotate_left 1; (· ((intro w hSw; (try dsimp only at hSw); go_simp); try with_reducible rfl)))
  try simp only [Act.put,List.setIfInBounds_toArray,List.set_cons_zero,List.set_cons_succ]
 have hbz:rb<W5.heap.size:=HS.out.th.lt
 refine wpB_two (i:=15) (j:=20) [15,16,17,18,19,21,22,23] (by kernel_rfl) rfl rfl (by rfl) (by rfl) (fun K2 hK2=>?_) (fun K2 hK2=>?_)
 ·go_simp
  refine (HPL.out _).mono ?_
  rintro e W6 ⟨rfl,u6⟩
  refine hK2.out _ _ (HSU.out _ u6) ?_
  clear hK2 K2
  repeat
   first
    | (refine wpB_skip rfl (by kernel_rfl) (by rfl) ?_)
    | ((refine wpB_take (v:=?_) rfl rfl (by kernel_rfl) (by rfl) ?_ ?_); rotate_left 1; (· ((intro w hSw; (try dsimp only at hSw); go_simp); try with_reducible rfl)))
   try simp only [Act.put,List.setIfInBounds_toArray,List.set_cons_zero,List.set_cons_succ]
  refine wpB_eff rfl (by kernel_rfl) (by rfl) (fun K2 hK2=>?_)
  go_simp
  refine hK2.out _ _ (HSU.out _ (u6.alloc _)) ?_
  clear hK2 K2
  try simp only [Act.put,List.setIfInBounds_toArray,List.set_cons_zero,List.set_cons_succ]
  have BX:=Blk.new W6 [.int .u64 0,.int .u64 0,.int .u64 0,.int .u64 0,.int .u64 0,.int .u64 0,.int .u64 0,.int .u64 0] 52
  have hbx:W5.heap.size≤W6.heap.size:=u6.size
  have uz:=u6.alloc (.cells #[.int .u64 0,.int .u64 0,.int .u64 0,.int .u64 0,.int .u64 0,.int .u64 0,.int .u64 0,.int .u64 0] 52)
  obtain ⟨Wx,hWx⟩:∃ W,W6.alloc (.cells #[.int .u64 0,.int .u64 0,.int .u64 0,.int .u64 0,.int .u64 0,.int .u64 0,.int .u64 0,.int .u64 0] 52)=W:=⟨_,rfl⟩
  rw [hWx] at BX uz ⊢
  generalize W6.heap.size=bx at BX hbx ⊢
  clear u6 hWx
  have h13:(rz.map (Value.int .u64)).toArray.all (·.oneCell')=true:=all_oneCell_toArray fun v hv=>by obtain ⟨x,_,rfl⟩:=List.mem_map.1 hv; rfl
  have hl3:(rz.map (Value.int .u64)).length=8:=by simp [hz]
  have hth:=BX.there 0 8 (by simp)
  refine wpB_eff rfl (by kernel_rfl) (by rfl) (fun K2 hK2=>?_)
  refine wp_store_mid 52 _ _ rfl bx 0 (rz.map (Value.int .u64)).toArray rfl rfl (by simpa [hl3] using hth) (by simp only [List.size_toArray,hl3]; kernel_rfl) h13 ?_
  have u7:Upd [] W5 (Wx.setCells bx 0 (rz.map (Value.int .u64))):=Upd.rows _ 0 uz (.inr hbx)
  have r7:(Wx.setCells bx 0 (rz.map (Value.int .u64))).rangeAt bx 0 (rz.map (Value.int .u64)):=World.rangeAt_setCells_same Wx _ 0 _ (by rw [hl3]; exact hth)
  refine hK2.out _ _ (HSU.out _ u7) ?_
  clear hK2 K2
  try simp only [Act.put,List.setIfInBounds_toArray,List.set_cons_zero,List.set_cons_succ]
  repeat
   first
    | (refine wpB_skip rfl (by kernel_rfl) (by rfl) ?_)
    | ((refine wpB_take (v:=?_) rfl rfl (by kernel_rfl) (by rfl) ?_ ?_); rotate_left 1; (· ((intro w hSw; (try dsimp only at hSw); go_simp); try with_reducible rfl)))
   try simp only [Act.put,List.setIfInBounds_toArray,List.set_cons_zero,List.set_cons_succ]
  refine wpB_end (by kernel_rfl) (NoPanic.normal ?_)
  obtain ⟨W7,hW7⟩:∃ W,Wx.setCells bx 0 (rz.map (Value.int .u64))=W:=⟨_,rfl⟩
  rw [show Wx.setCells bx 0 (rz.map (Value.int .u64)).toArray.toList=W7 from hW7]
  rw [hW7] at u7 r7
  have hs7:=HSU.out _ u7
  have HS7:=Lib.hid (HS.out.upd0 u7)
  have HE7:=Lib.hid (HE.out.upd u7 (by simp))
  have HU7:=Lib.hid (HU.out.trans (u7.mono (by simp)))
  have HRG:=Lib.hid r7
  have HBN:=Lib.hid (show bx≠rb from by omega)
  clear HS HE HU HSU hW7 uz BX hth u7 r7 hbx hbz
  have HS:=HS7
  have HE:=HE7
  have HU:=HU7
  clear HS7 HE7 HU7
  cases hok:okz with
  | true =>
   subst hok
   have hT9:T=(quiet,{ ra with regs:=rz,at_:=kz },sh):=by
    rw [← HT.out]
    unfold goR
    rw [HIA.out,HK.out,HPR.out]
    rfl
   subst hT9
   clear HT hs7
   have HTR:=Lib.hid (HS.out.th.head.there 3 8 (by rw [rcells_len m8 n8]; omega))
   go_upto_region 15 with (first
    | ((with_reducible refine wpList_load_mid (op:=⟨some 123,.load 52 (.tmp 10),_,_,_,_⟩) rfl 52 _ rfl bx 0 ?_ (rz.map (Value.int .u64)) _ HRG.out Tryz.underlying52 (by rfl) (by rw [hl3]; kernel_rfl) ?_); (· rfl))
    | ((with_reducible refine wpList_store_mid (op:=⟨none,.store 52 (.tmp 125) (.tmp 123),_,_,_,_⟩) rfl 52 _ _ rfl rb 3 (rz.map (Value.int .u64)).toArray ?_ ?_ (by simpa [hl3] using HTR.out) (by simp only [List.size_toArray,hl3]; kernel_rfl) h13 ?_); (· rfl); (· rfl)))
   obtain ⟨W8,hW8⟩:∃ W,W7.setCells rb 3 (rz.map (Value.int .u64))=W:=⟨_,rfl⟩
   rw [show W7.setCells rb 3 (rz.map (Value.int .u64)).toArray.toList=W8 from hW8]
   have hs8:=HS.out.regs rz hz
   have u8:Upd [rb] W7 (W7.setCells rb 3 (rz.map (Value.int .u64))):=Upd.rows _ 3 (Upd.refl _ _) (.inl (by simp))
   rw [hW8] at hs8 u8
   have HE8:=Lib.hid (HE.out.upd u8 (by have:=HNB.out; simp; omega))
   have HU8:=Lib.hid (HU.out.trans (u8.mono (by simp)))
   have HS8:=Lib.hid hs8
   clear HS HE HU HTR HRG hW8 hs8 u8
   have HS:=HS8
   have HE:=HE8
   have HU:=HU8
   clear HS8 HE8 HU8
   have y8:=HS.out.th.r8
   have c2:=HS.out.th.head.cell 2 (rcells (r:={ ra with regs:=rz }) y8 n8 rv wv).2.1
   have f2:=HS.out.th.head.free 2
   go_upto_region 16 with (fail)
   clear c2 f2
   obtain ⟨W9,hW2⟩:∃ W,W8.setCell ⟨rb,2,none⟩ (.int .i64 kz)=W:=⟨_,rfl⟩
   have hs2:=HS.out.one (r':={ ra with regs:=rz,at_:=kz }) 2 (.int .i64 kz) rfl rfl rfl y8 n8
   rw [hW2] at hs2
   have uu:Upd [rb,wb,qb] W8 W9:=by
    rw [← hW2]
    repeat (first | refine Upd.drew ?_ | refine Upd.setCell ?_ (.inl (by simp)) _ | with_reducible exact Upd.refl _ _)
   have HE2:=Lib.hid (HE.out.upd uu (by have:=HNB.out; simp; omega))
   have HU2:=Lib.hid (HU.out.trans uu)
   have HS2:=Lib.hid hs2
   clear HS HE HU uu hs2
   have HS:=HS2
   have HE:=HE2
   have HU:=HU2
   clear HS2 HE2 HU2
   rw [hW2]
   clear hW2
   have q0:=(HE.out).cell 0 rfl
   have q1:=(HE.out).cell 1 rfl
   have q2:=(HE.out).cell 2 rfl
   have q3:=(HE.out).cell 3 rfl
   have q4:=(HE.out).cell 4 rfl
   have q5:=(HE.out).cell 5 rfl
   have f0:=(HE.out).free 0
   have f1:=(HE.out).free 1
   have f2:=(HE.out).free 2
   have f3:=(HE.out).free 3
   have f4:=(HE.out).free 4
   have f5:=(HE.out).free 5
   dsimp only at q0 q1 q2 q3 q4 q5
   go_wp2_with fail
   refine bodyPost_ret (ev_results2 6 7 rfl _ _ w.heap.size (⟨0,0,0,false,0⟩:TE) (.bool false) rfl rfl (ev_set HE.out (⟨0,0,0,false,0⟩:TE))) rfl (hK _ _ ?_)
   refine ⟨rfl,_,_,HS.out.box (ev_upd (S:=[w.heap.size]) (Upd.refl _ _) (.inl (by simp)) _ _ _ _ _ _) HNB.out HNL.out,ev_upd HU.out (.inr (Nat.le_refl _)) _ _ _ _ _ _,HN.out⟩
  | false =>
   subst hok
   clear HRG HBN h13 hl3
   obtain ⟨_,⟨q0,q1,q2,q3,q4⟩,_⟩:=hs7
   have c11:=HS.out.th.head.cell 11 (rcells m8 n8 rv wv).2.2.1
   rw [HIN2.out] at c11
   have c2:=HS.out.th.head.cell 2 (rcells m8 n8 rv wv).2.1
   rw [HK.out] at c2
   obtain ⟨R,hR⟩:∃ R,outsideR ⟨io,ia,ib,ic,ni⟩ ra sh=R:=⟨_,rfl⟩
   have hT9:T=R:=by
    rw [← HT.out,← hR]
    unfold goR
    rw [HIA.out,HK.out,HPR.out,if_neg (by simp),if_neg (by rw [HIN2.out]; simp)]
   replace hT9:=hT9.symm
   subst hT9
   have HR:=Lib.hid hR
   have HC:=Lib.hid (HMOP.out _ HS.out (HOP.out rfl))
   rw [HR.out] at HC
   clear HT hR
   go_wp2_with fail
   clear c11 c2 q0 q1 q2 q3 q4
   refine HC.out.mono ?_
   rintro e W8 ⟨rfl,rv8,wv8,h8,u8,hn8⟩
   obtain ⟨⟨⟨ek,ea,ew,eo,ee⟩,tl⟩,r9,sh9⟩:=R
   have hs8:=HU.out.size
   simp only [TE.val]
   have HE8:=Lib.hid (HE.out.upd u8 (by have:=HNB.out; simp; omega))
   have HNL8:=Lib.hid (show ∀ g,rv8.ownBlock=some g∨wv8.ownBlock=some g → g≠w.heap.size from fun g hg=>by
    rcases hn8 g hg with k | k
    ·exact HNL.out g k
    ·have:=HE.out.lt; omega)
   have HN8:=Lib.hid (show ∀ g,rv8.ownBlock=some g∨wv8.ownBlock=some g → (rv.ownBlock=some g∨wv.ownBlock=some g)∨w.heap.size≤g from fun g hg=>by
    rcases hn8 g hg with k | k
    ·exact HN.out g k
    ·exact .inr (by omega))
   have HS8:=Lib.hid h8
   have HU8:=Lib.hid (HU.out.trans u8)
   clear HS HE HU HNL HN h8 u8 hn8 HC
   have HS:=HS8
   have HE:=HE8
   have HU:=HU8
   have HNL:=HNL8
   have HN:=HN8
   dsimp only at HS
   have q0:=(HE.out).cell 0 rfl
   have q1:=(HE.out).cell 1 rfl
   have q2:=(HE.out).cell 2 rfl
   have q3:=(HE.out).cell 3 rfl
   have q4:=(HE.out).cell 4 rfl
   have q5:=(HE.out).cell 5 rfl
   have f0:=(HE.out).free 0
   have f1:=(HE.out).free 1
   have f2:=(HE.out).free 2
   have f3:=(HE.out).free 3
   have f4:=(HE.out).free 4
   have f5:=(HE.out).free 5
   dsimp only at q0 q1 q2 q3 q4 q5
   go_wp2_with fail
   refine bodyPost_ret (ev_results2 6 7 rfl _ _ w.heap.size (⟨ek,ea,ew,eo,ee⟩:TE) (.bool tl) rfl rfl (ev_set HE.out (⟨ek,ea,ew,eo,ee⟩:TE))) rfl (hK _ _ ?_)
   refine ⟨rfl,_,_,HS.out.box (ev_upd (S:=[w.heap.size]) (Upd.refl _ _) (.inl (by simp)) _ _ _ _ _ _) HNB.out HNL.out,ev_upd HU.out (.inr (Nat.le_refl _)) _ _ _ _ _ _,HN.out⟩
 ·go_simp
  have BX0:=Blk.new W5 [.int .u64 0,.int .u64 0,.int .u64 0,.int .u64 0,.int .u64 0,.int .u64 0,.int .u64 0,.int .u64 0] 52
  have uy:Upd [] W5 (W5.alloc (.cells #[.int .u64 0,.int .u64 0,.int .u64 0,.int .u64 0,.int .u64 0,.int .u64 0,.int .u64 0,.int .u64 0] 52)):=(Upd.refl [] _).alloc _
  refine hK2.out _ _ (HSU.out _ uy) ?_
  clear hK2 K2
  refine wpB_eff rfl (by kernel_rfl) (by rfl) (fun K2 hK2=>?_)
  go_simp
  refine (HPL.out _).mono ?_
  rintro e Wx ⟨rfl,u6⟩
  have uz:=uy.trans u6
  refine hK2.out _ _ (HSU.out _ uz) ?_
  clear hK2 K2
  have BX:=BX0.upd u6 (by simp)
  have hbx:W5.heap.size≤W5.heap.size:=Nat.le_refl _
  clear BX0 u6 uy
  try simp only [Act.put,List.setIfInBounds_toArray,List.set_cons_zero,List.set_cons_succ]
  repeat
   first
    | (refine wpB_skip rfl (by kernel_rfl) (by rfl) ?_)
    | ((refine wpB_take (v:=?_) rfl rfl (by kernel_rfl) (by rfl) ?_ ?_); rotate_left 1; (· ((intro w hSw; (try dsimp only at hSw); go_simp); try with_reducible rfl)))
   try simp only [Act.put,List.setIfInBounds_toArray,List.set_cons_zero,List.set_cons_succ]
  generalize hbxx:W5.heap.size=bx at BX ⊢
  replace hbx:W5.heap.size≤bx:=by omega
  clear hbxx
  have h13:(rz.map (Value.int .u64)).toArray.all (·.oneCell')=true:=all_oneCell_toArray fun v hv=>by obtain ⟨x,_,rfl⟩:=List.mem_map.1 hv; rfl
  have hl3:(rz.map (Value.int .u64)).length=8:=by simp [hz]
  have hth:=BX.there 0 8 (by simp)
  refine wpB_eff rfl (by kernel_rfl) (by rfl) (fun K2 hK2=>?_)
  refine wp_store_mid 52 _ _ rfl bx 0 (rz.map (Value.int .u64)).toArray rfl rfl (by simpa [hl3] using hth) (by simp only [List.size_toArray,hl3]; kernel_rfl) h13 ?_
  have u7:Upd [] W5 (Wx.setCells bx 0 (rz.map (Value.int .u64))):=Upd.rows _ 0 uz (.inr hbx)
  have r7:(Wx.setCells bx 0 (rz.map (Value.int .u64))).rangeAt bx 0 (rz.map (Value.int .u64)):=World.rangeAt_setCells_same Wx _ 0 _ (by rw [hl3]; exact hth)
  refine hK2.out _ _ (HSU.out _ u7) ?_
  clear hK2 K2
  try simp only [Act.put,List.setIfInBounds_toArray,List.set_cons_zero,List.set_cons_succ]
  repeat
   first
    | (refine wpB_skip rfl (by kernel_rfl) (by rfl) ?_)
    | ((refine wpB_take (v:=?_) rfl rfl (by kernel_rfl) (by rfl) ?_ ?_); rotate_left 1; (· ((intro w hSw; (try dsimp only at hSw); go_simp); try with_reducible rfl)))
   try simp only [Act.put,List.setIfInBounds_toArray,List.set_cons_zero,List.set_cons_succ]
  refine wpB_end (by kernel_rfl) (NoPanic.normal ?_)
  obtain ⟨W7,hW7⟩:∃ W,Wx.setCells bx 0 (rz.map (Value.int .u64))=W:=⟨_,rfl⟩
  rw [show Wx.setCells bx 0 (rz.map (Value.int .u64)).toArray.toList=W7 from hW7]
  rw [hW7] at u7 r7
  have hs7:=HSU.out _ u7
  have HS7:=Lib.hid (HS.out.upd0 u7)
  have HE7:=Lib.hid (HE.out.upd u7 (by simp))
  have HU7:=Lib.hid (HU.out.trans (u7.mono (by simp)))
  have HRG:=Lib.hid r7
  have HBN:=Lib.hid (show bx≠rb from by omega)
  clear HS HE HU HSU hW7 uz BX hth u7 r7 hbx hbz
  have HS:=HS7
  have HE:=HE7
  have HU:=HU7
  clear HS7 HE7 HU7
  cases hok:okz with
  | true =>
   subst hok
   have hT9:T=(quiet,{ ra with regs:=rz,at_:=kz },sh):=by
    rw [← HT.out]
    unfold goR
    rw [HIA.out,HK.out,HPR.out]
    rfl
   subst hT9
   clear HT hs7
   have HTR:=Lib.hid (HS.out.th.head.there 3 8 (by rw [rcells_len m8 n8]; omega))
   go_upto_region 15 with (first
    | ((with_reducible refine wpList_load_mid (op:=⟨some 123,.load 52 (.tmp 10),_,_,_,_⟩) rfl 52 _ rfl bx 0 ?_ (rz.map (Value.int .u64)) _ HRG.out Tryz.underlying52 (by rfl) (by rw [hl3]; kernel_rfl) ?_); (· rfl))
    | ((with_reducible refine wpList_store_mid (op:=⟨none,.store 52 (.tmp 125) (.tmp 123),_,_,_,_⟩) rfl 52 _ _ rfl rb 3 (rz.map (Value.int .u64)).toArray ?_ ?_ (by simpa [hl3] using HTR.out) (by simp only [List.size_toArray,hl3]; kernel_rfl) h13 ?_); (· rfl); (· rfl)))
   obtain ⟨W8,hW8⟩:∃ W,W7.setCells rb 3 (rz.map (Value.int .u64))=W:=⟨_,rfl⟩
   rw [show W7.setCells rb 3 (rz.map (Value.int .u64)).toArray.toList=W8 from hW8]
   have hs8:=HS.out.regs rz hz
   have u8:Upd [rb] W7 (W7.setCells rb 3 (rz.map (Value.int .u64))):=Upd.rows _ 3 (Upd.refl _ _) (.inl (by simp))
   rw [hW8] at hs8 u8
   have HE8:=Lib.hid (HE.out.upd u8 (by have:=HNB.out; simp; omega))
   have HU8:=Lib.hid (HU.out.trans (u8.mono (by simp)))
   have HS8:=Lib.hid hs8
   clear HS HE HU HTR HRG hW8 hs8 u8
   have HS:=HS8
   have HE:=HE8
   have HU:=HU8
   clear HS8 HE8 HU8
   have y8:=HS.out.th.r8
   have c2:=HS.out.th.head.cell 2 (rcells (r:={ ra with regs:=rz }) y8 n8 rv wv).2.1
   have f2:=HS.out.th.head.free 2
   go_upto_region 16 with (fail)
   clear c2 f2
   obtain ⟨W9,hW2⟩:∃ W,W8.setCell ⟨rb,2,none⟩ (.int .i64 kz)=W:=⟨_,rfl⟩
   have hs2:=HS.out.one (r':={ ra with regs:=rz,at_:=kz }) 2 (.int .i64 kz) rfl rfl rfl y8 n8
   rw [hW2] at hs2
   have uu:Upd [rb,wb,qb] W8 W9:=by
    rw [← hW2]
    repeat (first | refine Upd.drew ?_ | refine Upd.setCell ?_ (.inl (by simp)) _ | with_reducible exact Upd.refl _ _)
   have HE2:=Lib.hid (HE.out.upd uu (by have:=HNB.out; simp; omega))
   have HU2:=Lib.hid (HU.out.trans uu)
   have HS2:=Lib.hid hs2
   clear HS HE HU uu hs2
   have HS:=HS2
   have HE:=HE2
   have HU:=HU2
   clear HS2 HE2 HU2
   rw [hW2]
   clear hW2
   have q0:=(HE.out).cell 0 rfl
   have q1:=(HE.out).cell 1 rfl
   have q2:=(HE.out).cell 2 rfl
   have q3:=(HE.out).cell 3 rfl
   have q4:=(HE.out).cell 4 rfl
   have q5:=(HE.out).cell 5 rfl
   have f0:=(HE.out).free 0
   have f1:=(HE.out).free 1
   have f2:=(HE.out).free 2
   have f3:=(HE.out).free 3
   have f4:=(HE.out).free 4
   have f5:=(HE.out).free 5
   dsimp only at q0 q1 q2 q3 q4 q5
   go_wp2_with fail
   refine bodyPost_ret (ev_results2 6 7 rfl _ _ w.heap.size (⟨0,0,0,false,0⟩:TE) (.bool false) rfl rfl (ev_set HE.out (⟨0,0,0,false,0⟩:TE))) rfl (hK _ _ ?_)
   refine ⟨rfl,_,_,HS.out.box (ev_upd (S:=[w.heap.size]) (Upd.refl _ _) (.inl (by simp)) _ _ _ _ _ _) HNB.out HNL.out,ev_upd HU.out (.inr (Nat.le_refl _)) _ _ _ _ _ _,HN.out⟩
  | false =>
   subst hok
   clear HRG HBN h13 hl3
   obtain ⟨_,⟨q0,q1,q2,q3,q4⟩,_⟩:=hs7
   have c11:=HS.out.th.head.cell 11 (rcells m8 n8 rv wv).2.2.1
   rw [HIN2.out] at c11
   have c2:=HS.out.th.head.cell 2 (rcells m8 n8 rv wv).2.1
   rw [HK.out] at c2
   obtain ⟨R,hR⟩:∃ R,outsideR ⟨io,ia,ib,ic,ni⟩ ra sh=R:=⟨_,rfl⟩
   have hT9:T=R:=by
    rw [← HT.out,← hR]
    unfold goR
    rw [HIA.out,HK.out,HPR.out,if_neg (by simp),if_neg (by rw [HIN2.out]; simp)]
   replace hT9:=hT9.symm
   subst hT9
   have HR:=Lib.hid hR
   have HC:=Lib.hid (HMOP.out _ HS.out (HOP.out rfl))
   rw [HR.out] at HC
   clear HT hR
   go_wp2_with fail
   clear c11 c2 q0 q1 q2 q3 q4
   refine HC.out.mono ?_
   rintro e W8 ⟨rfl,rv8,wv8,h8,u8,hn8⟩
   obtain ⟨⟨⟨ek,ea,ew,eo,ee⟩,tl⟩,r9,sh9⟩:=R
   have hs8:=HU.out.size
   simp only [TE.val]
   have HE8:=Lib.hid (HE.out.upd u8 (by have:=HNB.out; simp; omega))
   have HNL8:=Lib.hid (show ∀ g,rv8.ownBlock=some g∨wv8.ownBlock=some g → g≠w.heap.size from fun g hg=>by
    rcases hn8 g hg with k | k
    ·exact HNL.out g k
    ·have:=HE.out.lt; omega)
   have HN8:=Lib.hid (show ∀ g,rv8.ownBlock=some g∨wv8.ownBlock=some g → (rv.ownBlock=some g∨wv.ownBlock=some g)∨w.heap.size≤g from fun g hg=>by
    rcases hn8 g hg with k | k
    ·exact HN.out g k
    ·exact .inr (by omega))
   have HS8:=Lib.hid h8
   have HU8:=Lib.hid (HU.out.trans u8)
   clear HS HE HU HNL HN h8 u8 hn8 HC
   have HS:=HS8
   have HE:=HE8
   have HU:=HU8
   have HNL:=HNL8
   have HN:=HN8
   dsimp only at HS
   have q0:=(HE.out).cell 0 rfl
   have q1:=(HE.out).cell 1 rfl
   have q2:=(HE.out).cell 2 rfl
   have q3:=(HE.out).cell 3 rfl
   have q4:=(HE.out).cell 4 rfl
   have q5:=(HE.out).cell 5 rfl
   have f0:=(HE.out).free 0
   have f1:=(HE.out).free 1
   have f2:=(HE.out).free 2
   have f3:=(HE.out).free 3
   have f4:=(HE.out).free 4
   have f5:=(HE.out).free 5
   dsimp only at q0 q1 q2 q3 q4 q5
   go_wp2_with fail
   refine bodyPost_ret (ev_results2 6 7 rfl _ _ w.heap.size (⟨ek,ea,ew,eo,ee⟩:TE) (.bool tl) rfl rfl (ev_set HE.out (⟨ek,ea,ew,eo,ee⟩:TE))) rfl (hK _ _ ?_)
   refine ⟨rfl,_,_,HS.out.box (ev_upd (S:=[w.heap.size]) (Upd.refl _ _) (.inl (by simp)) _ _ _ _ _ _) HNB.out HNL.out,ev_upd HU.out (.inr (Nat.le_refl _)) _ _ _ _ _ _,HN.out⟩
end
end Go.Proofs.YtehopaabfoopeaaGreat
set_option linter.unusedSimpArgs false
set_option linter.unusedVariables false
set_option maxRecDepth 100000
namespace Go.Proofs.YtehopaabfoopeaaGreat
open Go.RowKit
open Go.Maps
section
variable {w w':World} {rb wb qb:Nat} {r:RT} {sh:Sh} {rv wv:Value} {po:Option Addr} {cap:Nat} {p:List Ins}
set_option maxHeartbeats 4000000 in
theorem xStep_code (h:RS w rb wb qb r sh rv wv) (hF0:Fit p r) (hc:CodeAt w po p) (hpb:∀ b o,po=some ⟨b,o,none⟩ → b≠rb∧b≠wb∧b≠qb) :
  Calls Tryz.prog 35 #[.slice po p.length cap,.pointer (some ⟨rb,0,none⟩),.pointer (some ⟨wb,0,none⟩)] w (RSOk w rb wb qb rv wv (StepR p r sh)):=by
 by_cases hgo:r.st=1∧¬ (r.ins=true∧r.a.phase≠1)∧¬ (opAt p r.at_=0∨(r.ins=true∧(formI (opAt p r.at_)).ins=false)∨(r.ins=false∧(formI (opAt p r.at_)).out=false))
 ·cases hi:r.ins with
  | true=>exact xStep_in h hF0 hc hpb hgo.1 hgo.2.1 hgo.2.2 hi
  | false=>exact xStep_out h hF0 hc hpb hgo.1 hgo.2.1 hgo.2.2 hi
 have HGO:=Lib.hid hgo
 clear hgo
 obtain ⟨T,hT⟩:∃ T,StepR p r sh=T:=⟨_,rfl⟩
 rw [hT]
 have HT:=Lib.hid hT
 clear hT
 have HF:=Lib.hid hF0
 have HPB:=Lib.hid hpb
 have HC0:=Lib.hid hc
 have hpl:=(formedP_len hF0.fp).2
 have hpl4:p.length≤4611686018427387904:=by omega
 have HU0:Hid (Upd [] w (w.alloc (.cells #[.int .i64 0,.int .i64 0,.int .u64 0,.int .u64 0,.bool false,.int .i64 0] 86))):=Lib.hid ((Upd.refl [] _).alloc _)
 clear hF0 hc hpb
 obtain ⟨W1,hW1⟩:∃ W,w.alloc (.cells #[.int .i64 0,.int .i64 0,.int .u64 0,.int .u64 0,.bool false,.int .i64 0] 86)=W:=⟨_,rfl⟩
 have u1:Upd [] w W1:=by rw [← hW1]; exact (Upd.refl [] _).alloc _
 have EB:Blk W1 w.heap.size (TE.cells ⟨0,0,0,false,0⟩) 86:=by rw [← hW1]; exact Blk.new w _ _
 have hlt1:=h.th.lt
 have hlt2:=h.wo.lt
 have hnes:=h.ne
 have hnew:=h.wo.ne
 have HNB:=Lib.hid (show rb≠w.heap.size∧wb≠w.heap.size∧qb≠w.heap.size from ⟨by omega,by omega,by omega⟩)
 have HNL:=Lib.hid (show ∀ g,rv.ownBlock=some g∨wv.ownBlock=some g → g≠w.heap.size from fun g hg=>by have:=(h.th.ap g hg).2; omega)
 have HN:=Lib.hid (show ∀ g,rv.ownBlock=some g∨wv.ownBlock=some g → (rv.ownBlock=some g∨wv.ownBlock=some g)∨w.heap.size≤g from fun g hg=>.inl hg)
 have HS:=Lib.hid (h.upd0 u1)
 have HE:=Lib.hid EB
 have HU:=Lib.hid (show Upd [rb,wb,qb] w W1 from u1.mono (by simp))
 have hne1:rb≠w.heap.size:=by omega
 have hne2:wb≠w.heap.size:=by omega
 have hne3:qb≠w.heap.size:=by omega
 have hne4:rb≠wb:=hnes.1
 have hne5:rb≠qb:=hnes.2
 clear EB u1 h hlt1 hlt2
 rw [hW1] at HU0
 have HCD:=Lib.hid (HC0.out.upd0 HU0.out)
 clear HC0
 have k8:=HS.out.th.r8
 have j8:=HS.out.th.s8
 have c0:=HS.out.th.head.cell 0 (rcells k8 j8 rv wv).1
 have c11:=HS.out.th.head.cell 11 (rcells k8 j8 rv wv).2.2.1
 have c25:=HS.out.th.head.cell 25 (rcells k8 j8 rv wv).2.2.2.2.2.1
 by_cases hst:r.st=1
 ·rw [hst] at c0
  have hT1:T=stepR p r sh:=by rw [← HT.out]; unfold StepR; rw [if_neg (fun k=>k hst)]
  by_cases hu:r.ins=true∧r.a.phase≠1
  ·obtain ⟨R,hR⟩:∃ R,underR p r sh=R:=⟨_,rfl⟩
   have hT2:T=R:=by rw [hT1,← hR]; unfold stepR; rw [if_pos hu]
   replace hT2:=hT2.symm
   subst hT2
   have HR:=Lib.hid hR
   have HC:=Lib.hid (xunder_code (cap:=cap) HS.out HF.out hu.1 hu.2 HCD.out HPB.out)
   rw [HR.out] at HC
   rw [hu.1] at c11
   have b25:(r.a.phase != 1)=true:=by simp [hu.2]
   clear HT hT1 hR hu hst HF HPB HCD HU0
   refine calls_all fun K hK=>?_
   go_enter Tryz.func35,Tryz.ntmps35
   go_wp2_with fail
   clear c0 c11 c25 hW1
   refine HC.out.mono ?_
   rintro e W8 ⟨rfl,rv8,wv8,h8,u8,hn8⟩
   obtain ⟨⟨⟨ek,ea,ew,eo,ee⟩,tl⟩,r9,sh9⟩:=R
   have hs8:=HU.out.size
   simp only [TE.val]
   have HE8:=Lib.hid (HE.out.upd u8 (by have:=HNB.out; simp; omega))
   have HNL8:=Lib.hid (show ∀ g,rv8.ownBlock=some g∨wv8.ownBlock=some g → g≠w.heap.size from fun g hg=>by
    rcases hn8 g hg with k | k
    ·exact HNL.out g k
    ·have:=HE.out.lt; omega)
   have HN8:=Lib.hid (show ∀ g,rv8.ownBlock=some g∨wv8.ownBlock=some g → (rv.ownBlock=some g∨wv.ownBlock=some g)∨w.heap.size≤g from fun g hg=>by
    rcases hn8 g hg with k | k
    ·exact HN.out g k
    ·exact .inr (by omega))
   have HS8:=Lib.hid h8
   have HU8:=Lib.hid (HU.out.trans u8)
   clear HS HE HU HNL HN h8 u8 hn8 HC
   have HS:=HS8
   have HE:=HE8
   have HU:=HU8
   have HNL:=HNL8
   have HN:=HN8
   dsimp only at HS
   have q0:=(HE.out).cell 0 rfl
   have q1:=(HE.out).cell 1 rfl
   have q2:=(HE.out).cell 2 rfl
   have q3:=(HE.out).cell 3 rfl
   have q4:=(HE.out).cell 4 rfl
   have q5:=(HE.out).cell 5 rfl
   have f0:=(HE.out).free 0
   have f1:=(HE.out).free 1
   have f2:=(HE.out).free 2
   have f3:=(HE.out).free 3
   have f4:=(HE.out).free 4
   have f5:=(HE.out).free 5
   dsimp only at q0 q1 q2 q3 q4 q5
   go_wp2_with fail
   refine bodyPost_ret (ev_results2 6 7 rfl _ _ w.heap.size (⟨ek,ea,ew,eo,ee⟩:TE) (.bool tl) rfl rfl (ev_set HE.out (⟨ek,ea,ew,eo,ee⟩:TE))) rfl (hK _ _ ?_)
   refine ⟨rfl,_,_,HS.out.box (ev_upd (S:=[w.heap.size]) (Upd.refl _ _) (.inl (by simp)) _ _ _ _ _ _) HNB.out HNL.out,ev_upd HU.out (.inr (Nat.le_refl _)) _ _ _ _ _ _,HN.out⟩
  ·obtain ⟨F,hF⟩:∃ F,formI (opAt p r.at_)=F:=⟨_,rfl⟩
   obtain ⟨FR,fn,ft,fo,fi⟩:=F
   by_cases hb:opAt p r.at_=0∨(r.ins=true∧(formI (opAt p r.at_)).ins=false)∨(r.ins=false∧(formI (opAt p r.at_)).out=false)
   ·have hT2:T=((failR r 210).1,(failR r 210).2,sh):=by rw [hT1]; unfold stepR; rw [if_neg hu,if_pos hb]
    subst hT2
    rw [hF] at hb
    dsimp only at hb
    clear HT hT1
    cases hi:r.ins with
    | true =>
     have hph:r.a.phase=1:=Classical.byContradiction fun k=>hu ⟨hi,k⟩
     rw [hi] at c11
     rw [hph] at c25
     clear hu hph hst
     by_cases ho:opAt p r.at_=0
     ·have bo:(opAt p r.at_ == 0)=true:=by simp [ho]
      have HO:=Lib.hid ho
      clear hb ho
      have c2:=HS.out.th.head.cell 2 (rcells k8 j8 rv wv).2.1
      have HIN:=Lib.hid (rinfo (opAt p r.at_))
      rw [hF] at HIN
      simp only [Form.val] at HIN
      refine calls_all fun K hK=>?_
      go_enter Tryz.func35,Tryz.ntmps35
      go_wp2_with fail
      refine (xop_code HCD.out hpl4 r.at_).mono ?_
      rintro e w2 ⟨rfl,rfl⟩
      go_wp2_with fail
      refine (HIN.out _).mono ?_
      rintro e W2 ⟨rfl,u2⟩
      clear HIN
      go_upto_region 6 with (fail)
      obtain ⟨W3,hW3⟩:∃ W,W2.alloc (.cells #[.int .i64 (FR:Int),.bool fn,.bool ft,.bool fo,.bool fi] 116)=W:=⟨_,rfl⟩
      rw [hW3]
      have u3:Upd [] W1 W3:=by rw [← hW3]; exact u2.alloc _
      have FB:Blk W3 W2.heap.size [.int .i64 (FR:Int),.bool fn,.bool ft,.bool fo,.bool fi] 116:=by rw [← hW3]; exact Blk.new _ _ _
      have g3:=FB.cell 3 rfl
      have g4:=FB.cell 4 rfl
      have HS3:=Lib.hid (HS.out.upd0 u3)
      have HE3:=Lib.hid (HE.out.upd u3 (by simp))
      have HU3:=Lib.hid (HU.out.trans (u3.mono (by simp)))
      have HC3:=Lib.hid (HCD.out.upd0 u3)
      clear HS HE HU HCD FB c2 u2 u3 c0 c11 c25 hW3
      have HS:=HS3
      have HE:=HE3
      have HU:=HU3
      have HCD:=HC3
      clear HS3 HE3 HU3 HC3
      have c11:=HS.out.th.head.cell 11 (rcells k8 j8 rv wv).2.2.1
      rw [hi] at c11
      have c2:=HS.out.th.head.cell 2 (rcells k8 j8 rv wv).2.1
      have c21:=HS.out.th.head.cell 21 (rcells k8 j8 rv wv).2.2.2.2.1
      go_wp2_with fail
      refine (xop_code HCD.out hpl4 r.at_).mono ?_
      rintro e w2 ⟨rfl,rfl⟩
      go_wp2_with fail
      clear c11 c2 c21 g3 g4 hW1
      have HFL:=Lib.hid (HS.out.fail 210)
      refine HFL.out.mono ?_
      rintro e W8 ⟨rfl,rv8,wv8,h8,u8,hn8⟩
      have hs8:=HU.out.size
      simp only [failR,TE.val]
      have HE8:=Lib.hid (HE.out.upd u8 (by have:=HNB.out; simp; omega))
      have HNL8:=Lib.hid (show ∀ g,rv8.ownBlock=some g∨wv8.ownBlock=some g → g≠w.heap.size from fun g hg=>by
       rcases hn8 g hg with k | k
       ·exact HNL.out g k
       ·have:=HE.out.lt; omega)
      have HN8:=Lib.hid (show ∀ g,rv8.ownBlock=some g∨wv8.ownBlock=some g → (rv.ownBlock=some g∨wv.ownBlock=some g)∨w.heap.size≤g from fun g hg=>by
       rcases hn8 g hg with k | k
       ·exact HN.out g k
       ·exact .inr (by omega))
      have HS8:=Lib.hid h8
      have HU8:=Lib.hid (HU.out.trans u8)
      clear HS HE HU HNL HN h8 u8 hn8 HFL
      have HS:=HS8
      have HE:=HE8
      have HU:=HU8
      have HNL:=HNL8
      have HN:=HN8
      have q0:=(HE.out).cell 0 rfl
      have q1:=(HE.out).cell 1 rfl
      have q2:=(HE.out).cell 2 rfl
      have q3:=(HE.out).cell 3 rfl
      have q4:=(HE.out).cell 4 rfl
      have q5:=(HE.out).cell 5 rfl
      have f0:=(HE.out).free 0
      have f1:=(HE.out).free 1
      have f2:=(HE.out).free 2
      have f3:=(HE.out).free 3
      have f4:=(HE.out).free 4
      have f5:=(HE.out).free 5
      dsimp only at q0 q1 q2 q3 q4 q5
      go_wp2_with fail
      refine bodyPost_ret (ev_results2 6 7 rfl _ _ w.heap.size (⟨9,0,0,false,210⟩:TE) (.bool true) rfl rfl (ev_set HE.out (⟨9,0,0,false,210⟩:TE))) rfl (hK _ _ ?_)
      refine ⟨rfl,_,_,HS.out.box (ev_upd (S:=[w.heap.size]) (Upd.refl _ _) (.inl (by simp)) _ _ _ _ _ _) HNB.out HNL.out,ev_upd HU.out (.inr (Nat.le_refl _)) _ _ _ _ _ _,HN.out⟩
     ·have bo:(opAt p r.at_ == 0)=false:=by simp [ho]
      have hfi:fi=false:=by
       rcases hb with k | k | k
       ·exact absurd k ho
       ·exact k.2
       ·rw [hi] at k; simp at k
      subst hfi
      have HO:=Lib.hid ho
      clear hb ho
      have c2:=HS.out.th.head.cell 2 (rcells k8 j8 rv wv).2.1
      have HIN:=Lib.hid (rinfo (opAt p r.at_))
      rw [hF] at HIN
      simp only [Form.val] at HIN
      refine calls_all fun K hK=>?_
      go_enter Tryz.func35,Tryz.ntmps35
      go_wp2_with fail
      refine (xop_code HCD.out hpl4 r.at_).mono ?_
      rintro e w2 ⟨rfl,rfl⟩
      go_wp2_with fail
      refine (HIN.out _).mono ?_
      rintro e W2 ⟨rfl,u2⟩
      clear HIN
      go_upto_region 6 with (fail)
      obtain ⟨W3,hW3⟩:∃ W,W2.alloc (.cells #[.int .i64 (FR:Int),.bool fn,.bool ft,.bool fo,.bool false] 116)=W:=⟨_,rfl⟩
      rw [hW3]
      have u3:Upd [] W1 W3:=by rw [← hW3]; exact u2.alloc _
      have FB:Blk W3 W2.heap.size [.int .i64 (FR:Int),.bool fn,.bool ft,.bool fo,.bool false] 116:=by rw [← hW3]; exact Blk.new _ _ _
      have g3:=FB.cell 3 rfl
      have g4:=FB.cell 4 rfl
      have HS3:=Lib.hid (HS.out.upd0 u3)
      have HE3:=Lib.hid (HE.out.upd u3 (by simp))
      have HU3:=Lib.hid (HU.out.trans (u3.mono (by simp)))
      have HC3:=Lib.hid (HCD.out.upd0 u3)
      clear HS HE HU HCD FB c2 u2 u3 c0 c11 c25 hW3
      have HS:=HS3
      have HE:=HE3
      have HU:=HU3
      have HCD:=HC3
      clear HS3 HE3 HU3 HC3
      have c11:=HS.out.th.head.cell 11 (rcells k8 j8 rv wv).2.2.1
      rw [hi] at c11
      have c2:=HS.out.th.head.cell 2 (rcells k8 j8 rv wv).2.1
      have c21:=HS.out.th.head.cell 21 (rcells k8 j8 rv wv).2.2.2.2.1
      go_wp2_with fail
      refine (xop_code HCD.out hpl4 r.at_).mono ?_
      rintro e w2 ⟨rfl,rfl⟩
      go_wp2_with fail
      clear c11 c2 c21 g3 g4 hW1
      have HFL:=Lib.hid (HS.out.fail 210)
      refine HFL.out.mono ?_
      rintro e W8 ⟨rfl,rv8,wv8,h8,u8,hn8⟩
      have hs8:=HU.out.size
      simp only [failR,TE.val]
      have HE8:=Lib.hid (HE.out.upd u8 (by have:=HNB.out; simp; omega))
      have HNL8:=Lib.hid (show ∀ g,rv8.ownBlock=some g∨wv8.ownBlock=some g → g≠w.heap.size from fun g hg=>by
       rcases hn8 g hg with k | k
       ·exact HNL.out g k
       ·have:=HE.out.lt; omega)
      have HN8:=Lib.hid (show ∀ g,rv8.ownBlock=some g∨wv8.ownBlock=some g → (rv.ownBlock=some g∨wv.ownBlock=some g)∨w.heap.size≤g from fun g hg=>by
       rcases hn8 g hg with k | k
       ·exact HN.out g k
       ·exact .inr (by omega))
      have HS8:=Lib.hid h8
      have HU8:=Lib.hid (HU.out.trans u8)
      clear HS HE HU HNL HN h8 u8 hn8 HFL
      have HS:=HS8
      have HE:=HE8
      have HU:=HU8
      have HNL:=HNL8
      have HN:=HN8
      have q0:=(HE.out).cell 0 rfl
      have q1:=(HE.out).cell 1 rfl
      have q2:=(HE.out).cell 2 rfl
      have q3:=(HE.out).cell 3 rfl
      have q4:=(HE.out).cell 4 rfl
      have q5:=(HE.out).cell 5 rfl
      have f0:=(HE.out).free 0
      have f1:=(HE.out).free 1
      have f2:=(HE.out).free 2
      have f3:=(HE.out).free 3
      have f4:=(HE.out).free 4
      have f5:=(HE.out).free 5
      dsimp only at q0 q1 q2 q3 q4 q5
      go_wp2_with fail
      refine bodyPost_ret (ev_results2 6 7 rfl _ _ w.heap.size (⟨9,0,0,false,210⟩:TE) (.bool true) rfl rfl (ev_set HE.out (⟨9,0,0,false,210⟩:TE))) rfl (hK _ _ ?_)
      refine ⟨rfl,_,_,HS.out.box (ev_upd (S:=[w.heap.size]) (Upd.refl _ _) (.inl (by simp)) _ _ _ _ _ _) HNB.out HNL.out,ev_upd HU.out (.inr (Nat.le_refl _)) _ _ _ _ _ _,HN.out⟩
    | false =>
     rw [hi] at c11
     clear hu hst
     by_cases ho:opAt p r.at_=0
     ·have bo:(opAt p r.at_ == 0)=true:=by simp [ho]
      have HO:=Lib.hid ho
      clear hb ho
      have c2:=HS.out.th.head.cell 2 (rcells k8 j8 rv wv).2.1
      have HIN:=Lib.hid (rinfo (opAt p r.at_))
      rw [hF] at HIN
      simp only [Form.val] at HIN
      refine calls_all fun K hK=>?_
      go_enter Tryz.func35,Tryz.ntmps35
      go_wp2_with fail
      refine (xop_code HCD.out hpl4 r.at_).mono ?_
      rintro e w2 ⟨rfl,rfl⟩
      go_wp2_with fail
      refine (HIN.out _).mono ?_
      rintro e W2 ⟨rfl,u2⟩
      clear HIN
      go_upto_region 6 with (fail)
      obtain ⟨W3,hW3⟩:∃ W,W2.alloc (.cells #[.int .i64 (FR:Int),.bool fn,.bool ft,.bool fo,.bool fi] 116)=W:=⟨_,rfl⟩
      rw [hW3]
      have u3:Upd [] W1 W3:=by rw [← hW3]; exact u2.alloc _
      have FB:Blk W3 W2.heap.size [.int .i64 (FR:Int),.bool fn,.bool ft,.bool fo,.bool fi] 116:=by rw [← hW3]; exact Blk.new _ _ _
      have g3:=FB.cell 3 rfl
      have g4:=FB.cell 4 rfl
      have HS3:=Lib.hid (HS.out.upd0 u3)
      have HE3:=Lib.hid (HE.out.upd u3 (by simp))
      have HU3:=Lib.hid (HU.out.trans (u3.mono (by simp)))
      have HC3:=Lib.hid (HCD.out.upd0 u3)
      clear HS HE HU HCD FB c2 u2 u3 c0 c11 c25 hW3
      have HS:=HS3
      have HE:=HE3
      have HU:=HU3
      have HCD:=HC3
      clear HS3 HE3 HU3 HC3
      have c11:=HS.out.th.head.cell 11 (rcells k8 j8 rv wv).2.2.1
      rw [hi] at c11
      have c2:=HS.out.th.head.cell 2 (rcells k8 j8 rv wv).2.1
      have c21:=HS.out.th.head.cell 21 (rcells k8 j8 rv wv).2.2.2.2.1
      go_wp2_with fail
      refine (xop_code HCD.out hpl4 r.at_).mono ?_
      rintro e w2 ⟨rfl,rfl⟩
      go_wp2_with fail
      clear c11 c2 c21 g3 g4 hW1
      have HFL:=Lib.hid (HS.out.fail 210)
      refine HFL.out.mono ?_
      rintro e W8 ⟨rfl,rv8,wv8,h8,u8,hn8⟩
      have hs8:=HU.out.size
      simp only [failR,TE.val]
      have HE8:=Lib.hid (HE.out.upd u8 (by have:=HNB.out; simp; omega))
      have HNL8:=Lib.hid (show ∀ g,rv8.ownBlock=some g∨wv8.ownBlock=some g → g≠w.heap.size from fun g hg=>by
       rcases hn8 g hg with k | k
       ·exact HNL.out g k
       ·have:=HE.out.lt; omega)
      have HN8:=Lib.hid (show ∀ g,rv8.ownBlock=some g∨wv8.ownBlock=some g → (rv.ownBlock=some g∨wv.ownBlock=some g)∨w.heap.size≤g from fun g hg=>by
       rcases hn8 g hg with k | k
       ·exact HN.out g k
       ·exact .inr (by omega))
      have HS8:=Lib.hid h8
      have HU8:=Lib.hid (HU.out.trans u8)
      clear HS HE HU HNL HN h8 u8 hn8 HFL
      have HS:=HS8
      have HE:=HE8
      have HU:=HU8
      have HNL:=HNL8
      have HN:=HN8
      have q0:=(HE.out).cell 0 rfl
      have q1:=(HE.out).cell 1 rfl
      have q2:=(HE.out).cell 2 rfl
      have q3:=(HE.out).cell 3 rfl
      have q4:=(HE.out).cell 4 rfl
      have q5:=(HE.out).cell 5 rfl
      have f0:=(HE.out).free 0
      have f1:=(HE.out).free 1
      have f2:=(HE.out).free 2
      have f3:=(HE.out).free 3
      have f4:=(HE.out).free 4
      have f5:=(HE.out).free 5
      dsimp only at q0 q1 q2 q3 q4 q5
      go_wp2_with fail
      refine bodyPost_ret (ev_results2 6 7 rfl _ _ w.heap.size (⟨9,0,0,false,210⟩:TE) (.bool true) rfl rfl (ev_set HE.out (⟨9,0,0,false,210⟩:TE))) rfl (hK _ _ ?_)
      refine ⟨rfl,_,_,HS.out.box (ev_upd (S:=[w.heap.size]) (Upd.refl _ _) (.inl (by simp)) _ _ _ _ _ _) HNB.out HNL.out,ev_upd HU.out (.inr (Nat.le_refl _)) _ _ _ _ _ _,HN.out⟩
     ·have bo:(opAt p r.at_ == 0)=false:=by simp [ho]
      have hfo:fo=false:=by
       rcases hb with k | k | k
       ·exact absurd k ho
       ·rw [hi] at k; simp at k
       ·exact k.2
      subst hfo
      have HO:=Lib.hid ho
      clear hb ho
      have c2:=HS.out.th.head.cell 2 (rcells k8 j8 rv wv).2.1
      have HIN:=Lib.hid (rinfo (opAt p r.at_))
      rw [hF] at HIN
      simp only [Form.val] at HIN
      refine calls_all fun K hK=>?_
      go_enter Tryz.func35,Tryz.ntmps35
      go_wp2_with fail
      refine (xop_code HCD.out hpl4 r.at_).mono ?_
      rintro e w2 ⟨rfl,rfl⟩
      go_wp2_with fail
      refine (HIN.out _).mono ?_
      rintro e W2 ⟨rfl,u2⟩
      clear HIN
      go_upto_region 6 with (fail)
      obtain ⟨W3,hW3⟩:∃ W,W2.alloc (.cells #[.int .i64 (FR:Int),.bool fn,.bool ft,.bool false,.bool fi] 116)=W:=⟨_,rfl⟩
      rw [hW3]
      have u3:Upd [] W1 W3:=by rw [← hW3]; exact u2.alloc _
      have FB:Blk W3 W2.heap.size [.int .i64 (FR:Int),.bool fn,.bool ft,.bool false,.bool fi] 116:=by rw [← hW3]; exact Blk.new _ _ _
      have g3:=FB.cell 3 rfl
      have g4:=FB.cell 4 rfl
      have HS3:=Lib.hid (HS.out.upd0 u3)
      have HE3:=Lib.hid (HE.out.upd u3 (by simp))
      have HU3:=Lib.hid (HU.out.trans (u3.mono (by simp)))
      have HC3:=Lib.hid (HCD.out.upd0 u3)
      clear HS HE HU HCD FB c2 u2 u3 c0 c11 c25 hW3
      have HS:=HS3
      have HE:=HE3
      have HU:=HU3
      have HCD:=HC3
      clear HS3 HE3 HU3 HC3
      have c11:=HS.out.th.head.cell 11 (rcells k8 j8 rv wv).2.2.1
      rw [hi] at c11
      have c2:=HS.out.th.head.cell 2 (rcells k8 j8 rv wv).2.1
      have c21:=HS.out.th.head.cell 21 (rcells k8 j8 rv wv).2.2.2.2.1
      go_wp2_with fail
      refine (xop_code HCD.out hpl4 r.at_).mono ?_
      rintro e w2 ⟨rfl,rfl⟩
      go_wp2_with fail
      clear c11 c2 c21 g3 g4 hW1
      have HFL:=Lib.hid (HS.out.fail 210)
      refine HFL.out.mono ?_
      rintro e W8 ⟨rfl,rv8,wv8,h8,u8,hn8⟩
      have hs8:=HU.out.size
      simp only [failR,TE.val]
      have HE8:=Lib.hid (HE.out.upd u8 (by have:=HNB.out; simp; omega))
      have HNL8:=Lib.hid (show ∀ g,rv8.ownBlock=some g∨wv8.ownBlock=some g → g≠w.heap.size from fun g hg=>by
       rcases hn8 g hg with k | k
       ·exact HNL.out g k
       ·have:=HE.out.lt; omega)
      have HN8:=Lib.hid (show ∀ g,rv8.ownBlock=some g∨wv8.ownBlock=some g → (rv.ownBlock=some g∨wv.ownBlock=some g)∨w.heap.size≤g from fun g hg=>by
       rcases hn8 g hg with k | k
       ·exact HN.out g k
       ·exact .inr (by omega))
      have HS8:=Lib.hid h8
      have HU8:=Lib.hid (HU.out.trans u8)
      clear HS HE HU HNL HN h8 u8 hn8 HFL
      have HS:=HS8
      have HE:=HE8
      have HU:=HU8
      have HNL:=HNL8
      have HN:=HN8
      have q0:=(HE.out).cell 0 rfl
      have q1:=(HE.out).cell 1 rfl
      have q2:=(HE.out).cell 2 rfl
      have q3:=(HE.out).cell 3 rfl
      have q4:=(HE.out).cell 4 rfl
      have q5:=(HE.out).cell 5 rfl
      have f0:=(HE.out).free 0
      have f1:=(HE.out).free 1
      have f2:=(HE.out).free 2
      have f3:=(HE.out).free 3
      have f4:=(HE.out).free 4
      have f5:=(HE.out).free 5
      dsimp only at q0 q1 q2 q3 q4 q5
      go_wp2_with fail
      refine bodyPost_ret (ev_results2 6 7 rfl _ _ w.heap.size (⟨9,0,0,false,210⟩:TE) (.bool true) rfl rfl (ev_set HE.out (⟨9,0,0,false,210⟩:TE))) rfl (hK _ _ ?_)
      refine ⟨rfl,_,_,HS.out.box (ev_upd (S:=[w.heap.size]) (Upd.refl _ _) (.inl (by simp)) _ _ _ _ _ _) HNB.out HNL.out,ev_upd HU.out (.inr (Nat.le_refl _)) _ _ _ _ _ _,HN.out⟩
   ·exact absurd ⟨hst,hu,hb⟩ HGO.out
 ·have hT1:T=(quiet,r,sh):=by rw [← HT.out]; unfold StepR; rw [if_pos hst]
  subst hT1
  have b0:(r.st != 1)=true:=by simp [hst]
  clear HT HF HPB HCD HU0 hst
  refine calls_all fun K hK=>?_
  go_enter Tryz.func35,Tryz.ntmps35
  go_upto_region 2 with (fail)
  clear c0 c11 c25 hW1
  have q0:=(HE.out).cell 0 rfl
  have q1:=(HE.out).cell 1 rfl
  have q2:=(HE.out).cell 2 rfl
  have q3:=(HE.out).cell 3 rfl
  have q4:=(HE.out).cell 4 rfl
  have q5:=(HE.out).cell 5 rfl
  have f0:=(HE.out).free 0
  have f1:=(HE.out).free 1
  have f2:=(HE.out).free 2
  have f3:=(HE.out).free 3
  have f4:=(HE.out).free 4
  have f5:=(HE.out).free 5
  dsimp only at q0 q1 q2 q3 q4 q5
  go_wp2_with fail
  refine bodyPost_ret (ev_results2 6 7 rfl _ _ w.heap.size (⟨0,0,0,false,0⟩:TE) (.bool false) rfl rfl (ev_set HE.out (⟨0,0,0,false,0⟩:TE))) rfl (hK _ _ ?_)
  refine ⟨rfl,_,_,HS.out.box (ev_upd (S:=[w.heap.size]) (Upd.refl _ _) (.inl (by simp)) _ _ _ _ _ _) HNB.out HNL.out,ev_upd HU.out (.inr (Nat.le_refl _)) _ _ _ _ _ _,HN.out⟩
end
end Go.Proofs.YtehopaabfoopeaaGreat
