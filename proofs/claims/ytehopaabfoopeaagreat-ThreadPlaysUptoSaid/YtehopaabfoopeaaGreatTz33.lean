/- ThreadPlays, walked. The conditions are sizes. ThreadPlays, joined. The conditions are sizes. What every law's row asks behind its walk, once for all: the call answers true, below the heap's old size nothing has turned, so the arguments read as they did. No condition. Arguments opened to what their cells hold: a slice of integers, of bools, of structs. No condition. Arguments opened with their reach: slices of structs whose fields are slices. No condition. An argument that is an attempt's state, opened. No condition. Programs among the arguments, opened. No condition. What the second form's bound says of a slice's length. No condition. -/
import Derived.Test.YtehopaabfoopeaaGreatTz32
import Derived.Test.YtehopaabfoopeaaGreatTz00
import Derived.ProofKit
import Derived.OpenShut
import Derived.Deep.Grids
import Derived.Deep.Fields
import Derived.SizedLaws
import Derived.Test.YtehopaabfoopeaaGreatTz07
import Derived.Test.YtehopaabfoopeaaGreatRows
set_option linter.unusedSimpArgs false
set_option linter.unusedVariables false
set_option maxRecDepth 100000
namespace Go.Proofs.YtehopaabfoopeaaGreat
open Go.RowKit
open Go.Maps
theorem words0 (W:World) (g:Nat) (hg:Blk W g [] 23) (p:Option Addr) (zs:List Int) (cap:Nat) (h:SlI W .u64 p zs) (hn:1≤zs.length) (hm:zs.length≤65536) :
  ∃ q c sp w',(Builtin.append_ #[22,22] 22 #[.slice (some ⟨g,0,none⟩) 0 0,.slice p zs.length cap]).run Tryz.prog W=.ok (.slice (some ⟨q,0,none⟩) zs.length c) w' ∧
   Blk w' q (zs.map (Value.int .u64) ++ sp) 23∧(q=g∨q=W.heap.size)∧Upd [g] W w':=by
 have hz:zs≠[]:=fun e=>by subst e; simp at hn
 obtain ⟨ad,rfl,hsrc⟩:=h.src hz
 obtain ⟨i0,hi,hz0,hz1,hz2⟩:=info_parts info_u64
 have how:W.ownsRow 0 23 1 (.slice (some ⟨g,0,none⟩) 0 0) 0 []:=⟨rfl,.inr ⟨g,0,#[],rfl,Nat.zero_le _,hg,Nat.le_refl _,by decide,rfl,rfl⟩⟩
 obtain ⟨v',w',hr,ho,hgr,_,hor⟩:=run_append_own_at (P:=Tryz.prog) (w:=W) 0 22 22 23 i0 (.int .u64 0) 1 8 Tryz.underlying22 hi hz0 hz1 hz2 rfl (by omega)
  (.slice (some ⟨g,0,none⟩) 0 0) 0 [] how ad zs.length cap (zs.map (Value.int .u64)) (by simp) hsrc (fun u hu=>by simp at hu; obtain ⟨x,_,rfl⟩:=hu; rfl) (by unfold maxLen; omega) (by omega) (Nat.zero_le _)
 rw [Nat.zero_add,List.nil_append] at ho
 obtain ⟨k1,k2⟩:=ho
 rcases k2 with ⟨_,k2⟩ | ⟨q,c2,cur,rfl,_,hh,hnc,hcm,hcs,ht⟩
 ·omega
 ·refine ⟨q,c2,cur.toList.drop (zs.length*1),w',hr,?_,?_,Upd.own hgr⟩
  ·unfold Blk
   rw [← ht,List.take_append_drop]
   simpa using hh
  ·rcases hor with e | e
   ·simp only [Value.ownBlock,Option.some.injEq] at e; exact .inl e
   ·simp only [Value.ownBlock,Option.some.injEq] at e; exact .inr e
theorem th_new {w0 W:World} {X:SX} {sh:Sh} {acc st:Int} {wb qb:Nat} {p:List Ins} {pb cap tb rb pc:Nat} {po:Option Addr} (hV:TV W X sh acc st p pb cap tb newT none) (hR:RB W rb newT.rt (.slice none 0 0) (.slice none 0 0)) (hW:WB W wb qb sh) (hc:CodeAt W po p) (hfp:formedP p=true) (hnum:∀ i ∈ p,0≤i.n∧i.n<18446744073709551616)
  (h1:rb≠tb∧rb≠pb∧rb ∉ X.foot) (h2:tb≠wb∧tb≠qb∧pb≠wb∧pb≠qb) (h3:∀ g ∈ X.foot,g≠wb∧g≠qb) (h4:w0.heap.size≤tb∧w0.heap.size≤pb∧w0.heap.size≤rb∧w0.heap.size≤wb∧w0.heap.size≤qb∧∀ g ∈ X.foot,w0.heap.size≤g) (h5:∀ b o,po=some ⟨b,o,none⟩ → b<w0.heap.size) :
  TH W X sh acc st wb qb ⟨p,pb,cap,tb,newT,none,rb,.slice none 0 0,.slice none 0 0,po,pc⟩:=by
 refine ⟨hV,⟨hR,hW,by simp [Value.ownBlock]⟩,tmay_new,rw_new,hfp,hnum,hc,fun g hg=>?_,fun b o e=>⟨fun hi=>?_,?_⟩⟩
 ·rcases hg with k | k | k | k
  ·exact ⟨by simp only at k ⊢; omega,by simp only at k; omega,by simp only at k; omega,by simp [Value.ownBlock],by simp [Value.ownBlock]⟩
  ·exact ⟨by simp only at k ⊢; omega,by simp only at k; omega,by simp only at k; omega,by simp [Value.ownBlock],by simp [Value.ownBlock]⟩
  ·simp [AO.foot] at k
  ·exact ⟨fun e=>h1.2.2 (by simp only at e; rw [← e]; exact k),(h3 g k).1,(h3 g k).2,by simp [Value.ownBlock],by simp [Value.ownBlock]⟩
 ·have:=h5 b o e
  rcases hi with k | k | k | k
  ·simp only at k; omega
  ·simp only at k; omega
  ·simp [AO.foot] at k
  ·have:=h4.2.2.2.2.2 b k; omega
 ·have:=h5 b o e
  simp only
  omega
section
variable (w:World) (p0:Option Addr) (zs:List Int) (c0:Nat) (c:Int) (pp:Option Addr) (l:List PD) (cp:Nat) (pq:Option Addr) (ks:List Int) (cq:Nat)
set_option maxHeartbeats 2000000 in
theorem plays_no_row (n0:Nat) (hn:n0<1∨65536<n0) (hm:n0≤maxLen) (pk ps:Value) (hc:0≤c∧c<18446744073709551616) :
  Calls Tryz.prog 3 #[.agg #[.slice p0 n0 c0,.int .u64 c,ps,pk]] w fun e w'=>e=.returned (.bool true)∧Upd [] w w':=by
 obtain ⟨W1,hW1⟩:∃ W,w.alloc (.cells #[.slice p0 n0 c0,.int .u64 c,ps,pk] 27)=W:=⟨_,rfl⟩
 have u1:Upd [] w W1:=by rw [← hW1]; exact (Upd.refl [] _).alloc _
 have B1:Blk W1 w.heap.size [.slice p0 n0 c0,.int .u64 c,ps,pk] 27:=by rw [← hW1]; exact Blk.new w _ _
 have q0:=B1.cell 0 rfl
 have q1:=B1.cell 1 rfl
 have U1:=Lib.hid u1
 have HB:=Lib.hid B1
 clear u1 B1
 unfold maxLen at hm
 refine calls_all fun K hK=>?_
 go_enter Tryz.func3,Tryz.ntmps3
 go_wp2_with fail
 refine (of_bad p0 n0 c0 W1 hn (by unfold maxLen; omega)).mono ?_
 rintro e W2 ⟨rfl,rfl⟩
 go_wp2_with fail
 refine (clkFrom c W1).mono ?_
 rintro e W3 ⟨ca,cr,cb,rfl,_,_,_,_,u3⟩
 have q0':=(HB.out.upd u3 (by simp)).cell 0 rfl
 have HU:=Lib.hid (U1.out.trans u3)
 clear u3 U1 HB q0 q1 hW1
 rcases hn with h1 | h1
 ·obtain rfl:n0=0:=by omega
  go_wp2_with (go_at_call 8; refine (works11_code _).mono ?_; rintro e W4 ⟨rfl,u4⟩)
  exact ⟨rfl,HU.out.trans u4⟩
 ·have d1:((n0:Int) == 0)=false:=beq_eq_false_iff_ne.2 (by omega)
  have d2:decide (65536<(n0:Int))=true:=decide_eq_true (by omega)
  have d3:decide (65536<n0)=true:=decide_eq_true (by omega)
  go_wp2_with (go_at_call 8; refine (works11_code _).mono ?_; rintro e W4 ⟨rfl,u4⟩)
  exact ⟨rfl,HU.out.trans u4⟩
set_option maxHeartbeats 4000000 in
theorem plays_good (hZ:SlI w .u64 p0 zs) (HZ:RowKit.Hid (∀ v ∈ zs,0≤v∧v<18446744073709551616)) (hz1:1≤zs.length) (hz2:zs.length≤65536) (hP:Progs w pp l) (hlm:l.length≤maxLen) (hc:0≤c∧c<18446744073709551616) (hQ:SlI w .u32 pq ks) (HQ:RowKit.Hid (∀ v ∈ ks,0≤v∧v<4294967296)) (hqm:ks.length≤maxLen) (hlu:l.length≤1048576) (hku:ks.length≤1048576) :
  Calls Tryz.prog 3 #[.agg #[.slice p0 zs.length c0,.int .u64 c,.slice pp l.length cp,.slice pq ks.length cq]] w fun e w'=>e=.returned (.bool true)∧Upd [] w w':=by
 obtain ⟨W1,hW1⟩:∃ W,w.alloc (.cells #[.slice p0 zs.length c0,.int .u64 c,.slice pp l.length cp,.slice pq ks.length cq] 27)=W:=⟨_,rfl⟩
 have u1:Upd [] w W1:=by rw [← hW1]; exact (Upd.refl [] _).alloc _
 have B1:Blk W1 w.heap.size [.slice p0 zs.length c0,.int .u64 c,.slice pp l.length cp,.slice pq ks.length cq] 27:=by rw [← hW1]; exact Blk.new w _ _
 obtain ⟨kb,hkb⟩:∃ b,w.heap.size=b:=⟨_,rfl⟩
 rw [hkb] at B1
 have q0:=B1.cell 0 rfl
 have q1:=B1.cell 1 rfl
 have U1:=Lib.hid u1
 have HB:=Lib.hid B1
 have HZ1:=Lib.hid (hZ.upd u1 (by simp))
 have hZ1:=HZ1.out
 have HP:=Lib.hid (hP.upd u1)
 have HQ1:=Lib.hid (hQ.upd u1 (by simp))
 have HBL:=Lib.hid B1.lt
 have HBW:=Lib.hid B1
 clear u1 B1 hZ hP hQ
 unfold maxLen at hlm hqm
 refine calls_all fun K hK=>?_
 go_enter Tryz.func3,Tryz.ntmps3
 go_wp2_with fail
 refine (of_ok p0 c0 zs W1 hZ1 hz1 hz2).mono ?_
 rintro e W2 ⟨ra,rb,rfl,hR,hra,hrb,u2⟩
 have q0':=(HB.out.upd u2 (by simp)).cell 0 rfl
 have q1':=(HB.out.upd u2 (by simp)).cell 1 rfl
 go_wp2_with fail
 refine (clkFrom c W2).mono ?_
 rintro e W3 ⟨ca,cr,cb,rfl,hC,k1,k2,k3,u3⟩
 have hs2:=u2.size
 have hla:=hR.lta
 have hlb:=hR.ltb
 have hX:SX.At ⟨ra,rb,ca,cr,cb⟩ W3 ⟨zs,c⟩ 0 0:=⟨hR.upd u3 (by simp) (by simp),hC,⟨by simp only; omega,by simp only; omega,by simp only; omega⟩,⟨by simp only; omega,by simp only; omega,by simp only; omega⟩,⟨HZ.out,hc⟩⟩
 have U2:=Lib.hid (u2.trans u3)
 have HB3:=Lib.hid (HB.out.upd (u2.trans u3) (by simp))
 have hX0:∀ g ∈ SX.foot ⟨ra,rb,ca,cr,cb⟩,W1.heap.size≤g:=by simp [SX.foot]; omega
 clear hR hC u2 u3 k1 k2 k3 hra hrb hs2 HB q0 q1 q0' q1' hZ1 hW1 hla hlb
 generalize hXe:(⟨ra,rb,ca,cr,cb⟩:SX)=X at hX hX0
 obtain rfl:X.ra=ra:=by rw [← hXe]
 obtain rfl:X.ca=ca:=by rw [← hXe]
 clear hXe
 have E1:∀ w,(binOp .eql 28 (.pointer (some ⟨X.ra,0,none⟩)) (.pointer none)).run Tryz.prog w=.ok (.bool false) w:=fun w=>by kernel_rfl
 have E2:∀ w,(binOp .eql 32 (.pointer (some ⟨X.ca,0,none⟩)) (.pointer none)).run Tryz.prog w=.ok (.bool false) w:=fun w=>by kernel_rfl
 go_wp2_with fail
 refine (num11_code _ _).mono ?_
 rintro e w8 ⟨rfl,rfl⟩
 go_upto_region 5 with (fail)
 have hkb0:=HB3.out
 have s0:=hkb0.cell 0 rfl
 have s1:=hkb0.cell 1 rfl
 refine wp_region_br (fun w'=>w'.cell? ⟨kb,0,none⟩=some (.slice p0 zs.length c0)∧w'.cell? ⟨kb,1,none⟩=some (.int .u64 c)) [1,2,4,5,0,3,6,7,8] (by kernel_rfl) (by kernel_rfl) ⟨s0,s1⟩ ?_
 have ud:Upd [] W3 W3.drew:=(Upd.refl [] _).drew
 obtain ⟨W4,hW4⟩:∃ W,W3.drew=W:=⟨_,rfl⟩
 rw [hW4] at ud ⊢
 have HSU:=Lib.hid (show ∀ w',Upd [] W4 w' → w'.cell? ⟨kb,0,none⟩=some (.slice p0 zs.length c0)∧w'.cell? ⟨kb,1,none⟩=some (.int .u64 c) from fun w' u=>⟨(ud.trans u).cell (by simp) s0,(ud.trans u).cell (by simp) s1⟩)
 repeat
  first
   | (refine wpB_skip rfl (by kernel_rfl) (by rfl) ?_)
   | ((refine wpB_take (v:=?_) rfl rfl (by kernel_rfl) (by rfl) ?_ ?_); rotate_left 1; (· ((intro w hSw; (try dsimp only at hSw); go_simp); try with_reducible rfl)))
  try simp only [Act.put,List.setIfInBounds_toArray,List.set_cons_zero,List.set_cons_succ]
 refine wpB_eff rfl (by kernel_rfl) (by rfl) (fun K2 hK2=>?_)
 go_simp
 have ua:Upd [] W4 (W4.alloc (.cells #[] 23)):=(Upd.refl [] _).alloc _
 refine hK2.out _ _ (HSU.out _ ua) ?_
 clear hK2 K2
 obtain ⟨qb,cq2,sp,W6,hr,hB6,hor,u6⟩:=words0 _ _ (Blk.new W4 [] 23) p0 zs c0 (((HZ1.out.upd U2.out (by simp)).upd ud (by simp)).upd ua (by simp)) hz1 hz2
 have u46:Upd [] W4 W6:=ua.tr (U:=[]) u6 (fun g hg=>by simp at hg) (fun g hg=>by simp at hg; subst hg; exact .inr (Nat.le_refl _))
 try simp only [Act.put,List.setIfInBounds_toArray,List.set_cons_zero,List.set_cons_succ]
 refine wpB_append rfl (by kernel_rfl) (by rfl) (.tmp 51) (.tmp 53) 22 22 rfl _ _ _ rfl rfl hr (HSU.out _ u46) ?_
 try simp only [Act.put,List.setIfInBounds_toArray,List.set_cons_zero,List.set_cons_succ]
 repeat
  first
   | (refine wpB_skip rfl (by kernel_rfl) (by rfl) ?_)
   | ((refine wpB_take (v:=?_) rfl rfl (by kernel_rfl) (by rfl) ?_ ?_); rotate_left 1; (· ((intro w hSw; (try dsimp only at hSw); go_simp); try with_reducible rfl)))
  try simp only [Act.put,List.setIfInBounds_toArray,List.set_cons_zero,List.set_cons_succ]
 refine wpB_eff rfl (by kernel_rfl) (by rfl) (fun K2 hK2=>?_)
 go_simp
 refine hK2.out _ _ (HSU.out _ (u46.alloc _)) ?_
 clear hK2 K2
 repeat
  first
   | (refine wpB_skip rfl (by kernel_rfl) (by rfl) ?_)
   | ((refine wpB_take (v:=?_) rfl rfl (by kernel_rfl) (by rfl) ?_ ?_); rotate_left 1; (· ((intro w hSw; (try dsimp only at hSw); go_simp); try with_reducible rfl)))
  try simp only [Act.put,List.setIfInBounds_toArray,List.set_cons_zero,List.set_cons_succ]
 refine wpB_end (by kernel_rfl) (NoPanic.normal ?_)
 have hB7:Blk (W6.alloc (.cells #[.slice (some ⟨qb,0,none⟩) zs.length cq2,.int .u64 c] 38)) W6.heap.size [.slice (some ⟨qb,0,none⟩) zs.length cq2,.int .u64 c] 38:=Blk.new _ _ _
 have hB67:=hB6.upd (show Upd [] W6 (W6.alloc (.cells #[.slice (some ⟨qb,0,none⟩) zs.length cq2,.int .u64 c] 38)) from (Upd.refl [] _).alloc _) (by simp)
 have u47:=u46.alloc (.cells #[.slice (some ⟨qb,0,none⟩) zs.length cq2,.int .u64 c] 38)
 obtain ⟨W7,hW7⟩:∃ W,W6.alloc (.cells #[.slice (some ⟨qb,0,none⟩) zs.length cq2,.int .u64 c] 38)=W:=⟨_,rfl⟩
 rw [hW7] at hB7 hB67 u47 ⊢
 obtain ⟨wb,hwb⟩:∃ b,W6.heap.size=b:=⟨_,rfl⟩
 rw [hwb] at hB7 ⊢
 have hs24:W1.heap.size≤W4.heap.size:=Nat.le_trans U2.out.size ud.size
 have hs46:=u46.size
 have hszq:W4.heap.size≤qb:=by
  rcases hor with e | e
  ·omega
  ·rw [e,World.size_alloc]; omega
 have hXl:=(hX.upd ud (by simp)).lt
 have hX7:=(hX.upd ud (by simp)).upd u47 (by simp)
 have hT0:Ths W1 X wb qb [] ⟨zs,c⟩ 0 0 W7:=⟨fun i θ h=>by simp at h,fun i j θ η h=>by simp at h,fun θ h=>by simp at h,fun θ h=>by simp at h,hX7,⟨⟨cq2,hB7⟩,⟨sp,hB67⟩,⟨HZ.out,hc⟩,hz2⟩,⟨fun g hg=>⟨hX0 g hg,by have:=hXl g hg; omega,by have:=hXl g hg; omega⟩,by omega,by omega⟩,U2.out.trans (ud.trans u47)⟩
 have hL0:PLs W1 X wb qb [] (.slice none 0 0) (.slice none 0 0) (.slice none 0 0) W7:=⟨⟨rfl,.inl ⟨rfl,rfl⟩⟩,⟨rfl,.inl ⟨rfl,rfl⟩⟩,⟨rfl,.inl ⟨rfl,rfl⟩⟩,fun g hg=>by simp [Value.ownBlock] at hg,fun g=>by simp [Value.ownBlock]⟩
 have HB7:=Lib.hid (HB3.out.upd (ud.trans u47) (by simp))
 have HT0:=Lib.hid hT0
 have HL0:=Lib.hid hL0
 clear hT0 hL0 hX7 hXl hszq hs46 hs24 hwb hW7 u47 hB67 hB7 hr hB6 hor u6 u46 ua HSU ud hW4 s0 s1 hkb0 hX hX0 U2 HB3
 have HKB:=Lib.hid (show kb<W1.heap.size from HBL.out)
 go_wp2_with fail
 go_loopw [7,8,9,10] (fun v7 v8 v9 v10 wr=>∃ (i:Nat) (θs:List Thr),i≤l.length∧v10=.int .i64 i∧θs.length≤i∧Ths W1 X wb qb θs ⟨zs,c⟩ 0 0 wr∧PLs W1 X wb qb θs v7 v8 v9 wr) (fun _ _ _ v10 _=>l.length - (intOf v10).toNat)
 case atStart=>exact ⟨0,[],by omega,rfl,by simp,HT0.out,HL0.out⟩
 case round =>
  obtain ⟨i,θs,hi,rfl,hθ,hT,hL⟩:=hrel
  obtain ⟨wo,rfl⟩:∃ wo,wo=wr:=⟨_,rfl⟩
  have hbr:=HBW.out.upd hT.u (by simp)
  have s2:=hbr.cell 2 rfl
  obtain ⟨p7,q7,e7⟩:=own_form hL.o
  obtain ⟨p8,q8,e8⟩:=own_form hL.r
  obtain ⟨p9,q9,e9⟩:=own_form hL.c
  subst e7
  subst e8
  subst e9
  have HT:=Lib.hid hT
  have HL:=Lib.hid hL
  by_cases hlt:i<l.length
  ·obtain ⟨d,hd⟩:∃ d,l[i]? = some d:=⟨_,List.getElem?_eq_getElem hlt⟩
   have hPi:=HP.out.upd hT.u
   obtain ⟨bp,op,hpe,cI⟩:=hPi.cell i d hd
   have hdA:=hPi.at_ d (List.mem_of_getElem? hd)
   have HDP:=Lib.hid (show ∀ b o,d.po=some ⟨b,o,none⟩ → d.p≠[] → b<W1.heap.size from fun b o e hne=>by
    obtain ⟨x,hx⟩:∃ x,d.p[0]? = some x:=⟨_,List.getElem?_eq_getElem (List.length_pos_iff.2 hne)⟩
    obtain ⟨b3,o3,e3,c3,_⟩:=(HP.out.at_ d (List.mem_of_getElem? hd)).code 0 x hx
    rw [e] at e3
    cases e3
    exact World.block_lt_of_cell? _ _ c3)
   have hlt':(i:Int)<(l.length:Int):=by omega
   have hdl:d.p.length≤4611686018427387904:=by have:=hdA.len; omega
   rw [hpe] at s2
   have HPE:=Lib.hid hpe
   have HDA:=Lib.hid hdA
   have HBR:=Lib.hid hbr
   have HCI:=Lib.hid cI
   have HD:=Lib.hid hd
   clear hpe hdA hT hL hbr hPi hd
   rw [show l.length=l.length from rfl]
   go_wp2_with fail
   refine (lend_code wo d.po d.cap d.p HDA.out.code HDA.out.len).mono ?_
   rintro e Wa ⟨g,c2,sp,rfl,hg,hc2,hBg,ua⟩
   go_wp2_with fail
   have hnw:=new_code (cap:=c2) (HT.out.xa.upd ua (by simp)) (code_of_blk hBg) hdl
   refine hnw.mono ?_
   rintro e Wb ⟨hn1,hn2⟩
   clear hnw
   cases hf:formedP d.p with
   | false =>
    obtain ⟨rfl,ub⟩:=hn2 hf
    clear hn1 hn2
    have uab:=ua.trans ub
    have s2b:=uab.cell (by simp) s2
    have cIb:=uab.cell (by simp) cI
    have hfr:=rformed_prog Wb d.po d.cap d.p (HDA.out.code.upd0 uab) hdl
    rw [hf] at hfr
    have HFR:=Lib.hid hfr
    have HUAB:=Lib.hid uab
    have E3:∀ w,(binOp .neq 43 (.pointer none) (.pointer none)).run Tryz.prog w=.ok (.bool false) w:=fun w=>by kernel_rfl
    clear hfr ua ub s2 cI hBg hf uab
    go_wp2_with fail
    refine HFR.out.mono ?_
    rintro e Wc ⟨rfl,uc⟩
    have uac:=HUAB.out.trans uc
    go_wp2_with (go_at_call 7; refine (num11_code _ _).mono ?_; rintro e w' ⟨rfl,rfl⟩)
    go_roundw
    case rel=>exact ⟨i+1,θs,by omega,by go_num,by omega,HT.out.upd0 uac,HL.out.upd0 uac⟩
    case measure=>simp [intOf]; omega
   | true =>
    obtain ⟨tb,pb,cap2,rfl,hV,htb,hpb,ub⟩:=hn1 hf
    clear hn1 hn2
    have uab:=ua.trans ub
    have s2b:=uab.cell (by simp) s2
    have cIb:=uab.cell (by simp) cI
    have hfr:=rformed_prog Wb d.po d.cap d.p (HDA.out.code.upd0 uab) hdl
    rw [hf] at hfr
    have HFR:=Lib.hid hfr
    have HUAB:=Lib.hid uab
    have HV:=Lib.hid hV
    have HF:=Lib.hid hf
    have hBb:=hBg.upd ub (by simp)
    have HBG:=Lib.hid hBb
    have hsa:=ua.size
    have HSA:=Lib.hid hsa
    have HNW:=Lib.hid (show wo.heap.size≤g∧Wa.heap.size≤tb∧Wa.heap.size≤pb∧g<Wa.heap.size from ⟨hg,htb,hpb,hBg.lt⟩)
    have E3:∀ w,(binOp .eql 43 (.pointer (some ⟨tb,0,none⟩)) (.pointer none)).run Tryz.prog w=.ok (.bool false) w:=fun w=>by kernel_rfl
    clear hfr ua ub s2 cI hBg hf uab hV htb hpb hg hBb hsa
    go_wp2_with fail
    refine HFR.out.mono ?_
    rintro e Wc ⟨rfl,uc⟩
    have s2c:=uc.cell (by simp) s2b
    have cIc:=uc.cell (by simp) cIb
    have hsm:=same_prog Wc (some ⟨g,0,none⟩) d.po c2 d.cap d.p (code_of_blk (HBG.out.upd uc (by simp))) (HDA.out.code.upd0 (HUAB.out.trans uc)) hdl
    have HSM:=Lib.hid hsm
    have HUAC:=Lib.hid (HUAB.out.trans uc)
    have HVc:=Lib.hid (HV.out.upd0 uc)
    have HBc:=Lib.hid (HBG.out.upd uc (by simp))
    have HC2:=Lib.hid hc2
    clear hc2
    have hw1:wrap64 ((d.p.length:Int)+1)=(d.p.length:Int)+1:=by unfold wrap64; omega
    clear hsm uc s2b cIb HFR HUAB HV HBG
    go_wp2_with (go_at_call 7; refine (num11_code _ _).mono ?_; rintro e w' ⟨rfl,rfl⟩)
    refine HSM.out.mono ?_
    rintro e Wd ⟨rfl,ue⟩
    have HUAD:=Lib.hid (HUAC.out.trans ue)
    have HVd:=Lib.hid (HVc.out.upd0 ue)
    have hBd:=HBc.out.upd ue (by simp)
    have HBd:=Lib.hid hBd
    have c77:Wd.cell? ⟨g,d.p.length*5,none⟩=some (.int .i64 77):=hBd.cell _ (by rw [List.getElem?_append_right (by rw [codeV_len]; omega),codeV_len,Nat.sub_self]; rfl)
    clear hBd ue s2c cIc HUAC HVc HBc HSM
    go_upto_region 19 with (fail)
    all_goals try (exfalso; have h2:=HC2.out; clear hw1; omega)
    clear hw1 c77 E3
    go_wp2_with fail
    go_loopw [14] (fun v14 wr2=>∃ (k:Nat) (vs:List Value),k≤d.p.length∧v14=.int .i64 k∧Upd [g] Wd wr2∧Blk wr2 g vs 50∧d.p.length*5≤vs.length) (fun v14 _=>d.p.length - (intOf v14).toNat)
    case atStart=>exact ⟨0,_,by omega,rfl,Upd.refl _ _,HBd.out,by rw [List.length_append,codeV_len]; omega⟩
    case round =>
     obtain ⟨k,vs,hk,rfl,hu2,hB2,hvl⟩:=hrel
     by_cases hkl:k<d.p.length
     ·have hk':(k:Int)<(d.p.length:Int):=by omega
      have x0:=hB2.cell (k*5) (List.getElem?_eq_getElem (by omega))
      have x1:=hB2.cell (k*5+1) (List.getElem?_eq_getElem (by omega))
      have x2:=hB2.cell (k*5+2) (List.getElem?_eq_getElem (by omega))
      have x3:=hB2.cell (k*5+3) (List.getElem?_eq_getElem (by omega))
      have x4:=hB2.cell (k*5+4) (List.getElem?_eq_getElem (by omega))
      have f0:=hB2.free (k*5)
      have f1:=hB2.free (k*5+1)
      have f2:=hB2.free (k*5+2)
      have f3:=hB2.free (k*5+3)
      have f4:=hB2.free (k*5+4)
      have HSET:=Lib.hid (((((hB2.set (k*5) (.int .i64 0)).set (k*5+1) (.int .i64 0)).set (k*5+2) (.int .i64 0)).set (k*5+3) (.int .i64 0)).set (k*5+4) (.int .u64 0))
      have HU2:=Lib.hid (((((hu2.setCell (p:=⟨g,k*5,none⟩) (.inl (by simp)) (.int .i64 0)).setCell (p:=⟨g,k*5+1,none⟩) (.inl (by simp)) (.int .i64 0)).setCell (p:=⟨g,k*5+2,none⟩) (.inl (by simp)) (.int .i64 0)).setCell (p:=⟨g,k*5+3,none⟩) (.inl (by simp)) (.int .i64 0)).setCell (p:=⟨g,k*5+4,none⟩) (.inl (by simp)) (.int .u64 0))
      clear hB2 hu2
      go_wp2_with fail
      go_roundw
      case rel=>exact ⟨k+1,_,by omega,by go_num,HU2.out,HSET.out,by simp only [List.length_set]; omega⟩
      case measure=>simp [intOf]; omega
     ·obtain rfl:k=d.p.length:=by omega
      have HU2:=Lib.hid hu2
      clear hB2 hvl hu2 hkl hk
      obtain ⟨N,hN⟩:∃ N,newT.rt.cells (.slice none 0 0) (.slice none 0 0)=N:=⟨_,rfl⟩
      have hv:newT.rt.val (.slice none 0 0) (.slice none 0 0)=.agg N.toArray:=by rw [← hN]; rfl
      have hl:N.length=31:=by rw [← hN]; exact rcells_len rfl rfl _ _
      have h1:N.toArray.all (·.oneCell')=true:=all_oneCell_toArray (by rw [← hN]; exact rcells_one rfl rfl rfl rfl)
      have HN:=Lib.hid hN
      clear hN
      go_wp2_with fail
      refine (xnew _).mono ?_
      rintro e We ⟨rfl,ux⟩
      rw [hv]
      clear hv
      obtain ⟨Wf,hWf⟩:∃ W,We.alloc (.cells zero31 58)=W:=⟨_,rfl⟩
      have uf:Upd [] We Wf:=by rw [← hWf]; exact (Upd.refl [] _).alloc _
      have BF:Blk Wf We.heap.size zero31.toList 58:=by rw [← hWf]; exact Blk.new We zero31.toList 58
      obtain ⟨rb,hrb⟩:∃ b,We.heap.size=b:=⟨_,rfl⟩
      rw [hrb] at BF
      have HTH:=Lib.hid (BF.there 0 31 (by simp [zero31]))
      have hszd:=HU2.out.size
      have hxe:=ux.size
      have HRB:=Lib.hid (show wr.heap.size≤rb from by omega)
      have hwrd:=HUAD.out.size
      have HWR:=Lib.hid (show Wd.heap.size≤rb from by omega)
      have HUF:=Lib.hid (HU2.out.trans ((ux.trans uf).mono (by simp)))
      have HBF:=Lib.hid BF
      simp only [zero31] at hWf
      clear ux uf BF HU2
      go_upto_region 24 with (first
       | ((with_reducible refine wpList_store_mid (op:=⟨none,.store 58 (.tmp 15) (.tmp 133),_,_,_,_⟩) rfl 58 _ _ rfl rb 0 N.toArray ?_ ?_ (by simpa [hl] using HTH.out) (by simp only [List.size_toArray,hl]; kernel_rfl) h1 ?_); (· rfl); (· rfl)))
      obtain ⟨Wg,hWg⟩:∃ W,Wf.setCells rb 0 N=W:=⟨_,rfl⟩
      rw [show Wf.setCells rb 0 N.toArray.toList=Wg from hWg]
      have ug:Upd [rb] Wf Wg:=by rw [← hWg]; exact Upd.rows _ 0 (Upd.refl _ _) (.inl (by simp))
      have BG:Blk Wg rb N 58:=by
       have:=Blk.rows N 0 HBF.out (by rw [hl]; simp [zero31])
       rw [hWg] at this
       have e:rowSet zero31.toList 0 N=N:=by
        unfold rowSet
        rw [List.take_zero,List.nil_append,List.drop_eq_nil_of_le (by rw [hl]; simp [zero31]),List.append_nil]
       rwa [e] at this
      have hRB:RB Wg rb newT.rt (.slice none 0 0) (.slice none 0 0):=⟨by rw [HN.out]; exact BG,SlC.nil _,SlC.nil _,rfl,rfl,by simp [Value.ownBlock]⟩
      have hnw:=HNW.out
      have huWg:Upd [] wo Wg:=(HUAD.out.tr (U:=[]) HUF.out (fun q hq=>by simp at hq) (fun q hq=>by simp at hq; subst hq; exact .inr hnw.1)).tr (U:=[]) ug (fun q hq=>by simp at hq) (fun q hq=>by simp at hq; subst hq; exact .inr (by have:=HWR.out; have:=HUAD.out.size; omega))
      have hTg:=HT.out.upd0 huWg
      have hLg:=HL.out.upd0 huWg
      have hsw:=HUAD.out.size
      have hwr:=HWR.out
      have hXlt:=HT.out.xa.lt
      have hWlt:=HT.out.wo.lt
      have hw0:=HT.out.u.size
      have htpl:tb<Wd.heap.size∧pb<Wd.heap.size:=⟨HVd.out.lt (.inl rfl),HVd.out.lt (.inr (.inl rfl))⟩
      have hsaw:wo.heap.size≤Wa.heap.size:=HSA.out
      have hVg:TV Wg X ⟨zs,c⟩ 0 0 d.p pb cap2 tb newT none:=(HVd.out.updn HUF.out (fun q hq hi=>by
       simp at hq
       subst hq
       rcases hi with k | k | k | k
       ·omega
       ·omega
       ·simp [AO.foot] at k
       ·have:=hXlt _ k; omega)).updn ug (fun q hq hi=>by
       simp at hq
       subst hq
       rcases hi with k | k | k | k
       ·omega
       ·omega
       ·simp [AO.foot] at k
       ·have:=hXlt _ k; omega)
      have hbs:=HT.out.base
      have hne:d.p≠[]:=fun e=>by have:=formedP_len HF.out; rw [e] at this; simp at this
      have hθn:=th_new (w0:=W1) (pc:=d.cap) hVg hRB hTg.wo ((HDA.out.code).upd0 huWg) HF.out HDA.out.num ⟨by omega,by omega,fun k=>by have:=hXlt _ k; omega⟩ ⟨by omega,by omega,by omega,by omega⟩ (fun q hq=>(hbs.1 q hq).2) ⟨by omega,by omega,by omega,hbs.2.1,hbs.2.2,fun q hq=>(hbs.1 q hq).1⟩ (fun b o e=>HDP.out b o e hne)
      obtain ⟨v7,Wh,v8,Wi,v9,Wj,r7,r8,r9,uh,ui,hTj,hLj⟩:=push3 hLg hTg hθn (fun q hq=>by
       have hq':wo.heap.size≤q:=by
        rcases hq with k | k | k | k | k | k
        ·simp only at k; omega
        ·simp only at k; omega
        ·simp [AO.foot] at k
        ·simp only at k; omega
        ·simp [Value.ownBlock] at k
        ·simp [Value.ownBlock] at k
       refine ⟨by omega,fun η hη hi=>?_,fun e=>?_,fun e=>?_,fun e=>?_⟩
       ·obtain ⟨i9,hi9⟩:=List.getElem?_of_mem hη
        have:=HT.out.mine_lt hi9 hi
        omega
       ·have:=(HL.out.ap q (.inl e)).2; omega
       ·have:=(HL.out.ap q (.inr (.inl e))).2; omega
       ·have:=(HL.out.ap q (.inr (.inr e))).2; omega) (fun b o e=>HDP.out b o e hne) (by omega)
      dsimp only at r7 r8 r9
      have s2i:=(HBW.out.upd ui (by simp)).cell 2 rfl
      rw [HPE.out] at s2i
      obtain ⟨b9,o9,e9,cIi⟩:=(HP.out.upd ui).cell i d HD.out
      rw [HPE.out] at e9
      cases e9
      have HTJ:=Lib.hid hTj
      have HLJ:=Lib.hid hLj
      have HLEN:=Lib.hid (show θs.length+1≤i+1 from by omega)
      clear hWf hrb ug BG hRB hnw huWg hTg hLg hsw hwr hXlt hWlt hw0 htpl hsaw hVg hbs hne hθn uh ui hTj hLj hxe hszd hwrd
      go_wp2_with (first
       | (at_builtin; refine wpList_append_eq rfl _ _ _ _ rfl _ _ _ rfl rfl r7 ?_)
       | (at_builtin; refine wpList_append_eq rfl _ _ _ _ rfl _ _ _ rfl rfl r8 ?_)
       | (at_builtin; refine wpList_append_eq rfl _ _ _ _ rfl _ _ _ rfl rfl r9 ?_))
      go_roundw
      case rel=>exact ⟨i+1,_,by omega,by go_num,by rw [List.length_append]; exact HLEN.out,HTJ.out,HLJ.out⟩
      case measure=>simp [intOf]; omega
  ·obtain rfl:i=l.length:=by omega
   have hθl:θs.length≤1048576:=by omega
   clear hlt hbr hT hL hi
   go_wp2_with fail
   clear s2
   go_loopw [16] (fun v16 wr=>∃ (k:Nat) (ηs:List Thr) (sh:Sh) (acc st:Int),k≤ks.length∧v16=.int .i64 k∧ηs.length=θs.length∧(0≤acc∧0≤st∧acc+st≤2*(k:Int))∧Ths W1 X wb qb ηs sh acc st wr∧PLs W1 X wb qb ηs (.slice p7 θs.length q7) (.slice p8 θs.length q8) (.slice p9 θs.length q9) wr) (fun v16 _=>ks.length - (intOf v16).toNat)
   case atStart=>exact ⟨0,θs,⟨zs,c⟩,0,0,by omega,rfl,rfl,by omega,HT.out,HL.out⟩
   case round =>
    obtain ⟨k,ηs,sh,acc,st,hk,rfl,hlen,hcnt,hT2,hL2⟩:=hrel
    have s3:=(HBW.out.upd hT2.u (by simp)).cell 3 rfl
    have HT2:=Lib.hid hT2
    have HL2:=Lib.hid hL2
    have HCN:=Lib.hid hcnt
    have HLN:=Lib.hid hlen
    clear hT2 hL2 hcnt hlen
    by_cases hk2:k<ks.length
    ·have hk3:(k:Int)<(ks.length:Int):=by omega
     by_cases h0:θs.length=0
     ·have d0:decide (0<(θs.length:Int))=false:=decide_eq_false (by omega)
      have d1:decide (0<θs.length)=false:=decide_eq_false (by omega)
      have H0:=Lib.hid h0
      clear h0
      go_wp2_with (go_at_call 15; refine (nothing_code _ _ _).mono ?_; rintro e W40 ⟨rfl,u40⟩)
      refine (works11_code _).mono ?_
      rintro e W41 ⟨rfl,u41⟩
      go_wp2_with fail
      all_goals exact ⟨rfl,U1.out.trans ((HT2.out).u.trans (u40.trans u41))⟩
     ·have d0:decide (0<(θs.length:Int))=true:=decide_eq_true (by omega)
      have d1:decide (0<θs.length)=true:=decide_eq_true (by omega)
      have hne:(θs.length:Int)≠0:=by omega
      have hksn:ks≠[]:=fun e=>by rw [e] at hk2; simp at hk2
      obtain ⟨qb2,qo2,hqe⟩:=HQ1.out.ne hksn
      have cq0:=HQ1.out.cells qb2 qo2 hqe k hk2
      have cq1:=HT2.out.u.cell (by simp) cq0
      have hxb:=HQ.out (wd ks k) (by rw [wd_get hk2]; exact List.getElem_mem _)
      rw [hqe] at s3
      obtain ⟨x,hx⟩:∃ x,wd ks k=x:=⟨_,rfl⟩
      rw [hx] at cq1 hxb
      have hul:IntKind.u32.wrap (θs.length:Int)=θs.length:=by rw [IntKind.wrap_u32]; omega
      obtain ⟨n,hn⟩:∃ n:Nat,x % (θs.length:Int)=n:=⟨(x % (θs.length:Int)).toNat,by have:=Int.emod_nonneg x hne; omega⟩
      have hnl:n<θs.length:=by have:=Int.emod_lt_of_pos x (show (0:Int)<(θs.length:Int) by omega); omega
      have hnli:(n:Int)<(θs.length:Int):=by omega
      have hnη:n<ηs.length:=by have:=HLN.out; omega
      have hwn:wrap64 (x % (θs.length:Int))=(n:Int):=by rw [hn]; unfold wrap64; omega
      clear hx cq0 hqe hn
      go_upto_region 31 with (fail)
      rw [hwn]
      clear hwn
      obtain ⟨θ,hθ2⟩:∃ θ,ηs[n]? = some θ:=⟨_,List.getElem?_eq_getElem hnη⟩
      obtain ⟨g7,k7,e7,z7⟩:=row_get HL2.out.o (i:=n) (x:=θ.own) (by rw [List.getElem?_map,hθ2]; rfl)
      obtain ⟨g8,k8,e8,z8⟩:=row_get HL2.out.r (i:=n) (x:=θ.ref) (by rw [List.getElem?_map,hθ2]; rfl)
      obtain ⟨g9,k9,e9,z9⟩:=row_get HL2.out.c (i:=n) (x:=θ.code) (by rw [List.getElem?_map,hθ2]; rfl)
      injection e7 with e7a e7b e7c
      injection e8 with e8a e8b e8c
      injection e9 with e9a e9b e9c
      subst e7a
      subst e8a
      subst e9a
      clear e7b e7c e8b e8c e9b e9c
      replace z7:wr.cell? ⟨g7,n,none⟩=some (.pointer (some ⟨θ.tb,0,none⟩)):=z7
      replace z8:wr.cell? ⟨g8,n,none⟩=some (.pointer (some ⟨θ.rb,0,none⟩)):=z8
      replace z9:wr.cell? ⟨g9,n,none⟩=some (.slice θ.po θ.p.length θ.pc):=z9
      have hTH:=HT2.out.th n θ hθ2
      have hup:Upd [] wr wr.drew:=(Upd.refl [] _).drew
      have hst:=lstep (hTH.upd0 hup) (by have:=HCN.out; omega)
      have HST:=Lib.hid hst
      have HUP:=Lib.hid hup
      have HTH2:=Lib.hid hθ2
      refine wp_region_br (fun w'=>w'.cell? ⟨g7,n,none⟩=some (.pointer (some ⟨θ.tb,0,none⟩))∧w'.cell? ⟨g8,n,none⟩=some (.pointer (some ⟨θ.rb,0,none⟩))∧w'.cell? ⟨g9,n,none⟩=some (.slice θ.po θ.p.length θ.pc)) [0,1,2,3,4,5,6,7,8,9,10,11,12,13,14,15,16] (by kernel_rfl) (by kernel_rfl) ⟨hup.cell (by simp) z7,hup.cell (by simp) z8,hup.cell (by simp) z9⟩ ?_
      clear hst hup hTH
      obtain ⟨WD,hWD⟩:∃ W,wr.drew=W:=⟨_,rfl⟩
      rw [hWD] at HST HUP ⊢
      clear hWD
      repeat
       first
        | (refine wpB_skip rfl (by kernel_rfl) (by rfl) ?_)
        | ((refine wpB_take (v:=?_) rfl rfl (by kernel_rfl) (by rfl) ?_ ?_); rotate_left 1; (· ((intro w hSw; (try dsimp only at hSw); go_simp); try with_reducible rfl)))
       try simp only [Act.put,List.setIfInBounds_toArray,List.set_cons_zero,List.set_cons_succ]
      refine wpB_eff rfl (by kernel_rfl) (by rfl) (fun K2 hK2=>?_)
      go_simp
      refine HST.out.mono ?_
      rintro e W20 ⟨rfl,o2,rv2,wv2,acc2,st2,hTH2,u20,hm20,hc20⟩
      have hTn:=(HT2.out.upd0 HUP.out).step HTH2.out hTH2 u20 hm20 rfl
      have hLn:=(HL2.out.upd0 HUP.out).step HTH2.out u20 hm20 rfl rfl rfl
      refine hK2.out _ _ ?_ ?_
      ·obtain ⟨a7,b7,e7,y7⟩:=row_get hLn.o (i:=n) (x:=θ.own) (by rw [List.getElem?_map,List.getElem?_set_self hnη]; rfl)
       obtain ⟨a8,b8,e8,y8⟩:=row_get hLn.r (i:=n) (x:=θ.ref) (by rw [List.getElem?_map,List.getElem?_set_self hnη]; rfl)
       obtain ⟨a9,b9,e9,y9⟩:=row_get hLn.c (i:=n) (x:=θ.code) (by rw [List.getElem?_map,List.getElem?_set_self hnη]; rfl)
       injection e7 with e7 _ _
       injection e8 with e8 _ _
       injection e9 with e9 _ _
       injection e7 with e7
       injection e8 with e8
       injection e9 with e9
       injection e7 with e7 _ _
       injection e8 with e8 _ _
       injection e9 with e9 _ _
       subst e7
       subst e8
       subst e9
       exact ⟨y7,y8,y9⟩
      repeat
       first
        | (refine wpB_skip rfl (by kernel_rfl) (by rfl) ?_)
        | ((refine wpB_take (v:=?_) rfl rfl (by kernel_rfl) (by rfl) ?_ ?_); rotate_left 1; (· ((intro w hSw; (try dsimp only at hSw); go_simp); try with_reducible rfl)))
       try simp only [Act.put,List.setIfInBounds_toArray,List.set_cons_zero,List.set_cons_succ]
      refine wpB_end (by kernel_rfl) (NoPanic.normal ?_)
      have HTn:=Lib.hid hTn
      have HLn:=Lib.hid hLn
      have HCn:=Lib.hid hc20
      have HL9:=Lib.hid (show (ηs.set n (θ.next (StepT θ.p θ.t sh).2.1 o2 rv2 wv2)).length=θs.length from by rw [List.length_set]; exact HLN.out)
      clear hK2 K2 hTn hLn hc20 hTH2 u20 hm20 z7 z8 z9
      go_wp2_with fail
      go_roundw
      case rel=>exact ⟨k+1,_,_,_,_,by omega,by go_num,HL9.out,by have h1:=HCn.out; have h2:=HCN.out; omega,HTn.out,HLn.out⟩
      case measure=>simp [intOf]; omega
    ·obtain rfl:k=ks.length:=by omega
     clear hk2
     go_wp2_with (go_at_call 15; refine (nothing_code _ _ _).mono ?_; rintro e W40 ⟨rfl,u40⟩)
     refine (works11_code _).mono ?_
     rintro e W41 ⟨rfl,u41⟩
     go_wp2_with fail
     all_goals exact ⟨rfl,U1.out.trans ((HT2.out).u.trans (u40.trans u41))⟩
end
end Go.Proofs.YtehopaabfoopeaaGreat
set_option linter.unusedSimpArgs false
set_option linter.unusedVariables false
set_option maxRecDepth 100000
namespace Go.Proofs.YtehopaabfoopeaaGreat
open Go.RowKit
theorem plays_walk (w:World) (p0:Option Addr) (zs:List Int) (c0:Nat) (c:Int) (pp:Option Addr) (l:List PD) (cp:Nat) (pq:Option Addr) (ks:List Int) (cq:Nat)
  (hZ:SlI w .u64 p0 zs) (hz:∀ v ∈ zs,0≤v∧v<18446744073709551616) (hzm:zs.length≤maxLen) (hP:Progs w pp l) (hlm:l.length≤maxLen) (hc:0≤c∧c<18446744073709551616) (hQ:SlI w .u32 pq ks) (hq:∀ v ∈ ks,0≤v∧v<4294967296) (hqm:ks.length≤maxLen) (hlu:l.length≤1048576) (hku:ks.length≤1048576) :
  Calls Tryz.prog 3 #[.agg #[.slice p0 zs.length c0,.int .u64 c,.slice pp l.length cp,.slice pq ks.length cq]] w fun e w'=>e=.returned (.bool true)∧Upd [] w w':=by
 by_cases h:1≤zs.length∧zs.length≤65536
 ·exact plays_good w p0 zs c0 c pp l cp pq ks cq hZ (Lib.hid hz) h.1 h.2 hP hlm hc hQ (Lib.hid hq) hqm hlu hku
 ·exact plays_no_row w p0 c0 c zs.length (by omega) hzm _ _ hc
end Go.Proofs.YtehopaabfoopeaaGreat
set_option linter.unusedSimpArgs false
set_option linter.unusedVariables false
set_option maxRecDepth 100000
namespace Go.Proofs.YtehopaabfoopeaaGreat
open Go.ChangeShapes Go.WideShapes Go.ChangeAt Go.RowKit
theorem law_own:ownKnob Tryz.prog.godebug=none:=by kernel_rfl
theorem law_laidOut:laidOutB Tryz.prog=true:=by kernel_rfl
theorem trodAll_below {H:Type} {enc:TypeId × Value → H} {P:Program} (hl:laidOutB P=true) {W W':World} (hB:Below W.heap.size W W') :
  ∀ (ts:List TypeId) (vs:List Value) (ds:List (DataW H)) (ps:List MemPlace),(∀ t ∈ ts,P.readableRec t=true∧t<P.types.size) →
   DataW.TrodAll enc P W 0 (fun _=>true) true ts vs ds ps → (∀ x ∈ ps,x.block<W.heap.size) →
   DataW.TrodAll enc P W' 0 (fun b=>decide (b<W.heap.size)) true ts vs ds ps:=by
 intro ts
 induction ts with
 | nil =>
  intro vs ds ps _ h _
  obtain ⟨rfl,rfl,rfl⟩:=trodAll_nil h
  exact trodAll_mk0
 | cons t ts ih =>
  intro vs ds ps ht h hlt
  obtain ⟨v,vs',d,ds',p,q,rfl,rfl,rfl,hd,hr⟩:=trodAll_cons h
  exact trodAll_cons_mk (Below.trod hl (ht t (by simp)).1 (ht t (by simp)).2 hd hB (fun x hx=>hlt x (by simp [hx]))) (ih vs' ds' q (fun t' h'=>ht t' (by simp [h'])) hr (fun x hx=>hlt x (by simp [hx])))
theorem law_post {H:Type} {enc:TypeId × Value → H} {f:Func} {s:ChangeSpec} {W W':World} {args:Array Value} {ds gs:List (DataW H)} {before:List MemPlace}
  (hres:f.resultTypes = #[4]) (hpar:∀ t ∈ f.params.toList,Tryz.prog.readableRec t=true∧t<Tryz.prog.types.size) (hsv:s.vars=[])
  (hfn:s.fn H (ds ++ gs) = { results:=[.lit (.bool true)],args:=ds })
  (hW:DataW.Whole enc Tryz.prog f.params.toList s.vars false W args.toList ds gs before) (hB:Below W.heap.size W W') :
  s.post enc Tryz.prog f false true false false W args (.bool true) W':=by
 have hW0:=hW
 obtain ⟨p,q,hA,hV,hpq,hfz,hnd⟩:=hW
 have hlt:∀ x ∈ p,x.block<W.heap.size:=fun x hx=>by simpa using hW0.lt x (by rw [hpq]; simp [hx])
 refine ⟨ds,gs,before,[],p,[],hW0,?_,?_,?_,hB.frame _,fun h=>by cases h⟩
 ·rw [hres,hfn]
  exact trodAll_mk1 (shut_bool Tryz.underlying4 true)
 ·rw [hfn]
  exact trodAll_below law_laidOut hB _ _ _ _ hpar hA hlt
 ·rw [hsv,hfn]
  rfl
end Go.Proofs.YtehopaabfoopeaaGreat
set_option linter.unusedSimpArgs false
set_option linter.unusedVariables false
set_option maxRecDepth 100000
namespace Go.Proofs.YtehopaabfoopeaaGreat
open Go.ChangeShapes Go.WideShapes Go.ChangeAt Go.RowKit Go.Deep
section
variable {H:Type} {enc:TypeId × Value → H} {P:Program} {w:World} {base:Nat} {held:Bool}
theorem spot_none {a:Addr} {v:Value} (h:w.cell? a=some v):a.spot=none:=by
 unfold World.cell? at h
 split at h
 ·split at h
  ·cases h
  ·rename_i hs; simpa using hs
 ·cases h
theorem addr_eta {a:Addr} (h:a.spot=none):a=⟨a.block,a.off,none⟩:=by cases a; simp at h; subst h; rfl
structure SlV (w:World) (p:Option Addr) (n:Nat) (V:Nat → Value):Prop where
 ne:0<n → ∃ b o,p=some ⟨b,o,none⟩
 cells:∀ b o,p=some ⟨b,o,none⟩ → ∀ i,i<n → w.cell? ⟨b,o+i,none⟩=some (V i)
theorem open_slice_fields {spare:Nat → Bool} {t e:TypeId} {fs:Array Field} {fuel:Nat} {cs:List Value} {x:DataW H × List MemPlace} (ht:P.underlying t=some (.slice e)) (he:P.underlying e=some (.struct fs))
  (hone:oneCellFields P fs=true) (hC:P.cellsOf e=fs.size) (h:DataW.trod enc P w base spare held fuel t cs=some x) :
  (cs=[.slice none 0 0]∧x=(.nil,[])) ∨
  ∃ (a:Addr) (len cap m:Nat) (D:Nat → DataW H) (Pl:Nat → List MemPlace),cs=[.slice (some a) len cap]∧base≤a.block∧len≤cap∧cap≤maxLen∧m=(if spare a.block then cap else len) ∧
   x=(.slice ((List.range len).map D) ((List.range (m - len)).map fun j=>D (len+j)),MemPlace.row a (m*fs.size) ++ (List.range m).flatMap Pl) ∧
   ∀ i,i<m → ∃ (ys:List (DataW H × List MemPlace)) (n:Nat),D i=.agg (ys.map (·.1))∧Pl i=ys.flatMap (·.2)∧ys.length=fs.size ∧
    ∀ (j:Nat) (f:Field),fs[j]? = some f → ∃ (v:Value) (y:DataW H × List MemPlace),w.cell? (a.add (i*fs.size+j))=some v∧ys[j]? = some y∧DataW.trod enc P w base spare held n f.type [v]=some y:=by
 rcases open_slice ht h with h0 | ⟨a,len,cap,m,n,D,Pl,hcs,hb,hl,hm,hmm,hx,hi⟩
 ·exact .inl h0
 ·refine .inr ⟨a,len,cap,m,D,Pl,hcs,hb,hl,hm,hmm,by rw [hC] at hx; exact hx,fun i him=>?_⟩
  obtain ⟨cs',hc,ht'⟩:=hi i him
  rw [hC] at hc
  obtain ⟨ys,n',hn',hy,hlen,hyl,hf⟩:=DataW.trod_struct he ht'
  obtain ⟨_,hcl,hat⟩:=World.cells?_some hc
  simp only [Prod.mk.injEq] at hy
  refine ⟨ys,n',hy.1,hy.2,hyl,fun j f hj=>?_⟩
  obtain ⟨ho,hk⟩:=hone_of hone j f hj
  have hjl:j<fs.size:=(Array.getElem?_eq_some_iff.1 hj).1
  have hcell:=hat j hjl
  have hv:cs'[j]? = some (cs'[j]'(by omega)):=List.getElem?_eq_getElem (by omega)
  have h1:=hf j f hj
  rw [ho,hk] at h1
  have hone':(cs'.drop j).take 1=[cs'[j]'(by omega)]:=by
   rw [List.drop_eq_getElem_cons (by omega)]
   rfl
  rw [hone'] at h1
  have hys:ys[j]? = some (ys[j]'(by omega)):=List.getElem?_eq_getElem (by omega)
  refine ⟨_,_,?_,hys,h1.trans hys⟩
  rw [← Go.Deep.add_add,hcell,hv]
end
end Go.Proofs.YtehopaabfoopeaaGreat
set_option linter.unusedSimpArgs false
set_option linter.unusedVariables false
set_option maxRecDepth 100000
namespace Go.Proofs.YtehopaabfoopeaaGreat
open Go.RowKit
open Go.ChangeShapes Go.WideShapes Go.ChangeAt Go.Deep
section
variable {H:Type} {enc:TypeId × Value → H} {P:Program} {w:World} {base:Nat} {held:Bool}
def Sized (P:Program) (t:TypeId) (d:DataW H):Prop:=∀ n ∈ d.weights P t,n≤reachBytes
theorem weightsAll_mem {e:TypeId} {l:List (DataW H)} {d:DataW H} (hd:d ∈ l) {n:Nat} (hn:n ∈ d.weights P e):n ∈ DataW.weightsAll P e l:=by
 induction l with
 | nil=>cases hd
 | cons a r ih =>
  simp only [DataW.weightsAll,List.mem_append]
  rcases List.mem_cons.1 hd with rfl | h
  ·exact .inl hn
  ·exact .inr (ih h)
theorem Sized.arg {ts:List TypeId} {ds:List (DataW H)} {j:Nat} {t:TypeId} {d:DataW H} (h:(DataW.weightsEach P ts ds).all (·≤reachBytes)=true) (ht:ts[j]? = some t) (hd:ds[j]? = some d):Sized P t d:=fun n hn=>by
 have:=List.all_eq_true.1 h _ (DataW.weights_mem_each ht hd n hn)
 simpa using this
theorem open_ints_in {t e:TypeId} {k:IntKind} {fuel:Nat} {v:Value} {y:DataW H × List MemPlace} (ht:P.underlying t=some (.slice e)) (he:P.underlying e=some (.int k)) (hc:P.cellsOf e=1)
  (h:DataW.trod enc P w base (fun _=>true) held fuel t [v]=some y) (hs:Sized P t y.1) (n:Nat) (hn:P.bytesOf e=n) :
  ∃ (p:Option Addr) (cap:Nat) (zs:List Int),v=.slice p zs.length cap∧SlI w k p zs∧(∀ n ∈ zs,(Lit.int k n).wf=true)∧zs.length≤cap∧cap≤maxLen∧cap*n≤140737488351232∧(∀ b o,p=some ⟨b,o,none⟩ → zs≠[] → b<w.heap.size):=by
 subst hn
 rcases open_ints ht he hc h with ⟨h0,_⟩ | ⟨a,l,c,zs,hcs,_,hlc,hm,hl,hy,hcell,hwf⟩
 ·simp at h0
  subst h0
  exact ⟨none,0,[],rfl,SlI.nil _ _ _,by simp,by simp,by simp [maxLen],by simp,by simp⟩
 ·simp at hcs
  subst hcs
  simp only [if_true] at hl
  have hlen:(zs.take l).length=l:=by simp; omega
  have hget:∀ i,i<l → wd (zs.take l) i=zs.getD i 0:=by intro i hi; simp [wd,hi]
  have hsp:0<l → a.spot=none:=fun hp=>by
   have:=hcell 0 (by omega)
   rw [show a.add 0=a from rfl] at this
   exact spot_none this
  have hb:c*P.bytesOf e≤140737488351232:=by
   have h1:=hs ((lits (H:=H) k (zs.take l)).length*P.bytesOf e+(lits (H:=H) k (zs.drop l)).length*P.bytesOf e) (by rw [hy]; simp only [DataW.weights,ht,← Nat.add_mul]; exact List.mem_cons_self)
   rw [← Nat.add_mul] at h1
   have h2:(lits (H:=H) k (zs.take l)).length+(lits (H:=H) k (zs.drop l)).length=c:=by simp [lits]; omega
   rw [h2] at h1
   simpa [reachBytes] using h1
  refine ⟨some a,c,zs.take l,by rw [hlen],⟨fun hne=>?_,fun b o e i hi=>?_⟩,fun n hn=>hwf n (List.mem_of_mem_take hn),by omega,hm,hb,fun b o e hne=>?_⟩
  ·have:0<l:=by rcases Nat.eq_zero_or_pos l with h0 | h0; subst h0; simp at hne; exact h0
   exact ⟨a.block,a.off,by rw [← addr_eta (hsp this)]⟩
  ·rw [hlen] at hi
   rw [hget i hi]
   have:=hcell i (by omega)
   simp at e
   rw [e,addr_add] at this
   exact this
  ·have:0<l:=by rcases Nat.eq_zero_or_pos l with h0 | h0; subst h0; simp at hne; exact h0
   have hc0:=hcell 0 (by omega)
   simp at e
   rw [show a.add 0=a from rfl,e] at hc0
   exact World.block_lt_of_cell? w _ hc0
theorem open_sl_structs2 {t e:TypeId} {fs:Array Field} {fuel:Nat} {v:Value} {y0:DataW H × List MemPlace} (ht:P.underlying t=some (.slice e)) (he:P.underlying e=some (.struct fs))
  (hone:oneCellFields P fs=true) (hC:P.cellsOf e=fs.size) (hpos:0<fs.size) (h:DataW.trod enc P w base (fun _=>true) held fuel t [v]=some y0) (hs:Sized P t y0.1) :
  ∃ (p:Option Addr) (n cap:Nat) (V:Nat → Value),v=.slice p n cap∧SlV w p (n*fs.size) V∧n≤cap∧cap≤maxLen∧cap*P.bytesOf e≤140737488351232 ∧
   ∀ i,i<n → ∀ (j:Nat) (f:Field),fs[j]? = some f → ∃ (m:Nat) (y:DataW H × List MemPlace),DataW.trod enc P w base (fun _=>true) held m f.type [V (i*fs.size+j)]=some y∧Sized P f.type y.1:=by
 rcases open_slice_fields ht he hone hC h with ⟨h0,_⟩ | ⟨a,l,c,m,D,Pl,hcs,_,hlc,hm,hmm,hx,hcell⟩
 ·simp at h0
  subst h0
  exact ⟨none,0,0,fun _=>undef,rfl,⟨fun h=>absurd h (by simp),fun _ _ e=>by simp at e⟩,by simp,by simp [maxLen],by simp,fun i hi=>by omega⟩
 ·simp at hcs
  subst hcs
  simp only [if_true] at hmm
  subst hmm
  have hy1:y0.1=.slice ((List.range l).map D) ((List.range (m - l)).map fun j=>D (l+j)):=by rw [hx]
  have hb:m*P.bytesOf e≤140737488351232:=by
   have h1:=hs (((List.range l).map D).length*P.bytesOf e+((List.range (m - l)).map fun j=>D (l+j)).length*P.bytesOf e) (by rw [hy1]; simp only [DataW.weights,ht,← Nat.add_mul]; exact List.mem_cons_self)
   rw [← Nat.add_mul] at h1
   simp only [List.length_map,List.length_range,reachBytes] at h1
   rw [show l+(m - l)=m by omega] at h1
   omega
  have hall:∀ q,q<l*fs.size → ∃ v,w.cell? (a.add q)=some v:=by
   intro q hq
   have h1:q / fs.size<l:=Nat.div_lt_of_lt_mul (by rw [Nat.mul_comm]; exact hq)
   have h2:q % fs.size<fs.size:=Nat.mod_lt _ hpos
   obtain ⟨ys,n',_,_,_,hj⟩:=hcell (q / fs.size) (by omega)
   obtain ⟨v,y,hv,_,_⟩:=hj (q % fs.size) fs[q % fs.size] (by simp [h2])
   have e:q / fs.size*fs.size+q % fs.size=q:=by rw [Nat.mul_comm]; exact Nat.div_add_mod q fs.size
   rw [e] at hv
   exact ⟨v,hv⟩
  have hsp:∀ q,q<l*fs.size → w.cell? (a.add q)=some ((w.cell? (a.add q)).getD undef):=by
   intro q hq
   obtain ⟨v,hv⟩:=hall q hq
   rw [hv]; rfl
  refine ⟨some a,l,m,fun q=>(w.cell? (a.add q)).getD undef,rfl,⟨fun hp=>?_,fun b o e i hi=>?_⟩,hlc,hm,hb,fun i hi j f hj=>?_⟩
  ·have:=hsp 0 hp
   rw [show a.add 0=a from rfl] at this
   exact ⟨a.block,a.off,by rw [← addr_eta (spot_none this)]⟩
  ·have:=hsp i hi
   simp at e
   rw [e,addr_add] at this
   simp only [e,addr_add]
   exact this
  ·obtain ⟨ys,n',hD,_,_,hj'⟩:=hcell i (by omega)
   obtain ⟨v,y,hv,hyj,hy⟩:=hj' j f hj
   refine ⟨n',y,by simp only [hv,Option.getD_some]; exact hy,fun n hn=>hs n ?_⟩
   rw [hy1]
   simp only [DataW.weights,ht]
   refine List.mem_cons_of_mem _ (List.mem_append_left _ (weightsAll_mem (d:=D i) (List.mem_map.2 ⟨i,List.mem_range.2 hi,rfl⟩) ?_))
   rw [hD]
   simp only [DataW.weights,he]
   exact DataW.weights_mem_each (j:=j) (t:=f.type) (d:=y.1) (by simp [hj]) (by simp [hyj]) n hn
end
end Go.Proofs.YtehopaabfoopeaaGreat
set_option linter.unusedSimpArgs false
set_option linter.unusedVariables false
set_option maxRecDepth 100000
namespace Go.Proofs.YtehopaabfoopeaaGreat
open Go.RowKit
open Go.ChangeShapes Go.WideShapes Go.ChangeAt Go.Deep
section
variable {H:Type} {enc:TypeId × Value → H} {w:World} {base:Nat} {held:Bool}
theorem open_u64 {m:Nat} {v:Value} {y:DataW H × List MemPlace} (h:DataW.trod enc Tryz.prog w base (fun _=>true) held m 23 [v]=some y):∃ k:Int,v=.int .u64 k∧0≤k∧k<18446744073709551616:=by
 obtain ⟨k0,e0,_,w0⟩:=DataW.trod_int Tryz.underlying23 h
 have w0':0≤k0∧k0≤18446744073709551615:=by simpa [Lit.wf,IntKind.min,IntKind.max,IntKind.signed,IntKind.bits] using w0
 simp only [List.cons.injEq,and_true] at e0
 exact ⟨k0,e0,by omega,by omega⟩
theorem open_i64 {P:Program} {t:TypeId} {m:Nat} {v:Value} {y:DataW H × List MemPlace} (ht:P.underlying t=some (.int .i64)) (h:DataW.trod enc P w base (fun _=>true) held m t [v]=some y):∃ k:Int,v=.int .i64 k:=by
 obtain ⟨k0,e0,_,w0⟩:=DataW.trod_int ht h
 simp only [List.cons.injEq,and_true] at e0
 exact ⟨k0,e0⟩
end
end Go.Proofs.YtehopaabfoopeaaGreat
set_option linter.unusedSimpArgs false
set_option linter.unusedVariables false
set_option maxRecDepth 100000
namespace Go.Proofs.YtehopaabfoopeaaGreat
open Go.RowKit
open Go.ChangeShapes Go.WideShapes Go.ChangeAt Go.Deep
section
variable {H:Type} {enc:TypeId × Value → H} {w:World} {base:Nat} {held:Bool}
def insO (V:Nat → Value) (i:Nat):Ins:=⟨intOf (V (i*5)),intOf (V (i*5+1)),intOf (V (i*5+2)),intOf (V (i*5+3)),intOf (V (i*5+4))⟩
theorem open_i64v {t:TypeId} {m:Nat} {v:Value} {y:DataW H × List MemPlace} (ht:Tryz.prog.underlying t=some (.int .i64)) (h:DataW.trod enc Tryz.prog w base (fun _=>true) held m t [v]=some y):v=.int .i64 (intOf v):=by
 obtain ⟨k,rfl⟩:=open_i64 ht h
 rfl
theorem open_prog {m:Nat} {v:Value} {y:DataW H × List MemPlace} (h:DataW.trod enc Tryz.prog w base (fun _=>true) held m 41 [v]=some y) (hs:Sized Tryz.prog 41 y.1) :
  ∃ d:PD,v=.slice d.po d.p.length d.cap∧d.At w:=by
 obtain ⟨p,n,cap,V,rfl,hS,hnc,hm,hr,hf⟩:=open_sl_structs2 Tryz.underlying41 Tryz.underlying50 (by kernel_rfl) (by kernel_rfl) (by decide) h hs
 have hS2:SlV w p (n*5) V:=hS
 have hP:∀ i,i<n → V (i*5)=.int .i64 (insO V i).op∧V (i*5+1)=.int .i64 (insO V i).a∧V (i*5+2)=.int .i64 (insO V i).b∧V (i*5+3)=.int .i64 (insO V i).c∧V (i*5+4)=.int .u64 (insO V i).n∧0≤(insO V i).n∧(insO V i).n<18446744073709551616:=by
  intro i hi
  obtain ⟨_,_,h0,_⟩:=hf i hi 0 _ rfl
  obtain ⟨_,_,h1,_⟩:=hf i hi 1 _ rfl
  obtain ⟨_,_,h2,_⟩:=hf i hi 2 _ rfl
  obtain ⟨_,_,h3,_⟩:=hf i hi 3 _ rfl
  obtain ⟨_,_,h4,_⟩:=hf i hi 4 _ rfl
  obtain ⟨k4,e4,b4⟩:=open_u64 h4
  have e4':V (i*5+4)=.int .u64 k4:=e4
  have n4:(insO V i).n=k4:=by show intOf (V (i*5+4))=k4; rw [e4']; rfl
  rw [n4]
  exact ⟨open_i64v Tryz.underlying48 h0,open_i64v Tryz.underlying3 h1,open_i64v Tryz.underlying3 h2,open_i64v Tryz.underlying3 h3,e4',b4⟩
 have hcb:cap*40≤140737488351232:=hr
 refine ⟨⟨p,cap,(List.range n).map (insO V)⟩,by simp,⟨fun i x hx=>?_,fun x hx=>?_,by simp; omega⟩⟩
 ·have hi:i<n:=by
   by_cases h:i<n
   ·exact h
   ·rw [List.getElem?_eq_none (by simp; omega)] at hx; cases hx
  obtain ⟨e0,e1,e2,e3,e4,_⟩:=hP i hi
  have hx':insO V i=x:=by simpa [hi] using hx
  subst hx'
  obtain ⟨pb,po,rfl⟩:=hS2.ne (by omega)
  refine ⟨pb,po,rfl,?_,?_,?_,?_,?_⟩
  ·have:=hS2.cells pb po rfl (i*5) (by omega); rw [this,e0]
  ·have:=hS2.cells pb po rfl (i*5+1) (by omega); rw [Nat.add_assoc,this,e1]
  ·have:=hS2.cells pb po rfl (i*5+2) (by omega); rw [Nat.add_assoc,this,e2]
  ·have:=hS2.cells pb po rfl (i*5+3) (by omega); rw [Nat.add_assoc,this,e3]
  ·have:=hS2.cells pb po rfl (i*5+4) (by omega); rw [Nat.add_assoc,this,e4]
 ·obtain ⟨i,hi,rfl⟩:=List.mem_map.1 hx
  exact (hP i (by simpa using hi)).2.2.2.2.2
theorem open_progs {m:Nat} {v:Value} {y:DataW H × List MemPlace} (h:DataW.trod enc Tryz.prog w base (fun _=>true) held m 24 [v]=some y) (hs:Sized Tryz.prog 24 y.1) :
  ∃ (pp:Option Addr) (cap:Nat) (l:List PD),v=.slice pp l.length cap∧Progs w pp l∧l.length≤maxLen:=by
 rcases open_slice Tryz.underlying24 h with ⟨h0,_⟩ | ⟨a,len,cap,m',n,D,Pl,hcs,_,hlc,hm,hmm,hx,hi⟩
 ·simp at h0
  subst h0
  exact ⟨none,0,[],rfl,⟨fun i d hd=>by simp at hd,fun d hd=>by simp at hd⟩,by simp⟩
 ·simp at hcs
  subst hcs
  simp only [if_true] at hmm
  subst hmm
  have hy:y.1=.slice ((List.range len).map D) ((List.range (m' - len)).map fun j=>D (len+j)):=by rw [hx]
  have hC:Tryz.prog.cellsOf 41=1:=by kernel_rfl
  have hspot:0<len → a.spot=none:=fun h0l=>by
   obtain ⟨cs',hc,ht⟩:=hi 0 (by omega)
   rw [hC] at hc
   obtain ⟨_,hcl,hat⟩:=World.cells?_some hc
   obtain ⟨u,rfl⟩:∃ u,cs'=[u]:=by
    match cs',hcl with
    | [u],_=>exact ⟨u,rfl⟩
   have h0:=hat 0 (by omega)
   have e2:(a.add (0*1)).add 0=a:=rfl
   rw [e2] at h0
   exact spot_none (v:=u) (by simpa using h0)
  have hcell:∀ i,i<len → ∃ d:PD,(∃ b o,a=⟨b,o,none⟩∧w.cell? ⟨b,o+i,none⟩=some (.slice d.po d.p.length d.cap))∧d.At w:=by
   intro i hil
   obtain ⟨cs',hc,ht⟩:=hi i (by omega)
   rw [hC] at hc
   obtain ⟨_,hcl,hat⟩:=World.cells?_some hc
   obtain ⟨u,rfl⟩:∃ u,cs'=[u]:=by
    match cs',hcl with
    | [u],_=>exact ⟨u,rfl⟩
   have h0:=hat 0 (by omega)
   have hsz:Sized Tryz.prog 41 (D i):=fun k hk=>hs k (by
    rw [hy]
    simp only [DataW.weights,Tryz.underlying24]
    exact List.mem_cons_of_mem _ (List.mem_append_left _ (weightsAll_mem (d:=D i) (List.mem_map.2 ⟨i,List.mem_range.2 hil,rfl⟩) hk)))
   obtain ⟨d,e,hd⟩:=open_prog ht hsz
   have h1:w.cell? (a.add i)=some u:=by
    have e2:(a.add (i*1)).add 0=a.add i:=by rw [Nat.mul_one,Go.Deep.add_add,Nat.add_zero]
    rw [e2] at h0
    simpa using h0
   have hsp':a.spot=none:=hspot (by omega)
   refine ⟨d,⟨a.block,a.off,addr_eta hsp',?_⟩,hd⟩
   have h2:w.cell? ((⟨a.block,a.off,none⟩:Addr).add i)=some u:=by rw [← addr_eta hsp']; exact h1
   rw [addr_add] at h2
   rw [h2,e]
  let F:Nat → PD:=fun i=>if h:i<len then Classical.choose (hcell i h) else ⟨none,0,[]⟩
  have hF:∀ i,i<len → (∃ b o,a=⟨b,o,none⟩∧w.cell? ⟨b,o+i,none⟩=some (.slice (F i).po (F i).p.length (F i).cap))∧(F i).At w:=by
   intro i hi
   have:=Classical.choose_spec (hcell i hi)
   simp only [F,hi,dif_pos]
   exact this
  refine ⟨some a,m',(List.range len).map F,by simp,⟨fun i d hd=>?_,fun d hd=>?_⟩,by simp; omega⟩
  ·have hi:i<len:=by
    by_cases h:i<len
    ·exact h
    ·rw [List.getElem?_eq_none (by simp; omega)] at hd; cases hd
   have hd':F i=d:=by simpa [hi] using hd
   obtain ⟨b,o,e,hc⟩:=(hF i hi).1
   rw [← hd']
   exact ⟨b,o,by rw [e],hc⟩
  ·obtain ⟨i,hi,rfl⟩:=List.mem_map.1 hd
   exact (hF i (by simpa using hi)).2
end
end Go.Proofs.YtehopaabfoopeaaGreat
set_option linter.unusedSimpArgs false
set_option linter.unusedVariables false
set_option maxRecDepth 100000
namespace Go.Proofs.YtehopaabfoopeaaGreat
open Go.RowKit
open Go.ChangeShapes Go.WideShapes Go.ChangeAt Go.Deep
theorem bulk_one {H:Type} (d:DataW H):1≤Rows.uptoBulk d:=by
 cases d with
 | lit l=>cases l <;> simp [Rows.uptoBulk]
 | nil=>simp [Rows.uptoBulk]
 | ptr d=>simp [Rows.uptoBulk]
 | slice elems spare=>simp [Rows.uptoBulk]
 | agg parts=>simp [Rows.uptoBulk]
 | iface t d=>simp [Rows.uptoBulk]
 | map entries=>simp [Rows.uptoBulk]
 | held h=>simp [Rows.uptoBulk]
theorem bulk_len {H:Type} (l:List (DataW H)):l.length≤Rows.uptoBulkAll l:=by
 induction l with
 | nil=>simp [Rows.uptoBulkAll]
 | cons x r ih=>have:=bulk_one x; simp only [Rows.uptoBulkAll,List.length_cons]; omega
end Go.Proofs.YtehopaabfoopeaaGreat
