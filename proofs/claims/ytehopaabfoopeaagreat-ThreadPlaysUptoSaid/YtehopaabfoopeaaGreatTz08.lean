/- The program's kept. The conditions are sizes. Attempts, rows and clocks that are not there: what each call answers; AttemptNil's walk. No condition. The program's State. The conditions are sizes. A thread's Status, State. No conditions. The document's thread in memory: out, give, fail, event. No conditions. The document's: is a program formed. The condition is a size. The document's: the operation at a place, the place of an address; the cells and the clock. The conditions are sizes. -/
import Derived.Test.YtehopaabfoopeaaGreatTz07
import Derived.Test.YtehopaabfoopeaaGreatTz06
import Derived.Deep.CutRange
set_option linter.unusedSimpArgs false
set_option linter.unusedVariables false
set_option maxRecDepth 100000
namespace Go.Proofs.YtehopaabfoopeaaGreat
open Go.RowKit
open Go.Maps
def zeroS:AS:=⟨0,[],[],0,0,0,0,0,0⟩
theorem nine_set {W:World} {b:Nat} (h:Blk W b (rheadV zeroS (.slice none 0 0) (.slice none 0 0)) 56) (s:AS) (rv wv:Value) :
  Blk ((((((((((W.setCell ⟨b,0,none⟩ (.int .u64 s.snap)).setCell ⟨b,1,none⟩ rv).setCell ⟨b,2,none⟩ wv).setCell ⟨b,3,none⟩ (.int .i64 s.phase)).setCell ⟨b,4,none⟩ (.int .i64 s.thn)).setCell ⟨b,5,none⟩ (.int .u64 s.addr)).setCell ⟨b,6,none⟩ (.int .u64 s.word)).setCell ⟨b,7,none⟩ (.int .u64 s.found)).setCell ⟨b,8,none⟩ (.int .i64 s.at_))) b (rheadV s rv wv) 56:=
 ((((((((h.set 0 _).set 1 _).set 2 _).set 3 _).set 4 _).set 5 _).set 6 _).set 7 _).set 8 _
theorem nine_upd {S:List Nat} {w W:World} {b:Nat} (u:Upd S w W) (hb:b ∈ S∨w.heap.size≤b) (v0 v1 v2 v3 v4 v5 v6 v7 v8:Value) :
  Upd S w ((((((((((W.setCell ⟨b,0,none⟩ v0).setCell ⟨b,1,none⟩ v1).setCell ⟨b,2,none⟩ v2).setCell ⟨b,3,none⟩ v3).setCell ⟨b,4,none⟩ v4).setCell ⟨b,5,none⟩ v5).setCell ⟨b,6,none⟩ v6).setCell ⟨b,7,none⟩ v7).setCell ⟨b,8,none⟩ v8)):=
 ((((((((u.setCell hb _).setCell hb _).setCell hb _).setCell hb _).setCell hb _).setCell hb _).setCell hb _).setCell hb _).setCell hb _
theorem TwoNew.more {w w' w2:World} {s:AS} {rv wv:Value} {b:Nat} (h:TwoNew w w' s rv wv) (u:Upd [b] w' w2) (hb:∀ g,g=b → w.heap.size≤g∧rv.ownBlock≠some g∧wv.ownBlock≠some g):TwoNew w w2 s rv wv:=
 ⟨h.rd.upd u (fun g hg=>by simp at hg; exact (hb g hg).2.1),h.wr.upd u (fun g hg=>by simp at hg; exact (hb g hg).2.2),h.ap,h.nr,h.nw,h.u.tr u (by simp) (fun x hx=>by simp at hx; exact .inr (hb x hx).1)⟩
theorem kept_code (w:World) (s:AS) (rv wv:Value) (h1:SlC w rv s.reads) (h2:SlC w wv s.writes) (n1:s.reads=[] → rv=.slice none 0 0) (n2:s.writes=[] → wv=.slice none 0 0) (hl1:s.reads.length*16≤140737488355328) (hl2:s.writes.length*16≤140737488355328):Calls Tryz.prog 67 #[stateV s rv wv] w (NewState w s):=by
 have HA:=Lib.hid fun (W:World) (u:Upd [] w W)=>clone_cells W rv s.reads (h1.upd0 u) n1 hl1
 have HB:=Lib.hid fun (W:World) (u:Upd [] w W)=>clone_cells W wv s.writes (h2.upd0 u) n2 hl2
 clear n1 n2
 obtain ⟨p,c,rfl,_⟩:=h1
 obtain ⟨q,d,rfl,_⟩:=h2
 obtain ⟨sn,rd,wl,ph,th,ad,wo,fo,at_⟩:=s
 dsimp only at HA HB hl1 hl2
 simp only [stateV]
 obtain ⟨W,hW⟩:∃ W,(w.alloc (.cells #[.int .u64 sn,.slice p rd.length c,.slice q wl.length d,.int .i64 ph,.int .i64 th,.int .u64 ad,.int .u64 wo,.int .u64 fo,.int .i64 at_] 56)).alloc (.cells (rheadV zeroS (.slice none 0 0) (.slice none 0 0)).toArray 56)=W:=⟨_,rfl⟩
 have uW:Upd [] w W:=by rw [← hW]; exact ((Upd.refl [] _).alloc _).alloc _
 have BW:Blk W w.heap.size [.int .u64 sn,.slice p rd.length c,.slice q wl.length d,.int .i64 ph,.int .i64 th,.int .u64 ad,.int .u64 wo,.int .u64 fo,.int .i64 at_] 56:=by rw [← hW]; exact (Blk.new w _ _).alloc _
 have RW:Blk W (w.heap.size+1) (rheadV zeroS (.slice none 0 0) (.slice none 0 0)) 56:=by
  have:=Blk.new (w.alloc (.cells #[.int .u64 sn,.slice p rd.length c,.slice q wl.length d,.int .i64 ph,.int .i64 th,.int .u64 ad,.int .u64 wo,.int .u64 fo,.int .i64 at_] 56)) (rheadV zeroS (.slice none 0 0) (.slice none 0 0)) 56
  rw [World.size_alloc] at this
  rw [← hW]; exact this
 simp only [rheadV,zeroS] at hW
 have hz:=BW.lt
 refine calls_all fun K hK=>?_
 go_enter Tryz.func67,Tryz.ntmps67
 go_wp2_with fail
 clear hW
 have uD:=uW.drew
 have BD:=BW.drew
 have RD:=RW.drew
 have hzD:w.heap.size+1<W.drew.heap.size:=RD.lt
 refine wp_region_ordT (fun w'=>w'.cell? ⟨w.heap.size,1,none⟩=some (.slice p rd.length c)∧w'.cell? ⟨w.heap.size,2,none⟩=some (.slice q wl.length d)) [0,1,3,4,2,6,5,7,8,9] [7,8,9] (by kernel_rfl) (by kernel_rfl) ?_
 clear uW BW RW hz
 generalize W.drew=W0 at uD BD RD hzD ⊢
 have hS0:W0.cell? ⟨w.heap.size,1,none⟩=some (.slice p rd.length c)∧W0.cell? ⟨w.heap.size,2,none⟩=some (.slice q wl.length d):=⟨BD.cell 1 rfl,BD.cell 2 rfl⟩
 repeat
  first
   | (refine wpT_skip rfl (by decide) (by assumption) (by rfl) ?_)
   | ((refine wpT_take (v:=?_) rfl (by decide) (by assumption) rfl (by rfl) ?_ ?_); rotate_left 1; (· ((intro w hSw; (try dsimp only at hSw); go_simp); try with_reducible rfl)))
  try simp only [Act.put,List.setIfInBounds_toArray,List.set_cons_zero,List.set_cons_succ]
 refine wpT_eff rfl (by kernel_rfl) (by rfl) (fun K2 hK2=>?_)
 go_simp
 refine (HA.out W0 uD).mono ?_
 rintro e W1 ⟨v1,rfl,m1⟩
 obtain ⟨p1,k1,e1⟩:=m1.own.form
 (try dsimp only at e1)
 subst e1
 have B1:=BD.upd m1.u (by simp)
 have R1:=RD.upd m1.u (by simp)
 have z1:=m1.u.size
 have hS1:W1.cell? ⟨w.heap.size,1,none⟩=some (.slice p rd.length c)∧W1.cell? ⟨w.heap.size,2,none⟩=some (.slice q wl.length d):=⟨B1.cell 1 rfl,B1.cell 2 rfl⟩
 refine hK2.out _ _ hS1 ?_
 clear hK2 K2 hS0
 repeat
  first
   | (refine wpT_skip rfl (by decide) (by assumption) (by rfl) ?_)
   | ((refine wpT_take (v:=?_) rfl (by decide) (by assumption) rfl (by rfl) ?_ ?_); rotate_left 1; (· ((intro w hSw; (try dsimp only at hSw); go_simp); try with_reducible rfl)))
  try simp only [Act.put,List.setIfInBounds_toArray,List.set_cons_zero,List.set_cons_succ]
 refine wpT_eff rfl (by kernel_rfl) (by rfl) (fun K2 hK2=>?_)
 go_simp
 refine (HB.out W1 (uD.trans m1.u)).mono ?_
 rintro e W2 ⟨v2,rfl,m2⟩
 obtain ⟨p2,k2,e2⟩:=m2.own.form
 (try dsimp only at e2)
 subst e2
 have B2:=B1.upd m2.u (by simp)
 have R2:=R1.upd m2.u (by simp)
 have hS2:W2.cell? ⟨w.heap.size,1,none⟩=some (.slice p rd.length c)∧W2.cell? ⟨w.heap.size,2,none⟩=some (.slice q wl.length d):=⟨B2.cell 1 rfl,B2.cell 2 rfl⟩
 refine hK2.out _ _ hS2 ?_
 clear hK2 K2 hS1 hS2
 have c1:=B2.cell 1 rfl
 have f1:=B2.free 1
 have c2:=(B2.set 1 (.slice p1 rd.length k1)).cell 2 rfl
 have f2:=(B2.set 1 (.slice p1 rd.length k1)).free 2
 refine wpT_last rfl (by decide) (by kernel_rfl) (by rfl) (fun K2 hK2=>?_)
 go_simp
 refine hK2.out _ _ ?_
 clear hK2 K2 c1 f1
 refine wpT_last rfl (by decide) (by kernel_rfl) (by rfl) (fun K2 hK2=>?_)
 go_simp
 refine hK2.out _ _ ?_
 clear hK2 K2
 refine wpT_last rfl (by decide) (by kernel_rfl) (by rfl) (fun K2 hK2=>?_)
 go_simp
 refine hK2.out _ _ ?_
 clear hK2 K2 c2 f2
 refine wpT_end (NoPanic.normal ?_)
 have hv1:(Value.slice p1 rd.length k1).ownBlock≠some w.heap.size:=fun e=>by have:=m1.new _ e; omega
 have hv2:(Value.slice p2 wl.length k2).ownBlock≠some w.heap.size:=fun e=>by have:=m2.new _ e; omega
 have hv3:(Value.slice p1 rd.length k1).ownBlock≠some (w.heap.size+1):=fun e=>by have:=m1.new _ e; omega
 have hv4:(Value.slice p2 wl.length k2).ownBlock≠some (w.heap.size+1):=fun e=>by have:=m2.new _ e; omega
 have B4:=(B2.set 1 (.slice p1 rd.length k1)).set 2 (.slice p2 wl.length k2)
 have us:Upd [w.heap.size] W2 ((W2.setCell ⟨w.heap.size,1,none⟩ (.slice p1 rd.length k1)).setCell ⟨w.heap.size,2,none⟩ (.slice p2 wl.length k2)):=((Upd.refl _ _).setCell (.inl (by simp)) _).setCell (.inl (by simp)) _
 have R4:=R2.upd us (by simp)
 have TN:TwoNew w ((W2.setCell ⟨w.heap.size,1,none⟩ (.slice p1 rd.length k1)).setCell ⟨w.heap.size,2,none⟩ (.slice p2 wl.length k2)) (⟨sn,rd,wl,ph,th,ad,wo,fo,at_⟩:AS) (.slice p1 rd.length k1) (.slice p2 wl.length k2):=
  ⟨(m1.own.upd m2.u (by simp)).upd us (fun g hg e=>by simp at hg; subst hg; exact hv1 e),m2.own.upd us (fun g hg e=>by simp at hg; subst hg; exact hv2 e),
   fun g hg e=>by have h1:=m1.own.lt hg; have h2:=m2.new g e; omega,fun g hg=>by have:=m1.new g hg; omega,fun g hg=>by have:=m2.new g hg; omega,(((uD.trans m1.u).trans m2.u).tr us (by simp) (by simp))⟩
 have HTN:∀ g,g=w.heap.size+1 → w.heap.size≤g∧(Value.slice p1 rd.length k1).ownBlock≠some g∧(Value.slice p2 wl.length k2).ownBlock≠some g:=fun g hg=>by subst hg; exact ⟨by omega,hv3,hv4⟩
 clear uD BD RD R1 B1 B2 R2 m1 m2 us hv1 hv2 hv3 hv4
 have b0:=B4.cell 0 rfl
 have b1:=B4.cell 1 rfl
 have b2:=B4.cell 2 rfl
 have b3:=B4.cell 3 rfl
 have b4:=B4.cell 4 rfl
 have b5:=B4.cell 5 rfl
 have b6:=B4.cell 6 rfl
 have b7:=B4.cell 7 rfl
 have b8:=B4.cell 8 rfl
 have q0:=R4.cell 0 rfl
 have q1:=R4.cell 1 rfl
 have q2:=R4.cell 2 rfl
 have q3:=R4.cell 3 rfl
 have q4:=R4.cell 4 rfl
 have q5:=R4.cell 5 rfl
 have q6:=R4.cell 6 rfl
 have q7:=R4.cell 7 rfl
 have q8:=R4.cell 8 rfl
 have g0:=R4.free 0
 have g1:=R4.free 1
 have g2:=R4.free 2
 have g3:=R4.free 3
 have g4:=R4.free 4
 have g5:=R4.free 5
 have g6:=R4.free 6
 have g7:=R4.free 7
 have g8:=R4.free 8
 go_wp2_with fail
 refine bodyPost_ret (state_results 2 rfl _ _ (w.heap.size+1) (⟨sn,rd,wl,ph,th,ad,wo,fo,at_⟩:AS) (.slice p1 rd.length k1) (.slice p2 wl.length k2) rfl (nine_set R4 (⟨sn,rd,wl,ph,th,ad,wo,fo,at_⟩:AS) (.slice p1 rd.length k1) (.slice p2 wl.length k2))) rfl (hK _ _ ⟨_,_,rfl,?_⟩)
 exact TN.more (nine_upd (S:=[w.heap.size+1]) (Upd.refl _ _) (.inl (by simp)) _ _ _ _ _ _ _ _ _) HTN
end Go.Proofs.YtehopaabfoopeaaGreat
set_option linter.unusedSimpArgs false
set_option linter.unusedVariables false
set_option maxRecDepth 100000
namespace Go.Proofs.YtehopaabfoopeaaGreat
open Go.RowKit
open Go.Maps
section
variable {w w':World} {p:Option Addr}
end
end Go.Proofs.YtehopaabfoopeaaGreat
set_option linter.unusedSimpArgs false
set_option linter.unusedVariables false
set_option maxRecDepth 100000
namespace Go.Proofs.YtehopaabfoopeaaGreat
open Go.RowKit
open Go.Maps
theorem TwoNew.base {w W w':World} {s:AS} {rv wv:Value} (h:TwoNew W w' s rv wv) (u:Upd [] w W):TwoNew w w' s rv wv:=
 ⟨h.rd,h.wr,h.ap,fun g hg=>Nat.le_trans u.size (h.nr g hg),fun g hg=>Nat.le_trans u.size (h.nw g hg),u.trans h.u⟩
section
variable {w:World} {X:SX} {sh:Sh} {acc st:Int} {a:Nat} {s:AS} {F:List Nat} {rv wv mv:Value}
theorem Live.slr (hL:Live w X sh acc st a s F rv wv mv):SlC w rv s.reads∧SlC w wv s.writes∧(s.reads=[] → rv=.slice none 0 0)∧(s.writes=[] → wv=.slice none 0 0):=⟨hL.att.rd.slc,hL.att.wr.slc,hL.att.rd.nil,hL.att.wr.nil⟩
theorem kept_live (hL:Live w X sh acc st a s F rv wv mv) (hM:May s):Calls Tryz.prog 67 #[stateV s rv wv] w (NewState w s):=by
 have h1:=hM.lenR
 have h2:=hM.lenW
 exact kept_code w s rv wv hL.slr.1 hL.slr.2.1 hL.slr.2.2.1 hL.slr.2.2.2 (by omega) (by omega)
set_option maxHeartbeats 1000000 in
theorem state_live (hL:Live w X sh acc st a s F rv wv mv) (hM:May s):Calls Tryz.prog 46 #[.pointer (some ⟨a,0,none⟩)] w (NewState w s):=by
 obtain ⟨W,hW⟩:∃ W,w.alloc (.cells (rheadV zeroS (.slice none 0 0) (.slice none 0 0)).toArray 56)=W:=⟨_,rfl⟩
 have uW:Upd [] w W:=by rw [← hW]; exact (Upd.refl [] _).alloc _
 have RW:Blk W w.heap.size (rheadV zeroS (.slice none 0 0) (.slice none 0 0)) 56:=by rw [← hW]; exact Blk.new w _ _
 simp only [rheadV,zeroS] at hW
 have hLW:=hL.upd0 uW
 have HT:=Lib.hid (there_code hLW)
 have HK:=Lib.hid (kept_live hLW hM)
 have hz:=RW.lt
 have a2:=(hLW.att.head).cell 2 rfl
 have a3:=(hLW.att.head).cell 3 rfl
 have a4:=(hLW.att.head).cell 4 rfl
 have a5:=(hLW.att.head).cell 5 rfl
 have a6:=(hLW.att.head).cell 6 rfl
 have a7:=(hLW.att.head).cell 7 rfl
 have a8:=(hLW.att.head).cell 8 rfl
 have a9:=(hLW.att.head).cell 9 rfl
 have a10:=(hLW.att.head).cell 10 rfl
 obtain ⟨p,c,rfl⟩:=hL.att.rd.form
 obtain ⟨q,d,rfl⟩:=hL.att.wr.form
 clear hL hLW hM
 obtain ⟨sn,rd,wl,ph,th,ad,wo,fo,at_⟩:=s
 simp only [stateV] at HK
 dsimp only at a2 a3 a4 a5 a6 a7 a8 a9 a10
 refine calls_all fun K hK=>?_
 go_enter Tryz.func46,Tryz.ntmps46
 go_wp2_with fail
 clear hW
 refine HT.out.mono ?_
 rintro e w' ⟨rfl,rfl⟩
 go_wp2_with fail
 refine HK.out.mono ?_
 rintro e w3 ⟨v1,v2,rfl,TN⟩
 obtain ⟨p1,k1,e1⟩:=TN.rd.form
 obtain ⟨p2,k2,e2⟩:=TN.wr.form
 (try dsimp only at e1 e2)
 subst e1
 subst e2
 have R4:=RW.upd TN.u (by simp)
 have hv3:(Value.slice p1 rd.length k1).ownBlock≠some w.heap.size:=fun e=>by have:=TN.nr _ e; omega
 have hv4:(Value.slice p2 wl.length k2).ownBlock≠some w.heap.size:=fun e=>by have:=TN.nw _ e; omega
 have TN:=TN.base uW
 clear a2 a3 a4 a5 a6 a7 a8 a9 a10 RW uW
 have q0:=(R4).cell 0 rfl
 have q1:=(R4).cell 1 rfl
 have q2:=(R4).cell 2 rfl
 have q3:=(R4).cell 3 rfl
 have q4:=(R4).cell 4 rfl
 have q5:=(R4).cell 5 rfl
 have q6:=(R4).cell 6 rfl
 have q7:=(R4).cell 7 rfl
 have q8:=(R4).cell 8 rfl
 have g0:=(R4).free 0
 have g1:=(R4).free 1
 have g2:=(R4).free 2
 have g3:=(R4).free 3
 have g4:=(R4).free 4
 have g5:=(R4).free 5
 have g6:=(R4).free 6
 have g7:=(R4).free 7
 have g8:=(R4).free 8
 simp only [stateV]
 go_wp2_with fail
 refine bodyPost_ret (state_results 2 rfl _ _ w.heap.size (⟨sn,rd,wl,ph,th,ad,wo,fo,at_⟩:AS) (.slice p1 rd.length k1) (.slice p2 wl.length k2) rfl (nine_set R4 (⟨sn,rd,wl,ph,th,ad,wo,fo,at_⟩:AS) (.slice p1 rd.length k1) (.slice p2 wl.length k2))) rfl (hK _ _ ⟨_,_,rfl,?_⟩)
 exact TN.more (nine_upd (S:=[w.heap.size]) (Upd.refl _ _) (.inl (by simp)) _ _ _ _ _ _ _ _ _) (fun g hg=>by subst hg; exact ⟨Nat.le_refl _,hv3,hv4⟩)
end
end Go.Proofs.YtehopaabfoopeaaGreat
set_option linter.unusedSimpArgs false
set_option linter.unusedVariables false
set_option maxRecDepth 100000
namespace Go.Proofs.YtehopaabfoopeaaGreat
open Go.RowKit
open Go.Maps
structure RT where
 st:Int
 err:Int
 at_:Int
 regs:List Int
 ins:Bool
 start:Int
 saved:List Int
 fuel:Int
 a:AS
def RT.fore (r:RT):List Value:=[.int .i64 r.st,.int .i64 r.err,.int .i64 r.at_] ++ (r.regs.map (Value.int .u64) ++ ([.bool r.ins,.int .i64 r.start] ++ (r.saved.map (Value.int .u64) ++ [.int .i64 r.fuel])))
def RT.cells (r:RT) (rv wv:Value):List Value:=r.fore ++ rheadV r.a rv wv
def RT.val (r:RT) (rv wv:Value):Value:=.agg (r.cells rv wv).toArray
def TS.rt (t:TS):RT:=⟨t.st,t.err,t.at_,t.regs,t.ins,t.start,t.saved,t.fuel,t.att.getD zeroS⟩
theorem head_split {t:TS} {pv:Value} {X:SX} {ap:Option Addr} (hr:t.regs.length=8) (hs:t.saved.length=8):headTV t pv X ap=(t.rt.fore ++ rheadV zeroS (.slice none 0 0) (.slice none 0 0)) ++ [pv,.pointer (some ⟨X.ra,0,none⟩),.pointer (some ⟨X.ca,0,none⟩),.pointer ap]:=by
 obtain ⟨st,er,at_,rs,sta,sv,fu,at2⟩:=t
 obtain ⟨r0,r1,r2,r3,r4,r5,r6,r7,rfl⟩:=list8 hr
 obtain ⟨s0,s1,s2,s3,s4,s5,s6,s7,rfl⟩:=list8 hs
 rfl
theorem RT.fore_len {r:RT} (hr:r.regs.length=8) (hs:r.saved.length=8):r.fore.length=22:=by
 unfold RT.fore
 simp [hr,hs]
theorem RT.fore_one {r:RT}:∀ v ∈ r.fore,v.oneCell'=true:=by
 intro v hv
 simp only [RT.fore,List.mem_append,List.mem_cons,List.mem_map,List.not_mem_nil,or_false] at hv
 rcases hv with (rfl | rfl | rfl) | ⟨_,_,rfl⟩ | (rfl | rfl) | ⟨_,_,rfl⟩ | rfl <;> rfl
section
variable {w w':World} {X:SX} {sh:Sh} {acc st:Int} {p:List Ins} {pb cap tb:Nat} {t:TS} {o:AO}
theorem status_code (h:TV w X sh acc st p pb cap tb t o):Calls Tryz.prog 31 #[.pointer (some ⟨tb,0,none⟩)] w fun e w'=>e=.returned (.int .i64 t.st)∧w=w':=by
 have d0:=h.head.cell 0 rfl
 clear h
 refine calls_all fun K hK=>?_
 go_enter Tryz.func31,Tryz.ntmps31
 go_wp2
 all_goals exact ⟨rfl,rfl⟩
def TStateOk (w:World) (t:TS) (e:Ending) (w':World):Prop:=∃ rv wv,e=.returned (t.rt.val rv wv)∧TwoNew w w' t.rt.a rv wv
theorem state_tv (h:TV w X sh acc st p pb cap tb t o) (hm:∀ s,t.att=some s → May s):Calls Tryz.prog 21 #[.pointer (some ⟨tb,0,none⟩)] w (TStateOk w t):=by
 have hfl:=RT.fore_len (r:=t.rt) h.r8 h.s8
 have hB:=h.head
 rw [head_split h.r8 h.s8] at hB
 have hz:(rheadV zeroS (.slice none 0 0) (.slice none 0 0)).length=9:=rfl
 have hr:w.rangeAt tb 0 (t.rt.fore ++ rheadV zeroS (.slice none 0 0) (.slice none 0 0)):=fun j v hj=>by
  rw [Nat.zero_add]
  refine hB.cell j ?_
  rw [List.getElem?_append_left (List.getElem?_eq_some_iff.1 hj).1]
  exact hj
 have c34:w.cell? ⟨tb,34,none⟩=some (.pointer o.ptr):=h.head.cell 34 (head_cell h.r8 h.s8).2.2.2.2.2.2
 have h1:(t.rt.fore ++ rheadV zeroS (.slice none 0 0) (.slice none 0 0)).toArray.all (·.oneCell')=true:=by
  refine all_oneCell_toArray fun v hv=>?_
  rcases List.mem_append.1 hv with k | k
  ·exact RT.fore_one v k
  ·simp only [rheadV,List.mem_cons,List.not_mem_nil,or_false] at k
   rcases k with rfl | rfl | rfl | rfl | rfl | rfl | rfl | rfl | rfl <;> rfl
 rcases h.att with ⟨ha,ho⟩ | ⟨s,a,F,rv,wv,mv,ha,ho,hL⟩
 ·subst ho
  refine (state_abs_none (by rw [List.length_append,hfl,hz]) h1 hr c34).mono ?_
  rintro e w' ⟨rfl,u⟩
  have hA:t.rt.a=zeroS:=by show t.att.getD zeroS=_; rw [ha]; rfl
  refine ⟨.slice none 0 0,.slice none 0 0,by unfold RT.val RT.cells; rw [hA],?_⟩
  rw [hA]
  exact ⟨own_nil _ _,own_nil _ _,by simp [Value.ownBlock],by simp [Value.ownBlock],by simp [Value.ownBlock],u⟩
 ·subst ho
  have hA:t.rt.a=s:=by show t.att.getD zeroS=_; rw [ha]; rfl
  refine (state_abs_some (s:=s) (a:=a) hfl hz h1 hr c34 fun W u=>state_live (hL.upd0 u) (hm s ha)).mono ?_
  rintro e w' ⟨rv',wv',rfl,hT⟩
  exact ⟨rv',wv',by unfold RT.val RT.cells; rw [hA],by rw [hA]; exact hT⟩
end
end Go.Proofs.YtehopaabfoopeaaGreat
set_option linter.unusedSimpArgs false
set_option linter.unusedVariables false
set_option maxRecDepth 100000
namespace Go.Proofs.YtehopaabfoopeaaGreat
open Go.RowKit
open Go.Maps
structure RB (w:World) (rb:Nat) (r:RT) (rv wv:Value):Prop where
 head:Blk w rb (r.cells rv wv) 58
 rd:SlC w rv r.a.reads
 wr:SlC w wv r.a.writes
 r8:r.regs.length=8
 s8:r.saved.length=8
 ap:∀ g,rv.ownBlock=some g∨wv.ownBlock=some g → g≠rb∧g<w.heap.size
def outR (r:RT) (k:Int):RT:={ r with ins:=false,start:=0,saved:=zero8,fuel:=0,a:=zeroS,at_:=k }
def giveR (r:RT) (k:Int):RT:=outR { r with regs:=r.saved } k
def failR (r:RT) (e:Int):Told × RT:=((⟨9,0,0,false,e⟩,true),{ (if r.ins=true then giveR r r.start else r) with st:=3,err:=e })
section
variable {w w':World} {rb:Nat} {r:RT} {rv wv:Value}
theorem RB.upd {S:List Nat} (h:RB w rb r rv wv) (u:Upd S w w') (hb:rb ∉ S) (hS:∀ g,rv.ownBlock=some g∨wv.ownBlock=some g → g ∉ S):RB w' rb r rv wv:=
 ⟨h.head.upd u hb,h.rd.upd u (fun g hg=>hS g (.inl hg)),h.wr.upd u (fun g hg=>hS g (.inr hg)),h.r8,h.s8,fun g hg=>⟨(h.ap g hg).1,Nat.lt_of_lt_of_le (h.ap g hg).2 u.size⟩⟩
theorem RB.upd0 (h:RB w rb r rv wv) (u:Upd [] w w'):RB w' rb r rv wv:=h.upd u (by simp) (by simp)
theorem RB.own {r':RT} (h:RB w rb r rv wv) (u:Upd [rb] w w') (hB:Blk w' rb (r'.cells rv wv) 58) (h1:r'.a.reads=r.a.reads) (h2:r'.a.writes=r.a.writes) (h8:r'.regs.length=8) (k8:r'.saved.length=8):RB w' rb r' rv wv:=
 ⟨hB,by rw [h1]; exact h.rd.upd u (fun g hg e=>(h.ap g (.inl hg)).1 (by simpa using e)),by rw [h2]; exact h.wr.upd u (fun g hg e=>(h.ap g (.inr hg)).1 (by simpa using e)),h8,k8,fun g hg=>⟨(h.ap g hg).1,Nat.lt_of_lt_of_le (h.ap g hg).2 u.size⟩⟩
theorem RB.lt (h:RB w rb r rv wv):rb<w.heap.size:=h.head.lt
theorem RB.one {r':RT} (h:RB w rb r rv wv) (k:Nat) (v:Value) (hl:(r.cells rv wv).set k v=r'.cells rv wv) (h1:r'.a.reads=r.a.reads) (h2:r'.a.writes=r.a.writes) (h8:r'.regs.length=8) (k8:r'.saved.length=8):RB (w.setCell ⟨rb,k,none⟩ v) rb r' rv wv:=
 h.own ((Upd.refl _ _).setCell (.inl (by simp)) _) (hl ▸ h.head.set k v) h1 h2 h8 k8
theorem x11event_any (k a v:Int) (w:World):Calls Tryz.prog 87 #[.int .i64 k,.int .u64 a,.int .u64 v] w fun e w'=>e=.returned (.tuple #[(⟨k,a,v,false,0⟩:TE).val,.bool true])∧Upd [] w w':=by
 have hB:=Blk.new w (⟨k,a,v,false,0⟩:TE).cells 86
 refine calls_all fun K hK=>?_
 go_enter Tryz.func87,Tryz.ntmps87
 go_wp2
 exact bodyPost_ret (ev_results2 6 7 rfl _ _ w.heap.size (⟨k,a,v,false,0⟩:TE) (.bool true) rfl rfl hB) rfl (hK _ _ ⟨rfl,(Upd.refl [] _).alloc _⟩)
set_option maxHeartbeats 1000000 in
theorem rout_code (h:RB w rb r rv wv) (k:Int):Calls Tryz.prog 86 #[.pointer (some ⟨rb,0,none⟩),.int .i64 k] w fun e w'=>e=.returned (.tuple #[])∧RB w' rb (outR r k) (.slice none 0 0) (.slice none 0 0)∧Upd [rb] w w':=by
 have hB:=h.head
 have hr8:=h.r8
 have hs8:=h.s8
 obtain ⟨st,er,at_,rs,ins,sta,sv,fu,⟨sn,rd,wl,ph,th,ad,wo,fo,at2⟩⟩:=r
 obtain ⟨r0,r1,r2,r3,r4,r5,r6,r7,rfl⟩:=list8 hr8
 obtain ⟨s0,s1,s2,s3,s4,s5,s6,s7,rfl⟩:=list8 hs8
 clear hr8 hs8 h
 replace hB:Blk w rb [.int .i64 st,.int .i64 er,.int .i64 at_,.int .u64 r0,.int .u64 r1,.int .u64 r2,.int .u64 r3,.int .u64 r4,.int .u64 r5,.int .u64 r6,.int .u64 r7,.bool ins,.int .i64 sta,.int .u64 s0,.int .u64 s1,.int .u64 s2,.int .u64 s3,.int .u64 s4,.int .u64 s5,.int .u64 s6,.int .u64 s7,.int .i64 fu,.int .u64 sn,rv,wv,.int .i64 ph,.int .i64 th,.int .u64 ad,.int .u64 wo,.int .u64 fo,.int .i64 at2] 58:=hB
 have c2:=hB.cell 2 rfl
 have c11:=hB.cell 11 rfl
 have c12:=hB.cell 12 rfl
 have c13:=hB.cell 13 rfl
 have c14:=hB.cell 14 rfl
 have c15:=hB.cell 15 rfl
 have c16:=hB.cell 16 rfl
 have c17:=hB.cell 17 rfl
 have c18:=hB.cell 18 rfl
 have c19:=hB.cell 19 rfl
 have c20:=hB.cell 20 rfl
 have c21:=hB.cell 21 rfl
 have c22:=hB.cell 22 rfl
 have c23:=hB.cell 23 rfl
 have c24:=hB.cell 24 rfl
 have c25:=hB.cell 25 rfl
 have c26:=hB.cell 26 rfl
 have c27:=hB.cell 27 rfl
 have c28:=hB.cell 28 rfl
 have c29:=hB.cell 29 rfl
 have c30:=hB.cell 30 rfl
 have g2:=hB.free 2
 have g11:=hB.free 11
 have g12:=hB.free 12
 have g13:=hB.free 13
 have g14:=hB.free 14
 have g15:=hB.free 15
 have g16:=hB.free 16
 have g17:=hB.free 17
 have g18:=hB.free 18
 have g19:=hB.free 19
 have g20:=hB.free 20
 have g21:=hB.free 21
 have g22:=hB.free 22
 have g23:=hB.free 23
 have g24:=hB.free 24
 have g25:=hB.free 25
 have g26:=hB.free 26
 have g27:=hB.free 27
 have g28:=hB.free 28
 have g29:=hB.free 29
 have g30:=hB.free 30
 have hZ:=(((((((((((((((((((((hB.set 11 (.bool false)).set 12 (.int .i64 0)).set 13 (.int .u64 0)).set 14 (.int .u64 0)).set 15 (.int .u64 0)).set 16 (.int .u64 0)).set 17 (.int .u64 0)).set 18 (.int .u64 0)).set 19 (.int .u64 0)).set 20 (.int .u64 0)).set 21 (.int .i64 0)).set 22 (.int .u64 0)).set 23 (.slice none 0 0)).set 24 (.slice none 0 0)).set 25 (.int .i64 0)).set 26 (.int .i64 0)).set 27 (.int .u64 0)).set 28 (.int .u64 0)).set 29 (.int .u64 0)).set 30 (.int .i64 0)).set 2 (.int .i64 k))
 simp only [List.set_cons_zero,List.set_cons_succ] at hZ
 have hU:Upd [rb] w (((((((((((((((((((((w.setCell ⟨rb,11,none⟩ (.bool false)).setCell ⟨rb,12,none⟩ (.int .i64 0)).setCell ⟨rb,13,none⟩ (.int .u64 0)).setCell ⟨rb,14,none⟩ (.int .u64 0)).setCell ⟨rb,15,none⟩ (.int .u64 0)).setCell ⟨rb,16,none⟩ (.int .u64 0)).setCell ⟨rb,17,none⟩ (.int .u64 0)).setCell ⟨rb,18,none⟩ (.int .u64 0)).setCell ⟨rb,19,none⟩ (.int .u64 0)).setCell ⟨rb,20,none⟩ (.int .u64 0)).setCell ⟨rb,21,none⟩ (.int .i64 0)).setCell ⟨rb,22,none⟩ (.int .u64 0)).setCell ⟨rb,23,none⟩ (.slice none 0 0)).setCell ⟨rb,24,none⟩ (.slice none 0 0)).setCell ⟨rb,25,none⟩ (.int .i64 0)).setCell ⟨rb,26,none⟩ (.int .i64 0)).setCell ⟨rb,27,none⟩ (.int .u64 0)).setCell ⟨rb,28,none⟩ (.int .u64 0)).setCell ⟨rb,29,none⟩ (.int .u64 0)).setCell ⟨rb,30,none⟩ (.int .i64 0)).setCell ⟨rb,2,none⟩ (.int .i64 k)):=
  ((((((((((((((((((((((Upd.refl [rb] w).setCell (.inl (by simp)) (.bool false)).setCell (.inl (by simp)) (.int .i64 0)).setCell (.inl (by simp)) (.int .u64 0)).setCell (.inl (by simp)) (.int .u64 0)).setCell (.inl (by simp)) (.int .u64 0)).setCell (.inl (by simp)) (.int .u64 0)).setCell (.inl (by simp)) (.int .u64 0)).setCell (.inl (by simp)) (.int .u64 0)).setCell (.inl (by simp)) (.int .u64 0)).setCell (.inl (by simp)) (.int .u64 0)).setCell (.inl (by simp)) (.int .i64 0)).setCell (.inl (by simp)) (.int .u64 0)).setCell (.inl (by simp)) (.slice none 0 0)).setCell (.inl (by simp)) (.slice none 0 0)).setCell (.inl (by simp)) (.int .i64 0)).setCell (.inl (by simp)) (.int .i64 0)).setCell (.inl (by simp)) (.int .u64 0)).setCell (.inl (by simp)) (.int .u64 0)).setCell (.inl (by simp)) (.int .u64 0)).setCell (.inl (by simp)) (.int .i64 0)).setCell (.inl (by simp)) (.int .i64 k))
 have HZ:=Lib.hid hZ
 have HU:=Lib.hid hU
 clear hZ hU hB
 refine calls_all fun K hK=>?_
 go_enter Tryz.func86,Tryz.ntmps86
 go_wp2_with fail
 go_returns
 exact hK _ _ ⟨rfl,⟨HZ.out,SlC.nil _,SlC.nil _,rfl,rfl,by simp [Value.ownBlock]⟩,HU.out⟩
set_option maxHeartbeats 1000000 in
theorem rgive_code (h:RB w rb r rv wv) (k:Int):Calls Tryz.prog 88 #[.pointer (some ⟨rb,0,none⟩),.int .i64 k] w fun e w'=>e=.returned (.tuple #[])∧RB w' rb (giveR r k) (.slice none 0 0) (.slice none 0 0)∧Upd [rb] w w':=by
 have hB:=h.head
 have hr8:=h.r8
 have hs8:=h.s8
 have H:=Lib.hid h
 obtain ⟨st,er,at_,rs,ins,sta,sv,fu,⟨sn,rd,wl,ph,th,ad,wo,fo,at2⟩⟩:=r
 obtain ⟨r0,r1,r2,r3,r4,r5,r6,r7,rfl⟩:=list8 hr8
 obtain ⟨s0,s1,s2,s3,s4,s5,s6,s7,rfl⟩:=list8 hs8
 clear hr8 hs8 h
 replace hB:Blk w rb [.int .i64 st,.int .i64 er,.int .i64 at_,.int .u64 r0,.int .u64 r1,.int .u64 r2,.int .u64 r3,.int .u64 r4,.int .u64 r5,.int .u64 r6,.int .u64 r7,.bool ins,.int .i64 sta,.int .u64 s0,.int .u64 s1,.int .u64 s2,.int .u64 s3,.int .u64 s4,.int .u64 s5,.int .u64 s6,.int .u64 s7,.int .i64 fu,.int .u64 sn,rv,wv,.int .i64 ph,.int .i64 th,.int .u64 ad,.int .u64 wo,.int .u64 fo,.int .i64 at2] 58:=hB
 have c3:=hB.cell 3 rfl
 have c4:=hB.cell 4 rfl
 have c5:=hB.cell 5 rfl
 have c6:=hB.cell 6 rfl
 have c7:=hB.cell 7 rfl
 have c8:=hB.cell 8 rfl
 have c9:=hB.cell 9 rfl
 have c10:=hB.cell 10 rfl
 have c13:=hB.cell 13 rfl
 have c14:=hB.cell 14 rfl
 have c15:=hB.cell 15 rfl
 have c16:=hB.cell 16 rfl
 have c17:=hB.cell 17 rfl
 have c18:=hB.cell 18 rfl
 have c19:=hB.cell 19 rfl
 have c20:=hB.cell 20 rfl
 have g3:=hB.free 3
 have g4:=hB.free 4
 have g5:=hB.free 5
 have g6:=hB.free 6
 have g7:=hB.free 7
 have g8:=hB.free 8
 have g9:=hB.free 9
 have g10:=hB.free 10
 have hZ:=((((((((hB.set 3 (.int .u64 s0)).set 4 (.int .u64 s1)).set 5 (.int .u64 s2)).set 6 (.int .u64 s3)).set 7 (.int .u64 s4)).set 8 (.int .u64 s5)).set 9 (.int .u64 s6)).set 10 (.int .u64 s7))
 simp only [List.set_cons_zero,List.set_cons_succ] at hZ
 have hU:Upd [rb] w ((((((((w.setCell ⟨rb,3,none⟩ (.int .u64 s0)).setCell ⟨rb,4,none⟩ (.int .u64 s1)).setCell ⟨rb,5,none⟩ (.int .u64 s2)).setCell ⟨rb,6,none⟩ (.int .u64 s3)).setCell ⟨rb,7,none⟩ (.int .u64 s4)).setCell ⟨rb,8,none⟩ (.int .u64 s5)).setCell ⟨rb,9,none⟩ (.int .u64 s6)).setCell ⟨rb,10,none⟩ (.int .u64 s7)):=(((((((((Upd.refl [rb] w).setCell (.inl (by simp)) (.int .u64 s0)).setCell (.inl (by simp)) (.int .u64 s1)).setCell (.inl (by simp)) (.int .u64 s2)).setCell (.inl (by simp)) (.int .u64 s3)).setCell (.inl (by simp)) (.int .u64 s4)).setCell (.inl (by simp)) (.int .u64 s5)).setCell (.inl (by simp)) (.int .u64 s6)).setCell (.inl (by simp)) (.int .u64 s7))
 obtain ⟨W1,hW1⟩:∃ W,((((((((w.setCell ⟨rb,3,none⟩ (.int .u64 s0)).setCell ⟨rb,4,none⟩ (.int .u64 s1)).setCell ⟨rb,5,none⟩ (.int .u64 s2)).setCell ⟨rb,6,none⟩ (.int .u64 s3)).setCell ⟨rb,7,none⟩ (.int .u64 s4)).setCell ⟨rb,8,none⟩ (.int .u64 s5)).setCell ⟨rb,9,none⟩ (.int .u64 s6)).setCell ⟨rb,10,none⟩ (.int .u64 s7))=W:=⟨_,rfl⟩
 rw [hW1] at hZ hU
 have H1:RB W1 rb ⟨st,er,at_,[s0,s1,s2,s3,s4,s5,s6,s7],ins,sta,[s0,s1,s2,s3,s4,s5,s6,s7],fu,⟨sn,rd,wl,ph,th,ad,wo,fo,at2⟩⟩ rv wv:=H.out.own hU hZ rfl rfl rfl rfl
 have HO:=Lib.hid (rout_code H1 k)
 have HU:=Lib.hid hU
 clear hZ hU hB H1
 refine calls_all fun K hK=>?_
 go_enter Tryz.func88,Tryz.ntmps88
 go_wp2_with fail
 clear hW1
 refine HO.out.mono ?_
 rintro e W2 ⟨rfl,h2,u2⟩
 have H2:=Lib.hid h2
 have HU2:=Lib.hid (HU.out.trans u2)
 clear h2 u2
 go_wp2_with fail
 go_returns
 exact hK _ _ ⟨rfl,H2.out,HU2.out⟩
set_option maxHeartbeats 1000000 in
theorem rfail_code (h:RB w rb r rv wv) (k:Int):Calls Tryz.prog 57 #[.pointer (some ⟨rb,0,none⟩),.int .i64 k] w fun e w'=>e=.returned (.tuple #[(failR r k).1.1.val,.bool true])∧∃ rv' wv',RB w' rb (failR r k).2 rv' wv'∧Upd [rb] w w'∧(rv'=rv∨rv'=.slice none 0 0)∧(wv'=wv∨wv'=.slice none 0 0):=by
 have hv:(failR r k).1.1.val=.agg #[.int .i64 0,.int .i64 9,.int .u64 0,.int .u64 0,.bool false,.int .i64 k]:=rfl
 rw [hv]
 clear hv
 obtain ⟨W1,hW1⟩:∃ W,w.alloc (.cells #[.int .i64 0,.int .i64 0,.int .u64 0,.int .u64 0,.bool false,.int .i64 0] 86)=W:=⟨_,rfl⟩
 have u1:Upd [] w W1:=by rw [← hW1]; exact (Upd.refl [] _).alloc _
 have EB:Blk W1 w.heap.size (TE.cells ⟨0,0,0,false,0⟩) 86:=by rw [← hW1]; exact Blk.new w _ _
 have hne:rb≠w.heap.size:=by have:=h.lt; omega
 have hap:∀ g,rv.ownBlock=some g∨wv.ownBlock=some g → g<w.heap.size:=fun g hg=>(h.ap g hg).2
 have h1:=h.upd0 u1
 have hins:=h1.head.cell 11 (by obtain ⟨st,er,at_,rs,ins,sta,sv,fu,a⟩:=r; obtain ⟨r0,r1,r2,r3,r4,r5,r6,r7,rfl⟩:=list8 h.r8; rfl:(r.cells rv wv)[11]? = some (.bool r.ins))
 have hsta:=h1.head.cell 12 (by obtain ⟨st,er,at_,rs,ins,sta,sv,fu,a⟩:=r; obtain ⟨r0,r1,r2,r3,r4,r5,r6,r7,rfl⟩:=list8 h.r8; rfl:(r.cells rv wv)[12]? = some (.int .i64 r.start))
 have HH:=Lib.hid h1
 have HEB:=Lib.hid EB
 have HU1:=Lib.hid u1
 clear h h1 EB u1
 have fin:∀ (W:World) (r2:RT) (rv2 wv2:Value),RB W rb r2 rv2 wv2 → Upd [rb] w W → RB ((W.setCell ⟨rb,0,none⟩ (.int .i64 3)).setCell ⟨rb,1,none⟩ (.int .i64 k)) rb { r2 with st:=3,err:=k } rv2 wv2∧Upd [rb] w ((W.setCell ⟨rb,0,none⟩ (.int .i64 3)).setCell ⟨rb,1,none⟩ (.int .i64 k)):=fun W r2 rv2 wv2 h u =>
  ⟨(h.one (r':={ r2 with st:=3 }) 0 _ rfl rfl rfl h.r8 h.s8).one (r':={ r2 with st:=3,err:=k }) 1 _ rfl rfl rfl h.r8 h.s8,(u.setCell (.inl (by simp)) _).setCell (.inl (by simp)) _⟩
 have HFIN:=Lib.hid fin
 clear fin
 cases hi:r.ins with
 | true =>
  have hf:(failR r k).2 = { giveR r r.start with st:=3,err:=k }:=by unfold failR; rw [if_pos hi]
  rw [hf]
  rw [hi] at hins
  have HG:=Lib.hid (rgive_code HH.out r.start)
  clear hf hi hap
  refine calls_all fun K hK=>?_
  go_enter Tryz.func57,Tryz.ntmps57
  go_wp2_with fail
  clear hW1
  refine HG.out.mono ?_
  rintro e W2 ⟨rfl,h2,u2⟩
  have g0:=h2.head.cell 0 rfl
  have g1:=h2.head.cell 1 rfl
  have f0:=h2.head.free 0
  have f1:=h2.head.free 1
  have H2:=Lib.hid h2
  have HE2:=Lib.hid (HEB.out.upd u2 (by simpa using hne.symm))
  have HU2:=Lib.hid ((HU1.out.mono (by simp)).trans u2)
  clear h2 u2 hins hsta
  go_upto_region 5 with (fail)
  generalize hW3:((W2.setCell ⟨rb,0,none⟩ (.int .i64 3)).setCell ⟨rb,1,none⟩ (.int .i64 k))=W3
  obtain ⟨h3,hu3⟩:=HFIN.out W2 _ _ _ H2.out HU2.out
  have uu:Upd [rb] W2 W3:=by rw [← hW3]; exact ((Upd.refl _ _).setCell (.inl (by simp)) _).setCell (.inl (by simp)) _
  rw [hW3] at h3 hu3
  have hE3:=HE2.out.upd uu (by simpa using hne.symm)
  have H3:=Lib.hid h3
  have HU3:=Lib.hid hu3
  have HE3:=Lib.hid hE3
  clear h3 hu3 hW3 uu hE3 H2 HU2 HE2 g0 g1 f0 f1
  have q0:=(HE3.out).cell 0 rfl
  have q1:=(HE3.out).cell 1 rfl
  have q2:=(HE3.out).cell 2 rfl
  have q3:=(HE3.out).cell 3 rfl
  have q4:=(HE3.out).cell 4 rfl
  have q5:=(HE3.out).cell 5 rfl
  have f0:=(HE3.out).free 0
  have f1:=(HE3.out).free 1
  have f2:=(HE3.out).free 2
  have f3:=(HE3.out).free 3
  have f4:=(HE3.out).free 4
  have f5:=(HE3.out).free 5
  dsimp only at q0 q1 q2 q3 q4 q5
  go_wp2_with fail
  exact bodyPost_ret (ev_results2 4 5 rfl _ _ w.heap.size (⟨9,0,0,false,k⟩:TE) (.bool true) rfl rfl (ev_set HE3.out (⟨9,0,0,false,k⟩:TE))) rfl (hK _ _ ⟨rfl,_,_,H3.out.upd (ev_upd (S:=[w.heap.size]) (Upd.refl _ _) (.inl (by simp)) _ _ _ _ _ _) (by simpa using hne) (by simp [Value.ownBlock]),ev_upd HU3.out (.inr (Nat.le_refl _)) _ _ _ _ _ _,.inr rfl,.inr rfl⟩)
 | false =>
  have hf:(failR r k).2 = { r with st:=3,err:=k }:=by unfold failR; rw [if_neg (by simp [hi])]
  rw [hf]
  rw [hi] at hins
  have g0:=HH.out.head.cell 0 rfl
  have g1:=HH.out.head.cell 1 rfl
  have f0:=HH.out.head.free 0
  have f1:=HH.out.head.free 1
  have HAP:=Lib.hid (fun g (hg:rv.ownBlock=some g∨wv.ownBlock=some g)=>hap g hg)
  clear hf hi hap
  refine calls_all fun K hK=>?_
  go_enter Tryz.func57,Tryz.ntmps57
  go_upto_region 5 with (fail)
  have H2:=HH
  have HE2:=HEB
  have HU2:=Lib.hid (HU1.out.mono (T:=[rb]) (by simp))
  generalize hW3:((W1.setCell ⟨rb,0,none⟩ (.int .i64 3)).setCell ⟨rb,1,none⟩ (.int .i64 k))=W3
  obtain ⟨h3,hu3⟩:=HFIN.out W1 _ _ _ H2.out HU2.out
  have uu:Upd [rb] W1 W3:=by rw [← hW3]; exact ((Upd.refl _ _).setCell (.inl (by simp)) _).setCell (.inl (by simp)) _
  rw [hW3] at h3 hu3
  have hE3:=HE2.out.upd uu (by simpa using hne.symm)
  have H3:=Lib.hid h3
  have HU3:=Lib.hid hu3
  have HE3:=Lib.hid hE3
  clear h3 hu3 hW3 uu hE3 H2 HU2 HE2 g0 g1 f0 f1 hins hsta
  have q0:=(HE3.out).cell 0 rfl
  have q1:=(HE3.out).cell 1 rfl
  have q2:=(HE3.out).cell 2 rfl
  have q3:=(HE3.out).cell 3 rfl
  have q4:=(HE3.out).cell 4 rfl
  have q5:=(HE3.out).cell 5 rfl
  have f0:=(HE3.out).free 0
  have f1:=(HE3.out).free 1
  have f2:=(HE3.out).free 2
  have f3:=(HE3.out).free 3
  have f4:=(HE3.out).free 4
  have f5:=(HE3.out).free 5
  dsimp only at q0 q1 q2 q3 q4 q5
  go_wp2_with fail
  exact bodyPost_ret (ev_results2 4 5 rfl _ _ w.heap.size (⟨9,0,0,false,k⟩:TE) (.bool true) rfl rfl (ev_set HE3.out (⟨9,0,0,false,k⟩:TE))) rfl (hK _ _ ⟨rfl,_,_,H3.out.upd (ev_upd (S:=[w.heap.size]) (Upd.refl _ _) (.inl (by simp)) _ _ _ _ _ _) (by simpa using hne) (fun g hg=>by have:=HAP.out g hg; simp; omega),ev_upd HU3.out (.inr (Nat.le_refl _)) _ _ _ _ _ _,.inl rfl,.inl rfl⟩)
end
end Go.Proofs.YtehopaabfoopeaaGreat
set_option linter.unusedSimpArgs false
set_option linter.unusedVariables false
set_option maxRecDepth 100000
namespace Go.Proofs.YtehopaabfoopeaaGreat
open Go.RowKit
def nameBs:List (List UInt8):=[[],[99,111,110,115,116],[109,111,118,101],[97,100,100],[115,117,98],[109,117,108],[108,101,115,115],[101,113,117,97,108],[106,117,109,112],[122,101,114,111],[108,111,97,100],[115,116,111,114,101],[98,101,103,105,110],[103,101,116],[112,117,116],[101,110,100],[97,98,111,114,116],[104,97,108,116]]
def strV (l:List UInt8):Value:=.string ⟨l.toArray⟩
def nameI (op:Int):List UInt8:=if op<0 then [] else nameBs.getD op.toNat []
set_option maxHeartbeats 8000000 in
theorem rname_at (op:Int) (w:World):Calls Tryz.prog 81 #[.int .i64 op] w fun e w'=>e=.returned (strV (nameI op))∧∃ o,w'=w.alloc o:=by
 by_cases h:0≤op∧op<18
 ·have hc:op=0∨op=1∨op=2∨op=3∨op=4∨op=5∨op=6∨op=7∨op=8∨op=9∨op=10∨op=11∨op=12∨op=13∨op=14∨op=15∨op=16∨op=17:=by omega
  clear h
  rcases hc with rfl | rfl | rfl | rfl | rfl | rfl | rfl | rfl | rfl | rfl | rfl | rfl | rfl | rfl | rfl | rfl | rfl | rfl
  all_goals
   refine calls_all fun K hK=>?_
   go_enter Tryz.func81,Tryz.ntmps81
   go_wp2
   first | exact ⟨rfl,_,rfl⟩ | exact ⟨_,rfl⟩
 ·by_cases hn:op<0
  ·have e1:decide (op<0)=true:=decide_eq_true hn
   have en:nameI op=[]:=if_pos hn
   rw [en]
   clear h
   refine calls_all fun K hK=>?_
   go_enter Tryz.func81,Tryz.ntmps81
   go_wp2
   first | exact ⟨rfl,_,rfl⟩ | exact ⟨_,rfl⟩
  ·obtain ⟨n,rfl⟩:∃ n:Nat,op=n:=⟨op.toNat,by omega⟩
   have hge:18≤n:=by omega
   have en:nameI n=[]:=by
    unfold nameI
    rw [if_neg hn]
    rw [List.getD_eq_getElem?_getD,List.getElem?_eq_none (by simp [nameBs]; omega)]
    rfl
   rw [en]
   clear h hn
   refine calls_all fun K hK=>?_
   go_enter Tryz.func81,Tryz.ntmps81
   go_wp2
   first | exact ⟨rfl,_,rfl⟩ | exact ⟨_,rfl⟩
set_option maxHeartbeats 40000000 in
theorem rinfo (op:Int) (w:World):Calls Tryz.prog 54 #[.int .i64 op] w fun e w'=>e=.returned (.tuple #[(formI op).val,.bool (isOp op)])∧Upd [] w w':=by
 have HM:=fun w=>rname_at op w
 by_cases h:1≤op∧op≤17
 ·have hc:op=1∨op=2∨op=3∨op=4∨op=5∨op=6∨op=7∨op=8∨op=9∨op=10∨op=11∨op=12∨op=13∨op=14∨op=15∨op=16∨op=17:=by omega
  clear h
  rcases hc with rfl | rfl | rfl | rfl | rfl | rfl | rfl | rfl | rfl | rfl | rfl | rfl | rfl | rfl | rfl | rfl | rfl
  all_goals
   simp [strV,nameI,nameBs] at HM
   refine calls_all fun K hK=>?_
   go_enter Tryz.func54,Tryz.ntmps54
   go_wp2_with fail
   refine (HM _).mono ?_
   rintro e w1 ⟨rfl,o,rfl⟩
   go_wp2
   all_goals first | exact ⟨rfl,((((Upd.refl _ _).alloc _).alloc _).alloc _)⟩ | (go_returns; exact hK _ _ ⟨rfl,((((Upd.refl _ _).alloc _).alloc _).alloc _)⟩)
 ·have ef:formI op=⟨0,false,false,false,false⟩:=if_neg h
  have ei:isOp op=false:=decide_eq_false h
  have en:nameI op=[]:=by
   unfold nameI
   by_cases hn:op<0
   ·rw [if_pos hn]
   ·rw [if_neg hn]
    obtain ⟨n,rfl⟩:∃ n:Nat,op=n:=⟨op.toNat,by omega⟩
    have hn':n=0∨18≤n:=by omega
    rcases hn' with rfl | hn'
    ·rfl
    ·rw [Int.toNat_natCast,List.getD_eq_getElem?_getD,List.getElem?_eq_none (by simp [nameBs]; omega)]
     rfl
  rw [en] at HM
  rw [ef,ei]
  simp [strV] at HM
  clear h ef ei en
  refine calls_all fun K hK=>?_
  go_enter Tryz.func54,Tryz.ntmps54
  go_wp2_with fail
  refine (HM _).mono ?_
  rintro e w1 ⟨rfl,o,rfl⟩
  go_wp2
  all_goals first | exact ⟨rfl,((((Upd.refl _ _).alloc _).alloc _).alloc _)⟩ | (go_returns; exact hK _ _ ⟨rfl,((((Upd.refl _ _).alloc _).alloc _).alloc _)⟩)
theorem rregs (i:Ins) (w:World):Calls Tryz.prog 55 #[i.val] w fun e w'=>e=.returned (.agg #[.int .i64 i.a,.int .i64 i.b,.int .i64 i.c])∧Upd [] w w':=by
 obtain ⟨op,a,b,c,n⟩:=i
 simp only [Ins.val]
 refine calls_all fun K hK=>?_
 go_enter Tryz.func55,Tryz.ntmps55
 go_wp2
 go_returns
 exact hK _ _ ⟨rfl,((Upd.refl _ _).alloc _).alloc _⟩
set_option maxHeartbeats 8000000 in
theorem rformed (i:Ins) (w:World):Calls Tryz.prog 32 #[i.val] w fun e w'=>e=.returned (.bool (formed i))∧Upd [] w w':=by
 obtain ⟨f,hf⟩:∃ f,formI i.op=f:=⟨_,rfl⟩
 obtain ⟨ok,hok⟩:∃ ok,isOp i.op=ok:=⟨_,rfl⟩
 have HI:∀ w,Calls Tryz.prog 54 #[.int .i64 i.op] w fun e w'=>e=.returned (.tuple #[f.val,.bool ok])∧Upd [] w w':=fun w=>by rw [← hf,← hok]; exact rinfo i.op w
 have HR:=fun w=>rregs i w
 have hform:formed i=formedF f.regs i.reg (ok && (f.num || decide (i.n=0))):=by
  unfold formed; rw [hf,hok]
 have hrc:=reg_cell i
 have HF:=Lib.hid hform
 clear hf hok hform
 obtain ⟨op,a,b,c,n⟩:=i
 simp only [Ins.val] at HR HI ⊢
 obtain ⟨R,nm,tg,ou,is⟩:=f
 simp only [Form.val] at HI
 obtain ⟨reg,hreg⟩:∃ reg,Ins.reg ⟨op,a,b,c,n⟩=reg:=⟨_,rfl⟩
 rw [hreg] at hrc HF
 clear hreg
 obtain ⟨F,hFF⟩:∃ F,formed ⟨op,a,b,c,n⟩=F:=⟨_,rfl⟩
 rw [hFF] at HF ⊢
 clear hFF
 refine calls_all fun K hK=>?_
 go_enter Tryz.func32,Tryz.ntmps32
 go_wp2_with fail
 refine (HI _).mono ?_
 rintro e w1 ⟨rfl,u1⟩
 have u0:Upd [] w w1:=((Upd.refl _ _).alloc _).trans u1
 have hb:Blk w1 w.heap.size [.int .i64 op,.int .i64 a,.int .i64 b,.int .i64 c,.int .u64 n] 50:=(Blk.new w _ _).upd u1 (by simp)
 clear u1
 have hbA:=hb.alloc (.cells #[.int .i64 (R:Int),.bool nm,.bool tg,.bool ou,.bool is] 116)
 have d0:=hbA.cell 0 rfl
 have d1:=hbA.cell 1 rfl
 have d2:=hbA.cell 2 rfl
 have d3:=hbA.cell 3 rfl
 have d4:=hbA.cell 4 rfl
 clear hbA
 have HB:=Lib.hid hb
 have U0:=Lib.hid u0
 clear hb u0
 go_wp2_with fail
 refine (HR _).mono ?_
 rintro e w2 ⟨rfl,u2⟩
 have hf2:=((Blk.new w1 [.int .i64 (R:Int),.bool nm,.bool tg,.bool ou,.bool is] 116).upd u2 (by simp)).alloc (.cells #[.int .i64 a,.int .i64 b,.int .i64 c] 119)
 have hb2:=((HB.out.alloc (.cells #[.int .i64 (R:Int),.bool nm,.bool tg,.bool ou,.bool is] 116)).upd u2 (by simp)).alloc (.cells #[.int .i64 a,.int .i64 b,.int .i64 c] 119)
 have hg2:=Blk.new w2 [.int .i64 a,.int .i64 b,.int .i64 c] 119
 have U2:=Lib.hid (((U0.out.alloc (.cells #[.int .i64 (R:Int),.bool nm,.bool tg,.bool ou,.bool is] 116)).trans u2).alloc (.cells #[.int .i64 a,.int .i64 b,.int .i64 c] 119))
 clear d0 d1 d2 d3 d4 u2 HB U0
 go_wp2_with fail
 obtain ⟨W,hW⟩:∃ W,w2.alloc (.cells #[.int .i64 a,.int .i64 b,.int .i64 c] 119)=W:=⟨_,rfl⟩
 rw [hW] at hf2 hb2 hg2 U2 ⊢
 clear hW
 have f0:=hf2.cell 0 rfl
 have f1:=hf2.cell 1 rfl
 have b4:=hb2.cell 4 rfl
 clear hf2 hb2
 go_loop [6] (fun v16=>∃ k:Nat,k≤3∧v16=.int .i64 k∧∀ j,j<k → okReg R reg j=true) (fun v16=>3 - (intOf v16).toNat)
 case atStart=>exact ⟨0,by omega,rfl,by omega⟩
 case round =>
  obtain ⟨k,hk,rfl,hall⟩:=hrel
  have HA:=Lib.hid hall
  clear hall
  by_cases hlt:k<3
  ·have hc:=hg2.cell k (hrc k hlt)
   have hkl:(k:Int)<3:=by omega
   have HN:Hid (okReg R reg k=false → F=false):=Lib.hid fun h=>HF.out.trans (formedF_no h hlt)
   obtain ⟨r,hr⟩:∃ r,reg k=r:=⟨_,rfl⟩
   rw [hr] at hc
   have HK:=Lib.hid hr
   clear hr hrc
   by_cases hkR:k<R
   ·by_cases h0:r<0
    ·have e0:=HN.out (okReg_neg (by rw [HK.out]; exact h0))
     subst e0
     clear HN HF
     go_wp2
     all_goals first | exact U2.out | exact ⟨rfl,U2.out⟩
    ·by_cases h8:8≤r
     ·have e0:=HN.out (okReg_big (by rw [HK.out]; exact h8))
      subst e0
      clear HN HF
      go_wp2
      all_goals first | exact U2.out | exact ⟨rfl,U2.out⟩
     ·have HY:=Lib.hid (okReg_in hkR (show 0≤reg k by rw [HK.out]; omega) (show reg k<8 by rw [HK.out]; omega))
      have hnk:decide (R≤k)=false:=decide_eq_false (by omega)
      clear HN
      go_wp2
      go_round
      case rel=>exact ⟨k+1,by omega,by go_num,fun j hj=>by rcases Nat.lt_succ_iff_lt_or_eq.1 hj with h | rfl; exact HA.out j h; exact HY.out⟩
      case measure=>simp [intOf]; omega
   ·have hRk:R≤k:=by omega
    by_cases hz:r=0
    ·have HY:=Lib.hid (okReg_zero hkR (show reg k=0 by rw [HK.out]; exact hz))
     subst hz
     clear HN
     go_wp2
     go_round
     case rel=>exact ⟨k+1,by omega,by go_num,fun j hj=>by rcases Nat.lt_succ_iff_lt_or_eq.1 hj with h | rfl; exact HA.out j h; exact HY.out⟩
     case measure=>simp [intOf]; omega
    ·have e0:=HN.out (okReg_more hkR (by rw [HK.out]; exact hz))
     subst e0
     have hzz:(r != 0)=true:=by simpa using hz
     clear HN HF
     go_wp2
     all_goals first | exact U2.out | exact ⟨rfl,U2.out⟩
  ·obtain rfl:k=3:=by omega
   have eF:=HF.out.trans (formedF_yes HA.out)
   have HE:=Lib.hid eF
   clear eF HF
   by_cases hn:n=0
   ·subst hn
    cases ok <;> cases nm
    all_goals
     go_wp2
     all_goals first | exact ⟨by rw [HE.out]; rfl,U2.out⟩ | (rw [HE.out]; exact ⟨rfl,U2.out⟩) | (rw [HE.out]; exact U2.out)
   ·have hnn:(n == 0)=false:=beq_eq_false_iff_ne.2 hn
    have hdn:decide (n=0)=false:=decide_eq_false hn
    cases ok <;> cases nm
    all_goals
     go_wp2
     all_goals first | exact ⟨by rw [HE.out,hdn]; rfl,U2.out⟩ | (rw [HE.out]; exact ⟨rfl,U2.out⟩) | (rw [HE.out]; exact U2.out)
end Go.Proofs.YtehopaabfoopeaaGreat
set_option linter.unusedSimpArgs false
set_option linter.unusedVariables false
set_option maxRecDepth 100000
namespace Go.Proofs.YtehopaabfoopeaaGreat
open Go.RowKit
open Go.Maps
theorem xop_code {w:World} {po:Option Addr} {cap:Nat} {p:List Ins} (h:CodeAt w po p) (hl:p.length≤4611686018427387904) (k:Int):Calls Tryz.prog 44 #[.slice po p.length cap,.int .i64 k] w fun e w'=>e=.returned (.int .i64 (opAt p k))∧w=w':=by
 by_cases h0:k<0
 ·have hd:decide (k<0)=true:=by simpa using h0
  rw [opAt_out p (.inl h0)]
  clear h h0
  refine calls_all fun K hK=>?_
  go_enter Tryz.func44,Tryz.ntmps44
  go_wp2
  all_goals first | exact ⟨rfl,rfl⟩ | skip
 ·have hd:decide (k<0)=false:=by simpa using h0
  by_cases h1:(p.length:Int)≤k
  ·have hd1:decide ((p.length:Int)≤k)=true:=by simpa using h1
   rw [opAt_out p (.inr h1)]
   clear h h0 h1
   refine calls_all fun K hK=>?_
   go_enter Tryz.func44,Tryz.ntmps44
   go_wp2
   all_goals first | exact ⟨rfl,rfl⟩ | skip
  ·obtain ⟨i,rfl⟩:∃ i:Nat,k=i:=⟨k.toNat,by omega⟩
   have hil:(i:Int)<p.length:=by omega
   have hx:=insAt_get p (k:=i) (by omega) hil
   simp only [Int.toNat_natCast] at hx
   obtain ⟨b,o,rfl,hc,_⟩:=h i _ hx
   have hd1:decide ((p.length:Int)≤(i:Int))=false:=by simp; omega
   have hi0:(0:Int)≤i:=by omega
   rw [show opAt p i=(insAt p i).op from rfl]
   generalize (insAt p i).op=op at hc ⊢
   clear h hx h0 h1
   refine calls_all fun K hK=>?_
   go_enter Tryz.func44,Tryz.ntmps44
   go_wp2
   all_goals first | exact ⟨rfl,rfl⟩ | skip
theorem place_at {l:List (Int × Int)} {x:Int} {k:Nat} (hk:k<l.length) (h:∀ j,j<k → (l.map (·.1))[j]? ≠ some x) (he:(l.map (·.1))[k]? = some x):place l x=some k:=by
 unfold place
 rw [List.findIdx?_eq_some_iff_getElem]
 refine ⟨hk,by simpa [hk] using he,fun j hj=>?_⟩
 have:=h j hj
 simp [show j<l.length by omega] at this
 simpa using this
theorem place_not {l:List (Int × Int)} {x:Int} (h:∀ j,j<l.length → (l.map (·.1))[j]? ≠ some x):place l x=none:=by
 unfold place
 rw [List.findIdx?_eq_none_iff]
 intro c hc
 obtain ⟨j,hj,rfl⟩:=List.getElem_of_mem hc
 have:=h j hj
 simpa [hj] using this
def placeI (l:List (Int × Int)) (x:Int):Int:=match place l x with | some k=>(k:Int) | none=>-1
theorem xfind_code {w:World} {v:Value} {l:List (Int × Int)} (x:Int) (h:SlC w v l) (hl:l.length≤4611686018427387904):Calls Tryz.prog 71 #[v,.int .u64 x] w fun e w'=>e=.returned (.int .i64 (placeI l x))∧w=w':=by
 obtain ⟨p,c,rfl,hc⟩:=h
 obtain ⟨r,hr⟩:∃ r,placeI l x=r:=⟨_,rfl⟩
 have HR:=Lib.hid hr
 rw [hr]
 clear hr
 refine calls_all fun K hK=>?_
 go_enter Tryz.func71,Tryz.ntmps71
 go_wp2_with fail
 go_loopw [5] (fun v5 wr=>∃ i:Nat,i≤l.length∧v5=.int .i64 (i:Int)∧wr=w∧∀ j,j<i → (l.map (·.1))[j]? ≠ some x) (fun v5 _=>l.length - (intOf v5).toNat)
 case atStart=>exact ⟨0,by omega,rfl,rfl,fun j hj=>by omega⟩
 case round =>
  obtain ⟨i,hi,rfl,rfl,hall⟩:=hrel
  have HA:=Lib.hid hall
  clear hall
  by_cases hlt:i<l.length
  ·have hlt':(i:Int)<(l.length:Int):=by omega
   obtain ⟨⟨a,b⟩,hab⟩:∃ q,l[i]? = some q:=⟨_,List.getElem?_eq_getElem hlt⟩
   obtain ⟨pb,po,rfl,h0,_⟩:=hc i a b hab
   have HX:=Lib.hid hab
   clear hab
   by_cases hax:a=x
   ·subst hax
    have hp:placeI l a=i:=by
     unfold placeI
     rw [place_at hlt HA.out (by rw [List.getElem?_map,HX.out]; rfl)]
    have HP:=Lib.hid (HR.out.symm.trans hp)
    clear hp
    go_wp2_with fail
    all_goals first | exact ⟨by rw [HP.out]; rfl,rfl⟩ | (rw [HP.out]; exact ⟨rfl,rfl⟩) | exact HP.out.symm | skip
   ·have hb:(a == x)=false:=by simp [hax]
    go_wp2_with fail
    go_roundw
    case rel =>
     refine ⟨i+1,by omega,by go_num,by trivial,fun j hj=>?_⟩
     rcases Nat.lt_succ_iff_lt_or_eq.1 hj with k | rfl
     ·exact HA.out j k
     ·rw [List.getElem?_map,HX.out]; simpa using hax
    case measure=>simp [intOf]; omega
  ·obtain rfl:i=l.length:=by omega
   have hp:placeI l x = -1:=by
    unfold placeI
    rw [place_not HA.out]
   have HP:=Lib.hid (HR.out.symm.trans hp)
   clear hp hc
   go_wp2_with fail
   all_goals first | exact ⟨by rw [HP.out]; rfl,rfl⟩ | (rw [HP.out]; exact ⟨rfl,rfl⟩) | exact HP.out.symm | skip
structure WB (w:World) (wb qb:Nat) (sh:Sh):Prop where
 head:∃ cap,Blk w wb [.slice (some ⟨qb,0,none⟩) sh.row.length cap,.int .u64 sh.clock] 38
 row:∃ sp,Blk w qb (sh.row.map (Value.int .u64) ++ sp) 23
 wide:WideSh sh
 len:sh.row.length≤65536
structure RS (w:World) (rb wb qb:Nat) (r:RT) (sh:Sh) (rv wv:Value):Prop where
 th:RB w rb r rv wv
 wo:WB w wb qb sh
 ap:∀ g,rv.ownBlock=some g∨wv.ownBlock=some g → g≠wb∧g≠qb
section
variable {w w':World} {rb wb qb:Nat} {r:RT} {sh:Sh} {rv wv:Value}
theorem WB.upd {S:List Nat} (h:WB w wb qb sh) (u:Upd S w w') (h1:wb ∉ S) (h2:qb ∉ S):WB w' wb qb sh:=by
 obtain ⟨cap,hh⟩:=h.head
 obtain ⟨sp,hr⟩:=h.row
 exact ⟨⟨cap,hh.upd u h1⟩,⟨sp,hr.upd u h2⟩,h.wide,h.len⟩
theorem WB.lt (h:WB w wb qb sh):wb<w.heap.size∧qb<w.heap.size:=by
 obtain ⟨cap,hh⟩:=h.head
 obtain ⟨sp,hr⟩:=h.row
 exact ⟨hh.lt,hr.lt⟩
theorem WB.ne (h:WB w wb qb sh):wb≠qb:=by
 obtain ⟨cap,hh⟩:=h.head
 obtain ⟨sp,hr⟩:=h.row
 intro e
 subst e
 exact absurd (hh.inj hr).2 (by decide)
theorem RS.ne (h:RS w rb wb qb r sh rv wv):rb≠wb∧rb≠qb:=by
 obtain ⟨cap,hh⟩:=h.wo.head
 obtain ⟨sp,hr⟩:=h.wo.row
 exact ⟨fun e=>by subst e; exact absurd (h.th.head.inj hh).2 (by decide),fun e=>by subst e; exact absurd (h.th.head.inj hr).2 (by decide)⟩
theorem WB.cell (h:WB w wb qb sh) {k:Nat} (hk:k<sh.row.length):w.cell? ⟨qb,k,none⟩=some (.int .u64 (wd sh.row k)):=by
 obtain ⟨sp,hr⟩:=h.row
 refine hr.cell k ?_
 rw [List.getElem?_append_left (by simpa using hk),List.getElem?_map,List.getElem?_eq_getElem hk,wd_get hk]
 rfl
theorem RS.upd {S:List Nat} (h:RS w rb wb qb r sh rv wv) (u:Upd S w w') (h1:rb ∉ S∧wb ∉ S∧qb ∉ S) (h2:∀ g,rv.ownBlock=some g∨wv.ownBlock=some g → g ∉ S):RS w' rb wb qb r sh rv wv:=
 ⟨h.th.upd u h1.1 h2,h.wo.upd u h1.2.1 h1.2.2,h.ap⟩
theorem RS.upd0 (h:RS w rb wb qb r sh rv wv) (u:Upd [] w w'):RS w' rb wb qb r sh rv wv:=h.upd u (by simp) (by simp)
theorem RS.box {b:Nat} (h:RS w rb wb qb r sh rv wv) (u:Upd [b] w w') (h1:rb≠b∧wb≠b∧qb≠b) (h2:∀ g,rv.ownBlock=some g∨wv.ownBlock=some g → g≠b):RS w' rb wb qb r sh rv wv:=
 h.upd u (by simpa using h1) (fun g hg=>by simpa using h2 g hg)
theorem RS.one {r':RT} (h:RS w rb wb qb r sh rv wv) (k:Nat) (v:Value) (hl:(r.cells rv wv).set k v=r'.cells rv wv) (h1:r'.a.reads=r.a.reads) (h2:r'.a.writes=r.a.writes) (h8:r'.regs.length=8) (k8:r'.saved.length=8):RS (w.setCell ⟨rb,k,none⟩ v) rb wb qb r' sh rv wv:=
 ⟨h.th.one k v hl h1 h2 h8 k8,h.wo.upd ((Upd.refl [rb] w).setCell (.inl (by simp)) _) (by simpa using h.ne.1.symm) (by simpa using h.ne.2.symm),h.ap⟩
theorem RS.clk (h:RS w rb wb qb r sh rv wv) (c:Int) (hc:0≤c∧c<18446744073709551616):RS (w.setCell ⟨wb,1,none⟩ (.int .u64 c)) rb wb qb r { sh with clock:=c } rv wv:=by
 have u:Upd [wb] w (w.setCell ⟨wb,1,none⟩ (.int .u64 c)):=(Upd.refl [wb] w).setCell (.inl (by simp)) _
 obtain ⟨cap,hh⟩:=h.wo.head
 obtain ⟨sp,hr⟩:=h.wo.row
 exact ⟨h.th.upd u (by simpa using h.ne.1) (fun g hg=>by simpa using (h.ap g hg).1),⟨⟨cap,hh.set 1 _⟩,⟨sp,hr.upd u (by simpa using h.wo.ne.symm)⟩,⟨h.wo.wide.row,hc⟩,h.wo.len⟩,h.ap⟩
theorem RS.cel (h:RS w rb wb qb r sh rv wv) {k:Nat} (hk:k<sh.row.length) (c:Int) (hc:0≤c∧c<18446744073709551616):RS (w.setCell ⟨qb,k,none⟩ (.int .u64 c)) rb wb qb r { sh with row:=sh.row.set k c } rv wv:=by
 have u:Upd [qb] w (w.setCell ⟨qb,k,none⟩ (.int .u64 c)):=(Upd.refl [qb] w).setCell (.inl (by simp)) _
 obtain ⟨cap,hh⟩:=h.wo.head
 obtain ⟨sp,hr⟩:=h.wo.row
 refine ⟨h.th.upd u (by simpa using h.ne.2) (fun g hg=>by simpa using (h.ap g hg).2),⟨⟨cap,?_⟩,⟨sp,?_⟩,⟨fun v hv=>?_,h.wo.wide.clock⟩,by simpa using h.wo.len⟩,h.ap⟩
 ·simp only [List.length_set]; exact hh.upd u (by simpa using h.wo.ne)
 ·have k2:=hr.set k (.int .u64 c)
  rw [List.set_append_left _ _ (by simpa using hk),← List.map_set] at k2
  exact k2
 ·rcases List.mem_or_eq_of_mem_set hv with k | rfl
  ·exact h.wo.wide.row _ k
  ·exact hc
def RSOk (w:World) (rb wb qb:Nat) (rv wv:Value) (T:Told × RT × Sh) (e:Ending) (w':World):Prop:=
 e=.returned (.tuple #[T.1.1.val,.bool T.1.2])∧∃ rv' wv',RS w' rb wb qb T.2.1 T.2.2 rv' wv'∧Upd [rb,wb,qb] w w'∧(∀ g,rv'.ownBlock=some g∨wv'.ownBlock=some g → (rv.ownBlock=some g∨wv.ownBlock=some g)∨w.heap.size≤g)
theorem RS.fail (h:RS w rb wb qb r sh rv wv) (k:Int):Calls Tryz.prog 57 #[.pointer (some ⟨rb,0,none⟩),.int .i64 k] w (RSOk w rb wb qb rv wv ((failR r k).1,(failR r k).2,sh)):=by
 refine (rfail_code h.th k).mono fun e w' ⟨he,rv',wv',h',u,h1,h2⟩=>⟨he,rv',wv',?_⟩
 have hs:∀ g,rv'.ownBlock=some g∨wv'.ownBlock=some g → rv.ownBlock=some g∨wv.ownBlock=some g:=fun g hg=>by
  rcases hg with k | k
  ·rcases h1 with rfl | rfl
   ·exact .inl k
   ·simp [Value.ownBlock] at k
  ·rcases h2 with rfl | rfl
   ·exact .inr k
   ·simp [Value.ownBlock] at k
 exact ⟨⟨h',h.wo.upd u (by simpa using h.ne.1.symm) (by simpa using h.ne.2.symm),fun g hg=>h.ap g (hs g hg)⟩,u.mono (by simp),fun g hg=>.inl (hs g hg)⟩
theorem RS.give (h:RS w rb wb qb r sh rv wv) (k:Int):Calls Tryz.prog 88 #[.pointer (some ⟨rb,0,none⟩),.int .i64 k] w fun e w'=>e=.returned (.tuple #[])∧RS w' rb wb qb (giveR r k) sh (.slice none 0 0) (.slice none 0 0)∧Upd [rb,wb,qb] w w':=
 (rgive_code h.th k).mono fun e w' ⟨he,h',u⟩=>⟨he,⟨h',h.wo.upd u (by simpa using h.ne.1.symm) (by simpa using h.ne.2.symm),by simp [Value.ownBlock]⟩,u.mono (by simp)⟩
theorem RS.out (h:RS w rb wb qb r sh rv wv) (k:Int):Calls Tryz.prog 86 #[.pointer (some ⟨rb,0,none⟩),.int .i64 k] w fun e w'=>e=.returned (.tuple #[])∧RS w' rb wb qb (outR r k) sh (.slice none 0 0) (.slice none 0 0)∧Upd [rb,wb,qb] w w':=
 (rout_code h.th k).mono fun e w' ⟨he,h',u⟩=>⟨he,⟨h',h.wo.upd u (by simpa using h.ne.1.symm) (by simpa using h.ne.2.symm),by simp [Value.ownBlock]⟩,u.mono (by simp)⟩
end
end Go.Proofs.YtehopaabfoopeaaGreat
