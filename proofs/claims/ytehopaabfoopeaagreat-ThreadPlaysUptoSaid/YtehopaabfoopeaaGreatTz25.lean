/- The document's thread: two states are the same; New. No conditions. The thread's own step: what may not be begun. No conditions. -/
import Derived.Test.YtehopaabfoopeaaGreatTz08
import Derived.Test.YtehopaabfoopeaaGreatTz12
import Derived.Deep.CutRange
import Derived.Deep.CutBlock
set_option linter.unusedSimpArgs false
set_option linter.unusedVariables false
set_option maxRecDepth 100000
namespace Go.Proofs.YtehopaabfoopeaaGreat
open Go.RowKit
open Go.Maps
set_option maxHeartbeats 1000000 in
theorem xcells (w:World) (v v':Value) (l:List (Int × Int)) (h:SlC w v l) (h':SlC w v' l) (hl:l.length≤4611686018427387904):Calls Tryz.prog 42 #[v,v'] w fun e w'=>e=.returned (.bool true)∧Upd [] w w':=by
 obtain ⟨p,cap,rfl,hc⟩:=h
 obtain ⟨p',cap',rfl,hc'⟩:=h'
 have HC:=Lib.hid hc
 have HC':=Lib.hid hc'
 clear hc hc'
 have h0:(0:Int)≤(l.length:Int):=by omega
 refine calls_all fun K hK=>?_
 go_enter Tryz.func42,Tryz.ntmps42
 go_wp2_with fail
 go_loopw [5] (fun v5 wr=>∃ k:Nat,k≤l.length∧v5=.int .i64 k∧Upd [] w wr) (fun v5 _=>l.length - (intOf v5).toNat)
 case atStart=>exact ⟨0,by omega,rfl,Upd.refl _ _⟩
 case round =>
  obtain ⟨k,hk,rfl,hu⟩:=hrel
  have HU:=Lib.hid hu
  clear hu
  by_cases hlt:k<l.length
  ·have hlt':(k:Int)<(l.length:Int):=by omega
   obtain ⟨⟨x,y⟩,hxy⟩:∃ c,l[k]? = some c:=⟨_,List.getElem?_eq_getElem hlt⟩
   obtain ⟨b,o,rfl,c0,c1⟩:=HC.out k x y hxy
   obtain ⟨b',o',rfl,d0,d1⟩:=HC'.out k x y hxy
   have hcell:∀ (b' o':Nat) (v:Value),w.cell? ⟨b',o',none⟩=some v → wr.cell? ⟨b',o',none⟩=some v:=fun b' o' v h=>(World.cell?_of_block (w:=w) (HU.out.block b' (World.block_lt_of_cell? w _ h) (by simp))).trans h
   replace c0:=hcell _ _ _ c0
   replace c1:=hcell _ _ _ c1
   replace d0:=hcell _ _ _ d0
   replace d1:=hcell _ _ _ d1
   clear hcell hxy
   have hxx:(x != x)=false:=by simp
   have hyy:(y != y)=false:=by simp
   go_wp2_with fail
   refine wp_region_eff (fun w'=>w'.cell? ⟨b,o+k*2,none⟩=some (.int .u64 x)∧w'.cell? ⟨b,o+k*2+1,none⟩=some (.int .u64 y)∧w'.cell? ⟨b',o'+k*2,none⟩=some (.int .u64 x)∧w'.cell? ⟨b',o'+k*2+1,none⟩=some (.int .u64 y)) 9 (by kernel_rfl) (by kernel_rfl) ⟨c0,c1,d0,d1⟩ ?_
   repeat
    refine wpE_take (v:=?_) (by decide) rfl (by rfl) ?_ ?_
    rotate_left 1
    ·((intro w hSw; (try dsimp only at hSw); go_simp); try with_reducible rfl)
    try simp only [Act.put,List.setIfInBounds_toArray,List.set_cons_zero,List.set_cons_succ]
   refine wpE_end (NoPanic.normal ?_)
   have HU2:=Lib.hid HU.out.drew
   clear c0 c1 d0 d1
   generalize wr.drew=wr2 at HU2 ⊢
   go_wp2_with fail
   go_roundw
   case rel=>exact ⟨k+1,by omega,by go_num,HU2.out⟩
   case measure=>simp [intOf]; omega
  ·obtain rfl:k=l.length:=by omega
   go_wp2_with fail
   all_goals exact ⟨rfl,HU.out⟩
theorem eqItems_ints (d:Nat) (xs ys:List Int) (w:World):∀ is:List Nat,(∀ i ∈ is,i<xs.length∧i<ys.length) →
  (Op.eqItems (d+1) 23 1 (xs.map (Value.int .u64)).toArray (ys.map (Value.int .u64)).toArray is).run Tryz.prog w=.ok (is.all fun i=>xs.getD i 0 == ys.getD i 0) w
 | [],_=>rfl
 | i :: is,h=>by
  obtain ⟨h1,h2⟩:=h i (by simp)
  have p1:(part 23 (xs.map (Value.int .u64)).toArray (i*1)).run Tryz.prog w=.ok (.int .u64 (xs.getD i 0)) w:=run_part_plain w (by kernel_rfl) (by rw [Nat.mul_one,List.getD_eq_getElem?_getD,List.getElem?_eq_getElem h1]; simp [h1])
  have p2:(part 23 (ys.map (Value.int .u64)).toArray (i*1)).run Tryz.prog w=.ok (.int .u64 (ys.getD i 0)) w:=run_part_plain w (by kernel_rfl) (by rw [Nat.mul_one,List.getD_eq_getElem?_getD,List.getElem?_eq_getElem h2]; simp [h2])
  have p3:=run_equalIn_int (P:=Tryz.prog) w d 23 .u64 .u64 (xs.getD i 0) (ys.getD i 0) Tryz.underlying23
  have ih:=eqItems_ints d xs ys w is (fun j hj=>h j (by simp [hj]))
  unfold Op.eqItems
  simp only [Sem.run_bind,p1,p2,p3,Result.andThen_ok,List.all_cons]
  cases hq:(xs.getD i 0 == ys.getD i 0) with
  | true=>simpa using ih
  | false=>simp
theorem eql_arr (xs ys:List Int) (h:xs.length=8) (k:ys.length=8) (w:World):(Op.equalIn 10000 52 (.agg (xs.map (Value.int .u64)).toArray) (.agg (ys.map (Value.int .u64)).toArray)).run Tryz.prog w=.ok (decide (xs=ys)) w:=by
 have hi:∃ i,Tryz.prog.info? 23=some i:=info_of_underlying Tryz.underlying23
 obtain ⟨i,hi⟩:=hi
 have h1:=run_equalIn_array (P:=Tryz.prog) w 9999 (xs.map (Value.int .u64)).toArray (ys.map (Value.int .u64)).toArray Tryz.underlying52 hi
 rw [show Tryz.prog.cellsOf 23=1 from by kernel_rfl,eqItems_ints 9998 xs ys w (List.range 8) (fun i hi=>by have:=List.mem_range.1 hi; omega)] at h1
 rw [h1]
 congr 1
 obtain ⟨a0,a1,a2,a3,a4,a5,a6,a7,rfl⟩:=list8 h
 obtain ⟨b0,b1,b2,b3,b4,b5,b6,b7,rfl⟩:=list8 k
 rw [Bool.eq_iff_iff]
 simp [show List.range 8=[0,1,2,3,4,5,6,7] from rfl]
theorem tst_resultsK {fn:Func} {k:Nat} (hr:fn.results = #[.cell k 58]) (t:Array Value) (w:World) (rb:Nat) (cs:List Value) (h2:t.getD k undef=.pointer (some ⟨rb,0,none⟩)) (hb:w.rangeAt rb 0 cs) (hl:cs.length=31) :
  (results fn t).run Tryz.prog w=.ok (.agg cs.toArray) w:=by
 have h2':t[k]?.getD undef=.pointer (some ⟨rb,0,none⟩):=by simpa using h2
 have h3:=run_loadVar_mid (P:=Tryz.prog) w rb 0 58 cs _ hb Tryz.underlying58 rfl (by rw [hl]; kernel_rfl)
 simp [results,hr,h2',h3,Sem.run_bind,asAddr]
theorem new31:∃ N:List Value,newT.rt.val (.slice none 0 0) (.slice none 0 0)=.agg N.toArray∧Value.agg #[.int .i64 1,.int .i64 0,.int .i64 0,.int .u64 0,.int .u64 0,.int .u64 0,.int .u64 0,.int .u64 0,.int .u64 0,.int .u64 0,.int .u64 0,.bool false,.int .i64 0,.int .u64 0,.int .u64 0,.int .u64 0,.int .u64 0,.int .u64 0,.int .u64 0,.int .u64 0,.int .u64 0,.int .i64 0,.int .u64 0,.slice none 0 0,.slice none 0 0,.int .i64 0,.int .i64 0,.int .u64 0,.int .u64 0,.int .u64 0,.int .i64 0]=.agg N.toArray∧N.length=31∧N.toArray.all (·.oneCell')=true:=⟨(#[.int .i64 1,.int .i64 0,.int .i64 0,.int .u64 0,.int .u64 0,.int .u64 0,.int .u64 0,.int .u64 0,.int .u64 0,.int .u64 0,.int .u64 0,.bool false,.int .i64 0,.int .u64 0,.int .u64 0,.int .u64 0,.int .u64 0,.int .u64 0,.int .u64 0,.int .u64 0,.int .u64 0,.int .i64 0,.int .u64 0,.slice none 0 0,.slice none 0 0,.int .i64 0,.int .i64 0,.int .u64 0,.int .u64 0,.int .u64 0,.int .i64 0]:Array Value).toList,rfl,rfl,rfl,by kernel_rfl⟩
set_option maxHeartbeats 400000 in
theorem xnew (w:World):Calls Tryz.prog 13 #[] w fun e w'=>e=.returned (newT.rt.val (.slice none 0 0) (.slice none 0 0))∧Upd [] w w':=by
 obtain ⟨W1,hW1⟩:∃ W,w.alloc (.cells zero31 58)=W:=⟨_,rfl⟩
 have u1:Upd [] w W1:=by rw [← hW1]; exact (Upd.refl [] _).alloc _
 have B1:Blk W1 w.heap.size zero31.toList 58:=by rw [← hW1]; exact Blk.new w zero31.toList 58
 obtain ⟨N,hv,hy,hl,h1⟩:=new31
 have HTH:=Lib.hid (B1.there 0 31 (by simp [zero31]))
 have HU:=Lib.hid u1
 have HY:=Lib.hid hy
 rw [hv]
 clear hv u1 B1 hy
 simp only [zero31] at hW1
 refine calls_all fun K hK=>?_
 go_enter Tryz.func13,Tryz.ntmps13
 go_wp2_with (first
  | ((with_reducible refine wpList_store_mid (op:=⟨none,.store 58 (.tmp 0) (.tmp 1),_,_,_,_⟩) rfl 58 _ _ rfl w.heap.size 0 N.toArray ?_ ?_ (by simpa [hl] using HTH.out) (by simp only [List.size_toArray,hl]; kernel_rfl) h1 ?_); (· rfl); (· exact HY.out)))
 refine bodyPost_ret (tst_resultsK rfl _ _ w.heap.size N rfl (World.rangeAt_setCells_same W1 _ 0 N (by rw [hl]; exact HTH.out)) hl) rfl (hK _ _ ⟨rfl,Upd.rows _ 0 HU.out (.inr (Nat.le_refl _))⟩)
set_option maxHeartbeats 8000000 in
theorem xsame (w:World) (r:RT) (r1 w1 r2 w2:Value) (h8:r.regs.length=8) (k8:r.saved.length=8) (h1:SlC w r1 r.a.reads) (k1:SlC w w1 r.a.writes) (h2:SlC w r2 r.a.reads) (k2:SlC w w2 r.a.writes) (hl:r.a.reads.length≤4611686018427387904) (hm:r.a.writes.length≤4611686018427387904) :
  Calls Tryz.prog 18 #[r.val r1 w1,r.val r2 w2] w fun e w'=>e=.returned (.bool true)∧Upd [] w w':=by
 have HS:=Lib.hid fun (W:World) (u:Upd [] w W)=>xcells W r1 r2 r.a.reads (h1.upd0 u) (h2.upd0 u) hl
 have HT:=Lib.hid fun (W:World) (u:Upd [] w W)=>xcells W w1 w2 r.a.writes (k1.upd0 u) (k2.upd0 u) hm
 obtain ⟨p1,c1,rfl,_⟩:=h1
 obtain ⟨p2,c2,rfl,_⟩:=h2
 obtain ⟨q1,d1,rfl,_⟩:=k1
 obtain ⟨q2,d2,rfl,_⟩:=k2
 obtain ⟨st,er,at_,rs,ins,sta,sv,fu,⟨sn,rd,wl,ph,th,ad,wo,fo,at2⟩⟩:=r
 obtain ⟨r0,r1,r2,r3,r4,r5,r6,r7,rfl⟩:=list8 h8
 obtain ⟨s0,s1,s2,s3,s4,s5,s6,s7,rfl⟩:=list8 k8
 dsimp only at HS HT
 clear h8 k8 hl hm
 show Calls Tryz.prog 18 #[.agg #[.int .i64 st,.int .i64 er,.int .i64 at_,.int .u64 r0,.int .u64 r1,.int .u64 r2,.int .u64 r3,.int .u64 r4,.int .u64 r5,.int .u64 r6,.int .u64 r7,.bool ins,.int .i64 sta,.int .u64 s0,.int .u64 s1,.int .u64 s2,.int .u64 s3,.int .u64 s4,.int .u64 s5,.int .u64 s6,.int .u64 s7,.int .i64 fu,.int .u64 sn,.slice p1 rd.length c1,.slice q1 wl.length d1,.int .i64 ph,.int .i64 th,.int .u64 ad,.int .u64 wo,.int .u64 fo,.int .i64 at2],.agg #[.int .i64 st,.int .i64 er,.int .i64 at_,.int .u64 r0,.int .u64 r1,.int .u64 r2,.int .u64 r3,.int .u64 r4,.int .u64 r5,.int .u64 r6,.int .u64 r7,.bool ins,.int .i64 sta,.int .u64 s0,.int .u64 s1,.int .u64 s2,.int .u64 s3,.int .u64 s4,.int .u64 s5,.int .u64 s6,.int .u64 s7,.int .i64 fu,.int .u64 sn,.slice p2 rd.length c2,.slice q2 wl.length d2,.int .i64 ph,.int .i64 th,.int .u64 ad,.int .u64 wo,.int .u64 fo,.int .i64 at2]] w fun e w'=>e=.returned (.bool true)∧Upd [] w w'
 obtain ⟨W,hW⟩:∃ W,(w.alloc (.cells #[.int .i64 st,.int .i64 er,.int .i64 at_,.int .u64 r0,.int .u64 r1,.int .u64 r2,.int .u64 r3,.int .u64 r4,.int .u64 r5,.int .u64 r6,.int .u64 r7,.bool ins,.int .i64 sta,.int .u64 s0,.int .u64 s1,.int .u64 s2,.int .u64 s3,.int .u64 s4,.int .u64 s5,.int .u64 s6,.int .u64 s7,.int .i64 fu,.int .u64 sn,.slice p1 rd.length c1,.slice q1 wl.length d1,.int .i64 ph,.int .i64 th,.int .u64 ad,.int .u64 wo,.int .u64 fo,.int .i64 at2] 58)).alloc (.cells #[.int .i64 st,.int .i64 er,.int .i64 at_,.int .u64 r0,.int .u64 r1,.int .u64 r2,.int .u64 r3,.int .u64 r4,.int .u64 r5,.int .u64 r6,.int .u64 r7,.bool ins,.int .i64 sta,.int .u64 s0,.int .u64 s1,.int .u64 s2,.int .u64 s3,.int .u64 s4,.int .u64 s5,.int .u64 s6,.int .u64 s7,.int .i64 fu,.int .u64 sn,.slice p2 rd.length c2,.slice q2 wl.length d2,.int .i64 ph,.int .i64 th,.int .u64 ad,.int .u64 wo,.int .u64 fo,.int .i64 at2] 58)=W:=⟨_,rfl⟩
 have u0:Upd [] w W:=by rw [← hW]; exact ((Upd.refl [] _).alloc _).alloc _
 have B1:Blk W w.heap.size [.int .i64 st,.int .i64 er,.int .i64 at_,.int .u64 r0,.int .u64 r1,.int .u64 r2,.int .u64 r3,.int .u64 r4,.int .u64 r5,.int .u64 r6,.int .u64 r7,.bool ins,.int .i64 sta,.int .u64 s0,.int .u64 s1,.int .u64 s2,.int .u64 s3,.int .u64 s4,.int .u64 s5,.int .u64 s6,.int .u64 s7,.int .i64 fu,.int .u64 sn,.slice p1 rd.length c1,.slice q1 wl.length d1,.int .i64 ph,.int .i64 th,.int .u64 ad,.int .u64 wo,.int .u64 fo,.int .i64 at2] 58:=by rw [← hW]; exact (Blk.new w _ _).alloc _
 have B2:Blk W (w.heap.size+1) [.int .i64 st,.int .i64 er,.int .i64 at_,.int .u64 r0,.int .u64 r1,.int .u64 r2,.int .u64 r3,.int .u64 r4,.int .u64 r5,.int .u64 r6,.int .u64 r7,.bool ins,.int .i64 sta,.int .u64 s0,.int .u64 s1,.int .u64 s2,.int .u64 s3,.int .u64 s4,.int .u64 s5,.int .u64 s6,.int .u64 s7,.int .i64 fu,.int .u64 sn,.slice p2 rd.length c2,.slice q2 wl.length d2,.int .i64 ph,.int .i64 th,.int .u64 ad,.int .u64 wo,.int .u64 fo,.int .i64 at2] 58:=by
  have:=Blk.new (w.alloc (.cells #[.int .i64 st,.int .i64 er,.int .i64 at_,.int .u64 r0,.int .u64 r1,.int .u64 r2,.int .u64 r3,.int .u64 r4,.int .u64 r5,.int .u64 r6,.int .u64 r7,.bool ins,.int .i64 sta,.int .u64 s0,.int .u64 s1,.int .u64 s2,.int .u64 s3,.int .u64 s4,.int .u64 s5,.int .u64 s6,.int .u64 s7,.int .i64 fu,.int .u64 sn,.slice p1 rd.length c1,.slice q1 wl.length d1,.int .i64 ph,.int .i64 th,.int .u64 ad,.int .u64 wo,.int .u64 fo,.int .i64 at2] 58)) [.int .i64 st,.int .i64 er,.int .i64 at_,.int .u64 r0,.int .u64 r1,.int .u64 r2,.int .u64 r3,.int .u64 r4,.int .u64 r5,.int .u64 r6,.int .u64 r7,.bool ins,.int .i64 sta,.int .u64 s0,.int .u64 s1,.int .u64 s2,.int .u64 s3,.int .u64 s4,.int .u64 s5,.int .u64 s6,.int .u64 s7,.int .i64 fu,.int .u64 sn,.slice p2 rd.length c2,.slice q2 wl.length d2,.int .i64 ph,.int .i64 th,.int .u64 ad,.int .u64 wo,.int .u64 fo,.int .i64 at2] 58
  rw [World.size_alloc,hW] at this
  exact this
 have hs:W.heap.size=w.heap.size+2:=by rw [← hW,World.size_alloc,World.size_alloc]
 obtain ⟨W1,hW1⟩:∃ W1,W.alloc (.cells #[.int .u64 sn,.slice p1 rd.length c1,.slice q1 wl.length d1,.int .i64 ph,.int .i64 th,.int .u64 ad,.int .u64 wo,.int .u64 fo,.int .i64 at2] 56)=W1:=⟨_,rfl⟩
 have u1:Upd [] W W1:=by rw [← hW1]; exact (Upd.refl [] _).alloc _
 have E1:Blk W1 W.heap.size [.int .u64 sn,.slice p1 rd.length c1,.slice q1 wl.length d1,.int .i64 ph,.int .i64 th,.int .u64 ad,.int .u64 wo,.int .u64 fo,.int .i64 at2] 56:=by rw [← hW1]; exact Blk.new W _ _
 have hs1:W1.heap.size=W.heap.size+1:=by rw [← hW1,World.size_alloc]
 obtain ⟨W2,hW2⟩:∃ W2,W1.alloc (.cells #[.int .u64 sn,.slice p2 rd.length c2,.slice q2 wl.length d2,.int .i64 ph,.int .i64 th,.int .u64 ad,.int .u64 wo,.int .u64 fo,.int .i64 at2] 56)=W2:=⟨_,rfl⟩
 have u2:Upd [] W1 W2:=by rw [← hW2]; exact (Upd.refl [] _).alloc _
 have E2:Blk W2 W1.heap.size [.int .u64 sn,.slice p2 rd.length c2,.slice q2 wl.length d2,.int .i64 ph,.int .i64 th,.int .u64 ad,.int .u64 wo,.int .u64 fo,.int .i64 at2] 56:=by rw [← hW2]; exact Blk.new W1 _ _
 rw [hs] at E1
 rw [hs1,hs] at E2
 have m22:=B1.cell 22 rfl
 have m23:=B1.cell 23 rfl
 have m24:=B1.cell 24 rfl
 have m25:=B1.cell 25 rfl
 have m26:=B1.cell 26 rfl
 have m27:=B1.cell 27 rfl
 have m28:=B1.cell 28 rfl
 have m29:=B1.cell 29 rfl
 have m30:=B1.cell 30 rfl
 have D2:=B2.upd u1 (by simp)
 have n22:=D2.cell 22 rfl
 have n23:=D2.cell 23 rfl
 have n24:=D2.cell 24 rfl
 have n25:=D2.cell 25 rfl
 have n26:=D2.cell 26 rfl
 have n27:=D2.cell 27 rfl
 have n28:=D2.cell 28 rfl
 have n29:=D2.cell 29 rfl
 have n30:=D2.cell 30 rfl
 have G1:=(B1.upd u1 (by simp)).upd u2 (by simp)
 have G2:=D2.upd u2 (by simp)
 have F1:=E1.upd u2 (by simp)
 have c0:=G1.cell 0 rfl
 have d0:=G2.cell 0 rfl
 have c1:=G1.cell 1 rfl
 have d1:=G2.cell 1 rfl
 have c2:=G1.cell 2 rfl
 have d2:=G2.cell 2 rfl
 have c3:=G1.cell 3 rfl
 have d3:=G2.cell 3 rfl
 have c4:=G1.cell 4 rfl
 have d4:=G2.cell 4 rfl
 have c5:=G1.cell 5 rfl
 have d5:=G2.cell 5 rfl
 have c6:=G1.cell 6 rfl
 have d6:=G2.cell 6 rfl
 have c7:=G1.cell 7 rfl
 have d7:=G2.cell 7 rfl
 have c8:=G1.cell 8 rfl
 have d8:=G2.cell 8 rfl
 have c9:=G1.cell 9 rfl
 have d9:=G2.cell 9 rfl
 have c10:=G1.cell 10 rfl
 have d10:=G2.cell 10 rfl
 have c11:=G1.cell 11 rfl
 have d11:=G2.cell 11 rfl
 have c12:=G1.cell 12 rfl
 have d12:=G2.cell 12 rfl
 have c13:=G1.cell 13 rfl
 have d13:=G2.cell 13 rfl
 have c14:=G1.cell 14 rfl
 have d14:=G2.cell 14 rfl
 have c15:=G1.cell 15 rfl
 have d15:=G2.cell 15 rfl
 have c16:=G1.cell 16 rfl
 have d16:=G2.cell 16 rfl
 have c17:=G1.cell 17 rfl
 have d17:=G2.cell 17 rfl
 have c18:=G1.cell 18 rfl
 have d18:=G2.cell 18 rfl
 have c19:=G1.cell 19 rfl
 have d19:=G2.cell 19 rfl
 have c20:=G1.cell 20 rfl
 have d20:=G2.cell 20 rfl
 have c21:=G1.cell 21 rfl
 have d21:=G2.cell 21 rfl
 have e0:=F1.cell 0 rfl
 have f0:=E2.cell 0 rfl
 have e1:=F1.cell 1 rfl
 have f1:=E2.cell 1 rfl
 have e2:=F1.cell 2 rfl
 have f2:=E2.cell 2 rfl
 have e3:=F1.cell 3 rfl
 have f3:=E2.cell 3 rfl
 have e4:=F1.cell 4 rfl
 have f4:=E2.cell 4 rfl
 have e5:=F1.cell 5 rfl
 have f5:=E2.cell 5 rfl
 have e6:=F1.cell 6 rfl
 have f6:=E2.cell 6 rfl
 have e7:=F1.cell 7 rfl
 have f7:=E2.cell 7 rfl
 have e8:=F1.cell 8 rfl
 have f8:=E2.cell 8 rfl
 have HU:=Lib.hid ((u0.trans u1).trans u2)
 have HF:=Lib.hid F1
 have HG:=Lib.hid E2
 clear u0 u1 u2 B1 B2 E1 E2 D2 G1 G2 F1
 have hq1:∀ W,(Op.equalIn 10000 52 (.agg #[.int .u64 r0,.int .u64 r1,.int .u64 r2,.int .u64 r3,.int .u64 r4,.int .u64 r5,.int .u64 r6,.int .u64 r7]) (.agg #[.int .u64 r0,.int .u64 r1,.int .u64 r2,.int .u64 r3,.int .u64 r4,.int .u64 r5,.int .u64 r6,.int .u64 r7])).run Tryz.prog W=.ok true W:=fun W=>by
  have:=eql_arr [r0,r1,r2,r3,r4,r5,r6,r7] [r0,r1,r2,r3,r4,r5,r6,r7] rfl rfl W
  rw [decide_eq_true rfl] at this
  exact this
 have hq2:∀ W,(Op.equalIn 10000 52 (.agg #[.int .u64 s0,.int .u64 s1,.int .u64 s2,.int .u64 s3,.int .u64 s4,.int .u64 s5,.int .u64 s6,.int .u64 s7]) (.agg #[.int .u64 s0,.int .u64 s1,.int .u64 s2,.int .u64 s3,.int .u64 s4,.int .u64 s5,.int .u64 s6,.int .u64 s7])).run Tryz.prog W=.ok true W:=fun W=>by
  have:=eql_arr [s0,s1,s2,s3,s4,s5,s6,s7] [s0,s1,s2,s3,s4,s5,s6,s7] rfl rfl W
  rw [decide_eq_true rfl] at this
  exact this
 refine calls_all fun K hK=>?_
 go_enter Tryz.func18,Tryz.ntmps18
 go_wp2_with fail
 refine (HS.out W2 HU.out).mono ?_
 rintro e W3 ⟨rfl,u3⟩
 clear hW hW1 hW2 hs hs1 hq1 hq2 HS c0 d0 c1 d1 c2 d2 c3 d3 c4 d4 c5 d5 c6 d6 c7 d7 c8 d8 c9 d9 c10 d10 c11 d11 c12 d12 c13 d13 c14 d14 c15 d15 c16 d16 c17 d17 c18 d18 c19 d19 c20 d20 c21 d21 m22 n22 m23 n23 m24 n24 m25 n25 m26 n26 m27 n27 m28 n28 m29 n29 m30 n30 e0 f0 e1 f1 e2 f2 e3 f3 e4 f4 e5 f5 e6 f6 e7 f7 e8 f8
 have F3:=HF.out.upd u3 (by simp)
 have G3:=HG.out.upd u3 (by simp)
 have e2:=F3.cell 2 rfl
 have f2:=G3.cell 2 rfl
 have e3:=F3.cell 3 rfl
 have f3:=G3.cell 3 rfl
 have e4:=F3.cell 4 rfl
 have f4:=G3.cell 4 rfl
 have e5:=F3.cell 5 rfl
 have f5:=G3.cell 5 rfl
 have e6:=F3.cell 6 rfl
 have f6:=G3.cell 6 rfl
 have e7:=F3.cell 7 rfl
 have f7:=G3.cell 7 rfl
 have e8:=F3.cell 8 rfl
 have f8:=G3.cell 8 rfl
 have HU3:=Lib.hid (HU.out.trans u3)
 clear F3 G3 u3 HU HF HG
 go_wp2_with fail
 refine (HT.out W3 HU3.out).mono ?_
 rintro e W4 ⟨rfl,u4⟩
 replace e3:=u4.cell (by simp) e3
 replace f3:=u4.cell (by simp) f3
 replace e4:=u4.cell (by simp) e4
 replace f4:=u4.cell (by simp) f4
 replace e5:=u4.cell (by simp) e5
 replace f5:=u4.cell (by simp) f5
 replace e6:=u4.cell (by simp) e6
 replace f6:=u4.cell (by simp) f6
 replace e7:=u4.cell (by simp) e7
 replace f7:=u4.cell (by simp) f7
 replace e8:=u4.cell (by simp) e8
 replace f8:=u4.cell (by simp) f8
 have HU4:=Lib.hid (HU3.out.trans u4)
 clear u4 HU3 HT e2 f2
 go_wp2_with fail
 all_goals exact ⟨rfl,HU4.out⟩
end Go.Proofs.YtehopaabfoopeaaGreat
set_option linter.unusedSimpArgs false
set_option linter.unusedVariables false
set_option maxRecDepth 100000
namespace Go.Proofs.YtehopaabfoopeaaGreat
open Go.RowKit
open Go.Maps
section
variable {w w':World} {X:SX} {sh:Sh} {acc st:Int} {p:List Ins} {pb cap tb:Nat} {t:TS} {o:AO}
set_option maxHeartbeats 16000000 in
theorem step_fails (h:TV w X sh acc st p pb cap tb t o) (hidle:∀ s,t.att=some s → s.phase=1) (hfl:t.ins=true → 0≤t.fuel∧t.fuel≤4096) (hfp:formedP p=true) (hnum:∀ i ∈ p,0≤i.n∧i.n<18446744073709551616) (htw:TWide t) (hmay:∀ s,t.att=some s → May s) (hbf:badIns t (opAt p t.at_)∨(t.ins=true∧t.fuel=4096)):Calls Tryz.prog 51 #[.pointer (some ⟨tb,0,none⟩)] w (TOut w X acc st p pb cap tb o (stepT p t sh)):=by
 have HBF:=Lib.hid hbf
 clear hbf
 obtain ⟨W1,hW⟩:∃ W,w.alloc (.cells #[.int .i64 0,.int .i64 0,.int .u64 0,.int .u64 0,.bool false,.int .i64 0] 86)=W:=⟨_,rfl⟩
 have U1:Upd [] w W1:=by rw [← hW]; exact (Upd.refl [] _).alloc _
 have EB:Blk W1 w.heap.size teNone.cells 86:=by rw [← hW]; exact Blk.new w teNone.cells 86
 have hlt:=h.head.lt
 have HLT:=Lib.hid (show ∀ g,w.heap.size≤g → ¬ inTh X pb tb o g from fun g hg e=>by have:=h.lt e; omega)
 have hne2:w.heap.size≠tb:=by omega
 replace h:=h.upd0 U1
 simp only [teNone,TE.cells] at EB
 have d11:=h.head.cell 11 (head_cell h.r8 h.s8).1
 have d34:=h.head.cell 34 (head_cell h.r8 h.s8).2.2.2.2.2.2
 have HA:=Lib.hid h.att
 have H:=Lib.hid h
 clear h
 refine calls_all fun K hK=>?_
 go_enter Tryz.func51,Tryz.ntmps51
 go_upto_region 1 with (fail)
 clear hW
 go_cut [21] from 9 to 21 (fun v wx=>v=.bool false∧wx=W1)
 case first =>
  rcases HA.out with ⟨ha,ho⟩ | ⟨s,a,F,rv,wv,mv,ha,ho,hL⟩
  ·rw [show t.ins=false by unfold TS.ins; rw [ha]; rfl] at d11
   go_wp2_with fail
   go_meet
   exact ⟨rfl,rfl⟩
  ·rw [show t.ins=true by unfold TS.ins; rw [ha]; rfl] at d11
   rw [ho] at d34
   simp only [AO.ptr,Option.map_some] at d34
   have hph2:(s.phase != 1)=false:=by simpa using hidle s ha
   have HL:=Lib.hid hL
   clear hL ho ha
   go_wp2_with fail
   refine (phase_code HL.out).mono ?_
   rintro e w' ⟨rfl,rfl⟩
   go_wp2_with fail
   go_meet
   exact ⟨rfl,rfl⟩
 case rest =>
  obtain ⟨rfl,rfl⟩:=hcut
  obtain ⟨W2,rfl⟩:∃ W,W=wc:=⟨wc,rfl⟩
  go_upto_region 3 with (fail)
  have d31:W2.cell? ⟨tb,31,none⟩=some (progV pb cap p):=H.out.head.cell 31 (head_cell H.out.r8 H.out.s8).2.2.2.1
  have d2:W2.cell? ⟨tb,2,none⟩=some (.int .i64 t.at_):=H.out.head.cell 2 rfl
  obtain ⟨op,hop⟩:∃ k,opAt p t.at_=k:=⟨_,rfl⟩
  obtain ⟨f,hff⟩:∃ f,formI op=f:=⟨_,rfl⟩
  obtain ⟨ok,hok⟩:∃ ok,isOp op=ok:=⟨_,rfl⟩
  have HOP:=Lib.hid hop
  have HFF:=Lib.hid hff
  have HOK:=Lib.hid hok
  clear hop hff hok
  go_cut [4,5] from 33 to 46 (fun v4 v5 wx=>AtForm W2 X sh acc st p pb cap tb w.heap.size t o f ok v4 v5 wx)
  case first =>
   have HI:Hid (∀ W,Calls Tryz.prog 76 #[.int .i64 op] W fun e w'=>e=.returned (.tuple #[f.val,.bool ok])∧Upd [] W w'):=Lib.hid fun W=>by rw [← HFF.out,← HOK.out]; exact info op W
   have HC:Hid (∀ W,Upd [] W2 W → Calls Tryz.prog 65 #[progV pb cap p,.int .i64 t.at_] W fun e w'=>e=.returned (.int .i64 op)∧W=w'):=Lib.hid fun W u=>by rw [← HOP.out]; exact op_code (H.out.prog.upd u (by simp)) t.at_
   have HB:Hid (∀ W,Upd [] W2 W → W.cell? ⟨tb,31,none⟩=some (progV pb cap p)∧W.cell? ⟨tb,2,none⟩=some (.int .i64 t.at_)):=Lib.hid fun W u=>⟨(H.out.head.upd u (by simp)).cell 31 (head_cell H.out.r8 H.out.s8).2.2.2.1,(H.out.head.upd u (by simp)).cell 2 rfl⟩
   obtain ⟨R,nm,tg,ou,is⟩:=f
   simp only [Form.val] at HI
   have ud:=(Upd.refl [] W2).drew
   refine wp_region_br (fun w'=>w'.cell? ⟨tb,31,none⟩=some (progV pb cap p)∧w'.cell? ⟨tb,2,none⟩=some (.int .i64 t.at_)) [0,1,2,3,4,5,6,7,8,9,10,11,12,13,14,15,16] (by kernel_rfl) (by kernel_rfl) (HB.out _ ud) ?_
   clear d31 d2 H HA HLT HFF HOK HOP
   generalize W2.drew=Wd at ud ⊢
   repeat
    first
     | (refine wpB_skip rfl (by kernel_rfl) (by rfl) ?_)
     | ((refine wpB_take (v:=?_) rfl rfl (by kernel_rfl) (by rfl) ?_ ?_); rotate_left 1; (· ((intro w hSw; (try dsimp only at hSw); go_simp); try with_reducible rfl)))
    try simp only [Act.put,List.setIfInBounds_toArray,List.set_cons_zero,List.set_cons_succ]
   refine wpB_two (i:=9) (j:=14) [9,10,11,12,13,15,16] (by kernel_rfl) rfl rfl (by rfl) (by rfl) (fun K2 hK2=>?_) (fun K2 hK2=>?_)
   ·go_simp
    refine (HC.out _ ud).mono ?_
    rintro e w' ⟨rfl,rfl⟩
    refine hK2.out _ _ (HB.out _ ud) ?_
    clear hK2 K2
    repeat
     first
      | (refine wpB_skip rfl (by kernel_rfl) (by rfl) ?_)
      | ((refine wpB_take (v:=?_) rfl rfl (by kernel_rfl) (by rfl) ?_ ?_); rotate_left 1; (· ((intro w hSw; (try dsimp only at hSw); go_simp); try with_reducible rfl)))
     try simp only [Act.put,List.setIfInBounds_toArray,List.set_cons_zero,List.set_cons_succ]
    refine wpB_two (i:=10) (j:=14) [10,11,12,13,15,16] (by kernel_rfl) rfl rfl (by rfl) (by rfl) (fun K2 hK2=>?_) (fun K2 hK2=>?_)
    ·go_simp
     refine (HI.out _).mono ?_
     rintro e Wi ⟨rfl,u2⟩
     replace ud:=ud.trans u2
     refine hK2.out _ _ (HB.out _ ud) ?_
     clear hK2 K2 u2
     repeat
      first
       | (refine wpB_skip rfl (by kernel_rfl) (by rfl) ?_)
       | ((refine wpB_take (v:=?_) rfl rfl (by kernel_rfl) (by rfl) ?_ ?_); rotate_left 1; (· ((intro w hSw; (try dsimp only at hSw); go_simp); try with_reducible rfl)))
      try simp only [Act.put,List.setIfInBounds_toArray,List.set_cons_zero,List.set_cons_succ]
     have hfl:W2.heap.size≤Wi.heap.size:=ud.size
     refine wpB_eff rfl (by kernel_rfl) (by rfl) (fun K2 hK2=>?_)
     go_simp
     obtain ⟨Wf,hWf⟩:∃ Wf,(Wi).alloc (.cells #[.int .i64 0,.bool false,.bool false,.bool false,.bool false] 116)=Wf:=⟨_,rfl⟩
     have uf:Upd [] (Wi) Wf:=by rw [← hWf]; exact (Upd.refl [] _).alloc _
     have FB:Blk Wf (Wi).heap.size [.int .i64 0,.bool false,.bool false,.bool false,.bool false] 116:=by rw [← hWf]; exact Blk.new _ _ _
     replace ud:=ud.trans uf
     rw [hWf]
     clear hWf uf
     generalize (Wi).heap.size=fb at FB hfl ⊢
     refine hK2.out _ _ (HB.out _ ud) ?_
     clear hK2 K2
     repeat
      first
       | (refine wpB_skip rfl (by kernel_rfl) (by rfl) ?_)
       | ((refine wpB_take (v:=?_) rfl rfl (by kernel_rfl) (by rfl) ?_ ?_); rotate_left 1; (· ((intro w hSw; (try dsimp only at hSw); go_simp); try with_reducible rfl)))
      try simp only [Act.put,List.setIfInBounds_toArray,List.set_cons_zero,List.set_cons_succ]
     have q0:=FB.cell 0 rfl
     have q1:=FB.cell 1 rfl
     have q2:=FB.cell 2 rfl
     have q3:=FB.cell 3 rfl
     have q4:=FB.cell 4 rfl
     have g0:=FB.free 0
     have g1:=FB.free 1
     have g2:=FB.free 2
     have g3:=FB.free 3
     have g4:=FB.free 4
     refine wpB_eff rfl (by kernel_rfl) (by rfl) (fun K2 hK2=>?_)
     go_simp
     have FB2:=((((FB.set 0 (.int .i64 (R:Int))).set 1 (.bool nm)).set 2 (.bool tg)).set 3 (.bool ou)).set 4 (.bool is)
     replace ud:Upd [] W2 _:=((((ud.setCell (p:=⟨fb,0,none⟩) (.inr hfl) (.int .i64 (R:Int))).setCell (p:=⟨fb,1,none⟩) (.inr hfl) (.bool nm)).setCell (p:=⟨fb,2,none⟩) (.inr hfl) (.bool tg)).setCell (p:=⟨fb,3,none⟩) (.inr hfl) (.bool ou)).setCell (p:=⟨fb,4,none⟩) (.inr hfl) (.bool is)
     refine hK2.out _ _ (HB.out _ ud) ?_
     clear hK2 K2 q0 q1 q2 q3 q4 g0 g1 g2 g3 g4
     repeat
      first
       | (refine wpB_skip rfl (by kernel_rfl) (by rfl) ?_)
       | ((refine wpB_take (v:=?_) rfl rfl (by kernel_rfl) (by rfl) ?_ ?_); rotate_left 1; (· ((intro w hSw; (try dsimp only at hSw); go_simp); try with_reducible rfl)))
      try simp only [Act.put,List.setIfInBounds_toArray,List.set_cons_zero,List.set_cons_succ]
     refine wpB_end (by kernel_rfl) (NoPanic.normal ?_)
     go_wp2_with fail
     go_meet
     exact ⟨fb,rfl,rfl,FB2,ud⟩
    ·go_simp
     have hfl:W2.heap.size≤Wd.heap.size:=ud.size
     obtain ⟨Wf,hWf⟩:∃ Wf,(Wd).alloc (.cells #[.int .i64 0,.bool false,.bool false,.bool false,.bool false] 116)=Wf:=⟨_,rfl⟩
     have uf:Upd [] (Wd) Wf:=by rw [← hWf]; exact (Upd.refl [] _).alloc _
     have FB:Blk Wf (Wd).heap.size [.int .i64 0,.bool false,.bool false,.bool false,.bool false] 116:=by rw [← hWf]; exact Blk.new _ _ _
     replace ud:=ud.trans uf
     rw [hWf]
     clear hWf uf
     generalize (Wd).heap.size=fb at FB hfl ⊢
     refine hK2.out _ _ (HB.out _ ud) ?_
     clear hK2 K2
     refine wpB_eff rfl (by kernel_rfl) (by rfl) (fun K2 hK2=>?_)
     go_simp
     refine (HI.out _).mono ?_
     rintro e Wi ⟨rfl,u2⟩
     replace ud:=ud.trans u2
     replace FB:=FB.upd u2 (by simp)
     refine hK2.out _ _ (HB.out _ ud) ?_
     clear hK2 K2 u2
     repeat
      first
       | (refine wpB_skip rfl (by kernel_rfl) (by rfl) ?_)
       | ((refine wpB_take (v:=?_) rfl rfl (by kernel_rfl) (by rfl) ?_ ?_); rotate_left 1; (· ((intro w hSw; (try dsimp only at hSw); go_simp); try with_reducible rfl)))
      try simp only [Act.put,List.setIfInBounds_toArray,List.set_cons_zero,List.set_cons_succ]
     have q0:=FB.cell 0 rfl
     have q1:=FB.cell 1 rfl
     have q2:=FB.cell 2 rfl
     have q3:=FB.cell 3 rfl
     have q4:=FB.cell 4 rfl
     have g0:=FB.free 0
     have g1:=FB.free 1
     have g2:=FB.free 2
     have g3:=FB.free 3
     have g4:=FB.free 4
     refine wpB_eff rfl (by kernel_rfl) (by rfl) (fun K2 hK2=>?_)
     go_simp
     have FB2:=((((FB.set 0 (.int .i64 (R:Int))).set 1 (.bool nm)).set 2 (.bool tg)).set 3 (.bool ou)).set 4 (.bool is)
     replace ud:Upd [] W2 _:=((((ud.setCell (p:=⟨fb,0,none⟩) (.inr hfl) (.int .i64 (R:Int))).setCell (p:=⟨fb,1,none⟩) (.inr hfl) (.bool nm)).setCell (p:=⟨fb,2,none⟩) (.inr hfl) (.bool tg)).setCell (p:=⟨fb,3,none⟩) (.inr hfl) (.bool ou)).setCell (p:=⟨fb,4,none⟩) (.inr hfl) (.bool is)
     refine hK2.out _ _ (HB.out _ ud) ?_
     clear hK2 K2 q0 q1 q2 q3 q4 g0 g1 g2 g3 g4
     repeat
      first
       | (refine wpB_skip rfl (by kernel_rfl) (by rfl) ?_)
       | ((refine wpB_take (v:=?_) rfl rfl (by kernel_rfl) (by rfl) ?_ ?_); rotate_left 1; (· ((intro w hSw; (try dsimp only at hSw); go_simp); try with_reducible rfl)))
      try simp only [Act.put,List.setIfInBounds_toArray,List.set_cons_zero,List.set_cons_succ]
     refine wpB_end (by kernel_rfl) (NoPanic.normal ?_)
     go_wp2_with fail
     go_meet
     exact ⟨fb,rfl,rfl,FB2,ud⟩
   ·go_simp
    have hfl:W2.heap.size≤Wd.heap.size:=ud.size
    obtain ⟨Wf,hWf⟩:∃ Wf,(Wd).alloc (.cells #[.int .i64 0,.bool false,.bool false,.bool false,.bool false] 116)=Wf:=⟨_,rfl⟩
    have uf:Upd [] (Wd) Wf:=by rw [← hWf]; exact (Upd.refl [] _).alloc _
    have FB:Blk Wf (Wd).heap.size [.int .i64 0,.bool false,.bool false,.bool false,.bool false] 116:=by rw [← hWf]; exact Blk.new _ _ _
    replace ud:=ud.trans uf
    rw [hWf]
    clear hWf uf
    generalize (Wd).heap.size=fb at FB hfl ⊢
    refine hK2.out _ _ (HB.out _ ud) ?_
    clear hK2 K2
    refine wpB_eff rfl (by kernel_rfl) (by rfl) (fun K2 hK2=>?_)
    go_simp
    refine (HC.out _ ud).mono ?_
    rintro e w' ⟨rfl,rfl⟩
    refine hK2.out _ _ (HB.out _ ud) ?_
    clear hK2 K2
    repeat
     first
      | (refine wpB_skip rfl (by kernel_rfl) (by rfl) ?_)
      | ((refine wpB_take (v:=?_) rfl rfl (by kernel_rfl) (by rfl) ?_ ?_); rotate_left 1; (· ((intro w hSw; (try dsimp only at hSw); go_simp); try with_reducible rfl)))
     try simp only [Act.put,List.setIfInBounds_toArray,List.set_cons_zero,List.set_cons_succ]
    refine wpB_eff rfl (by kernel_rfl) (by rfl) (fun K2 hK2=>?_)
    go_simp
    refine (HI.out _).mono ?_
    rintro e Wi ⟨rfl,u2⟩
    replace ud:=ud.trans u2
    replace FB:=FB.upd u2 (by simp)
    refine hK2.out _ _ (HB.out _ ud) ?_
    clear hK2 K2 u2
    repeat
     first
      | (refine wpB_skip rfl (by kernel_rfl) (by rfl) ?_)
      | ((refine wpB_take (v:=?_) rfl rfl (by kernel_rfl) (by rfl) ?_ ?_); rotate_left 1; (· ((intro w hSw; (try dsimp only at hSw); go_simp); try with_reducible rfl)))
     try simp only [Act.put,List.setIfInBounds_toArray,List.set_cons_zero,List.set_cons_succ]
    have q0:=FB.cell 0 rfl
    have q1:=FB.cell 1 rfl
    have q2:=FB.cell 2 rfl
    have q3:=FB.cell 3 rfl
    have q4:=FB.cell 4 rfl
    have g0:=FB.free 0
    have g1:=FB.free 1
    have g2:=FB.free 2
    have g3:=FB.free 3
    have g4:=FB.free 4
    refine wpB_eff rfl (by kernel_rfl) (by rfl) (fun K2 hK2=>?_)
    go_simp
    have FB2:=((((FB.set 0 (.int .i64 (R:Int))).set 1 (.bool nm)).set 2 (.bool tg)).set 3 (.bool ou)).set 4 (.bool is)
    replace ud:Upd [] W2 _:=((((ud.setCell (p:=⟨fb,0,none⟩) (.inr hfl) (.int .i64 (R:Int))).setCell (p:=⟨fb,1,none⟩) (.inr hfl) (.bool nm)).setCell (p:=⟨fb,2,none⟩) (.inr hfl) (.bool tg)).setCell (p:=⟨fb,3,none⟩) (.inr hfl) (.bool ou)).setCell (p:=⟨fb,4,none⟩) (.inr hfl) (.bool is)
    refine hK2.out _ _ (HB.out _ ud) ?_
    clear hK2 K2 q0 q1 q2 q3 q4 g0 g1 g2 g3 g4
    repeat
     first
      | (refine wpB_skip rfl (by kernel_rfl) (by rfl) ?_)
      | ((refine wpB_take (v:=?_) rfl rfl (by kernel_rfl) (by rfl) ?_ ?_); rotate_left 1; (· ((intro w hSw; (try dsimp only at hSw); go_simp); try with_reducible rfl)))
     try simp only [Act.put,List.setIfInBounds_toArray,List.set_cons_zero,List.set_cons_succ]
    refine wpB_end (by kernel_rfl) (NoPanic.normal ?_)
    go_wp2_with fail
    go_meet
    exact ⟨fb,rfl,rfl,FB2,ud⟩
  case rest =>
   obtain ⟨fb,rfl,rfl,FB,uc⟩:=hcut
   obtain ⟨W3,rfl⟩:∃ W,W=wc:=⟨wc,rfl⟩
   replace H:=Lib.hid (H.out.upd0 uc)
   replace EB:Blk W3 _ teNone.cells _:=EB.upd uc (by simp)
   have U:Upd (tb :: (o.foot ++ X.foot)) w W3:=(U1.mono (by simp)).trans (uc.mono (by simp))
   replace d11:=H.out.head.cell 11 (head_cell H.out.r8 H.out.s8).1
   have d21:=H.out.head.cell 21 (head_cell H.out.r8 H.out.s8).2.2.1
   have g21:=H.out.head.free 21
   obtain ⟨ins,hins⟩:∃ b,t.ins=b:=⟨_,rfl⟩
   rw [hins] at d11
   have HINS:=Lib.hid hins
   clear d34 d31 d2 HA uc U1 hins
   obtain ⟨R,nm,tg,ou,is⟩:=f
   have f3:W3.cell? ⟨fb,3,none⟩=some (.bool ou):=FB.cell 3 rfl
   have f4:W3.cell? ⟨fb,4,none⟩=some (.bool is):=FB.cell 4 rfl
   clear FB
   have HBAD:Hid (badIns t op ↔ ok=false∨(ins=true∧is=false)∨(ins=false∧ou=false)):=Lib.hid (by
    unfold badIns
    rw [HOK.out,HFF.out,HINS.out])
   go_upto_block 0 with (fail)
   go_cut [5] from 47 to 111 (fun _ wx=>AtGo w X sh acc st p pb cap tb t o wx)
   case first =>
    have HID:=Lib.hid hidle
    clear hidle
    cases ok with
    | false =>
     have hb:badIns t op:=HBAD.out.2 (.inl rfl)
     have hS:=stepT_bad (sh:=sh) HID.out (by rw [HOP.out]; exact hb)
     rw [hS] at hK
     have HV2:=H
     clear hS hb HBAD d21 g21 f3 f4 HFF HOK HOP
     go_wp2_with fail
     have hf:=fail_tv HV2.out 210
     have HF:=Lib.hid hf
     obtain ⟨T,hT⟩:∃ T,failT t 210=T:=⟨_,rfl⟩
     rw [hT] at HF hK
     clear hf hT
     refine HF.out.mono ?_
     rintro e W3 ⟨rfl,o',V3,u3,ho⟩
     obtain ⟨⟨⟨ek,ea,ew,eo,ee⟩,tl⟩,t'⟩:=T
     simp only [TE.val]
     have HV:=Lib.hid V3
     replace EB:Blk W3 _ teNone.cells _:=EB.upd u3 (by simpa using hne2)
     replace U:=U.trans (up_own u3 (by simp))
     clear V3 u3 HF
     have q0:=EB.cell 0 rfl
     have q1:=EB.cell 1 rfl
     have q2:=EB.cell 2 rfl
     have q3:=EB.cell 3 rfl
     have q4:=EB.cell 4 rfl
     have q5:=EB.cell 5 rfl
     have f0:=EB.free 0
     have f1:=EB.free 1
     have f2:=EB.free 2
     have f3:=EB.free 3
     have f4:=EB.free 4
     have f5:=EB.free 5
     go_wp2_with fail
     refine bodyPost_ret (ev_results2 2 3 rfl _ _ (w.heap.size) (⟨ek,ea,ew,eo,ee⟩:TE) (.bool tl) rfl rfl (ev_set (e0:=teNone) EB (⟨ek,ea,ew,eo,ee⟩:TE))) rfl (hK _ _ ⟨rfl,_,_,_,HV.out.updn (ev_upd (S:=[w.heap.size]) (Upd.refl _ _) (.inl (by simp)) _ _ _ _ _ _) ?_,ev_upd U (.inr (by omega)) _ _ _ _ _ _,?_,.inl ⟨rfl,rfl⟩⟩)
     ·exact fun g hg e=>by simp at hg; exact HLT.out g (by omega) (inTh_less ho e)
     ·exact fun g hg=>.inl (by rcases ho with rfl | rfl; exact hg; simp [AO.foot] at hg)
    | true =>
     cases ins with
     | true =>
      cases is with
      | false =>
       have hb:badIns t op:=HBAD.out.2 (.inr (.inl ⟨rfl,rfl⟩))
       have hS:=stepT_bad (sh:=sh) HID.out (by rw [HOP.out]; exact hb)
       rw [hS] at hK
       have HV2:=H
       clear hS hb HBAD d21 g21 HFF HOK HOP
       go_wp2_with fail
       have hf:=fail_tv HV2.out 210
       have HF:=Lib.hid hf
       obtain ⟨T,hT⟩:∃ T,failT t 210=T:=⟨_,rfl⟩
       rw [hT] at HF hK
       clear hf hT
       refine HF.out.mono ?_
       rintro e W3 ⟨rfl,o',V3,u3,ho⟩
       obtain ⟨⟨⟨ek,ea,ew,eo,ee⟩,tl⟩,t'⟩:=T
       simp only [TE.val]
       have HV:=Lib.hid V3
       replace EB:Blk W3 _ teNone.cells _:=EB.upd u3 (by simpa using hne2)
       replace U:=U.trans (up_own u3 (by simp))
       clear V3 u3 HF
       have q0:=EB.cell 0 rfl
       have q1:=EB.cell 1 rfl
       have q2:=EB.cell 2 rfl
       have q3:=EB.cell 3 rfl
       have q4:=EB.cell 4 rfl
       have q5:=EB.cell 5 rfl
       have f0:=EB.free 0
       have f1:=EB.free 1
       have f2:=EB.free 2
       have f3:=EB.free 3
       have f4:=EB.free 4
       have f5:=EB.free 5
       go_wp2_with fail
       refine bodyPost_ret (ev_results2 2 3 rfl _ _ (w.heap.size) (⟨ek,ea,ew,eo,ee⟩:TE) (.bool tl) rfl rfl (ev_set (e0:=teNone) EB (⟨ek,ea,ew,eo,ee⟩:TE))) rfl (hK _ _ ⟨rfl,_,_,_,HV.out.updn (ev_upd (S:=[w.heap.size]) (Upd.refl _ _) (.inl (by simp)) _ _ _ _ _ _) ?_,ev_upd U (.inr (by omega)) _ _ _ _ _ _,?_,.inl ⟨rfl,rfl⟩⟩)
       ·exact fun g hg e=>by simp at hg; exact HLT.out g (by omega) (inTh_less ho e)
       ·exact fun g hg=>.inl (by rcases ho with rfl | rfl; exact hg; simp [AO.foot] at hg)
      | true =>
       have hb:¬ badIns t op:=fun h=>by have:=HBAD.out.1 h; simp at this
       by_cases hfu:t.fuel=4096
       ·have hS:=stepT_full (sh:=sh) HID.out (by rw [HOP.out]; exact hb) ⟨HINS.out,hfu⟩
        rw [hS] at hK
        have HV2:=H
        have hfb:(t.fuel == 4096)=true:=by simpa using hfu
        clear hS hb HBAD g21 HFF HOK HOP hfu
        go_wp2_with fail
        have hf:=fail_tv HV2.out 6
        have HF:=Lib.hid hf
        obtain ⟨T,hT⟩:∃ T,failT t 6=T:=⟨_,rfl⟩
        rw [hT] at HF hK
        clear hf hT
        refine HF.out.mono ?_
        rintro e W3 ⟨rfl,o',V3,u3,ho⟩
        obtain ⟨⟨⟨ek,ea,ew,eo,ee⟩,tl⟩,t'⟩:=T
        simp only [TE.val]
        have HV:=Lib.hid V3
        replace EB:Blk W3 _ teNone.cells _:=EB.upd u3 (by simpa using hne2)
        replace U:=U.trans (up_own u3 (by simp))
        clear V3 u3 HF
        have q0:=EB.cell 0 rfl
        have q1:=EB.cell 1 rfl
        have q2:=EB.cell 2 rfl
        have q3:=EB.cell 3 rfl
        have q4:=EB.cell 4 rfl
        have q5:=EB.cell 5 rfl
        have f0:=EB.free 0
        have f1:=EB.free 1
        have f2:=EB.free 2
        have f3:=EB.free 3
        have f4:=EB.free 4
        have f5:=EB.free 5
        go_wp2_with fail
        refine bodyPost_ret (ev_results2 2 3 rfl _ _ (w.heap.size) (⟨ek,ea,ew,eo,ee⟩:TE) (.bool tl) rfl rfl (ev_set (e0:=teNone) EB (⟨ek,ea,ew,eo,ee⟩:TE))) rfl (hK _ _ ⟨rfl,_,_,_,HV.out.updn (ev_upd (S:=[w.heap.size]) (Upd.refl _ _) (.inl (by simp)) _ _ _ _ _ _) ?_,ev_upd U (.inr (by omega)) _ _ _ _ _ _,?_,.inl ⟨rfl,rfl⟩⟩)
        ·exact fun g hg e=>by simp at hg; exact HLT.out g (by omega) (inTh_less ho e)
        ·exact fun g hg=>.inl (by rcases ho with rfl | rfl; exact hg; simp [AO.foot] at hg)
       ·have hfb:(t.fuel == 4096)=false:=by simpa using hfu
        have hw1:wrap64 (t.fuel+1)=t.fuel+1:=by have:=hfl HINS.out; unfold wrap64; omega
        have HB:=Lib.hid hb
        have HFU:=Lib.hid hfu
        clear hb hfu
        go_wp2_with fail
        go_meet
        have hft:fuelT t = { t with fuel:=t.fuel+1 }:=by unfold fuelT; rw [if_pos HINS.out]
        have h21:(headTV t (progV pb cap p) X o.ptr).set 21 (.int .i64 (t.fuel+1))=headTV { t with fuel:=t.fuel+1 } (progV pb cap p) X o.ptr:=head_setF H.out.r8 H.out.s8 _
        have hB:=H.out.head.set 21 (.int .i64 (t.fuel+1))
        rw [h21] at hB
        refine ⟨?_,EB.other ⟨tb,21,none⟩ _ hne2,U.setCell (.inl (by simp)) _,by rw [HOP.out]; exact HB.out,fun h=>HFU.out h.2⟩
        rw [hft]
        exact H.out.own (t':={ t with fuel:=t.fuel+1 }) hB ((Upd.refl [tb] W3).setCell (.inl (by simp)) _) H.out.r8 H.out.s8 rfl
     | false =>
      cases ou with
      | false =>
       have hb:badIns t op:=HBAD.out.2 (.inr (.inr ⟨rfl,rfl⟩))
       have hS:=stepT_bad (sh:=sh) HID.out (by rw [HOP.out]; exact hb)
       rw [hS] at hK
       have HV2:=H
       clear hS hb HBAD d21 g21 HFF HOK HOP
       go_wp2_with fail
       have hf:=fail_tv HV2.out 210
       have HF:=Lib.hid hf
       obtain ⟨T,hT⟩:∃ T,failT t 210=T:=⟨_,rfl⟩
       rw [hT] at HF hK
       clear hf hT
       refine HF.out.mono ?_
       rintro e W3 ⟨rfl,o',V3,u3,ho⟩
       obtain ⟨⟨⟨ek,ea,ew,eo,ee⟩,tl⟩,t'⟩:=T
       simp only [TE.val]
       have HV:=Lib.hid V3
       replace EB:Blk W3 _ teNone.cells _:=EB.upd u3 (by simpa using hne2)
       replace U:=U.trans (up_own u3 (by simp))
       clear V3 u3 HF
       have q0:=EB.cell 0 rfl
       have q1:=EB.cell 1 rfl
       have q2:=EB.cell 2 rfl
       have q3:=EB.cell 3 rfl
       have q4:=EB.cell 4 rfl
       have q5:=EB.cell 5 rfl
       have f0:=EB.free 0
       have f1:=EB.free 1
       have f2:=EB.free 2
       have f3:=EB.free 3
       have f4:=EB.free 4
       have f5:=EB.free 5
       go_wp2_with fail
       refine bodyPost_ret (ev_results2 2 3 rfl _ _ (w.heap.size) (⟨ek,ea,ew,eo,ee⟩:TE) (.bool tl) rfl rfl (ev_set (e0:=teNone) EB (⟨ek,ea,ew,eo,ee⟩:TE))) rfl (hK _ _ ⟨rfl,_,_,_,HV.out.updn (ev_upd (S:=[w.heap.size]) (Upd.refl _ _) (.inl (by simp)) _ _ _ _ _ _) ?_,ev_upd U (.inr (by omega)) _ _ _ _ _ _,?_,.inl ⟨rfl,rfl⟩⟩)
       ·exact fun g hg e=>by simp at hg; exact HLT.out g (by omega) (inTh_less ho e)
       ·exact fun g hg=>.inl (by rcases ho with rfl | rfl; exact hg; simp [AO.foot] at hg)
      | true =>
       have hb:¬ badIns t op:=fun h=>by have:=HBAD.out.1 h; simp at this
       have HB:=Lib.hid hb
       clear hb
       go_wp2_with fail
       go_meet
       have hft:fuelT t=t:=by unfold fuelT; rw [if_neg (by rw [HINS.out]; simp)]
       refine ⟨by rw [hft]; exact H.out,EB,U,by rw [HOP.out]; exact HB.out,fun h=>by rw [HINS.out] at h; exact absurd h.1 (by simp)⟩
   case rest =>
    obtain ⟨V,EB2,U2,hnb,hnf⟩:=hcut
    rcases HBF.out with k | k
    ·exact absurd k hnb
    ·exact absurd k hnf
end
end Go.Proofs.YtehopaabfoopeaaGreat
