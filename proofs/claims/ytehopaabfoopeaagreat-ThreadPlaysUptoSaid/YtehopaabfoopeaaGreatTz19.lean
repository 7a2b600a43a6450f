/- The document's Plain: an instruction of registers. No conditions. -/
import Derived.Test.YtehopaabfoopeaaGreatTz08
import Derived.Test.YtehopaabfoopeaaGreatTz12
set_option linter.unusedSimpArgs false
set_option linter.unusedVariables false
set_option maxRecDepth 100000
namespace Go.Proofs.YtehopaabfoopeaaGreat
open Go.RowKit
open Go.Maps
theorem xword_any (b:Bool) (w:World):Calls Tryz.prog 89 #[.bool b] w fun e w'=>e=.returned (.int .u64 (if b=true then 1 else 0))∧w=w':=by
 cases b
 all_goals
  refine calls_all fun K hK=>?_
  go_enter Tryz.func89,Tryz.ntmps89
  go_wp2
  all_goals first | exact ⟨rfl,rfl⟩ | rfl
theorem xtarget_any (n:Int) (w:World) (hn:0≤n∧n<18446744073709551616):Calls Tryz.prog 90 #[.int .u64 n] w fun e w'=>e=.returned (.int .i64 (targetI n))∧w=w':=by
 unfold targetI
 by_cases h:9223372036854775807<n
 ·have d:decide (9223372036854775807<n)=true:=decide_eq_true h
  rw [if_pos h]
  refine calls_all fun K hK=>?_
  go_enter Tryz.func90,Tryz.ntmps90
  go_wp2
  all_goals first | exact ⟨rfl,rfl⟩ | rfl
 ·have d:decide (9223372036854775807<n)=false:=decide_eq_false h
  rw [if_neg h]
  refine calls_all fun K hK=>?_
  go_enter Tryz.func90,Tryz.ntmps90
  go_wp2
  all_goals first | exact ⟨by congr 2; unfold wrap64; omega,rfl⟩ | exact ⟨rfl,rfl⟩ | rfl
def plainR (i:Ins) (rs:List Int) (k:Int):List Int × Int × Bool:=
 let g:=fun (x:Int)=>rs.getD x.toNat 0
 if i.op=1 then (rs.set i.a.toNat i.n,k+1,true)
 else if i.op=2 then (rs.set i.a.toNat (g i.b),k+1,true)
 else if i.op=3 then (rs.set i.a.toNat ((g i.b+g i.c) % 18446744073709551616),k+1,true)
 else if i.op=4 then (rs.set i.a.toNat ((g i.b - g i.c) % 18446744073709551616),k+1,true)
 else if i.op=5 then (rs.set i.a.toNat ((g i.b*g i.c) % 18446744073709551616),k+1,true)
 else if i.op=6 then (rs.set i.a.toNat (if g i.b<g i.c then 1 else 0),k+1,true)
 else if i.op=7 then (rs.set i.a.toNat (if g i.b=g i.c then 1 else 0),k+1,true)
 else if i.op=8 then (rs,targetI i.n,true)
 else if i.op=9 then (rs,if g i.a=0 then targetI i.n else k+1,true)
 else (rs,k,false)
def plainV (x:List Int × Int × Bool):Value:=.tuple #[.agg (x.1.map (Value.int .u64)).toArray,.int .i64 x.2.1,.bool x.2.2]
theorem xplain_results {fn:Func} (hr:fn.results = #[.cell 6 52,.tmp 7,.tmp 8]) (t:Array Value) (w:World) (rb:Nat) (cs:List Value) (v u:Value) (h2:t.getD 6 undef=.pointer (some ⟨rb,0,none⟩)) (h3:t.getD 7 undef=v) (h4:t.getD 8 undef=u) (hb:w.rangeAt rb 0 cs) (hl:cs.length=8) :
  (results fn t).run Tryz.prog w=.ok (.tuple #[.agg cs.toArray,v,u]) w:=by
 have h2':t[6]?.getD undef=.pointer (some ⟨rb,0,none⟩):=by simpa using h2
 have h3':t[7]?.getD undef=v:=by simpa using h3
 have h4':t[8]?.getD undef=u:=by simpa using h4
 have h5:=run_loadVar_mid (P:=Tryz.prog) w rb 0 52 cs _ hb Tryz.underlying52 rfl (by rw [hl]; kernel_rfl)
 simp [results,hr,h2',h3',h4',h5,Sem.run_bind,asAddr]
set_option maxHeartbeats 4000000 in
theorem xplain_code (w:World) (i:Ins) (rs:List Int) (k:Int) (hr:rs.length=8) (ha:0≤i.a∧i.a<8) (hb:0≤i.b∧i.b<8) (hc:0≤i.c∧i.c<8) (hn:0≤i.n∧i.n<18446744073709551616) (hk:0≤k∧k≤256) (hw:∀ v ∈ rs,W64 v) :
  Calls Tryz.prog 58 #[i.val,.agg (rs.map (Value.int .u64)).toArray,.int .i64 k] w fun e w'=>e=.returned (plainV (plainR i rs k))∧Upd [] w w':=by
 obtain ⟨op,a,b,c,n⟩:=i
 dsimp only at ha hb hc hn
 obtain ⟨A,rfl⟩:∃ A:Nat,a=A:=⟨a.toNat,by omega⟩
 obtain ⟨B,rfl⟩:∃ B:Nat,b=B:=⟨b.toNat,by omega⟩
 obtain ⟨C,rfl⟩:∃ C:Nat,c=C:=⟨c.toNat,by omega⟩
 obtain ⟨gA,hgA⟩:∃ g,rs.getD A 0=g:=⟨_,rfl⟩
 obtain ⟨gB,hgB⟩:∃ g,rs.getD B 0=g:=⟨_,rfl⟩
 obtain ⟨gC,hgC⟩:∃ g,rs.getD C 0=g:=⟨_,rfl⟩
 have hget:∀ j:Nat,j<8 → (rs.map (Value.int .u64))[j]? = some (.int .u64 (rs.getD j 0)):=fun j hj=>by
  rw [List.getElem?_map,List.getElem?_eq_getElem (by omega),List.getD_eq_getElem?_getD,List.getElem?_eq_getElem (by omega)]; rfl
 have hwd:∀ j:Nat,j<8 → W64 (rs.getD j 0):=fun j hj=>by
  rw [List.getD_eq_getElem?_getD,List.getElem?_eq_getElem (by omega)]; exact hw _ (List.getElem_mem _)
 have wA:=hwd A (by omega)
 have wB:=hwd B (by omega)
 have wC:=hwd C (by omega)
 rw [hgA] at wA
 rw [hgB] at wB
 rw [hgC] at wC
 simp only [Ins.val]
 obtain ⟨W1,hW1⟩:∃ W,((w.alloc (.cells #[.int .i64 op,.int .i64 A,.int .i64 B,.int .i64 C,.int .u64 n] 50)).alloc (.cells (rs.map (Value.int .u64)).toArray 52)).alloc (.cells #[.int .u64 0,.int .u64 0,.int .u64 0,.int .u64 0,.int .u64 0,.int .u64 0,.int .u64 0,.int .u64 0] 52)=W:=⟨_,rfl⟩
 have u1:Upd [] w W1:=by rw [← hW1]; exact (((Upd.refl [] _).alloc _).alloc _).alloc _
 have IB:Blk W1 w.heap.size [.int .i64 op,.int .i64 A,.int .i64 B,.int .i64 C,.int .u64 n] 50:=by rw [← hW1]; exact ((Blk.new w _ _).alloc _).alloc _
 have RBk:Blk W1 (w.heap.size+1) (rs.map (Value.int .u64)) 52:=by
  have:=(Blk.new (w.alloc (.cells #[.int .i64 op,.int .i64 A,.int .i64 B,.int .i64 C,.int .u64 n] 50)) (rs.map (Value.int .u64)) 52).alloc (.cells #[.int .u64 0,.int .u64 0,.int .u64 0,.int .u64 0,.int .u64 0,.int .u64 0,.int .u64 0,.int .u64 0] 52)
  rw [World.size_alloc] at this
  rw [← hW1]; exact this
 have OB:Blk W1 (w.heap.size+2) [.int .u64 0,.int .u64 0,.int .u64 0,.int .u64 0,.int .u64 0,.int .u64 0,.int .u64 0,.int .u64 0] 52:=by
  have:=Blk.new ((w.alloc (.cells #[.int .i64 op,.int .i64 A,.int .i64 B,.int .i64 C,.int .u64 n] 50)).alloc (.cells (rs.map (Value.int .u64)).toArray 52)) [.int .u64 0,.int .u64 0,.int .u64 0,.int .u64 0,.int .u64 0,.int .u64 0,.int .u64 0,.int .u64 0] 52
  rw [World.size_alloc,World.size_alloc] at this
  rw [← hW1]; exact this
 have i0:=IB.cell 0 rfl
 have i1:=IB.cell 1 rfl
 have i2:=IB.cell 2 rfl
 have i3:=IB.cell 3 rfl
 have i4:=IB.cell 4 rfl
 have dA:=RBk.cell A (hget A (by omega))
 have dB:=RBk.cell B (hget B (by omega))
 have dC:=RBk.cell C (hget C (by omega))
 rw [hgA] at dA
 rw [hgB] at dB
 rw [hgC] at dC
 have fA:=RBk.free A
 have hAi:(A:Int)<8:=by omega
 have hBi:(B:Int)<8:=by omega
 have hCi:(C:Int)<8:=by omega
 have hlen:(rs.map (Value.int .u64)).length=8:=by simp [hr]
 have HU1:=Lib.hid u1
 have HRB:=Lib.hid RBk
 have HOB:=Lib.hid OB
 have HIB:=Lib.hid IB
 obtain ⟨X,hX⟩:∃ X,plainR ⟨op,A,B,C,n⟩ rs k=X:=⟨_,rfl⟩
 have HX:=Lib.hid hX
 rw [hX]
 clear u1 RBk OB IB hX hget hwd ha hb hc
 by_cases h1:op=1
 ·subst h1
  have HP:=Lib.hid (show plainR ⟨1,A,B,C,n⟩ rs k=(rs.set A n,k+1,true) from rfl)
  refine calls_all fun K hK=>?_
  go_enter Tryz.func58,Tryz.ntmps58
  go_upto_region 23 with (fail)
  have hR2:=HRB.out.set A (.int .u64 n)
  have us:Upd [w.heap.size+1] W1 (W1.setCell ⟨w.heap.size+1,A,none⟩ (.int .u64 n)):=(Upd.refl _ _).setCell (.inl (by simp)) _
  have hO2:=HOB.out.upd us (by simp)
  have hU2:Upd [] w (W1.setCell ⟨w.heap.size+1,A,none⟩ (.int .u64 n)):=HU1.out.setCell (.inr (by simp)) _
  rw [← List.map_set] at hR2
  obtain ⟨W3,hW3⟩:∃ W,W1.setCell ⟨w.heap.size+1,A,none⟩ (.int .u64 n)=W:=⟨_,rfl⟩
  rw [hW3] at hR2 hO2 hU2 ⊢
  have hR3:=hR2
  have hO3:=hO2
  have hU3:=hU2
  clear hW3 us
  obtain ⟨rz,hrz⟩:∃ l,rs.set A n=l:=⟨_,rfl⟩
  have hp:=HP.out
  rw [hrz] at hR3 hp
  have HP2:=Lib.hid hp
  have hzl:rz.length=8:=by rw [← hrz]; simp [hr]
  clear hp HP hrz
  have HR3:=Lib.hid hR3
  have HO3:=Lib.hid hO3
  have HU3:=Lib.hid hU3
  have hl3:(rz.map (Value.int .u64)).length=8:=by simp [hzl]
  have h13:(rz.map (Value.int .u64)).toArray.all (·.oneCell')=true:=all_oneCell_toArray fun v hv=>by obtain ⟨x,_,rfl⟩:=List.mem_map.1 hv; rfl
  have HRG:=Lib.hid HR3.out.range
  have HTH:=Lib.hid (HO3.out.there 0 8 (by simp))
  clear hR3 hO3 hU3 hR2 hO2 i0 i1 i2 i3 i4 dA dB dC fA
  go_wp2_with (first
   | ((with_reducible refine wpList_load_mid (op:=⟨some 119,.load 52 (.tmp 4),_,_,_,_⟩) rfl 52 _ rfl (w.heap.size+1) 0 ?_ ((rz).map (Value.int .u64)) _ HRG.out Tryz.underlying52 (by rfl) (by rw [hl3]; kernel_rfl) ?_); (· rfl))
   | ((with_reducible refine wpList_load_mid (op:=⟨some 13,.load 52 (.tmp 4),_,_,_,_⟩) rfl 52 _ rfl (w.heap.size+1) 0 ?_ ((rz).map (Value.int .u64)) _ HRG.out Tryz.underlying52 (by rfl) (by rw [hl3]; kernel_rfl) ?_); (· rfl))
   | ((with_reducible refine wpList_store_mid (op:=⟨none,.store 52 (.tmp 6) (.tmp 119),_,_,_,_⟩) rfl 52 _ _ rfl (w.heap.size+2) 0 ((rz).map (Value.int .u64)).toArray ?_ ?_ (by simpa [hl3] using HTH.out) (by simp only [List.size_toArray,hl3]; kernel_rfl) h13 ?_); (· rfl); (· rfl))
   | ((with_reducible refine wpList_store_mid (op:=⟨none,.store 52 (.tmp 6) (.tmp 13),_,_,_,_⟩) rfl 52 _ _ rfl (w.heap.size+2) 0 ((rz).map (Value.int .u64)).toArray ?_ ?_ (by simpa [hl3] using HTH.out) (by simp only [List.size_toArray,hl3]; kernel_rfl) h13 ?_); (· rfl); (· rfl)))
  exact bodyPost_ret (xplain_results rfl _ _ (w.heap.size+2) (rz.map (Value.int .u64)) (.int .i64 (k+1)) (.bool true) rfl rfl rfl (World.rangeAt_setCells_same W3 _ 0 _ (by rw [hl3]; exact HTH.out)) hl3) rfl (hK _ _ ⟨by rw [← HX.out,HP2.out]; rfl,Upd.rows _ 0 HU3.out (.inr (by omega))⟩)
 by_cases h2:op=2
 ·subst h2
  clear h1
  have HP:=Lib.hid (show plainR ⟨2,A,B,C,n⟩ rs k=(rs.set A (gB),k+1,true) from by rw [← hgB]; rfl)
  refine calls_all fun K hK=>?_
  go_enter Tryz.func58,Tryz.ntmps58
  go_upto_region 7 with (fail)
  obtain ⟨Wd,hWd⟩:∃ W,W1.drew=W:=⟨_,rfl⟩
  have ud:Upd [] W1 Wd:=by rw [← hWd]; exact (Upd.refl [] _).drew
  have hI:Blk Wd w.heap.size _ 50:=HIB.out.upd ud (by simp)
  have hR:Blk Wd (w.heap.size+1) _ 52:=HRB.out.upd ud (by simp)
  have hO:Blk Wd (w.heap.size+2) _ 52:=HOB.out.upd ud (by simp)
  refine wp_region_ordT (fun w'=>w'.cell? ⟨w.heap.size,1,none⟩=some (.int .i64 (A:Int))∧w'.cell? ⟨w.heap.size,2,none⟩=some (.int .i64 (B:Int))∧w'.cell? ⟨w.heap.size+1,B,none⟩=some (.int .u64 gB)) [0,1,2,3,4,5,6,7] [7] (by kernel_rfl) (by kernel_rfl) ?_
  rw [hWd]
  clear hWd
  have hS:Wd.cell? ⟨w.heap.size,1,none⟩=some (.int .i64 (A:Int))∧Wd.cell? ⟨w.heap.size,2,none⟩=some (.int .i64 (B:Int))∧Wd.cell? ⟨w.heap.size+1,B,none⟩=some (.int .u64 gB):=⟨hI.cell 1 rfl,hI.cell 2 rfl,ud.cell (by simp) dB⟩
  have fAd:=hR.free A
  have dAd:=ud.cell (by simp) dA
  repeat
   first
    | (refine wpT_skip rfl (by decide) (by assumption) (by rfl) ?_)
    | ((refine wpT_take (v:=?_) rfl (by decide) (by assumption) rfl (by rfl) ?_ ?_); rotate_left 1; (· ((intro w hSw; (try dsimp only at hSw); go_simp); try with_reducible rfl)))
   try simp only [Act.put,List.setIfInBounds_toArray,List.set_cons_zero,List.set_cons_succ]
  refine wpT_last rfl (by decide) (by kernel_rfl) (by rfl) (fun K2 hK2=>?_)
  go_simp
  refine hK2.out _ _ ?_
  refine wpT_end (NoPanic.normal ?_)
  clear hK2 K2
  have hR2:=hR.set A (.int .u64 (gB))
  have us:Upd [w.heap.size+1] Wd (Wd.setCell ⟨w.heap.size+1,A,none⟩ (.int .u64 (gB))):=(Upd.refl _ _).setCell (.inl (by simp)) _
  have hO2:=hO.upd us (by simp)
  have hU2:Upd [] w (Wd.setCell ⟨w.heap.size+1,A,none⟩ (.int .u64 (gB))):=(HU1.out.trans ud).setCell (.inr (by simp)) _
  rw [← List.map_set] at hR2
  obtain ⟨W3,hW3⟩:∃ W,Wd.setCell ⟨w.heap.size+1,A,none⟩ (.int .u64 (gB))=W:=⟨_,rfl⟩
  rw [hW3] at hR2 hO2 hU2 ⊢
  have hR3:=hR2
  have hO3:=hO2
  have hU3:=hU2
  clear hW3 us ud hI hR hO
  obtain ⟨rz,hrz⟩:∃ l,rs.set A (gB)=l:=⟨_,rfl⟩
  have hp:=HP.out
  rw [hrz] at hR3 hp
  have HP2:=Lib.hid hp
  have hzl:rz.length=8:=by rw [← hrz]; simp [hr]
  clear hp HP hrz
  have HR3:=Lib.hid hR3
  have HO3:=Lib.hid hO3
  have HU3:=Lib.hid hU3
  have hl3:(rz.map (Value.int .u64)).length=8:=by simp [hzl]
  have h13:(rz.map (Value.int .u64)).toArray.all (·.oneCell')=true:=all_oneCell_toArray fun v hv=>by obtain ⟨x,_,rfl⟩:=List.mem_map.1 hv; rfl
  have HRG:=Lib.hid HR3.out.range
  have HTH:=Lib.hid (HO3.out.there 0 8 (by simp))
  clear hR3 hO3 hU3 hR2 hO2 i0 i1 i2 i3 i4 dA dB dC fA
  go_wp2_with (first
   | ((with_reducible refine wpList_load_mid (op:=⟨some 119,.load 52 (.tmp 4),_,_,_,_⟩) rfl 52 _ rfl (w.heap.size+1) 0 ?_ ((rz).map (Value.int .u64)) _ HRG.out Tryz.underlying52 (by rfl) (by rw [hl3]; kernel_rfl) ?_); (· rfl))
   | ((with_reducible refine wpList_load_mid (op:=⟨some 13,.load 52 (.tmp 4),_,_,_,_⟩) rfl 52 _ rfl (w.heap.size+1) 0 ?_ ((rz).map (Value.int .u64)) _ HRG.out Tryz.underlying52 (by rfl) (by rw [hl3]; kernel_rfl) ?_); (· rfl))
   | ((with_reducible refine wpList_store_mid (op:=⟨none,.store 52 (.tmp 6) (.tmp 119),_,_,_,_⟩) rfl 52 _ _ rfl (w.heap.size+2) 0 ((rz).map (Value.int .u64)).toArray ?_ ?_ (by simpa [hl3] using HTH.out) (by simp only [List.size_toArray,hl3]; kernel_rfl) h13 ?_); (· rfl); (· rfl))
   | ((with_reducible refine wpList_store_mid (op:=⟨none,.store 52 (.tmp 6) (.tmp 13),_,_,_,_⟩) rfl 52 _ _ rfl (w.heap.size+2) 0 ((rz).map (Value.int .u64)).toArray ?_ ?_ (by simpa [hl3] using HTH.out) (by simp only [List.size_toArray,hl3]; kernel_rfl) h13 ?_); (· rfl); (· rfl)))
  exact bodyPost_ret (xplain_results rfl _ _ (w.heap.size+2) (rz.map (Value.int .u64)) (.int .i64 (k+1)) (.bool true) rfl rfl rfl (World.rangeAt_setCells_same W3 _ 0 _ (by rw [hl3]; exact HTH.out)) hl3) rfl (hK _ _ ⟨by rw [← HX.out,HP2.out]; rfl,Upd.rows _ 0 HU3.out (.inr (by omega))⟩)
 by_cases h3:op=3
 ·subst h3
  clear h1 h2
  have HP:=Lib.hid (show plainR ⟨3,A,B,C,n⟩ rs k=(rs.set A (IntKind.u64.wrap (gB+gC)),k+1,true) from by rw [IntKind.wrap_u64,← hgB,← hgC]; rfl)
  refine calls_all fun K hK=>?_
  go_enter Tryz.func58,Tryz.ntmps58
  go_upto_region 9 with (fail)
  obtain ⟨Wd,hWd⟩:∃ W,W1.drew=W:=⟨_,rfl⟩
  have ud:Upd [] W1 Wd:=by rw [← hWd]; exact (Upd.refl [] _).drew
  have hI:Blk Wd w.heap.size _ 50:=HIB.out.upd ud (by simp)
  have hR:Blk Wd (w.heap.size+1) _ 52:=HRB.out.upd ud (by simp)
  have hO:Blk Wd (w.heap.size+2) _ 52:=HOB.out.upd ud (by simp)
  refine wp_region_ordT (fun w'=>w'.cell? ⟨w.heap.size,1,none⟩=some (.int .i64 (A:Int))∧w'.cell? ⟨w.heap.size,2,none⟩=some (.int .i64 (B:Int))∧w'.cell? ⟨w.heap.size,3,none⟩=some (.int .i64 (C:Int))∧w'.cell? ⟨w.heap.size+1,B,none⟩=some (.int .u64 gB)∧w'.cell? ⟨w.heap.size+1,C,none⟩=some (.int .u64 gC)) [0,1,2,3,4,5,6,7,8,9,10,11,12] [12] (by kernel_rfl) (by kernel_rfl) ?_
  rw [hWd]
  clear hWd
  have hS:Wd.cell? ⟨w.heap.size,1,none⟩=some (.int .i64 (A:Int))∧Wd.cell? ⟨w.heap.size,2,none⟩=some (.int .i64 (B:Int))∧Wd.cell? ⟨w.heap.size,3,none⟩=some (.int .i64 (C:Int))∧Wd.cell? ⟨w.heap.size+1,B,none⟩=some (.int .u64 gB)∧Wd.cell? ⟨w.heap.size+1,C,none⟩=some (.int .u64 gC):=⟨hI.cell 1 rfl,hI.cell 2 rfl,hI.cell 3 rfl,ud.cell (by simp) dB,ud.cell (by simp) dC⟩
  have fAd:=hR.free A
  have dAd:=ud.cell (by simp) dA
  repeat
   first
    | (refine wpT_skip rfl (by decide) (by assumption) (by rfl) ?_)
    | ((refine wpT_take (v:=?_) rfl (by decide) (by assumption) rfl (by rfl) ?_ ?_); rotate_left 1; (· ((intro w hSw; (try dsimp only at hSw); go_simp); try with_reducible rfl)))
   try simp only [Act.put,List.setIfInBounds_toArray,List.set_cons_zero,List.set_cons_succ]
  refine wpT_last rfl (by decide) (by kernel_rfl) (by rfl) (fun K2 hK2=>?_)
  go_simp
  refine hK2.out _ _ ?_
  refine wpT_end (NoPanic.normal ?_)
  clear hK2 K2
  have hR2:=hR.set A (.int .u64 (IntKind.u64.wrap (gB+gC)))
  have us:Upd [w.heap.size+1] Wd (Wd.setCell ⟨w.heap.size+1,A,none⟩ (.int .u64 (IntKind.u64.wrap (gB+gC)))):=(Upd.refl _ _).setCell (.inl (by simp)) _
  have hO2:=hO.upd us (by simp)
  have hU2:Upd [] w (Wd.setCell ⟨w.heap.size+1,A,none⟩ (.int .u64 (IntKind.u64.wrap (gB+gC)))):=(HU1.out.trans ud).setCell (.inr (by simp)) _
  rw [← List.map_set] at hR2
  obtain ⟨W3,hW3⟩:∃ W,Wd.setCell ⟨w.heap.size+1,A,none⟩ (.int .u64 (IntKind.u64.wrap (gB+gC)))=W:=⟨_,rfl⟩
  rw [hW3] at hR2 hO2 hU2 ⊢
  have hR3:=hR2
  have hO3:=hO2
  have hU3:=hU2
  clear hW3 us ud hI hR hO
  obtain ⟨rz,hrz⟩:∃ l,rs.set A (IntKind.u64.wrap (gB+gC))=l:=⟨_,rfl⟩
  have hp:=HP.out
  rw [hrz] at hR3 hp
  have HP2:=Lib.hid hp
  have hzl:rz.length=8:=by rw [← hrz]; simp [hr]
  clear hp HP hrz
  have HR3:=Lib.hid hR3
  have HO3:=Lib.hid hO3
  have HU3:=Lib.hid hU3
  have hl3:(rz.map (Value.int .u64)).length=8:=by simp [hzl]
  have h13:(rz.map (Value.int .u64)).toArray.all (·.oneCell')=true:=all_oneCell_toArray fun v hv=>by obtain ⟨x,_,rfl⟩:=List.mem_map.1 hv; rfl
  have HRG:=Lib.hid HR3.out.range
  have HTH:=Lib.hid (HO3.out.there 0 8 (by simp))
  clear hR3 hO3 hU3 hR2 hO2 i0 i1 i2 i3 i4 dA dB dC fA
  go_wp2_with (first
   | ((with_reducible refine wpList_load_mid (op:=⟨some 119,.load 52 (.tmp 4),_,_,_,_⟩) rfl 52 _ rfl (w.heap.size+1) 0 ?_ ((rz).map (Value.int .u64)) _ HRG.out Tryz.underlying52 (by rfl) (by rw [hl3]; kernel_rfl) ?_); (· rfl))
   | ((with_reducible refine wpList_load_mid (op:=⟨some 13,.load 52 (.tmp 4),_,_,_,_⟩) rfl 52 _ rfl (w.heap.size+1) 0 ?_ ((rz).map (Value.int .u64)) _ HRG.out Tryz.underlying52 (by rfl) (by rw [hl3]; kernel_rfl) ?_); (· rfl))
   | ((with_reducible refine wpList_store_mid (op:=⟨none,.store 52 (.tmp 6) (.tmp 119),_,_,_,_⟩) rfl 52 _ _ rfl (w.heap.size+2) 0 ((rz).map (Value.int .u64)).toArray ?_ ?_ (by simpa [hl3] using HTH.out) (by simp only [List.size_toArray,hl3]; kernel_rfl) h13 ?_); (· rfl); (· rfl))
   | ((with_reducible refine wpList_store_mid (op:=⟨none,.store 52 (.tmp 6) (.tmp 13),_,_,_,_⟩) rfl 52 _ _ rfl (w.heap.size+2) 0 ((rz).map (Value.int .u64)).toArray ?_ ?_ (by simpa [hl3] using HTH.out) (by simp only [List.size_toArray,hl3]; kernel_rfl) h13 ?_); (· rfl); (· rfl)))
  exact bodyPost_ret (xplain_results rfl _ _ (w.heap.size+2) (rz.map (Value.int .u64)) (.int .i64 (k+1)) (.bool true) rfl rfl rfl (World.rangeAt_setCells_same W3 _ 0 _ (by rw [hl3]; exact HTH.out)) hl3) rfl (hK _ _ ⟨by rw [← HX.out,HP2.out]; rfl,Upd.rows _ 0 HU3.out (.inr (by omega))⟩)
 by_cases h4:op=4
 ·subst h4
  clear h1 h2 h3
  have HP:=Lib.hid (show plainR ⟨4,A,B,C,n⟩ rs k=(rs.set A (IntKind.u64.wrap (gB - gC)),k+1,true) from by rw [IntKind.wrap_u64,← hgB,← hgC]; rfl)
  refine calls_all fun K hK=>?_
  go_enter Tryz.func58,Tryz.ntmps58
  go_upto_region 11 with (fail)
  obtain ⟨Wd,hWd⟩:∃ W,W1.drew=W:=⟨_,rfl⟩
  have ud:Upd [] W1 Wd:=by rw [← hWd]; exact (Upd.refl [] _).drew
  have hI:Blk Wd w.heap.size _ 50:=HIB.out.upd ud (by simp)
  have hR:Blk Wd (w.heap.size+1) _ 52:=HRB.out.upd ud (by simp)
  have hO:Blk Wd (w.heap.size+2) _ 52:=HOB.out.upd ud (by simp)
  refine wp_region_ordT (fun w'=>w'.cell? ⟨w.heap.size,1,none⟩=some (.int .i64 (A:Int))∧w'.cell? ⟨w.heap.size,2,none⟩=some (.int .i64 (B:Int))∧w'.cell? ⟨w.heap.size,3,none⟩=some (.int .i64 (C:Int))∧w'.cell? ⟨w.heap.size+1,B,none⟩=some (.int .u64 gB)∧w'.cell? ⟨w.heap.size+1,C,none⟩=some (.int .u64 gC)) [0,1,2,3,4,5,6,7,8,9,10,11,12] [12] (by kernel_rfl) (by kernel_rfl) ?_
  rw [hWd]
  clear hWd
  have hS:Wd.cell? ⟨w.heap.size,1,none⟩=some (.int .i64 (A:Int))∧Wd.cell? ⟨w.heap.size,2,none⟩=some (.int .i64 (B:Int))∧Wd.cell? ⟨w.heap.size,3,none⟩=some (.int .i64 (C:Int))∧Wd.cell? ⟨w.heap.size+1,B,none⟩=some (.int .u64 gB)∧Wd.cell? ⟨w.heap.size+1,C,none⟩=some (.int .u64 gC):=⟨hI.cell 1 rfl,hI.cell 2 rfl,hI.cell 3 rfl,ud.cell (by simp) dB,ud.cell (by simp) dC⟩
  have fAd:=hR.free A
  have dAd:=ud.cell (by simp) dA
  repeat
   first
    | (refine wpT_skip rfl (by decide) (by assumption) (by rfl) ?_)
    | ((refine wpT_take (v:=?_) rfl (by decide) (by assumption) rfl (by rfl) ?_ ?_); rotate_left 1; (· ((intro w hSw; (try dsimp only at hSw); go_simp); try with_reducible rfl)))
   try simp only [Act.put,List.setIfInBounds_toArray,List.set_cons_zero,List.set_cons_succ]
  refine wpT_last rfl (by decide) (by kernel_rfl) (by rfl) (fun K2 hK2=>?_)
  go_simp
  refine hK2.out _ _ ?_
  refine wpT_end (NoPanic.normal ?_)
  clear hK2 K2
  have hR2:=hR.set A (.int .u64 (IntKind.u64.wrap (gB - gC)))
  have us:Upd [w.heap.size+1] Wd (Wd.setCell ⟨w.heap.size+1,A,none⟩ (.int .u64 (IntKind.u64.wrap (gB - gC)))):=(Upd.refl _ _).setCell (.inl (by simp)) _
  have hO2:=hO.upd us (by simp)
  have hU2:Upd [] w (Wd.setCell ⟨w.heap.size+1,A,none⟩ (.int .u64 (IntKind.u64.wrap (gB - gC)))):=(HU1.out.trans ud).setCell (.inr (by simp)) _
  rw [← List.map_set] at hR2
  obtain ⟨W3,hW3⟩:∃ W,Wd.setCell ⟨w.heap.size+1,A,none⟩ (.int .u64 (IntKind.u64.wrap (gB - gC)))=W:=⟨_,rfl⟩
  rw [hW3] at hR2 hO2 hU2 ⊢
  have hR3:=hR2
  have hO3:=hO2
  have hU3:=hU2
  clear hW3 us ud hI hR hO
  obtain ⟨rz,hrz⟩:∃ l,rs.set A (IntKind.u64.wrap (gB - gC))=l:=⟨_,rfl⟩
  have hp:=HP.out
  rw [hrz] at hR3 hp
  have HP2:=Lib.hid hp
  have hzl:rz.length=8:=by rw [← hrz]; simp [hr]
  clear hp HP hrz
  have HR3:=Lib.hid hR3
  have HO3:=Lib.hid hO3
  have HU3:=Lib.hid hU3
  have hl3:(rz.map (Value.int .u64)).length=8:=by simp [hzl]
  have h13:(rz.map (Value.int .u64)).toArray.all (·.oneCell')=true:=all_oneCell_toArray fun v hv=>by obtain ⟨x,_,rfl⟩:=List.mem_map.1 hv; rfl
  have HRG:=Lib.hid HR3.out.range
  have HTH:=Lib.hid (HO3.out.there 0 8 (by simp))
  clear hR3 hO3 hU3 hR2 hO2 i0 i1 i2 i3 i4 dA dB dC fA
  go_wp2_with (first
   | ((with_reducible refine wpList_load_mid (op:=⟨some 119,.load 52 (.tmp 4),_,_,_,_⟩) rfl 52 _ rfl (w.heap.size+1) 0 ?_ ((rz).map (Value.int .u64)) _ HRG.out Tryz.underlying52 (by rfl) (by rw [hl3]; kernel_rfl) ?_); (· rfl))
   | ((with_reducible refine wpList_load_mid (op:=⟨some 13,.load 52 (.tmp 4),_,_,_,_⟩) rfl 52 _ rfl (w.heap.size+1) 0 ?_ ((rz).map (Value.int .u64)) _ HRG.out Tryz.underlying52 (by rfl) (by rw [hl3]; kernel_rfl) ?_); (· rfl))
   | ((with_reducible refine wpList_store_mid (op:=⟨none,.store 52 (.tmp 6) (.tmp 119),_,_,_,_⟩) rfl 52 _ _ rfl (w.heap.size+2) 0 ((rz).map (Value.int .u64)).toArray ?_ ?_ (by simpa [hl3] using HTH.out) (by simp only [List.size_toArray,hl3]; kernel_rfl) h13 ?_); (· rfl); (· rfl))
   | ((with_reducible refine wpList_store_mid (op:=⟨none,.store 52 (.tmp 6) (.tmp 13),_,_,_,_⟩) rfl 52 _ _ rfl (w.heap.size+2) 0 ((rz).map (Value.int .u64)).toArray ?_ ?_ (by simpa [hl3] using HTH.out) (by simp only [List.size_toArray,hl3]; kernel_rfl) h13 ?_); (· rfl); (· rfl)))
  exact bodyPost_ret (xplain_results rfl _ _ (w.heap.size+2) (rz.map (Value.int .u64)) (.int .i64 (k+1)) (.bool true) rfl rfl rfl (World.rangeAt_setCells_same W3 _ 0 _ (by rw [hl3]; exact HTH.out)) hl3) rfl (hK _ _ ⟨by rw [← HX.out,HP2.out]; rfl,Upd.rows _ 0 HU3.out (.inr (by omega))⟩)
 by_cases h5:op=5
 ·subst h5
  clear h1 h2 h3 h4
  have HP:=Lib.hid (show plainR ⟨5,A,B,C,n⟩ rs k=(rs.set A (IntKind.u64.wrap (gB*gC)),k+1,true) from by rw [IntKind.wrap_u64,← hgB,← hgC]; rfl)
  refine calls_all fun K hK=>?_
  go_enter Tryz.func58,Tryz.ntmps58
  go_upto_region 13 with (fail)
  obtain ⟨Wd,hWd⟩:∃ W,W1.drew=W:=⟨_,rfl⟩
  have ud:Upd [] W1 Wd:=by rw [← hWd]; exact (Upd.refl [] _).drew
  have hI:Blk Wd w.heap.size _ 50:=HIB.out.upd ud (by simp)
  have hR:Blk Wd (w.heap.size+1) _ 52:=HRB.out.upd ud (by simp)
  have hO:Blk Wd (w.heap.size+2) _ 52:=HOB.out.upd ud (by simp)
  refine wp_region_ordT (fun w'=>w'.cell? ⟨w.heap.size,1,none⟩=some (.int .i64 (A:Int))∧w'.cell? ⟨w.heap.size,2,none⟩=some (.int .i64 (B:Int))∧w'.cell? ⟨w.heap.size,3,none⟩=some (.int .i64 (C:Int))∧w'.cell? ⟨w.heap.size+1,B,none⟩=some (.int .u64 gB)∧w'.cell? ⟨w.heap.size+1,C,none⟩=some (.int .u64 gC)) [0,1,2,3,4,5,6,7,8,9,10,11,12] [12] (by kernel_rfl) (by kernel_rfl) ?_
  rw [hWd]
  clear hWd
  have hS:Wd.cell? ⟨w.heap.size,1,none⟩=some (.int .i64 (A:Int))∧Wd.cell? ⟨w.heap.size,2,none⟩=some (.int .i64 (B:Int))∧Wd.cell? ⟨w.heap.size,3,none⟩=some (.int .i64 (C:Int))∧Wd.cell? ⟨w.heap.size+1,B,none⟩=some (.int .u64 gB)∧Wd.cell? ⟨w.heap.size+1,C,none⟩=some (.int .u64 gC):=⟨hI.cell 1 rfl,hI.cell 2 rfl,hI.cell 3 rfl,ud.cell (by simp) dB,ud.cell (by simp) dC⟩
  have fAd:=hR.free A
  have dAd:=ud.cell (by simp) dA
  repeat
   first
    | (refine wpT_skip rfl (by decide) (by assumption) (by rfl) ?_)
    | ((refine wpT_take (v:=?_) rfl (by decide) (by assumption) rfl (by rfl) ?_ ?_); rotate_left 1; (· ((intro w hSw; (try dsimp only at hSw); go_simp); try with_reducible rfl)))
   try simp only [Act.put,List.setIfInBounds_toArray,List.set_cons_zero,List.set_cons_succ]
  refine wpT_last rfl (by decide) (by kernel_rfl) (by rfl) (fun K2 hK2=>?_)
  go_simp
  refine hK2.out _ _ ?_
  refine wpT_end (NoPanic.normal ?_)
  clear hK2 K2
  have hR2:=hR.set A (.int .u64 (IntKind.u64.wrap (gB*gC)))
  have us:Upd [w.heap.size+1] Wd (Wd.setCell ⟨w.heap.size+1,A,none⟩ (.int .u64 (IntKind.u64.wrap (gB*gC)))):=(Upd.refl _ _).setCell (.inl (by simp)) _
  have hO2:=hO.upd us (by simp)
  have hU2:Upd [] w (Wd.setCell ⟨w.heap.size+1,A,none⟩ (.int .u64 (IntKind.u64.wrap (gB*gC)))):=(HU1.out.trans ud).setCell (.inr (by simp)) _
  rw [← List.map_set] at hR2
  obtain ⟨W3,hW3⟩:∃ W,Wd.setCell ⟨w.heap.size+1,A,none⟩ (.int .u64 (IntKind.u64.wrap (gB*gC)))=W:=⟨_,rfl⟩
  rw [hW3] at hR2 hO2 hU2 ⊢
  have hR3:=hR2
  have hO3:=hO2
  have hU3:=hU2
  clear hW3 us ud hI hR hO
  obtain ⟨rz,hrz⟩:∃ l,rs.set A (IntKind.u64.wrap (gB*gC))=l:=⟨_,rfl⟩
  have hp:=HP.out
  rw [hrz] at hR3 hp
  have HP2:=Lib.hid hp
  have hzl:rz.length=8:=by rw [← hrz]; simp [hr]
  clear hp HP hrz
  have HR3:=Lib.hid hR3
  have HO3:=Lib.hid hO3
  have HU3:=Lib.hid hU3
  have hl3:(rz.map (Value.int .u64)).length=8:=by simp [hzl]
  have h13:(rz.map (Value.int .u64)).toArray.all (·.oneCell')=true:=all_oneCell_toArray fun v hv=>by obtain ⟨x,_,rfl⟩:=List.mem_map.1 hv; rfl
  have HRG:=Lib.hid HR3.out.range
  have HTH:=Lib.hid (HO3.out.there 0 8 (by simp))
  clear hR3 hO3 hU3 hR2 hO2 i0 i1 i2 i3 i4 dA dB dC fA
  go_wp2_with (first
   | ((with_reducible refine wpList_load_mid (op:=⟨some 119,.load 52 (.tmp 4),_,_,_,_⟩) rfl 52 _ rfl (w.heap.size+1) 0 ?_ ((rz).map (Value.int .u64)) _ HRG.out Tryz.underlying52 (by rfl) (by rw [hl3]; kernel_rfl) ?_); (· rfl))
   | ((with_reducible refine wpList_load_mid (op:=⟨some 13,.load 52 (.tmp 4),_,_,_,_⟩) rfl 52 _ rfl (w.heap.size+1) 0 ?_ ((rz).map (Value.int .u64)) _ HRG.out Tryz.underlying52 (by rfl) (by rw [hl3]; kernel_rfl) ?_); (· rfl))
   | ((with_reducible refine wpList_store_mid (op:=⟨none,.store 52 (.tmp 6) (.tmp 119),_,_,_,_⟩) rfl 52 _ _ rfl (w.heap.size+2) 0 ((rz).map (Value.int .u64)).toArray ?_ ?_ (by simpa [hl3] using HTH.out) (by simp only [List.size_toArray,hl3]; kernel_rfl) h13 ?_); (· rfl); (· rfl))
   | ((with_reducible refine wpList_store_mid (op:=⟨none,.store 52 (.tmp 6) (.tmp 13),_,_,_,_⟩) rfl 52 _ _ rfl (w.heap.size+2) 0 ((rz).map (Value.int .u64)).toArray ?_ ?_ (by simpa [hl3] using HTH.out) (by simp only [List.size_toArray,hl3]; kernel_rfl) h13 ?_); (· rfl); (· rfl)))
  exact bodyPost_ret (xplain_results rfl _ _ (w.heap.size+2) (rz.map (Value.int .u64)) (.int .i64 (k+1)) (.bool true) rfl rfl rfl (World.rangeAt_setCells_same W3 _ 0 _ (by rw [hl3]; exact HTH.out)) hl3) rfl (hK _ _ ⟨by rw [← HX.out,HP2.out]; rfl,Upd.rows _ 0 HU3.out (.inr (by omega))⟩)
 by_cases h6:op=6
 ·subst h6
  clear h1 h2 h3 h4 h5
  by_cases hc:gB<gC
  ·have dc:decide (gB<gC)=true:=decide_eq_true hc
   have HP:=Lib.hid (show plainR ⟨6,A,B,C,n⟩ rs k=(rs.set A (1),k+1,true) from by have e:plainR ⟨6,A,B,C,n⟩ rs k=(rs.set A (if gB<gC then 1 else 0),k+1,true):=(by rw [← hgB,← hgC]; rfl); rw [e,if_pos hc])
   refine calls_all fun K hK=>?_
   go_enter Tryz.func58,Tryz.ntmps58
   go_upto_region 15 with (fail)
   obtain ⟨Wd,hWd⟩:∃ W,W1.drew=W:=⟨_,rfl⟩
   have ud:Upd [] W1 Wd:=by rw [← hWd]; exact (Upd.refl [] _).drew
   have hI:Blk Wd w.heap.size _ 50:=HIB.out.upd ud (by simp)
   have hR:Blk Wd (w.heap.size+1) _ 52:=HRB.out.upd ud (by simp)
   have hO:Blk Wd (w.heap.size+2) _ 52:=HOB.out.upd ud (by simp)
   refine wp_region_ordT (fun w'=>w'.cell? ⟨w.heap.size,1,none⟩=some (.int .i64 (A:Int))∧w'.cell? ⟨w.heap.size,2,none⟩=some (.int .i64 (B:Int))∧w'.cell? ⟨w.heap.size,3,none⟩=some (.int .i64 (C:Int))∧w'.cell? ⟨w.heap.size+1,B,none⟩=some (.int .u64 gB)∧w'.cell? ⟨w.heap.size+1,C,none⟩=some (.int .u64 gC)) [0,1,2,3,4,5,6,7,8,9,10,11,12,13] [13] (by kernel_rfl) (by kernel_rfl) ?_
   rw [hWd]
   clear hWd
   have hS:Wd.cell? ⟨w.heap.size,1,none⟩=some (.int .i64 (A:Int))∧Wd.cell? ⟨w.heap.size,2,none⟩=some (.int .i64 (B:Int))∧Wd.cell? ⟨w.heap.size,3,none⟩=some (.int .i64 (C:Int))∧Wd.cell? ⟨w.heap.size+1,B,none⟩=some (.int .u64 gB)∧Wd.cell? ⟨w.heap.size+1,C,none⟩=some (.int .u64 gC):=⟨hI.cell 1 rfl,hI.cell 2 rfl,hI.cell 3 rfl,ud.cell (by simp) dB,ud.cell (by simp) dC⟩
   have fAd:=hR.free A
   have dAd:=ud.cell (by simp) dA
   repeat
    first
     | (refine wpT_skip rfl (by decide) (by assumption) (by rfl) ?_)
     | ((refine wpT_take (v:=?_) rfl (by decide) (by assumption) rfl (by rfl) ?_ ?_); rotate_left 1; (· ((intro w hSw; (try dsimp only at hSw); go_simp); try with_reducible rfl)))
    try simp only [Act.put,List.setIfInBounds_toArray,List.set_cons_zero,List.set_cons_succ]
   refine wpT_eff rfl (by kernel_rfl) (by rfl) (fun K2 hK2=>?_)
   go_simp
   refine (xword_any _ _).mono ?_
   rintro e w' ⟨rfl,rfl⟩
   refine hK2.out _ _ hS ?_
   clear hK2 K2
   repeat
    first
     | (refine wpT_skip rfl (by decide) (by assumption) (by rfl) ?_)
     | ((refine wpT_take (v:=?_) rfl (by decide) (by assumption) rfl (by rfl) ?_ ?_); rotate_left 1; (· ((intro w hSw; (try dsimp only at hSw); go_simp); try with_reducible rfl)))
    try simp only [Act.put,List.setIfInBounds_toArray,List.set_cons_zero,List.set_cons_succ]
   refine wpT_last rfl (by decide) (by kernel_rfl) (by rfl) (fun K2 hK2=>?_)
   go_simp
   refine hK2.out _ _ ?_
   refine wpT_end (NoPanic.normal ?_)
   clear hK2 K2
   have hR2:=hR.set A (.int .u64 (1))
   have us:Upd [w.heap.size+1] Wd (Wd.setCell ⟨w.heap.size+1,A,none⟩ (.int .u64 (1))):=(Upd.refl _ _).setCell (.inl (by simp)) _
   have hO2:=hO.upd us (by simp)
   have hU2:Upd [] w (Wd.setCell ⟨w.heap.size+1,A,none⟩ (.int .u64 (1))):=(HU1.out.trans ud).setCell (.inr (by simp)) _
   rw [← List.map_set] at hR2
   obtain ⟨W3,hW3⟩:∃ W,Wd.setCell ⟨w.heap.size+1,A,none⟩ (.int .u64 (1))=W:=⟨_,rfl⟩
   rw [hW3] at hR2 hO2 hU2 ⊢
   have hR3:=hR2
   have hO3:=hO2
   have hU3:=hU2
   clear hW3 us ud hI hR hO
   obtain ⟨rz,hrz⟩:∃ l,rs.set A 1=l:=⟨_,rfl⟩
   have hp:=HP.out
   rw [hrz] at hR3 hp
   have HP2:=Lib.hid hp
   have hzl:rz.length=8:=by rw [← hrz]; simp [hr]
   clear hp HP hrz
   have HR3:=Lib.hid hR3
   have HO3:=Lib.hid hO3
   have HU3:=Lib.hid hU3
   have hl3:(rz.map (Value.int .u64)).length=8:=by simp [hzl]
   have h13:(rz.map (Value.int .u64)).toArray.all (·.oneCell')=true:=all_oneCell_toArray fun v hv=>by obtain ⟨x,_,rfl⟩:=List.mem_map.1 hv; rfl
   have HRG:=Lib.hid HR3.out.range
   have HTH:=Lib.hid (HO3.out.there 0 8 (by simp))
   clear hR3 hO3 hU3 hR2 hO2 i0 i1 i2 i3 i4 dA dB dC fA
   go_wp2_with (first
    | ((with_reducible refine wpList_load_mid (op:=⟨some 119,.load 52 (.tmp 4),_,_,_,_⟩) rfl 52 _ rfl (w.heap.size+1) 0 ?_ ((rz).map (Value.int .u64)) _ HRG.out Tryz.underlying52 (by rfl) (by rw [hl3]; kernel_rfl) ?_); (· rfl))
    | ((with_reducible refine wpList_load_mid (op:=⟨some 13,.load 52 (.tmp 4),_,_,_,_⟩) rfl 52 _ rfl (w.heap.size+1) 0 ?_ ((rz).map (Value.int .u64)) _ HRG.out Tryz.underlying52 (by rfl) (by rw [hl3]; kernel_rfl) ?_); (· rfl))
    | ((with_reducible refine wpList_store_mid (op:=⟨none,.store 52 (.tmp 6) (.tmp 119),_,_,_,_⟩) rfl 52 _ _ rfl (w.heap.size+2) 0 ((rz).map (Value.int .u64)).toArray ?_ ?_ (by simpa [hl3] using HTH.out) (by simp only [List.size_toArray,hl3]; kernel_rfl) h13 ?_); (· rfl); (· rfl))
    | ((with_reducible refine wpList_store_mid (op:=⟨none,.store 52 (.tmp 6) (.tmp 13),_,_,_,_⟩) rfl 52 _ _ rfl (w.heap.size+2) 0 ((rz).map (Value.int .u64)).toArray ?_ ?_ (by simpa [hl3] using HTH.out) (by simp only [List.size_toArray,hl3]; kernel_rfl) h13 ?_); (· rfl); (· rfl)))
   exact bodyPost_ret (xplain_results rfl _ _ (w.heap.size+2) (rz.map (Value.int .u64)) (.int .i64 (k+1)) (.bool true) rfl rfl rfl (World.rangeAt_setCells_same W3 _ 0 _ (by rw [hl3]; exact HTH.out)) hl3) rfl (hK _ _ ⟨by rw [← HX.out,HP2.out]; rfl,Upd.rows _ 0 HU3.out (.inr (by omega))⟩)
  ·have dc:decide (gB<gC)=false:=decide_eq_false hc
   have HP:=Lib.hid (show plainR ⟨6,A,B,C,n⟩ rs k=(rs.set A (0),k+1,true) from by have e:plainR ⟨6,A,B,C,n⟩ rs k=(rs.set A (if gB<gC then 1 else 0),k+1,true):=(by rw [← hgB,← hgC]; rfl); rw [e,if_neg hc])
   refine calls_all fun K hK=>?_
   go_enter Tryz.func58,Tryz.ntmps58
   go_upto_region 15 with (fail)
   obtain ⟨Wd,hWd⟩:∃ W,W1.drew=W:=⟨_,rfl⟩
   have ud:Upd [] W1 Wd:=by rw [← hWd]; exact (Upd.refl [] _).drew
   have hI:Blk Wd w.heap.size _ 50:=HIB.out.upd ud (by simp)
   have hR:Blk Wd (w.heap.size+1) _ 52:=HRB.out.upd ud (by simp)
   have hO:Blk Wd (w.heap.size+2) _ 52:=HOB.out.upd ud (by simp)
   refine wp_region_ordT (fun w'=>w'.cell? ⟨w.heap.size,1,none⟩=some (.int .i64 (A:Int))∧w'.cell? ⟨w.heap.size,2,none⟩=some (.int .i64 (B:Int))∧w'.cell? ⟨w.heap.size,3,none⟩=some (.int .i64 (C:Int))∧w'.cell? ⟨w.heap.size+1,B,none⟩=some (.int .u64 gB)∧w'.cell? ⟨w.heap.size+1,C,none⟩=some (.int .u64 gC)) [0,1,2,3,4,5,6,7,8,9,10,11,12,13] [13] (by kernel_rfl) (by kernel_rfl) ?_
   rw [hWd]
   clear hWd
   have hS:Wd.cell? ⟨w.heap.size,1,none⟩=some (.int .i64 (A:Int))∧Wd.cell? ⟨w.heap.size,2,none⟩=some (.int .i64 (B:Int))∧Wd.cell? ⟨w.heap.size,3,none⟩=some (.int .i64 (C:Int))∧Wd.cell? ⟨w.heap.size+1,B,none⟩=some (.int .u64 gB)∧Wd.cell? ⟨w.heap.size+1,C,none⟩=some (.int .u64 gC):=⟨hI.cell 1 rfl,hI.cell 2 rfl,hI.cell 3 rfl,ud.cell (by simp) dB,ud.cell (by simp) dC⟩
   have fAd:=hR.free A
   have dAd:=ud.cell (by simp) dA
   repeat
    first
     | (refine wpT_skip rfl (by decide) (by assumption) (by rfl) ?_)
     | ((refine wpT_take (v:=?_) rfl (by decide) (by assumption) rfl (by rfl) ?_ ?_); rotate_left 1; (· ((intro w hSw; (try dsimp only at hSw); go_simp); try with_reducible rfl)))
    try simp only [Act.put,List.setIfInBounds_toArray,List.set_cons_zero,List.set_cons_succ]
   refine wpT_eff rfl (by kernel_rfl) (by rfl) (fun K2 hK2=>?_)
   go_simp
   refine (xword_any _ _).mono ?_
   rintro e w' ⟨rfl,rfl⟩
   refine hK2.out _ _ hS ?_
   clear hK2 K2
   repeat
    first
     | (refine wpT_skip rfl (by decide) (by assumption) (by rfl) ?_)
     | ((refine wpT_take (v:=?_) rfl (by decide) (by assumption) rfl (by rfl) ?_ ?_); rotate_left 1; (· ((intro w hSw; (try dsimp only at hSw); go_simp); try with_reducible rfl)))
    try simp only [Act.put,List.setIfInBounds_toArray,List.set_cons_zero,List.set_cons_succ]
   refine wpT_last rfl (by decide) (by kernel_rfl) (by rfl) (fun K2 hK2=>?_)
   go_simp
   refine hK2.out _ _ ?_
   refine wpT_end (NoPanic.normal ?_)
   clear hK2 K2
   have hR2:=hR.set A (.int .u64 (0))
   have us:Upd [w.heap.size+1] Wd (Wd.setCell ⟨w.heap.size+1,A,none⟩ (.int .u64 (0))):=(Upd.refl _ _).setCell (.inl (by simp)) _
   have hO2:=hO.upd us (by simp)
   have hU2:Upd [] w (Wd.setCell ⟨w.heap.size+1,A,none⟩ (.int .u64 (0))):=(HU1.out.trans ud).setCell (.inr (by simp)) _
   rw [← List.map_set] at hR2
   obtain ⟨W3,hW3⟩:∃ W,Wd.setCell ⟨w.heap.size+1,A,none⟩ (.int .u64 (0))=W:=⟨_,rfl⟩
   rw [hW3] at hR2 hO2 hU2 ⊢
   have hR3:=hR2
   have hO3:=hO2
   have hU3:=hU2
   clear hW3 us ud hI hR hO
   obtain ⟨rz,hrz⟩:∃ l,rs.set A 0=l:=⟨_,rfl⟩
   have hp:=HP.out
   rw [hrz] at hR3 hp
   have HP2:=Lib.hid hp
   have hzl:rz.length=8:=by rw [← hrz]; simp [hr]
   clear hp HP hrz
   have HR3:=Lib.hid hR3
   have HO3:=Lib.hid hO3
   have HU3:=Lib.hid hU3
   have hl3:(rz.map (Value.int .u64)).length=8:=by simp [hzl]
   have h13:(rz.map (Value.int .u64)).toArray.all (·.oneCell')=true:=all_oneCell_toArray fun v hv=>by obtain ⟨x,_,rfl⟩:=List.mem_map.1 hv; rfl
   have HRG:=Lib.hid HR3.out.range
   have HTH:=Lib.hid (HO3.out.there 0 8 (by simp))
   clear hR3 hO3 hU3 hR2 hO2 i0 i1 i2 i3 i4 dA dB dC fA
   go_wp2_with (first
    | ((with_reducible refine wpList_load_mid (op:=⟨some 119,.load 52 (.tmp 4),_,_,_,_⟩) rfl 52 _ rfl (w.heap.size+1) 0 ?_ ((rz).map (Value.int .u64)) _ HRG.out Tryz.underlying52 (by rfl) (by rw [hl3]; kernel_rfl) ?_); (· rfl))
    | ((with_reducible refine wpList_load_mid (op:=⟨some 13,.load 52 (.tmp 4),_,_,_,_⟩) rfl 52 _ rfl (w.heap.size+1) 0 ?_ ((rz).map (Value.int .u64)) _ HRG.out Tryz.underlying52 (by rfl) (by rw [hl3]; kernel_rfl) ?_); (· rfl))
    | ((with_reducible refine wpList_store_mid (op:=⟨none,.store 52 (.tmp 6) (.tmp 119),_,_,_,_⟩) rfl 52 _ _ rfl (w.heap.size+2) 0 ((rz).map (Value.int .u64)).toArray ?_ ?_ (by simpa [hl3] using HTH.out) (by simp only [List.size_toArray,hl3]; kernel_rfl) h13 ?_); (· rfl); (· rfl))
    | ((with_reducible refine wpList_store_mid (op:=⟨none,.store 52 (.tmp 6) (.tmp 13),_,_,_,_⟩) rfl 52 _ _ rfl (w.heap.size+2) 0 ((rz).map (Value.int .u64)).toArray ?_ ?_ (by simpa [hl3] using HTH.out) (by simp only [List.size_toArray,hl3]; kernel_rfl) h13 ?_); (· rfl); (· rfl)))
   exact bodyPost_ret (xplain_results rfl _ _ (w.heap.size+2) (rz.map (Value.int .u64)) (.int .i64 (k+1)) (.bool true) rfl rfl rfl (World.rangeAt_setCells_same W3 _ 0 _ (by rw [hl3]; exact HTH.out)) hl3) rfl (hK _ _ ⟨by rw [← HX.out,HP2.out]; rfl,Upd.rows _ 0 HU3.out (.inr (by omega))⟩)
 by_cases h7:op=7
 ·subst h7
  clear h1 h2 h3 h4 h5 h6
  by_cases hc:gB=gC
  ·have dc:(gB == gC)=true:=by simp [hc]
   have HP:=Lib.hid (show plainR ⟨7,A,B,C,n⟩ rs k=(rs.set A (1),k+1,true) from by have e:plainR ⟨7,A,B,C,n⟩ rs k=(rs.set A (if gB=gC then 1 else 0),k+1,true):=(by rw [← hgB,← hgC]; rfl); rw [e,if_pos hc])
   refine calls_all fun K hK=>?_
   go_enter Tryz.func58,Tryz.ntmps58
   go_upto_region 17 with (fail)
   obtain ⟨Wd,hWd⟩:∃ W,W1.drew=W:=⟨_,rfl⟩
   have ud:Upd [] W1 Wd:=by rw [← hWd]; exact (Upd.refl [] _).drew
   have hI:Blk Wd w.heap.size _ 50:=HIB.out.upd ud (by simp)
   have hR:Blk Wd (w.heap.size+1) _ 52:=HRB.out.upd ud (by simp)
   have hO:Blk Wd (w.heap.size+2) _ 52:=HOB.out.upd ud (by simp)
   refine wp_region_ordT (fun w'=>w'.cell? ⟨w.heap.size,1,none⟩=some (.int .i64 (A:Int))∧w'.cell? ⟨w.heap.size,2,none⟩=some (.int .i64 (B:Int))∧w'.cell? ⟨w.heap.size,3,none⟩=some (.int .i64 (C:Int))∧w'.cell? ⟨w.heap.size+1,B,none⟩=some (.int .u64 gB)∧w'.cell? ⟨w.heap.size+1,C,none⟩=some (.int .u64 gC)) [0,1,2,3,4,5,6,7,8,9,10,11,12,13] [13] (by kernel_rfl) (by kernel_rfl) ?_
   rw [hWd]
   clear hWd
   have hS:Wd.cell? ⟨w.heap.size,1,none⟩=some (.int .i64 (A:Int))∧Wd.cell? ⟨w.heap.size,2,none⟩=some (.int .i64 (B:Int))∧Wd.cell? ⟨w.heap.size,3,none⟩=some (.int .i64 (C:Int))∧Wd.cell? ⟨w.heap.size+1,B,none⟩=some (.int .u64 gB)∧Wd.cell? ⟨w.heap.size+1,C,none⟩=some (.int .u64 gC):=⟨hI.cell 1 rfl,hI.cell 2 rfl,hI.cell 3 rfl,ud.cell (by simp) dB,ud.cell (by simp) dC⟩
   have fAd:=hR.free A
   have dAd:=ud.cell (by simp) dA
   repeat
    first
     | (refine wpT_skip rfl (by decide) (by assumption) (by rfl) ?_)
     | ((refine wpT_take (v:=?_) rfl (by decide) (by assumption) rfl (by rfl) ?_ ?_); rotate_left 1; (· ((intro w hSw; (try dsimp only at hSw); go_simp); try with_reducible rfl)))
    try simp only [Act.put,List.setIfInBounds_toArray,List.set_cons_zero,List.set_cons_succ]
   refine wpT_eff rfl (by kernel_rfl) (by rfl) (fun K2 hK2=>?_)
   go_simp
   refine (xword_any _ _).mono ?_
   rintro e w' ⟨rfl,rfl⟩
   refine hK2.out _ _ hS ?_
   clear hK2 K2
   repeat
    first
     | (refine wpT_skip rfl (by decide) (by assumption) (by rfl) ?_)
     | ((refine wpT_take (v:=?_) rfl (by decide) (by assumption) rfl (by rfl) ?_ ?_); rotate_left 1; (· ((intro w hSw; (try dsimp only at hSw); go_simp); try with_reducible rfl)))
    try simp only [Act.put,List.setIfInBounds_toArray,List.set_cons_zero,List.set_cons_succ]
   refine wpT_last rfl (by decide) (by kernel_rfl) (by rfl) (fun K2 hK2=>?_)
   go_simp
   refine hK2.out _ _ ?_
   refine wpT_end (NoPanic.normal ?_)
   clear hK2 K2
   have hR2:=hR.set A (.int .u64 (1))
   have us:Upd [w.heap.size+1] Wd (Wd.setCell ⟨w.heap.size+1,A,none⟩ (.int .u64 (1))):=(Upd.refl _ _).setCell (.inl (by simp)) _
   have hO2:=hO.upd us (by simp)
   have hU2:Upd [] w (Wd.setCell ⟨w.heap.size+1,A,none⟩ (.int .u64 (1))):=(HU1.out.trans ud).setCell (.inr (by simp)) _
   rw [← List.map_set] at hR2
   obtain ⟨W3,hW3⟩:∃ W,Wd.setCell ⟨w.heap.size+1,A,none⟩ (.int .u64 (1))=W:=⟨_,rfl⟩
   rw [hW3] at hR2 hO2 hU2 ⊢
   have hR3:=hR2
   have hO3:=hO2
   have hU3:=hU2
   clear hW3 us ud hI hR hO
   obtain ⟨rz,hrz⟩:∃ l,rs.set A 1=l:=⟨_,rfl⟩
   have hp:=HP.out
   rw [hrz] at hR3 hp
   have HP2:=Lib.hid hp
   have hzl:rz.length=8:=by rw [← hrz]; simp [hr]
   clear hp HP hrz
   have HR3:=Lib.hid hR3
   have HO3:=Lib.hid hO3
   have HU3:=Lib.hid hU3
   have hl3:(rz.map (Value.int .u64)).length=8:=by simp [hzl]
   have h13:(rz.map (Value.int .u64)).toArray.all (·.oneCell')=true:=all_oneCell_toArray fun v hv=>by obtain ⟨x,_,rfl⟩:=List.mem_map.1 hv; rfl
   have HRG:=Lib.hid HR3.out.range
   have HTH:=Lib.hid (HO3.out.there 0 8 (by simp))
   clear hR3 hO3 hU3 hR2 hO2 i0 i1 i2 i3 i4 dA dB dC fA
   go_wp2_with (first
    | ((with_reducible refine wpList_load_mid (op:=⟨some 119,.load 52 (.tmp 4),_,_,_,_⟩) rfl 52 _ rfl (w.heap.size+1) 0 ?_ ((rz).map (Value.int .u64)) _ HRG.out Tryz.underlying52 (by rfl) (by rw [hl3]; kernel_rfl) ?_); (· rfl))
    | ((with_reducible refine wpList_load_mid (op:=⟨some 13,.load 52 (.tmp 4),_,_,_,_⟩) rfl 52 _ rfl (w.heap.size+1) 0 ?_ ((rz).map (Value.int .u64)) _ HRG.out Tryz.underlying52 (by rfl) (by rw [hl3]; kernel_rfl) ?_); (· rfl))
    | ((with_reducible refine wpList_store_mid (op:=⟨none,.store 52 (.tmp 6) (.tmp 119),_,_,_,_⟩) rfl 52 _ _ rfl (w.heap.size+2) 0 ((rz).map (Value.int .u64)).toArray ?_ ?_ (by simpa [hl3] using HTH.out) (by simp only [List.size_toArray,hl3]; kernel_rfl) h13 ?_); (· rfl); (· rfl))
    | ((with_reducible refine wpList_store_mid (op:=⟨none,.store 52 (.tmp 6) (.tmp 13),_,_,_,_⟩) rfl 52 _ _ rfl (w.heap.size+2) 0 ((rz).map (Value.int .u64)).toArray ?_ ?_ (by simpa [hl3] using HTH.out) (by simp only [List.size_toArray,hl3]; kernel_rfl) h13 ?_); (· rfl); (· rfl)))
   exact bodyPost_ret (xplain_results rfl _ _ (w.heap.size+2) (rz.map (Value.int .u64)) (.int .i64 (k+1)) (.bool true) rfl rfl rfl (World.rangeAt_setCells_same W3 _ 0 _ (by rw [hl3]; exact HTH.out)) hl3) rfl (hK _ _ ⟨by rw [← HX.out,HP2.out]; rfl,Upd.rows _ 0 HU3.out (.inr (by omega))⟩)
  ·have dc:(gB == gC)=false:=by simp [hc]
   have HP:=Lib.hid (show plainR ⟨7,A,B,C,n⟩ rs k=(rs.set A (0),k+1,true) from by have e:plainR ⟨7,A,B,C,n⟩ rs k=(rs.set A (if gB=gC then 1 else 0),k+1,true):=(by rw [← hgB,← hgC]; rfl); rw [e,if_neg hc])
   refine calls_all fun K hK=>?_
   go_enter Tryz.func58,Tryz.ntmps58
   go_upto_region 17 with (fail)
   obtain ⟨Wd,hWd⟩:∃ W,W1.drew=W:=⟨_,rfl⟩
   have ud:Upd [] W1 Wd:=by rw [← hWd]; exact (Upd.refl [] _).drew
   have hI:Blk Wd w.heap.size _ 50:=HIB.out.upd ud (by simp)
   have hR:Blk Wd (w.heap.size+1) _ 52:=HRB.out.upd ud (by simp)
   have hO:Blk Wd (w.heap.size+2) _ 52:=HOB.out.upd ud (by simp)
   refine wp_region_ordT (fun w'=>w'.cell? ⟨w.heap.size,1,none⟩=some (.int .i64 (A:Int))∧w'.cell? ⟨w.heap.size,2,none⟩=some (.int .i64 (B:Int))∧w'.cell? ⟨w.heap.size,3,none⟩=some (.int .i64 (C:Int))∧w'.cell? ⟨w.heap.size+1,B,none⟩=some (.int .u64 gB)∧w'.cell? ⟨w.heap.size+1,C,none⟩=some (.int .u64 gC)) [0,1,2,3,4,5,6,7,8,9,10,11,12,13] [13] (by kernel_rfl) (by kernel_rfl) ?_
   rw [hWd]
   clear hWd
   have hS:Wd.cell? ⟨w.heap.size,1,none⟩=some (.int .i64 (A:Int))∧Wd.cell? ⟨w.heap.size,2,none⟩=some (.int .i64 (B:Int))∧Wd.cell? ⟨w.heap.size,3,none⟩=some (.int .i64 (C:Int))∧Wd.cell? ⟨w.heap.size+1,B,none⟩=some (.int .u64 gB)∧Wd.cell? ⟨w.heap.size+1,C,none⟩=some (.int .u64 gC):=⟨hI.cell 1 rfl,hI.cell 2 rfl,hI.cell 3 rfl,ud.cell (by simp) dB,ud.cell (by simp) dC⟩
   have fAd:=hR.free A
   have dAd:=ud.cell (by simp) dA
   repeat
    first
     | (refine wpT_skip rfl (by decide) (by assumption) (by rfl) ?_)
     | ((refine wpT_take (v:=?_) rfl (by decide) (by assumption) rfl (by rfl) ?_ ?_); rotate_left 1; (· ((intro w hSw; (try dsimp only at hSw); go_simp); try with_reducible rfl)))
    try simp only [Act.put,List.setIfInBounds_toArray,List.set_cons_zero,List.set_cons_succ]
   refine wpT_eff rfl (by kernel_rfl) (by rfl) (fun K2 hK2=>?_)
   go_simp
   refine (xword_any _ _).mono ?_
   rintro e w' ⟨rfl,rfl⟩
   refine hK2.out _ _ hS ?_
   clear hK2 K2
   repeat
    first
     | (refine wpT_skip rfl (by decide) (by assumption) (by rfl) ?_)
     | ((refine wpT_take (v:=?_) rfl (by decide) (by assumption) rfl (by rfl) ?_ ?_); rotate_left 1; (· ((intro w hSw; (try dsimp only at hSw); go_simp); try with_reducible rfl)))
    try simp only [Act.put,List.setIfInBounds_toArray,List.set_cons_zero,List.set_cons_succ]
   refine wpT_last rfl (by decide) (by kernel_rfl) (by rfl) (fun K2 hK2=>?_)
   go_simp
   refine hK2.out _ _ ?_
   refine wpT_end (NoPanic.normal ?_)
   clear hK2 K2
   have hR2:=hR.set A (.int .u64 (0))
   have us:Upd [w.heap.size+1] Wd (Wd.setCell ⟨w.heap.size+1,A,none⟩ (.int .u64 (0))):=(Upd.refl _ _).setCell (.inl (by simp)) _
   have hO2:=hO.upd us (by simp)
   have hU2:Upd [] w (Wd.setCell ⟨w.heap.size+1,A,none⟩ (.int .u64 (0))):=(HU1.out.trans ud).setCell (.inr (by simp)) _
   rw [← List.map_set] at hR2
   obtain ⟨W3,hW3⟩:∃ W,Wd.setCell ⟨w.heap.size+1,A,none⟩ (.int .u64 (0))=W:=⟨_,rfl⟩
   rw [hW3] at hR2 hO2 hU2 ⊢
   have hR3:=hR2
   have hO3:=hO2
   have hU3:=hU2
   clear hW3 us ud hI hR hO
   obtain ⟨rz,hrz⟩:∃ l,rs.set A 0=l:=⟨_,rfl⟩
   have hp:=HP.out
   rw [hrz] at hR3 hp
   have HP2:=Lib.hid hp
   have hzl:rz.length=8:=by rw [← hrz]; simp [hr]
   clear hp HP hrz
   have HR3:=Lib.hid hR3
   have HO3:=Lib.hid hO3
   have HU3:=Lib.hid hU3
   have hl3:(rz.map (Value.int .u64)).length=8:=by simp [hzl]
   have h13:(rz.map (Value.int .u64)).toArray.all (·.oneCell')=true:=all_oneCell_toArray fun v hv=>by obtain ⟨x,_,rfl⟩:=List.mem_map.1 hv; rfl
   have HRG:=Lib.hid HR3.out.range
   have HTH:=Lib.hid (HO3.out.there 0 8 (by simp))
   clear hR3 hO3 hU3 hR2 hO2 i0 i1 i2 i3 i4 dA dB dC fA
   go_wp2_with (first
    | ((with_reducible refine wpList_load_mid (op:=⟨some 119,.load 52 (.tmp 4),_,_,_,_⟩) rfl 52 _ rfl (w.heap.size+1) 0 ?_ ((rz).map (Value.int .u64)) _ HRG.out Tryz.underlying52 (by rfl) (by rw [hl3]; kernel_rfl) ?_); (· rfl))
    | ((with_reducible refine wpList_load_mid (op:=⟨some 13,.load 52 (.tmp 4),_,_,_,_⟩) rfl 52 _ rfl (w.heap.size+1) 0 ?_ ((rz).map (Value.int .u64)) _ HRG.out Tryz.underlying52 (by rfl) (by rw [hl3]; kernel_rfl) ?_); (· rfl))
    | ((with_reducible refine wpList_store_mid (op:=⟨none,.store 52 (.tmp 6) (.tmp 119),_,_,_,_⟩) rfl 52 _ _ rfl (w.heap.size+2) 0 ((rz).map (Value.int .u64)).toArray ?_ ?_ (by simpa [hl3] using HTH.out) (by simp only [List.size_toArray,hl3]; kernel_rfl) h13 ?_); (· rfl); (· rfl))
    | ((with_reducible refine wpList_store_mid (op:=⟨none,.store 52 (.tmp 6) (.tmp 13),_,_,_,_⟩) rfl 52 _ _ rfl (w.heap.size+2) 0 ((rz).map (Value.int .u64)).toArray ?_ ?_ (by simpa [hl3] using HTH.out) (by simp only [List.size_toArray,hl3]; kernel_rfl) h13 ?_); (· rfl); (· rfl)))
   exact bodyPost_ret (xplain_results rfl _ _ (w.heap.size+2) (rz.map (Value.int .u64)) (.int .i64 (k+1)) (.bool true) rfl rfl rfl (World.rangeAt_setCells_same W3 _ 0 _ (by rw [hl3]; exact HTH.out)) hl3) rfl (hK _ _ ⟨by rw [← HX.out,HP2.out]; rfl,Upd.rows _ 0 HU3.out (.inr (by omega))⟩)
 by_cases h8:op=8
 ·subst h8
  clear h1 h2 h3 h4 h5 h6 h7
  have HP:=Lib.hid (show plainR ⟨8,A,B,C,n⟩ rs k=(rs,targetI n,true) from rfl)
  obtain ⟨T,hT⟩:∃ T,targetI n=T:=⟨_,rfl⟩
  have HT:=Lib.hid (xtarget_any n W1 hn)
  rw [hT] at HT HP
  clear hT
  refine calls_all fun K hK=>?_
  go_enter Tryz.func58,Tryz.ntmps58
  go_wp2_with fail
  clear hW1
  refine HT.out.mono ?_
  rintro e w' ⟨rfl,rfl⟩
  obtain ⟨W3,hW3⟩:∃ W,W1=W:=⟨_,rfl⟩
  subst hW3
  have HR3:=HRB
  have HO3:=HOB
  have HU3:=HU1
  have hl3:((rs).map (Value.int .u64)).length=8:=by simp [hr]
  have h13:((rs).map (Value.int .u64)).toArray.all (·.oneCell')=true:=all_oneCell_toArray fun v hv=>by obtain ⟨x,_,rfl⟩:=List.mem_map.1 hv; rfl
  have HRG:=Lib.hid HR3.out.range
  have HTH:=Lib.hid (HO3.out.there 0 8 (by simp))
  clear i0 i1 i2 i3 i4 dA dB dC fA
  go_wp2_with (first
   | ((with_reducible refine wpList_load_mid (op:=⟨some 119,.load 52 (.tmp 4),_,_,_,_⟩) rfl 52 _ rfl (w.heap.size+1) 0 ?_ ((rs).map (Value.int .u64)) _ HRG.out Tryz.underlying52 (by rfl) (by rw [hl3]; kernel_rfl) ?_); (· rfl))
   | ((with_reducible refine wpList_load_mid (op:=⟨some 13,.load 52 (.tmp 4),_,_,_,_⟩) rfl 52 _ rfl (w.heap.size+1) 0 ?_ ((rs).map (Value.int .u64)) _ HRG.out Tryz.underlying52 (by rfl) (by rw [hl3]; kernel_rfl) ?_); (· rfl))
   | ((with_reducible refine wpList_store_mid (op:=⟨none,.store 52 (.tmp 6) (.tmp 119),_,_,_,_⟩) rfl 52 _ _ rfl (w.heap.size+2) 0 ((rs).map (Value.int .u64)).toArray ?_ ?_ (by simpa [hl3] using HTH.out) (by simp only [List.size_toArray,hl3]; kernel_rfl) h13 ?_); (· rfl); (· rfl))
   | ((with_reducible refine wpList_store_mid (op:=⟨none,.store 52 (.tmp 6) (.tmp 13),_,_,_,_⟩) rfl 52 _ _ rfl (w.heap.size+2) 0 ((rs).map (Value.int .u64)).toArray ?_ ?_ (by simpa [hl3] using HTH.out) (by simp only [List.size_toArray,hl3]; kernel_rfl) h13 ?_); (· rfl); (· rfl)))
  exact bodyPost_ret (xplain_results rfl _ _ (w.heap.size+2) ((rs).map (Value.int .u64)) (.int .i64 (T)) (.bool true) rfl rfl rfl (World.rangeAt_setCells_same W1 _ 0 _ (by rw [hl3]; exact HTH.out)) hl3) rfl (hK _ _ ⟨by rw [← HX.out,HP.out]; rfl,Upd.rows _ 0 HU3.out (.inr (by omega))⟩)
 by_cases h9:op=9
 ·subst h9
  clear h1 h2 h3 h4 h5 h6 h7 h8
  obtain ⟨T,hT⟩:∃ T,targetI n=T:=⟨_,rfl⟩
  have HT:=Lib.hid (xtarget_any n W1 hn)
  rw [hT] at HT
  by_cases hz:gA=0
  ·have HP:=Lib.hid (show plainR ⟨9,A,B,C,n⟩ rs k=(rs,T,true) from by
    have e:plainR ⟨9,A,B,C,n⟩ rs k=(rs,if gA=0 then targetI n else k+1,true):=by rw [← hgA]; rfl
    rw [e,if_pos hz,hT])
   clear hT
   have dz:(gA == 0)=true:=by simp [hz]
   clear hz
   refine calls_all fun K hK=>?_
   go_enter Tryz.func58,Tryz.ntmps58
   go_wp2_with fail
   clear hW1
   refine HT.out.mono ?_
   rintro e w' ⟨rfl,rfl⟩
   obtain ⟨W3,hW3⟩:∃ W,W1=W:=⟨_,rfl⟩
   subst hW3
   have HR3:=HRB
   have HO3:=HOB
   have HU3:=HU1
   have hl3:((rs).map (Value.int .u64)).length=8:=by simp [hr]
   have h13:((rs).map (Value.int .u64)).toArray.all (·.oneCell')=true:=all_oneCell_toArray fun v hv=>by obtain ⟨x,_,rfl⟩:=List.mem_map.1 hv; rfl
   have HRG:=Lib.hid HR3.out.range
   have HTH:=Lib.hid (HO3.out.there 0 8 (by simp))
   clear i0 i1 i2 i3 i4 dA dB dC fA
   go_wp2_with (first
    | ((with_reducible refine wpList_load_mid (op:=⟨some 119,.load 52 (.tmp 4),_,_,_,_⟩) rfl 52 _ rfl (w.heap.size+1) 0 ?_ ((rs).map (Value.int .u64)) _ HRG.out Tryz.underlying52 (by rfl) (by rw [hl3]; kernel_rfl) ?_); (· rfl))
    | ((with_reducible refine wpList_load_mid (op:=⟨some 13,.load 52 (.tmp 4),_,_,_,_⟩) rfl 52 _ rfl (w.heap.size+1) 0 ?_ ((rs).map (Value.int .u64)) _ HRG.out Tryz.underlying52 (by rfl) (by rw [hl3]; kernel_rfl) ?_); (· rfl))
    | ((with_reducible refine wpList_store_mid (op:=⟨none,.store 52 (.tmp 6) (.tmp 119),_,_,_,_⟩) rfl 52 _ _ rfl (w.heap.size+2) 0 ((rs).map (Value.int .u64)).toArray ?_ ?_ (by simpa [hl3] using HTH.out) (by simp only [List.size_toArray,hl3]; kernel_rfl) h13 ?_); (· rfl); (· rfl))
    | ((with_reducible refine wpList_store_mid (op:=⟨none,.store 52 (.tmp 6) (.tmp 13),_,_,_,_⟩) rfl 52 _ _ rfl (w.heap.size+2) 0 ((rs).map (Value.int .u64)).toArray ?_ ?_ (by simpa [hl3] using HTH.out) (by simp only [List.size_toArray,hl3]; kernel_rfl) h13 ?_); (· rfl); (· rfl)))
   exact bodyPost_ret (xplain_results rfl _ _ (w.heap.size+2) ((rs).map (Value.int .u64)) (.int .i64 (T)) (.bool true) rfl rfl rfl (World.rangeAt_setCells_same W1 _ 0 _ (by rw [hl3]; exact HTH.out)) hl3) rfl (hK _ _ ⟨by rw [← HX.out,HP.out]; rfl,Upd.rows _ 0 HU3.out (.inr (by omega))⟩)
  ·have HP:=Lib.hid (show plainR ⟨9,A,B,C,n⟩ rs k=(rs,k+1,true) from by
    have e:plainR ⟨9,A,B,C,n⟩ rs k=(rs,if gA=0 then targetI n else k+1,true):=by rw [← hgA]; rfl
    rw [e,if_neg hz])
   clear hT HT
   have dz:(gA == 0)=false:=by simp [hz]
   clear hz
   refine calls_all fun K hK=>?_
   go_enter Tryz.func58,Tryz.ntmps58
   go_upto_region 23 with (fail)
   clear hW1
   obtain ⟨W3,hW3⟩:∃ W,W1=W:=⟨_,rfl⟩
   subst hW3
   have HR3:=HRB
   have HO3:=HOB
   have HU3:=HU1
   have hl3:((rs).map (Value.int .u64)).length=8:=by simp [hr]
   have h13:((rs).map (Value.int .u64)).toArray.all (·.oneCell')=true:=all_oneCell_toArray fun v hv=>by obtain ⟨x,_,rfl⟩:=List.mem_map.1 hv; rfl
   have HRG:=Lib.hid HR3.out.range
   have HTH:=Lib.hid (HO3.out.there 0 8 (by simp))
   clear i0 i1 i2 i3 i4 dA dB dC fA
   go_wp2_with (first
    | ((with_reducible refine wpList_load_mid (op:=⟨some 119,.load 52 (.tmp 4),_,_,_,_⟩) rfl 52 _ rfl (w.heap.size+1) 0 ?_ ((rs).map (Value.int .u64)) _ HRG.out Tryz.underlying52 (by rfl) (by rw [hl3]; kernel_rfl) ?_); (· rfl))
    | ((with_reducible refine wpList_load_mid (op:=⟨some 13,.load 52 (.tmp 4),_,_,_,_⟩) rfl 52 _ rfl (w.heap.size+1) 0 ?_ ((rs).map (Value.int .u64)) _ HRG.out Tryz.underlying52 (by rfl) (by rw [hl3]; kernel_rfl) ?_); (· rfl))
    | ((with_reducible refine wpList_store_mid (op:=⟨none,.store 52 (.tmp 6) (.tmp 119),_,_,_,_⟩) rfl 52 _ _ rfl (w.heap.size+2) 0 ((rs).map (Value.int .u64)).toArray ?_ ?_ (by simpa [hl3] using HTH.out) (by simp only [List.size_toArray,hl3]; kernel_rfl) h13 ?_); (· rfl); (· rfl))
    | ((with_reducible refine wpList_store_mid (op:=⟨none,.store 52 (.tmp 6) (.tmp 13),_,_,_,_⟩) rfl 52 _ _ rfl (w.heap.size+2) 0 ((rs).map (Value.int .u64)).toArray ?_ ?_ (by simpa [hl3] using HTH.out) (by simp only [List.size_toArray,hl3]; kernel_rfl) h13 ?_); (· rfl); (· rfl)))
   exact bodyPost_ret (xplain_results rfl _ _ (w.heap.size+2) ((rs).map (Value.int .u64)) (.int .i64 (k+1)) (.bool true) rfl rfl rfl (World.rangeAt_setCells_same W1 _ 0 _ (by rw [hl3]; exact HTH.out)) hl3) rfl (hK _ _ ⟨by rw [← HX.out,HP.out]; rfl,Upd.rows _ 0 HU3.out (.inr (by omega))⟩)
 have HP:=Lib.hid (show plainR ⟨op,A,B,C,n⟩ rs k=(rs,k,false) from by
  unfold plainR
  simp only
  rw [if_neg h1,if_neg h2,if_neg h3,if_neg h4,if_neg h5,if_neg h6,if_neg h7,if_neg h8,if_neg h9])
 have b1:(op == 1)=false:=by simp [h1]
 have b2:(op == 2)=false:=by simp [h2]
 have b3:(op == 3)=false:=by simp [h3]
 have b4:(op == 4)=false:=by simp [h4]
 have b5:(op == 5)=false:=by simp [h5]
 have b6:(op == 6)=false:=by simp [h6]
 have b7:(op == 7)=false:=by simp [h7]
 have b8:(op == 8)=false:=by simp [h8]
 have b9:(op == 9)=false:=by simp [h9]
 clear h1 h2 h3 h4 h5 h6 h7 h8 h9
 refine calls_all fun K hK=>?_
 go_enter Tryz.func58,Tryz.ntmps58
 go_upto_region 3 with (fail)
 clear hW1
 obtain ⟨W3,hW3⟩:∃ W,W1=W:=⟨_,rfl⟩
 subst hW3
 have HR3:=HRB
 have HO3:=HOB
 have HU3:=HU1
 have hl3:((rs).map (Value.int .u64)).length=8:=by simp [hr]
 have h13:((rs).map (Value.int .u64)).toArray.all (·.oneCell')=true:=all_oneCell_toArray fun v hv=>by obtain ⟨x,_,rfl⟩:=List.mem_map.1 hv; rfl
 have HRG:=Lib.hid HR3.out.range
 have HTH:=Lib.hid (HO3.out.there 0 8 (by simp))
 clear i0 i1 i2 i3 i4 dA dB dC fA
 go_wp2_with (first
  | ((with_reducible refine wpList_load_mid (op:=⟨some 119,.load 52 (.tmp 4),_,_,_,_⟩) rfl 52 _ rfl (w.heap.size+1) 0 ?_ ((rs).map (Value.int .u64)) _ HRG.out Tryz.underlying52 (by rfl) (by rw [hl3]; kernel_rfl) ?_); (· rfl))
  | ((with_reducible refine wpList_load_mid (op:=⟨some 13,.load 52 (.tmp 4),_,_,_,_⟩) rfl 52 _ rfl (w.heap.size+1) 0 ?_ ((rs).map (Value.int .u64)) _ HRG.out Tryz.underlying52 (by rfl) (by rw [hl3]; kernel_rfl) ?_); (· rfl))
  | ((with_reducible refine wpList_store_mid (op:=⟨none,.store 52 (.tmp 6) (.tmp 119),_,_,_,_⟩) rfl 52 _ _ rfl (w.heap.size+2) 0 ((rs).map (Value.int .u64)).toArray ?_ ?_ (by simpa [hl3] using HTH.out) (by simp only [List.size_toArray,hl3]; kernel_rfl) h13 ?_); (· rfl); (· rfl))
  | ((with_reducible refine wpList_store_mid (op:=⟨none,.store 52 (.tmp 6) (.tmp 13),_,_,_,_⟩) rfl 52 _ _ rfl (w.heap.size+2) 0 ((rs).map (Value.int .u64)).toArray ?_ ?_ (by simpa [hl3] using HTH.out) (by simp only [List.size_toArray,hl3]; kernel_rfl) h13 ?_); (· rfl); (· rfl)))
 exact bodyPost_ret (xplain_results rfl _ _ (w.heap.size+2) ((rs).map (Value.int .u64)) (.int .i64 (k)) (.bool false) rfl rfl rfl (World.rangeAt_setCells_same W1 _ 0 _ (by rw [hl3]; exact HTH.out)) hl3) rfl (hK _ _ ⟨by rw [← HX.out,HP.out]; rfl,Upd.rows _ 0 HU3.out (.inr (by omega))⟩)
end Go.Proofs.YtehopaabfoopeaaGreat
