/- The thread's own step: operations, part 4. No conditions. -/
import Derived.Test.YtehopaabfoopeaaGreatTz12
import Derived.Deep.CutRange
import Derived.Deep.CutBlock
set_option linter.unusedSimpArgs false
set_option linter.unusedVariables false
set_option maxRecDepth 100000
namespace Go.Proofs.YtehopaabfoopeaaGreat
open Go.RowKit
open Go.Maps
section
variable {w w':World} {X:SX} {sh:Sh} {acc st:Int} {p:List Ins} {pb cap tb:Nat} {t:TS} {o:AO}
set_option maxHeartbeats 16000000 in
theorem step_go4 (h:TV w X sh acc st p pb cap tb t o) (hidle:∀ s,t.att=some s → s.phase=1) (hfl:t.ins=true → 0≤t.fuel∧t.fuel≤4096) (hfp:formedP p=true) (hnum:∀ i ∈ p,0≤i.n∧i.n<18446744073709551616) (htw:TWide t) (hmay:∀ s,t.att=some s → May s) (hgo:¬ badIns t (opAt p t.at_)) (hfull:¬ (t.ins=true∧t.fuel=4096)) (hsel:opAt p t.at_=8∨opAt p t.at_=9):Calls Tryz.prog 51 #[.pointer (some ⟨tb,0,none⟩)] w (TOut w X acc st p pb cap tb o (stepT p t sh)):=by
 have HGO:=Lib.hid hgo
 have HFL:=Lib.hid hfull
 have HSEL:=Lib.hid hsel
 clear hgo hfull hsel
 obtain ⟨W1,hW⟩:∃ W,w.alloc (.cells #[.int .i64 0,.int .i64 0,.int .u64 0,.int .u64 0,.bool false,.int .i64 0] 86)=W:=⟨_,rfl⟩
 have U1:Upd [] w W1:=by rw [← hW]; exact (Upd.refl [] _).alloc _
 have EB:Blk W1 w.heap.size teNone.cells 86:=by rw [← hW]; exact Blk.new w teNone.cells 86
 have hlt:=h.head.lt
 have HLT:=Lib.hid (show ∀ g,w.heap.size≤g → ¬ inTh X pb tb o g from fun g hg e=>by have:=h.lt e; omega)
 have hne2:w.heap.size≠tb:=by omega
 replace h:=h.upd0 U1
 simp only [teNone,TE.cells] at EB
 have d11:=h.head.cell 11 (head_cell h.r8 h.s8).1
 have d34:=h.head.cell 34 (head_cell h.r8 h.s8).2.2.2.2.2.2
 have HA:=Lib.hid h.att
 have H:=Lib.hid h
 clear h
 refine calls_all fun K hK=>?_
 go_enter Tryz.func51,Tryz.ntmps51
 go_upto_region 1 with (fail)
 clear hW
 go_cut [21] from 9 to 21 (fun v wx=>v=.bool false∧wx=W1)
 case first =>
  rcases HA.out with ⟨ha,ho⟩ | ⟨s,a,F,rv,wv,mv,ha,ho,hL⟩
  ·rw [show t.ins=false by unfold TS.ins; rw [ha]; rfl] at d11
   go_wp2_with fail
   go_meet
   exact ⟨rfl,rfl⟩
  ·rw [show t.ins=true by unfold TS.ins; rw [ha]; rfl] at d11
   rw [ho] at d34
   simp only [AO.ptr,Option.map_some] at d34
   have hph2:(s.phase != 1)=false:=by simpa using hidle s ha
   have HL:=Lib.hid hL
   clear hL ho ha
   go_wp2_with fail
   refine (phase_code HL.out).mono ?_
   rintro e w' ⟨rfl,rfl⟩
   go_wp2_with fail
   go_meet
   exact ⟨rfl,rfl⟩
 case rest =>
  obtain ⟨rfl,rfl⟩:=hcut
  obtain ⟨W2,rfl⟩:∃ W,W=wc:=⟨wc,rfl⟩
  go_upto_region 3 with (fail)
  have d31:W2.cell? ⟨tb,31,none⟩=some (progV pb cap p):=H.out.head.cell 31 (head_cell H.out.r8 H.out.s8).2.2.2.1
  have d2:W2.cell? ⟨tb,2,none⟩=some (.int .i64 t.at_):=H.out.head.cell 2 rfl
  obtain ⟨op,hop⟩:∃ k,opAt p t.at_=k:=⟨_,rfl⟩
  obtain ⟨f,hff⟩:∃ f,formI op=f:=⟨_,rfl⟩
  obtain ⟨ok,hok⟩:∃ ok,isOp op=ok:=⟨_,rfl⟩
  have HOP:=Lib.hid hop
  have HFF:=Lib.hid hff
  have HOK:=Lib.hid hok
  clear hop hff hok
  go_cut [4,5] from 33 to 46 (fun v4 v5 wx=>AtForm W2 X sh acc st p pb cap tb w.heap.size t o f ok v4 v5 wx)
  case first =>
   have HI:Hid (∀ W,Calls Tryz.prog 76 #[.int .i64 op] W fun e w'=>e=.returned (.tuple #[f.val,.bool ok])∧Upd [] W w'):=Lib.hid fun W=>by rw [← HFF.out,← HOK.out]; exact info op W
   have HC:Hid (∀ W,Upd [] W2 W → Calls Tryz.prog 65 #[progV pb cap p,.int .i64 t.at_] W fun e w'=>e=.returned (.int .i64 op)∧W=w'):=Lib.hid fun W u=>by rw [← HOP.out]; exact op_code (H.out.prog.upd u (by simp)) t.at_
   have HB:Hid (∀ W,Upd [] W2 W → W.cell? ⟨tb,31,none⟩=some (progV pb cap p)∧W.cell? ⟨tb,2,none⟩=some (.int .i64 t.at_)):=Lib.hid fun W u=>⟨(H.out.head.upd u (by simp)).cell 31 (head_cell H.out.r8 H.out.s8).2.2.2.1,(H.out.head.upd u (by simp)).cell 2 rfl⟩
   obtain ⟨R,nm,tg,ou,is⟩:=f
   simp only [Form.val] at HI
   have ud:=(Upd.refl [] W2).drew
   refine wp_region_br (fun w'=>w'.cell? ⟨tb,31,none⟩=some (progV pb cap p)∧w'.cell? ⟨tb,2,none⟩=some (.int .i64 t.at_)) [0,1,2,3,4,5,6,7,8,9,10,11,12,13,14,15,16] (by kernel_rfl) (by kernel_rfl) (HB.out _ ud) ?_
   clear d31 d2 H HA HLT HFF HOK HOP
   generalize W2.drew=Wd at ud ⊢
   repeat
    first
     | (refine wpB_skip rfl (by kernel_rfl) (by rfl) ?_)
     | ((refine wpB_take (v:=?_) rfl rfl (by kernel_rfl) (by rfl) ?_ ?_); rotate_left 1; (· ((intro w hSw; (try dsimp only at hSw); go_simp); try with_reducible rfl)))
    try simp only [Act.put,List.setIfInBounds_toArray,List.set_cons_zero,List.set_cons_succ]
   refine wpB_two (i:=9) (j:=14) [9,10,11,12,13,15,16] (by kernel_rfl) rfl rfl (by rfl) (by rfl) (fun K2 hK2=>?_) (fun K2 hK2=>?_)
   ·go_simp
    refine (HC.out _ ud).mono ?_
    rintro e w' ⟨rfl,rfl⟩
    refine hK2.out _ _ (HB.out _ ud) ?_
    clear hK2 K2
    repeat
     first
      | (refine wpB_skip rfl (by kernel_rfl) (by rfl) ?_)
      | ((refine wpB_take (v:=?_) rfl rfl (by kernel_rfl) (by rfl) ?_ ?_); rotate_left 1; (· ((intro w hSw; (try dsimp only at hSw); go_simp); try with_reducible rfl)))
     try simp only [Act.put,List.setIfInBounds_toArray,List.set_cons_zero,List.set_cons_succ]
    refine wpB_two (i:=10) (j:=14) [10,11,12,13,15,16] (by kernel_rfl) rfl rfl (by rfl) (by rfl) (fun K2 hK2=>?_) (fun K2 hK2=>?_)
    ·go_simp
     refine (HI.out _).mono ?_
     rintro e Wi ⟨rfl,u2⟩
     replace ud:=ud.trans u2
     refine hK2.out _ _ (HB.out _ ud) ?_
     clear hK2 K2 u2
     repeat
      first
       | (refine wpB_skip rfl (by kernel_rfl) (by rfl) ?_)
       | ((refine wpB_take (v:=?_) rfl rfl (by kernel_rfl) (by rfl) ?_ ?_); rotate_left 1; (· ((intro w hSw; (try dsimp only at hSw); go_simp); try with_reducible rfl)))
      try simp only [Act.put,List.setIfInBounds_toArray,List.set_cons_zero,List.set_cons_succ]
     have hfl:W2.heap.size≤Wi.heap.size:=ud.size
     refine wpB_eff rfl (by kernel_rfl) (by rfl) (fun K2 hK2=>?_)
     go_simp
     obtain ⟨Wf,hWf⟩:∃ Wf,(Wi).alloc (.cells #[.int .i64 0,.bool false,.bool false,.bool false,.bool false] 116)=Wf:=⟨_,rfl⟩
     have uf:Upd [] (Wi) Wf:=by rw [← hWf]; exact (Upd.refl [] _).alloc _
     have FB:Blk Wf (Wi).heap.size [.int .i64 0,.bool false,.bool false,.bool false,.bool false] 116:=by rw [← hWf]; exact Blk.new _ _ _
     replace ud:=ud.trans uf
     rw [hWf]
     clear hWf uf
     generalize (Wi).heap.size=fb at FB hfl ⊢
     refine hK2.out _ _ (HB.out _ ud) ?_
     clear hK2 K2
     repeat
      first
       | (refine wpB_skip rfl (by kernel_rfl) (by rfl) ?_)
       | ((refine wpB_take (v:=?_) rfl rfl (by kernel_rfl) (by rfl) ?_ ?_); rotate_left 1; (· ((intro w hSw; (try dsimp only at hSw); go_simp); try with_reducible rfl)))
      try simp only [Act.put,List.setIfInBounds_toArray,List.set_cons_zero,List.set_cons_succ]
     have q0:=FB.cell 0 rfl
     have q1:=FB.cell 1 rfl
     have q2:=FB.cell 2 rfl
     have q3:=FB.cell 3 rfl
     have q4:=FB.cell 4 rfl
     have g0:=FB.free 0
     have g1:=FB.free 1
     have g2:=FB.free 2
     have g3:=FB.free 3
     have g4:=FB.free 4
     refine wpB_eff rfl (by kernel_rfl) (by rfl) (fun K2 hK2=>?_)
     go_simp
     have FB2:=((((FB.set 0 (.int .i64 (R:Int))).set 1 (.bool nm)).set 2 (.bool tg)).set 3 (.bool ou)).set 4 (.bool is)
     replace ud:Upd [] W2 _:=((((ud.setCell (p:=⟨fb,0,none⟩) (.inr hfl) (.int .i64 (R:Int))).setCell (p:=⟨fb,1,none⟩) (.inr hfl) (.bool nm)).setCell (p:=⟨fb,2,none⟩) (.inr hfl) (.bool tg)).setCell (p:=⟨fb,3,none⟩) (.inr hfl) (.bool ou)).setCell (p:=⟨fb,4,none⟩) (.inr hfl) (.bool is)
     refine hK2.out _ _ (HB.out _ ud) ?_
     clear hK2 K2 q0 q1 q2 q3 q4 g0 g1 g2 g3 g4
     repeat
      first
       | (refine wpB_skip rfl (by kernel_rfl) (by rfl) ?_)
       | ((refine wpB_take (v:=?_) rfl rfl (by kernel_rfl) (by rfl) ?_ ?_); rotate_left 1; (· ((intro w hSw; (try dsimp only at hSw); go_simp); try with_reducible rfl)))
      try simp only [Act.put,List.setIfInBounds_toArray,List.set_cons_zero,List.set_cons_succ]
     refine wpB_end (by kernel_rfl) (NoPanic.normal ?_)
     go_wp2_with fail
     go_meet
     exact ⟨fb,rfl,rfl,FB2,ud⟩
    ·go_simp
     have hfl:W2.heap.size≤Wd.heap.size:=ud.size
     obtain ⟨Wf,hWf⟩:∃ Wf,(Wd).alloc (.cells #[.int .i64 0,.bool false,.bool false,.bool false,.bool false] 116)=Wf:=⟨_,rfl⟩
     have uf:Upd [] (Wd) Wf:=by rw [← hWf]; exact (Upd.refl [] _).alloc _
     have FB:Blk Wf (Wd).heap.size [.int .i64 0,.bool false,.bool false,.bool false,.bool false] 116:=by rw [← hWf]; exact Blk.new _ _ _
     replace ud:=ud.trans uf
     rw [hWf]
     clear hWf uf
     generalize (Wd).heap.size=fb at FB hfl ⊢
     refine hK2.out _ _ (HB.out _ ud) ?_
     clear hK2 K2
     refine wpB_eff rfl (by kernel_rfl) (by rfl) (fun K2 hK2=>?_)
     go_simp
     refine (HI.out _).mono ?_
     rintro e Wi ⟨rfl,u2⟩
     replace ud:=ud.trans u2
     replace FB:=FB.upd u2 (by simp)
     refine hK2.out _ _ (HB.out _ ud) ?_
     clear hK2 K2 u2
     repeat
      first
       | (refine wpB_skip rfl (by kernel_rfl) (by rfl) ?_)
       | ((refine wpB_take (v:=?_) rfl rfl (by kernel_rfl) (by rfl) ?_ ?_); rotate_left 1; (· ((intro w hSw; (try dsimp only at hSw); go_simp); try with_reducible rfl)))
      try simp only [Act.put,List.setIfInBounds_toArray,List.set_cons_zero,List.set_cons_succ]
     have q0:=FB.cell 0 rfl
     have q1:=FB.cell 1 rfl
     have q2:=FB.cell 2 rfl
     have q3:=FB.cell 3 rfl
     have q4:=FB.cell 4 rfl
     have g0:=FB.free 0
     have g1:=FB.free 1
     have g2:=FB.free 2
     have g3:=FB.free 3
     have g4:=FB.free 4
     refine wpB_eff rfl (by kernel_rfl) (by rfl) (fun K2 hK2=>?_)
     go_simp
     have FB2:=((((FB.set 0 (.int .i64 (R:Int))).set 1 (.bool nm)).set 2 (.bool tg)).set 3 (.bool ou)).set 4 (.bool is)
     replace ud:Upd [] W2 _:=((((ud.setCell (p:=⟨fb,0,none⟩) (.inr hfl) (.int .i64 (R:Int))).setCell (p:=⟨fb,1,none⟩) (.inr hfl) (.bool nm)).setCell (p:=⟨fb,2,none⟩) (.inr hfl) (.bool tg)).setCell (p:=⟨fb,3,none⟩) (.inr hfl) (.bool ou)).setCell (p:=⟨fb,4,none⟩) (.inr hfl) (.bool is)
     refine hK2.out _ _ (HB.out _ ud) ?_
     clear hK2 K2 q0 q1 q2 q3 q4 g0 g1 g2 g3 g4
     repeat
      first
       | (refine wpB_skip rfl (by kernel_rfl) (by rfl) ?_)
       | ((refine wpB_take (v:=?_) rfl rfl (by kernel_rfl) (by rfl) ?_ ?_); rotate_left 1; (· ((intro w hSw; (try dsimp only at hSw); go_simp); try with_reducible rfl)))
      try simp only [Act.put,List.setIfInBounds_toArray,List.set_cons_zero,List.set_cons_succ]
     refine wpB_end (by kernel_rfl) (NoPanic.normal ?_)
     go_wp2_with fail
     go_meet
     exact ⟨fb,rfl,rfl,FB2,ud⟩
   ·go_simp
    have hfl:W2.heap.size≤Wd.heap.size:=ud.size
    obtain ⟨Wf,hWf⟩:∃ Wf,(Wd).alloc (.cells #[.int .i64 0,.bool false,.bool false,.bool false,.bool false] 116)=Wf:=⟨_,rfl⟩
    have uf:Upd [] (Wd) Wf:=by rw [← hWf]; exact (Upd.refl [] _).alloc _
    have FB:Blk Wf (Wd).heap.size [.int .i64 0,.bool false,.bool false,.bool false,.bool false] 116:=by rw [← hWf]; exact Blk.new _ _ _
    replace ud:=ud.trans uf
    rw [hWf]
    clear hWf uf
    generalize (Wd).heap.size=fb at FB hfl ⊢
    refine hK2.out _ _ (HB.out _ ud) ?_
    clear hK2 K2
    refine wpB_eff rfl (by kernel_rfl) (by rfl) (fun K2 hK2=>?_)
    go_simp
    refine (HC.out _ ud).mono ?_
    rintro e w' ⟨rfl,rfl⟩
    refine hK2.out _ _ (HB.out _ ud) ?_
    clear hK2 K2
    repeat
     first
      | (refine wpB_skip rfl (by kernel_rfl) (by rfl) ?_)
      | ((refine wpB_take (v:=?_) rfl rfl (by kernel_rfl) (by rfl) ?_ ?_); rotate_left 1; (· ((intro w hSw; (try dsimp only at hSw); go_simp); try with_reducible rfl)))
     try simp only [Act.put,List.setIfInBounds_toArray,List.set_cons_zero,List.set_cons_succ]
    refine wpB_eff rfl (by kernel_rfl) (by rfl) (fun K2 hK2=>?_)
    go_simp
    refine (HI.out _).mono ?_
    rintro e Wi ⟨rfl,u2⟩
    replace ud:=ud.trans u2
    replace FB:=FB.upd u2 (by simp)
    refine hK2.out _ _ (HB.out _ ud) ?_
    clear hK2 K2 u2
    repeat
     first
      | (refine wpB_skip rfl (by kernel_rfl) (by rfl) ?_)
      | ((refine wpB_take (v:=?_) rfl rfl (by kernel_rfl) (by rfl) ?_ ?_); rotate_left 1; (· ((intro w hSw; (try dsimp only at hSw); go_simp); try with_reducible rfl)))
     try simp only [Act.put,List.setIfInBounds_toArray,List.set_cons_zero,List.set_cons_succ]
    have q0:=FB.cell 0 rfl
    have q1:=FB.cell 1 rfl
    have q2:=FB.cell 2 rfl
    have q3:=FB.cell 3 rfl
    have q4:=FB.cell 4 rfl
    have g0:=FB.free 0
    have g1:=FB.free 1
    have g2:=FB.free 2
    have g3:=FB.free 3
    have g4:=FB.free 4
    refine wpB_eff rfl (by kernel_rfl) (by rfl) (fun K2 hK2=>?_)
    go_simp
    have FB2:=((((FB.set 0 (.int .i64 (R:Int))).set 1 (.bool nm)).set 2 (.bool tg)).set 3 (.bool ou)).set 4 (.bool is)
    replace ud:Upd [] W2 _:=((((ud.setCell (p:=⟨fb,0,none⟩) (.inr hfl) (.int .i64 (R:Int))).setCell (p:=⟨fb,1,none⟩) (.inr hfl) (.bool nm)).setCell (p:=⟨fb,2,none⟩) (.inr hfl) (.bool tg)).setCell (p:=⟨fb,3,none⟩) (.inr hfl) (.bool ou)).setCell (p:=⟨fb,4,none⟩) (.inr hfl) (.bool is)
    refine hK2.out _ _ (HB.out _ ud) ?_
    clear hK2 K2 q0 q1 q2 q3 q4 g0 g1 g2 g3 g4
    repeat
     first
      | (refine wpB_skip rfl (by kernel_rfl) (by rfl) ?_)
      | ((refine wpB_take (v:=?_) rfl rfl (by kernel_rfl) (by rfl) ?_ ?_); rotate_left 1; (· ((intro w hSw; (try dsimp only at hSw); go_simp); try with_reducible rfl)))
     try simp only [Act.put,List.setIfInBounds_toArray,List.set_cons_zero,List.set_cons_succ]
    refine wpB_end (by kernel_rfl) (NoPanic.normal ?_)
    go_wp2_with fail
    go_meet
    exact ⟨fb,rfl,rfl,FB2,ud⟩
  case rest =>
   obtain ⟨fb,rfl,rfl,FB,uc⟩:=hcut
   obtain ⟨W3,rfl⟩:∃ W,W=wc:=⟨wc,rfl⟩
   replace H:=Lib.hid (H.out.upd0 uc)
   replace EB:Blk W3 _ teNone.cells _:=EB.upd uc (by simp)
   have U:Upd (tb :: (o.foot ++ X.foot)) w W3:=(U1.mono (by simp)).trans (uc.mono (by simp))
   replace d11:=H.out.head.cell 11 (head_cell H.out.r8 H.out.s8).1
   have d21:=H.out.head.cell 21 (head_cell H.out.r8 H.out.s8).2.2.1
   have g21:=H.out.head.free 21
   obtain ⟨ins,hins⟩:∃ b,t.ins=b:=⟨_,rfl⟩
   rw [hins] at d11
   have HINS:=Lib.hid hins
   clear d34 d31 d2 HA uc U1 hins
   obtain ⟨R,nm,tg,ou,is⟩:=f
   have f3:W3.cell? ⟨fb,3,none⟩=some (.bool ou):=FB.cell 3 rfl
   have f4:W3.cell? ⟨fb,4,none⟩=some (.bool is):=FB.cell 4 rfl
   clear FB
   have HBAD:Hid (badIns t op ↔ ok=false∨(ins=true∧is=false)∨(ins=false∧ou=false)):=Lib.hid (by
    unfold badIns
    rw [HOK.out,HFF.out,HINS.out])
   go_upto_block 0 with (fail)
   go_cut [5] from 47 to 111 (fun _ wx=>AtGo w X sh acc st p pb cap tb t o wx)
   case first =>
    have HID:=Lib.hid hidle
    clear hidle
    have hb:¬ badIns t op:=by rw [← HOP.out]; exact HGO.out
    cases ok with
    | false=>exact absurd (HBAD.out.2 (.inl rfl)) hb
    | true =>
     cases ins with
     | true =>
      cases is with
      | false=>exact absurd (HBAD.out.2 (.inr (.inl ⟨rfl,rfl⟩))) hb
      | true =>
       have hfu:¬ t.fuel=4096:=fun h=>HFL.out ⟨HINS.out,h⟩
       have hfb:(t.fuel == 4096)=false:=by simpa using hfu
       have hw1:wrap64 (t.fuel+1)=t.fuel+1:=by have:=hfl HINS.out; unfold wrap64; omega
       have HB:=Lib.hid hb
       have HFU:=Lib.hid hfu
       clear hb hfu
       go_wp2_with fail
       go_meet
       have hft:fuelT t = { t with fuel:=t.fuel+1 }:=by unfold fuelT; rw [if_pos HINS.out]
       have h21:(headTV t (progV pb cap p) X o.ptr).set 21 (.int .i64 (t.fuel+1))=headTV { t with fuel:=t.fuel+1 } (progV pb cap p) X o.ptr:=head_setF H.out.r8 H.out.s8 _
       have hB:=H.out.head.set 21 (.int .i64 (t.fuel+1))
       rw [h21] at hB
       refine ⟨?_,EB.other ⟨tb,21,none⟩ _ hne2,U.setCell (.inl (by simp)) _,by rw [HOP.out]; exact HB.out,fun h=>HFU.out h.2⟩
       rw [hft]
       exact H.out.own (t':={ t with fuel:=t.fuel+1 }) hB ((Upd.refl [tb] W3).setCell (.inl (by simp)) _) H.out.r8 H.out.s8 rfl
     | false =>
      cases ou with
      | false=>exact absurd (HBAD.out.2 (.inr (.inr ⟨rfl,rfl⟩))) hb
      | true =>
       have HB:=Lib.hid hb
       clear hb
       go_wp2_with fail
       go_meet
       have hft:fuelT t=t:=by unfold fuelT; rw [if_neg (by rw [HINS.out]; simp)]
       refine ⟨by rw [hft]; exact H.out,EB,U,by rw [HOP.out]; exact HB.out,fun h=>by rw [HINS.out] at h; exact absurd h.1 (by simp)⟩
   case rest =>
    obtain ⟨V,EB2,U2,hnb,hnf⟩:=hcut
    obtain ⟨Wg,rfl⟩:∃ W,W=wc:=⟨wc,rfl⟩
    have hS:=stepT_go (sh:=sh) hidle hnb hnf
    rw [hS] at hK
    have hisop:isOp op=true:=by
     cases h:isOp op with
     | true=>rfl
     | false=>exact absurd (.inl (by rw [HOP.out]; exact h)) hnb
    have hop1:1≤op∧op≤17:=by simpa [isOp] using hisop
    have hir:0≤t.at_∧t.at_<p.length:=by
     rcases Int.lt_or_le t.at_ 0 with k | k
     ·have:=opAt_out p (.inl k); have:=HOP.out; omega
     ·rcases Int.lt_or_le t.at_ p.length with k2 | k2
      ·exact ⟨k,k2⟩
      ·have:=opAt_out p (.inr k2); have:=HOP.out; omega
    have hpl:=V.prog.2.1
    have hgi:=insAt_get p hir.1 hir.2
    have hfo:=formedP_at hfp hgi
    have hnu:=hnum _ (List.mem_of_getElem? hgi)
    have hatt:(fuelT t).att=t.att:=by unfold fuelT; split <;> rfl
    have HIN:=Lib.hid (show op=13∨op=14∨op=15 → ∃ s,(fuelT t).att=some s∧May s from fun h=>by
     rw [hatt]
     cases ha:t.att with
     | some s=>exact ⟨s,rfl,hmay s ha⟩
     | none =>
      refine absurd (.inr (.inr ⟨by unfold TS.ins; rw [ha]; rfl,?_⟩)) hnb
      rw [HOP.out]
      rcases h with h | h | h <;> (rw [h]; rfl))
    have HOUT:=Lib.hid (show op=12 → (fuelT t).att=none from fun h=>by
     rw [hatt]
     cases ha:t.att with
     | none=>rfl
     | some s =>
      refine absurd (.inr (.inl ⟨by unfold TS.ins; rw [ha]; rfl,?_⟩)) hnb
      rw [HOP.out,h]; rfl)
    have HTW:=Lib.hid (show TWide (fuelT t) from by unfold fuelT; split <;> exact ⟨htw.regs,htw.saved,htw.att⟩)
    clear hS hidle hnb hnf hatt htw hmay H EB U d11 d21 g21 f3 f4 HBAD HFF HOK HINS hisop
    obtain ⟨t',ht'⟩:∃ t',fuelT t=t':=⟨_,rfl⟩
    have hat':t'.at_=t.at_:=by rw [← ht']; unfold fuelT; split <;> rfl
    rw [ht'] at V hK HIN HOUT HTW
    obtain ⟨i,hi⟩:∃ i,insAt p t.at_=i:=⟨_,rfl⟩
    have hiop:i.op=op:=by rw [← hi]; exact HOP.out
    rw [hi] at hgi hfo hnu hK
    obtain ⟨n,hn⟩:∃ n:Nat,t.at_=n:=⟨t.at_.toNat,by omega⟩
    rw [hn] at hir hgi hat'
    have hnl:(n:Int)<p.length:=hir.2
    have hn0:(0:Int)≤n:=by omega
    simp only [Int.toNat_natCast] at hgi
    have hcs:=V.prog.cells hgi
    have EB:=EB2
    have U:=U2
    have HEBL:=Lib.hid (show w.heap.size<Wg.heap.size from EB2.lt)
    have HV:=Lib.hid V
    have HP:=Lib.hid V.prog
    clear V EB2 U2 ht' hgi
    obtain ⟨⟨hia0,hia8⟩,⟨hib0,hib8⟩,⟨hic0,hic8⟩⟩:=formed_regs hfo
    obtain ⟨op',a',b',c',xn⟩:=i
    dsimp only at hiop hia0 hia8 hib0 hib8 hic0 hic8 hnu hcs
    have hsel:op=8∨op=9:=by have:=HSEL.out; rw [HOP.out] at this; exact this
    subst hiop
    obtain ⟨ia,rfl⟩:∃ k:Nat,a'=k:=⟨a'.toNat,by omega⟩
    obtain ⟨ib,rfl⟩:∃ k:Nat,b'=k:=⟨b'.toNat,by omega⟩
    obtain ⟨ic,rfl⟩:∃ k:Nat,c'=k:=⟨c'.toNat,by omega⟩
    have ha8:ia<8:=by omega
    have hb8:ib<8:=by omega
    have hc8:ic<8:=by omega
    obtain ⟨at_,hat2⟩:∃ k,t'.at_=k:=⟨_,rfl⟩
    have han:at_=n:=by rw [← hat2]; exact hat'
    have HAT:=Lib.hid hat2
    have hw1:wrap64 (at_+1)=at_+1:=by unfold wrap64; omega
    have d31:Wg.cell? ⟨tb,31,none⟩=some (.slice (some ⟨pb,0,none⟩) p.length cap):=HV.out.head.cell 31 (head_cell HV.out.r8 HV.out.s8).2.2.2.1
    have d2:Wg.cell? ⟨tb,2,none⟩=some (.int .i64 n):=by rw [← han,← HAT.out]; exact HV.out.head.cell 2 rfl
    have HSTD:=Lib.hid (show Stands p t' ⟨op',ia,ib,ic,xn⟩ from ⟨by rw [hat']; exact hir,by rw [hat',← hn]; exact hi,hpl,⟨⟨hia0,hia8⟩,⟨hib0,hib8⟩,⟨hic0,hic8⟩⟩,hnu⟩)
    obtain ⟨p0,p1,p2,p3,p4⟩:=hcs
    clear hi hir hat' hat2 HP hfo hpl han
    go_wp2_with fail
    have ud:=(Upd.refl [] Wg).drew
    refine wp_region_br (fun w'=>w'.cell? ⟨tb,31,none⟩=some (.slice (some ⟨pb,0,none⟩) p.length cap)∧w'.cell? ⟨tb,2,none⟩=some (.int .i64 n)∧w'.cell? ⟨pb,n*5,none⟩=some (.int .i64 op')∧w'.cell? ⟨pb,n*5+1,none⟩=some (.int .i64 ia)∧w'.cell? ⟨pb,n*5+2,none⟩=some (.int .i64 ib)∧w'.cell? ⟨pb,n*5+3,none⟩=some (.int .i64 ic)∧w'.cell? ⟨pb,n*5+4,none⟩=some (.int .u64 xn)) [0,1,2,3,4,5,6,7,8,9,10,11,12] (by kernel_rfl) (by kernel_rfl) ⟨d31,d2,p0,p1,p2,p3,p4⟩ ?_
    have hdc:∀ {a:Addr} {v:Value},Wg.cell? a=some v → Wg.drew.cell? a=some v:=fun h=>h
    replace d31:=hdc d31
    replace d2:=hdc d2
    replace p0:=hdc p0
    replace p1:=hdc p1
    replace p2:=hdc p2
    replace p3:=hdc p3
    replace p4:=hdc p4
    replace HV:=Lib.hid (HV.out.upd0 ud)
    replace EB:Blk Wg.drew _ teNone.cells _:=EB.drew
    replace U:=U.drew
    clear ud hdc
    generalize Wg.drew=Wd at HV EB U d31 d2 p0 p1 p2 p3 p4 ⊢
    repeat
     first
      | (refine wpB_skip rfl (by kernel_rfl) (by rfl) ?_)
      | ((refine wpB_take (v:=?_) rfl rfl (by kernel_rfl) (by rfl) ?_ ?_); rotate_left 1; (· ((intro w hSw; (try dsimp only at hSw); go_simp); try with_reducible rfl)))
     try simp only [Act.put,List.setIfInBounds_toArray,List.set_cons_zero,List.set_cons_succ]
    refine wpB_eff rfl (by kernel_rfl) (by rfl) (fun K2 hK2=>?_)
    go_simp
    obtain ⟨Wh,hWh⟩:∃ W,Wd.alloc (.cells #[.int .i64 0,.int .i64 0,.int .i64 0,.int .i64 0,.int .u64 0] 50)=W:=⟨_,rfl⟩
    have uh:Upd [] Wd Wh:=by rw [← hWh]; exact (Upd.refl [] _).alloc _
    have IB:Blk Wh Wd.heap.size [.int .i64 0,.int .i64 0,.int .i64 0,.int .i64 0,.int .u64 0] 50:=by rw [← hWh]; exact Blk.new Wd _ _
    have HBI:=Lib.hid (show ¬ inTh X pb tb o Wd.heap.size from fun e=>by have:=HV.out.lt e; omega)
    have hbe:w.heap.size≠Wd.heap.size:=by have:=EB.lt; omega
    have hbt:tb≠Wd.heap.size:=fun e=>HBI.out (.inl e.symm)
    have hbp:pb≠Wd.heap.size:=fun e=>HBI.out (.inr (.inl e.symm))
    have hbw:w.heap.size≤Wd.heap.size:=by have:=U.size; omega
    have hds:=uh
    rw [hWh]
    replace d31:=uh.cell (by simp) d31
    replace d2:=uh.cell (by simp) d2
    replace p0:=uh.cell (by simp) p0
    replace p1:=uh.cell (by simp) p1
    replace p2:=uh.cell (by simp) p2
    replace p3:=uh.cell (by simp) p3
    replace p4:=uh.cell (by simp) p4
    replace HV:=Lib.hid (HV.out.upd0 uh)
    replace EB:Blk Wh _ teNone.cells _:=EB.upd uh (by simp)
    replace U:=U.trans (uh.mono (by simp))
    replace HEBL:=Lib.hid (show w.heap.size<Wh.heap.size from EB.lt)
    clear hWh uh hds
    generalize Wd.heap.size=xb at IB HBI hbe hbt hbp hbw ⊢
    refine hK2.out _ _ ⟨d31,d2,p0,p1,p2,p3,p4⟩ ?_
    clear hK2 K2
    repeat
     first
      | (refine wpB_skip rfl (by kernel_rfl) (by rfl) ?_)
      | ((refine wpB_take (v:=?_) rfl rfl (by kernel_rfl) (by rfl) ?_ ?_); rotate_left 1; (· ((intro w hSw; (try dsimp only at hSw); go_simp); try with_reducible rfl)))
     try simp only [Act.put,List.setIfInBounds_toArray,List.set_cons_zero,List.set_cons_succ]
    have q0:=IB.cell 0 rfl
    have q1:=IB.cell 1 rfl
    have q2:=IB.cell 2 rfl
    have q3:=IB.cell 3 rfl
    have q4:=IB.cell 4 rfl
    have g0:=IB.free 0
    have g1:=IB.free 1
    have g2:=IB.free 2
    have g3:=IB.free 3
    have g4:=IB.free 4
    refine wpB_eff rfl (by kernel_rfl) (by rfl) (fun K2 hK2=>?_)
    go_simp
    have uB:Upd [xb] Wh (((((Wh.setCell ⟨xb,0,none⟩ (.int .i64 op')).setCell ⟨xb,1,none⟩ (.int .i64 ia)).setCell ⟨xb,2,none⟩ (.int .i64 ib)).setCell ⟨xb,3,none⟩ (.int .i64 ic)).setCell ⟨xb,4,none⟩ (.int .u64 xn)):=
     (((((Upd.refl _ _).setCell (.inl (by simp)) _).setCell (.inl (by simp)) _).setCell (.inl (by simp)) _).setCell (.inl (by simp)) _).setCell (.inl (by simp)) _
    replace IB:=((((IB.set 0 (.int .i64 op')).set 1 (.int .i64 ia)).set 2 (.int .i64 ib)).set 3 (.int .i64 ic)).set 4 (.int .u64 xn)
    replace d31:=uB.cell (by simpa using hbt) d31
    replace d2:=uB.cell (by simpa using hbt) d2
    replace p0:=uB.cell (by simpa using hbp) p0
    replace p1:=uB.cell (by simpa using hbp) p1
    replace p2:=uB.cell (by simpa using hbp) p2
    replace p3:=uB.cell (by simpa using hbp) p3
    replace p4:=uB.cell (by simpa using hbp) p4
    refine hK2.out _ _ ⟨d31,d2,p0,p1,p2,p3,p4⟩ ?_
    replace HV:=Lib.hid (HV.out.updn uB (fun g hg=>by simp at hg; subst hg; exact HBI.out))
    replace EB:Blk _ _ teNone.cells _:=EB.upd uB (by simpa using hbe)
    replace U:Upd (tb :: (o.foot ++ X.foot)) w _:=U.tr (U:=tb :: (o.foot ++ X.foot)) uB (fun g hg=>.inl hg) (fun g hg=>by simp at hg; subst hg; exact .inr hbw)
    clear hK2 K2 q0 q1 q2 q3 q4 g0 g1 g2 g3 g4 d31 d2 p0 p1 p2 p3 p4 uB hbp
    generalize (((((Wh.setCell ⟨xb,0,none⟩ (.int .i64 op')).setCell ⟨xb,1,none⟩ (.int .i64 ia)).setCell ⟨xb,2,none⟩ (.int .i64 ib)).setCell ⟨xb,3,none⟩ (.int .i64 ic)).setCell ⟨xb,4,none⟩ (.int .u64 xn))=Wi at HV EB U IB ⊢
    replace HEBL:=Lib.hid (show w.heap.size<Wi.heap.size from EB.lt)
    refine wpB_end (by kernel_rfl) (NoPanic.normal ?_)
    have hne3:=Ne.symm hne2
    have hbt2:=Ne.symm hbt
    have hbe2:=Ne.symm hbe
    have i0:=IB.cell 0 rfl
    go_upto_block 1 with (fail)
    go_cut [8] from 129 to 286 (fun _ wx=>AtEnd w X sh acc st p pb cap tb o t' ⟨op',ia,ib,ic,xn⟩ at_ wx)
    case first =>
     have hops:op'=8∨op'=9:=by omega
     rcases hops with hop | hop
     ·subst hop
      have hS:plainT t' ⟨8,ia,ib,ic,xn⟩=some { t' with at_:=targetI xn }:=rfl
      have HPL:=Lib.hid hS
      clear hS HSTD
      have i4:=IB.cell 4 rfl
      go_wp2_with fail
      refine (target_any xn _ hnu).mono ?_
      rintro e w' ⟨rfl,rfl⟩
      have c2:=HV.out.head.cell 2 rfl
      have g2:=HV.out.head.free 2
      have q0:=EB.cell 0 rfl
      have q1:=EB.cell 1 rfl
      have q2:=EB.cell 2 rfl
      have q3:=EB.cell 3 rfl
      have q4:=EB.cell 4 rfl
      have q5:=EB.cell 5 rfl
      have f0:=EB.free 0
      have f1:=EB.free 1
      have f2:=EB.free 2
      have f3:=EB.free 3
      have f4:=EB.free 4
      have f5:=EB.free 5
      simp only [teNone] at q0 q1 q2 q3 q4 q5
      have hk:=hK
      rw [HPL.out] at hk
      dsimp only at hk
      have HKK:=Lib.hid hk
      have HU:=Lib.hid U
      have HEB:=Lib.hid EB
      clear U EB hk i4
      go_wp2_with fail
      have HVn:TV (Wi.setCell ⟨tb,2,none⟩ (.int .i64 (targetI xn))) X sh acc st p pb cap tb { t' with at_:=targetI xn } o:=HV.out.own (t':={ t' with at_:=targetI xn }) (HV.out.head.set 2 (.int .i64 (targetI xn))) ((Upd.refl [tb] _).setCell (.inl (by simp)) _) HV.out.r8 HV.out.s8 rfl
      refine bodyPost_ret (ev_results2 2 3 rfl _ _ (w.heap.size) (⟨0,0,0,false,0⟩:TE) (.bool false) rfl rfl (ev_set (e0:=teNone) (HEB.out.other ⟨tb,2,none⟩ (.int .i64 (targetI xn)) hne2) (⟨0,0,0,false,0⟩:TE))) rfl (HKK.out _ _ ⟨rfl,_,_,_,HVn.updn (ev_upd (S:=[w.heap.size]) (Upd.refl _ _) (.inl (by simp)) _ _ _ _ _ _) ?_,ev_upd (HU.out.setCell (.inl (by simp)) _) (.inr (Nat.le_refl _)) _ _ _ _ _ _,fun g hg=>.inl hg,.inl ⟨rfl,rfl⟩⟩)
      exact fun g hg e=>by simp at hg; exact HLT.out g (by omega) e
     ·subst hop
      clear HSTD
      obtain ⟨va,hva⟩:∃ v,t'.regs.getD ia 0=v:=⟨_,rfl⟩
      have da:=HV.out.head.cell (3+ia) (head_reg HV.out.r8 ha8)
      rw [hva] at da
      have hpl0:plainT t' ⟨9,ia,ib,ic,xn⟩=some (if va=0 then { t' with at_:=targetI xn } else nextT t'):=by rw [← hva]; rfl
      clear hva
      by_cases hz:va=0
      ·subst hz
       rw [if_pos rfl] at hpl0
       have HPL:=Lib.hid hpl0
       clear hpl0
       go_wp2_with fail
       clear i0
       refine wp_region_br (fun w'=>w'.cell? ⟨xb,1,none⟩=some (.int .i64 ia)∧w'.cell? ⟨tb,3+ia,none⟩=some (.int .u64 0)) [0,1,2,3,4,5,6] (by kernel_rfl) (by kernel_rfl) ⟨IB.cell 1 rfl,da⟩ ?_
       have ud:=(Upd.refl [] Wi).drew
       replace HV:=Lib.hid (HV.out.upd0 ud)
       replace EB:Blk Wi.drew _ teNone.cells _:=EB.drew
       replace IB:=IB.drew
       replace U:=U.drew
       clear ud
       clear da
       generalize Wi.drew=Wi at HV EB U IB ⊢
       repeat
        first
         | (refine wpB_skip rfl (by kernel_rfl) (by rfl) ?_)
         | ((refine wpB_take (v:=?_) rfl rfl (by kernel_rfl) (by rfl) ?_ ?_); rotate_left 1; (· ((intro w hSw; (try dsimp only at hSw); go_simp); try with_reducible rfl)))
        try simp only [Act.put,List.setIfInBounds_toArray,List.set_cons_zero,List.set_cons_succ]
       refine wpB_end (by kernel_rfl) (NoPanic.normal ?_)
       have i4:=IB.cell 4 rfl
       go_wp2_with fail
       refine (target_any xn _ hnu).mono ?_
       rintro e w' ⟨rfl,rfl⟩
       have c2:=HV.out.head.cell 2 rfl
       have g2:=HV.out.head.free 2
       have q0:=EB.cell 0 rfl
       have q1:=EB.cell 1 rfl
       have q2:=EB.cell 2 rfl
       have q3:=EB.cell 3 rfl
       have q4:=EB.cell 4 rfl
       have q5:=EB.cell 5 rfl
       have f0:=EB.free 0
       have f1:=EB.free 1
       have f2:=EB.free 2
       have f3:=EB.free 3
       have f4:=EB.free 4
       have f5:=EB.free 5
       simp only [teNone] at q0 q1 q2 q3 q4 q5
       have hk:=hK
       rw [HPL.out] at hk
       dsimp only at hk
       have HKK:=Lib.hid hk
       have HU:=Lib.hid U
       have HEB:=Lib.hid EB
       clear U EB hk i4
       go_wp2_with fail
       have HVn:TV (Wi.setCell ⟨tb,2,none⟩ (.int .i64 (targetI xn))) X sh acc st p pb cap tb { t' with at_:=targetI xn } o:=HV.out.own (t':={ t' with at_:=targetI xn }) (HV.out.head.set 2 (.int .i64 (targetI xn))) ((Upd.refl [tb] _).setCell (.inl (by simp)) _) HV.out.r8 HV.out.s8 rfl
       refine bodyPost_ret (ev_results2 2 3 rfl _ _ (w.heap.size) (⟨0,0,0,false,0⟩:TE) (.bool false) rfl rfl (ev_set (e0:=teNone) (HEB.out.other ⟨tb,2,none⟩ (.int .i64 (targetI xn)) hne2) (⟨0,0,0,false,0⟩:TE))) rfl (HKK.out _ _ ⟨rfl,_,_,_,HVn.updn (ev_upd (S:=[w.heap.size]) (Upd.refl _ _) (.inl (by simp)) _ _ _ _ _ _) ?_,ev_upd (HU.out.setCell (.inl (by simp)) _) (.inr (Nat.le_refl _)) _ _ _ _ _ _,fun g hg=>.inl hg,.inl ⟨rfl,rfl⟩⟩)
       exact fun g hg e=>by simp at hg; exact HLT.out g (by omega) e
      ·rw [if_neg hz] at hpl0
       have HPL:=Lib.hid hpl0
       have hzb:(va != 0)=true:=by simpa using hz
       clear hpl0 hz
       go_wp2_with fail
       clear i0
       refine wp_region_br (fun w'=>w'.cell? ⟨xb,1,none⟩=some (.int .i64 ia)∧w'.cell? ⟨tb,3+ia,none⟩=some (.int .u64 va)) [0,1,2,3,4,5,6] (by kernel_rfl) (by kernel_rfl) ⟨IB.cell 1 rfl,da⟩ ?_
       have ud:=(Upd.refl [] Wi).drew
       replace HV:=Lib.hid (HV.out.upd0 ud)
       replace EB:Blk Wi.drew _ teNone.cells _:=EB.drew
       replace IB:=IB.drew
       replace U:=U.drew
       clear ud
       clear da
       generalize Wi.drew=Wi at HV EB U IB ⊢
       repeat
        first
         | (refine wpB_skip rfl (by kernel_rfl) (by rfl) ?_)
         | ((refine wpB_take (v:=?_) rfl rfl (by kernel_rfl) (by rfl) ?_ ?_); rotate_left 1; (· ((intro w hSw; (try dsimp only at hSw); go_simp); try with_reducible rfl)))
        try simp only [Act.put,List.setIfInBounds_toArray,List.set_cons_zero,List.set_cons_succ]
       refine wpB_end (by kernel_rfl) (NoPanic.normal ?_)
       clear hzb
       go_wp2_with fail
       go_meet
       exact ⟨t',HAT.out,HPL.out,HV.out,EB,U⟩
    case rest =>
     obtain ⟨t'',hat3,hpl,V,EB3,U3⟩:=hcut
     obtain ⟨We,rfl⟩:∃ W,W=wc:=⟨wc,rfl⟩
     rw [hpl] at hK
     dsimp only at hK
     clear HAT hpl HV EB U IB i0 HSTD
     have HAT:=Lib.hid hat3
     have HV:=Lib.hid V
     have EB:=EB3
     have U:=U3
     clear hat3 V EB3 U3
     have d2:(We).cell? ⟨tb,2,none⟩=some (.int .i64 at_):=by rw [← HAT.out]; exact HV.out.head.cell 2 rfl
     have g2:=HV.out.head.free 2
     have q0:=EB.cell 0 rfl
     have q1:=EB.cell 1 rfl
     have q2:=EB.cell 2 rfl
     have q3:=EB.cell 3 rfl
     have q4:=EB.cell 4 rfl
     have q5:=EB.cell 5 rfl
     have f0:=EB.free 0
     have f1:=EB.free 1
     have f2:=EB.free 2
     have f3:=EB.free 3
     have f4:=EB.free 4
     have f5:=EB.free 5
     simp only [teNone] at q0 q1 q2 q3 q4 q5
     have HU:=Lib.hid U
     have HEB:=Lib.hid EB
     clear U EB
     go_wp2_with fail
     have HVn:TV ((We).setCell ⟨tb,2,none⟩ (.int .i64 (at_+1))) X sh acc st p pb cap tb (nextT (t'')) o:=by
      have e:nextT (t'') = { (t'') with at_:=at_+1 }:=by unfold nextT; rw [← HAT.out]
      rw [e]
      exact HV.out.own (t':={ (t'') with at_:=at_+1 }) (HV.out.head.set 2 (.int .i64 (at_+1))) ((Upd.refl [tb] _).setCell (.inl (by simp)) _) HV.out.r8 HV.out.s8 rfl
     refine bodyPost_ret (ev_results2 2 3 rfl _ _ (w.heap.size) (⟨0,0,0,false,0⟩:TE) (.bool false) rfl rfl (ev_set (e0:=teNone) (HEB.out.other ⟨tb,2,none⟩ (.int .i64 (at_+1)) hne2) (⟨0,0,0,false,0⟩:TE))) rfl (hK _ _ ⟨rfl,_,_,_,HVn.updn (ev_upd (S:=[w.heap.size]) (Upd.refl _ _) (.inl (by simp)) _ _ _ _ _ _) ?_,ev_upd (HU.out.setCell (.inl (by simp)) _) (.inr (Nat.le_refl _)) _ _ _ _ _ _,fun g hg=>.inl hg,.inl ⟨rfl,rfl⟩⟩)
     exact fun g hg e=>by simp at hg; exact HLT.out g (by omega) e
end
end Go.Proofs.YtehopaabfoopeaaGreat
