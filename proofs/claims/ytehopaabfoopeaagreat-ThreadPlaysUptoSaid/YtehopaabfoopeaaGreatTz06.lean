/- An attempt's calls, said shortly: the counts of accesses left out. No conditions. What an operation is made of, is an instruction formed (the code). No condition. A thread's state, plainly: what each step makes of it. No program in sight. No conditions. A region that draws its order and only reads, in a round of a loop over an iterator: one walk in the order of the text serves every order. The condition: no defer statement stands in it. A region that draws its order, with effects, in a round of a loop over an iterator: walked in the order of the text, as outside (Eff). The condition: no defer statement stands in it. A region that draws its order, with effects, walked in any order that is given: what only looks may be taken ahead of its turn; outside a round and inside one. No condition. A region that draws its order, with effects, where two effects may come up one ahead of the other (an allocation and a call): the walk branches there; what only looks is taken in the order of a list, that is only a hint. No condition. A region that draws its order, with effects, walked in an order that is given; some effects (the last stores) wait for all that looks, and behind them the held fact need not stand. No condition. -/
import Derived.Test.YtehopaabfoopeaaGreatTz05
import Derived.Test.YtehopaabfoopeaaGreatTz00
import Derived.Handy
import Derived.Sort.QuietTacIn
import Derived.Sort.BigQuietIn
import Derived.Test.YtehopaabfoopeaaGreatTz01
import Derived.OrdersIn
import Derived.RangeFuncCalls
set_option linter.unusedSimpArgs false
set_option linter.unusedVariables false
set_option maxRecDepth 100000
namespace Go.Proofs.YtehopaabfoopeaaGreat
open Go.RowKit
open Go.Maps
def XAt (w:World) (X:SX) (sh:Sh):Prop:=∃ acc st,X.At w sh acc st
section
variable {w w':World} {X:SX} {sh:Sh} {a:Nat} {s:AS} {F:List Nat}
theorem XAt.load (h:XAt w X sh) (x:Int) (hx:0≤x):Calls Tryz.prog 29 #[.pointer (some ⟨X.ra,0,none⟩),.int .u64 x] w fun e w'=>e=.returned (.tuple #[.int .u64 (loadW sh.row x),.int .i64 (rLoad sh.row x).2])∧XAt w' X sh∧Upd X.foot w w':=by
 obtain ⟨acc,st,h⟩:=h
 refine (load_any h.row x hx).mono fun e w' ⟨he,r,u⟩=>⟨by rw [he,loadW_eq],⟨_,_,⟨r,h.clk.upd u (by have:=h.a1; simp; omega) (by have:=h.a1; simp; omega) (by have:=h.a1; simp; omega),h.a1,h.a2,h.wide⟩⟩,u.mono (by simp [SX.foot])⟩
theorem XAt.clk (h:XAt w X sh):Calls Tryz.prog 30 #[.pointer (some ⟨X.ca,0,none⟩)] w fun e w'=>e=.returned (.tuple #[.int .u64 sh.clock,.int .i64 0])∧XAt w' X sh∧Upd X.foot w w':=by
 obtain ⟨acc,st,h⟩:=h
 exact (clkLoad h.clk).mono fun e w' ⟨he,c,u⟩=>⟨he,⟨_,_,h.clkd u c⟩,u.mono (by simp [SX.foot])⟩
theorem XAt.upd {S:List Nat} (h:XAt w X sh) (u:Upd S w w') (hS:∀ g ∈ X.foot,g ∉ S):XAt w' X sh:=let ⟨_,_,h⟩:=h; ⟨_,_,h.upd u hS⟩
end
theorem XAt.made {w1 w2:World} {a b c d e:Nat} {ws:List Int} {k:Int} {acc st:Int} (hR:RowAt w1 a b ws acc) (hC:ClockAt w2 c d e k st) (u:Upd [] w1 w2) (h1:w1.heap.size≤c) (h2:w1.heap.size≤d) (h3:w1.heap.size≤e) (hw:WideSh ⟨ws,k⟩):XAt w2 ⟨a,b,c,d,e⟩ ⟨ws,k⟩:=by
 have:=hR.lta
 have:=hR.ltb
 exact ⟨acc,st,hR.upd u (by simp) (by simp),hC,⟨by simp only; omega,by simp only; omega,by simp only; omega⟩,⟨by simp only; omega,by simp only; omega,by simp only; omega⟩,hw⟩
end Go.Proofs.YtehopaabfoopeaaGreat
set_option linter.unusedSimpArgs false
set_option linter.unusedVariables false
set_option maxRecDepth 100000
namespace Go.Proofs.YtehopaabfoopeaaGreat
open Go.RowKit
structure Form where
 regs:Nat
 num:Bool
 target:Bool
 out:Bool
 ins:Bool
def Form.val (f:Form):Value:=.agg #[.int .i64 (f.regs:Int),.bool f.num,.bool f.target,.bool f.out,.bool f.ins]
def formN:Nat → Form
 | 1=>⟨1,true,false,true,true⟩
 | 2=>⟨2,false,false,true,true⟩
 | 3 | 4 | 5 | 6 | 7=>⟨3,false,false,true,true⟩
 | 8=>⟨0,true,true,true,true⟩
 | 9=>⟨1,true,true,true,true⟩
 | 10 | 11=>⟨2,false,false,true,false⟩
 | 12 | 17=>⟨0,false,false,true,false⟩
 | 13 | 14=>⟨2,false,false,false,true⟩
 | 15=>⟨0,false,false,false,true⟩
 | 16=>⟨0,true,true,false,true⟩
 | _=>⟨0,false,false,false,false⟩
def isOp (op:Int):Bool:=decide (1≤op∧op≤17)
def formI (op:Int):Form:=if 1≤op∧op≤17 then formN op.toNat else ⟨0,false,false,false,false⟩
set_option maxHeartbeats 20000000 in
theorem info (op:Int) (w:World):Calls Tryz.prog 76 #[.int .i64 op] w fun e w'=>e=.returned (.tuple #[(formI op).val,.bool (isOp op)])∧Upd [] w w':=by
 by_cases h:1≤op∧op≤17
 ·have hc:op=1∨op=2∨op=3∨op=4∨op=5∨op=6∨op=7∨op=8∨op=9∨op=10∨op=11∨op=12∨op=13∨op=14∨op=15∨op=16∨op=17:=by omega
  clear h
  rcases hc with rfl | rfl | rfl | rfl | rfl | rfl | rfl | rfl | rfl | rfl | rfl | rfl | rfl | rfl | rfl | rfl | rfl
  all_goals
   refine calls_all fun K hK=>?_
   go_enter Tryz.func76,Tryz.ntmps76
   go_wp2
   go_returns
   exact hK _ _ ⟨rfl,((Upd.refl _ _).alloc _).alloc _⟩
 ·have e1:(op == 1)=false:=beq_eq_false_iff_ne.2 (by omega)
  have e2:(op == 2)=false:=beq_eq_false_iff_ne.2 (by omega)
  have e3:(op == 3)=false:=beq_eq_false_iff_ne.2 (by omega)
  have e4:(op == 4)=false:=beq_eq_false_iff_ne.2 (by omega)
  have e5:(op == 5)=false:=beq_eq_false_iff_ne.2 (by omega)
  have e6:(op == 6)=false:=beq_eq_false_iff_ne.2 (by omega)
  have e7:(op == 7)=false:=beq_eq_false_iff_ne.2 (by omega)
  have e8:(op == 8)=false:=beq_eq_false_iff_ne.2 (by omega)
  have e9:(op == 9)=false:=beq_eq_false_iff_ne.2 (by omega)
  have e10:(op == 10)=false:=beq_eq_false_iff_ne.2 (by omega)
  have e11:(op == 11)=false:=beq_eq_false_iff_ne.2 (by omega)
  have e12:(op == 12)=false:=beq_eq_false_iff_ne.2 (by omega)
  have e13:(op == 13)=false:=beq_eq_false_iff_ne.2 (by omega)
  have e14:(op == 14)=false:=beq_eq_false_iff_ne.2 (by omega)
  have e15:(op == 15)=false:=beq_eq_false_iff_ne.2 (by omega)
  have e16:(op == 16)=false:=beq_eq_false_iff_ne.2 (by omega)
  have e17:(op == 17)=false:=beq_eq_false_iff_ne.2 (by omega)
  have ef:formI op=⟨0,false,false,false,false⟩:=if_neg h
  have ei:isOp op=false:=decide_eq_false h
  rw [ef,ei]
  clear h ef ei
  refine calls_all fun K hK=>?_
  go_enter Tryz.func76,Tryz.ntmps76
  go_wp2
  go_returns
  exact hK _ _ ⟨rfl,((Upd.refl _ _).alloc _).alloc _⟩
structure Ins where
 op:Int
 a:Int
 b:Int
 c:Int
 n:Int
def Ins.cells (i:Ins):List Value:=[.int .i64 i.op,.int .i64 i.a,.int .i64 i.b,.int .i64 i.c,.int .u64 i.n]
def Ins.val (i:Ins):Value:=.agg #[.int .i64 i.op,.int .i64 i.a,.int .i64 i.b,.int .i64 i.c,.int .u64 i.n]
def Ins.reg (i:Ins) (k:Nat):Int:=[i.a,i.b,i.c].getD k 0
def okReg (R:Nat) (reg:Nat → Int) (k:Nat):Bool:=if k<R then decide (0≤reg k∧reg k<8) else decide (reg k=0)
theorem okReg_neg {R k:Nat} {reg:Nat → Int} (h:reg k<0):okReg R reg k=false:=by
 unfold okReg
 split
 ·exact decide_eq_false (by omega)
 ·exact decide_eq_false (by omega)
theorem okReg_big {R k:Nat} {reg:Nat → Int} (h:8≤reg k):okReg R reg k=false:=by
 unfold okReg
 split
 ·exact decide_eq_false (by omega)
 ·exact decide_eq_false (by omega)
theorem okReg_more {R k:Nat} {reg:Nat → Int} (h:¬ k<R) (h0:reg k≠0):okReg R reg k=false:=by
 unfold okReg
 rw [if_neg h]
 exact decide_eq_false h0
theorem okReg_in {R k:Nat} {reg:Nat → Int} (h:k<R) (h0:0≤reg k) (h8:reg k<8):okReg R reg k=true:=by
 unfold okReg
 rw [if_pos h]
 exact decide_eq_true ⟨h0,h8⟩
theorem okReg_zero {R k:Nat} {reg:Nat → Int} (h:¬ k<R) (h0:reg k=0):okReg R reg k=true:=by
 unfold okReg
 rw [if_neg h]
 exact decide_eq_true h0
def formedF (R:Nat) (reg:Nat → Int) (x:Bool):Bool:=okReg R reg 0 && okReg R reg 1 && okReg R reg 2 && x
def formed (i:Ins):Bool:=formedF (formI i.op).regs i.reg (isOp i.op && ((formI i.op).num || decide (i.n=0)))
theorem formedF_no {R k:Nat} {reg:Nat → Int} {x:Bool} (h:okReg R reg k=false) (hk:k<3):formedF R reg x=false:=by
 have:k=0∨k=1∨k=2:=by omega
 unfold formedF
 rcases this with rfl | rfl | rfl <;> simp [h]
theorem formedF_yes {R:Nat} {reg:Nat → Int} {x:Bool} (h:∀ j,j<3 → okReg R reg j=true):formedF R reg x=x:=by
 unfold formedF
 simp [h 0 (by omega),h 1 (by omega),h 2 (by omega)]
theorem regs (i:Ins) (w:World):Calls Tryz.prog 91 #[i.val] w fun e w'=>∃ g,e=.returned (.slice (some ⟨g,0,none⟩) 3 3)∧w.heap.size≤g∧Blk w' g [.int .i64 i.a,.int .i64 i.b,.int .i64 i.c] 3∧Upd [] w w':=by
 obtain ⟨op,a,b,c,n⟩:=i
 simp only [Ins.val]
 refine calls_all fun K hK=>?_
 go_enter Tryz.func91,Tryz.ntmps91
 go_wp2
 exact ⟨w.heap.size+1,rfl,by omega,by simpa using Blk.new (w.alloc (.cells #[.int .i64 op,.int .i64 a,.int .i64 b,.int .i64 c,.int .u64 n] 50)) [.int .i64 a,.int .i64 b,.int .i64 c] 3,((Upd.refl _ _).alloc _).alloc _⟩
theorem reg_cell (i:Ins) (k:Nat) (hk:k<3):[Value.int .i64 i.a,.int .i64 i.b,.int .i64 i.c][k]? = some (.int .i64 (i.reg k)):=by
 have:k=0∨k=1∨k=2:=by omega
 rcases this with rfl | rfl | rfl <;> rfl
set_option maxHeartbeats 8000000 in
theorem formed_code (i:Ins) (w:World):Calls Tryz.prog 64 #[i.val] w fun e w'=>e=.returned (.bool (formed i))∧Upd [] w w':=by
 obtain ⟨f,hf⟩:∃ f,formI i.op=f:=⟨_,rfl⟩
 obtain ⟨ok,hok⟩:∃ ok,isOp i.op=ok:=⟨_,rfl⟩
 have HI:∀ w,Calls Tryz.prog 76 #[.int .i64 i.op] w fun e w'=>e=.returned (.tuple #[f.val,.bool ok])∧Upd [] w w':=fun w=>by rw [← hf,← hok]; exact info i.op w
 have HR:=fun w=>regs i w
 have hform:formed i=formedF f.regs i.reg (ok && (f.num || decide (i.n=0))):=by
  unfold formed; rw [hf,hok]
 have hrc:=reg_cell i
 have HF:=Lib.hid hform
 clear hf hok hform
 obtain ⟨op,a,b,c,n⟩:=i
 simp only [Ins.val] at HR HI ⊢
 obtain ⟨R,nm,tg,ou,is⟩:=f
 simp only [Form.val] at HI
 obtain ⟨reg,hreg⟩:∃ reg,Ins.reg ⟨op,a,b,c,n⟩=reg:=⟨_,rfl⟩
 rw [hreg] at hrc HF
 clear hreg
 obtain ⟨F,hFF⟩:∃ F,formed ⟨op,a,b,c,n⟩=F:=⟨_,rfl⟩
 rw [hFF] at HF ⊢
 clear hFF
 refine calls_all fun K hK=>?_
 go_enter Tryz.func64,Tryz.ntmps64
 go_wp2_with fail
 refine (HI _).mono ?_
 rintro e w1 ⟨rfl,u1⟩
 have u0:Upd [] w w1:=((Upd.refl _ _).alloc _).trans u1
 have hb:Blk w1 w.heap.size [.int .i64 op,.int .i64 a,.int .i64 b,.int .i64 c,.int .u64 n] 50:=(Blk.new w _ _).upd u1 (by simp)
 clear u1
 have hbA:=hb.alloc (.cells #[.int .i64 (R:Int),.bool nm,.bool tg,.bool ou,.bool is] 116)
 have d0:=hbA.cell 0 rfl
 have d1:=hbA.cell 1 rfl
 have d2:=hbA.cell 2 rfl
 have d3:=hbA.cell 3 rfl
 have d4:=hbA.cell 4 rfl
 clear hbA
 have HB:=Lib.hid hb
 have U0:=Lib.hid u0
 clear hb u0
 go_wp2_with fail
 refine (HR _).mono ?_
 rintro e w2 ⟨g,rfl,hg,hg2,u2⟩
 have hf2:Blk w2 w1.heap.size [.int .i64 (R:Int),.bool nm,.bool tg,.bool ou,.bool is] 116:=(Blk.new w1 _ _).upd u2 (by simp)
 have hb2:=(HB.out.alloc (.cells #[.int .i64 (R:Int),.bool nm,.bool tg,.bool ou,.bool is] 116)).upd u2 (by simp)
 have U2:=Lib.hid ((U0.out.alloc (.cells #[.int .i64 (R:Int),.bool nm,.bool tg,.bool ou,.bool is] 116)).trans u2)
 have f0:=hf2.cell 0 rfl
 have f1:=hf2.cell 1 rfl
 have b4:=hb2.cell 4 rfl
 clear d0 d1 d2 d3 d4 u2 HB U0 hf2 hb2
 go_wp2
 go_loop [16] (fun v16=>∃ k:Nat,k≤3∧v16=.int .i64 k∧∀ j,j<k → okReg R reg j=true) (fun v16=>3 - (intOf v16).toNat)
 case atStart=>exact ⟨0,by omega,rfl,by omega⟩
 case round =>
  obtain ⟨k,hk,rfl,hall⟩:=hrel
  have HA:=Lib.hid hall
  clear hall
  by_cases hlt:k<3
  ·have hc:=hg2.cell k (hrc k hlt)
   have hkl:(k:Int)<3:=by omega
   have HN:Hid (okReg R reg k=false → F=false):=Lib.hid fun h=>HF.out.trans (formedF_no h hlt)
   obtain ⟨r,hr⟩:∃ r,reg k=r:=⟨_,rfl⟩
   rw [hr] at hc
   have HK:=Lib.hid hr
   clear hr hrc
   by_cases hkR:k<R
   ·by_cases h0:r<0
    ·have e0:=HN.out (okReg_neg (by rw [HK.out]; exact h0))
     subst e0
     clear HN HF
     go_wp2
     all_goals first | exact U2.out | exact ⟨rfl,U2.out⟩
    ·by_cases h8:8≤r
     ·have e0:=HN.out (okReg_big (by rw [HK.out]; exact h8))
      subst e0
      clear HN HF
      go_wp2
      all_goals first | exact U2.out | exact ⟨rfl,U2.out⟩
     ·have HY:=Lib.hid (okReg_in hkR (show 0≤reg k by rw [HK.out]; omega) (show reg k<8 by rw [HK.out]; omega))
      have hnk:decide (R≤k)=false:=decide_eq_false (by omega)
      clear HN
      go_wp2
      go_round
      case rel=>exact ⟨k+1,by omega,by go_num,fun j hj=>by rcases Nat.lt_succ_iff_lt_or_eq.1 hj with h | rfl; exact HA.out j h; exact HY.out⟩
      case measure=>simp [intOf]; omega
   ·have hRk:R≤k:=by omega
    by_cases hz:r=0
    ·have HY:=Lib.hid (okReg_zero hkR (show reg k=0 by rw [HK.out]; exact hz))
     subst hz
     clear HN
     go_wp2
     go_round
     case rel=>exact ⟨k+1,by omega,by go_num,fun j hj=>by rcases Nat.lt_succ_iff_lt_or_eq.1 hj with h | rfl; exact HA.out j h; exact HY.out⟩
     case measure=>simp [intOf]; omega
    ·have e0:=HN.out (okReg_more hkR (by rw [HK.out]; exact hz))
     subst e0
     have hzz:(r != 0)=true:=by simpa using hz
     clear HN HF
     go_wp2
     all_goals first | exact U2.out | exact ⟨rfl,U2.out⟩
  ·obtain rfl:k=3:=by omega
   have eF:=HF.out.trans (formedF_yes HA.out)
   have HE:=Lib.hid eF
   clear eF HF
   by_cases hn:n=0
   ·subst hn
    cases ok <;> cases nm
    all_goals
     go_wp2
     all_goals first | exact ⟨by rw [HE.out]; rfl,U2.out⟩ | (rw [HE.out]; exact ⟨rfl,U2.out⟩) | (rw [HE.out]; exact U2.out)
   ·have hnn:(n == 0)=false:=beq_eq_false_iff_ne.2 hn
    have hdn:decide (n=0)=false:=decide_eq_false hn
    cases ok <;> cases nm
    all_goals
     go_wp2
     all_goals first | exact ⟨by rw [HE.out,hdn]; rfl,U2.out⟩ | (rw [HE.out]; exact ⟨rfl,U2.out⟩) | (rw [HE.out]; exact U2.out)
end Go.Proofs.YtehopaabfoopeaaGreat
set_option linter.unusedSimpArgs false
set_option linter.unusedVariables false
set_option maxRecDepth 100000
namespace Go.Proofs.YtehopaabfoopeaaGreat
open Go.RowKit
structure TE where
 kind:Int
 addr:Int
 word:Int
 own:Bool
 err:Int
def TE.val (e:TE):Value:=.agg #[.int .i64 0,.int .i64 e.kind,.int .u64 e.addr,.int .u64 e.word,.bool e.own,.int .i64 e.err]
def teNone:TE:=⟨0,0,0,false,0⟩
def Ev.te (e:Ev):TE:=⟨e.kind,e.addr,e.word,e.own,0⟩
abbrev Told:=TE × Bool
def quiet:Told:=(teNone,false)
def telling (k a w:Int):Told:=(⟨k,a,w,false,0⟩,true)
structure TS where
 st:Int
 err:Int
 at_:Int
 regs:List Int
 start:Int
 saved:List Int
 fuel:Int
 att:Option AS
def zero8:List Int:=[0,0,0,0,0,0,0,0]
def TS.ins (t:TS):Bool:=t.att.isSome
def newT:TS:=⟨1,0,0,zero8,0,zero8,0,none⟩
def leaveT (t:TS) (k:Int):TS:=⟨t.st,t.err,k,t.regs,0,zero8,0,none⟩
def giveT (t:TS) (k:Int):TS:=leaveT { t with regs:=t.saved } k
def failT (t:TS) (e:Int):Told × TS:=((⟨9,0,0,false,e⟩,true),{ (if t.ins=true then giveT t t.start else t) with st:=3,err:=e })
def targetI (n:Int):Int:=if 9223372036854775807<n then 9223372036854775807 else n
def insAt (p:List Ins) (k:Int):Ins:=if k<0 then ⟨0,0,0,0,0⟩ else p.getD k.toNat ⟨0,0,0,0,0⟩
def opAt (p:List Ins) (k:Int):Int:=(insAt p k).op
def rg (t:TS) (k:Int):Int:=t.regs.getD k.toNat 0
def setR (t:TS) (k v:Int):TS:={ t with regs:=t.regs.set k.toNat v }
def nextT (t:TS):TS:={ t with at_:=t.at_+1 }
def turnedT (p:List Ins) (t:TS) (x:Trn) (e:Int):Told × TS:=
 if e≠0 then failT t e else
 ((x.ev.te,x.ev.kind != 0),
  if x.out=2 then nextT (setR t (insAt p t.at_).a x.word)
  else if x.out=3 then nextT t
  else if x.out=4 then leaveT t (t.at_+1)
  else if x.out=5 then giveT t t.start
  else t)
def attS (t:TS):AS:=t.att.getD overS
def withA (t:TS) (s:AS):TS:={ t with att:=some s }
def sharedT (p:List Ins) (t:TS) (sh:Sh) (i:Ins):Told × TS × Sh:=
 if i.op=10 then
  if rg t i.b<sh.row.length then (telling 10 (rg t i.b) (wd sh.row (rg t i.b).toNat),nextT (setR t i.a (wd sh.row (rg t i.b).toNat)),sh)
  else ((failT t 4).1,(failT t 4).2,sh)
 else if i.op=11 then
  if rg t i.b<sh.row.length then (telling 11 (rg t i.b) (rg t i.a),nextT t,{ sh with row:=sh.row.set (rg t i.b).toNat (rg t i.a) })
  else ((failT t 4).1,(failT t 4).2,sh)
 else if i.op=17 then (telling 12 0 0,{ t with st:=2 },sh)
 else if i.op=12 then
  if sh.clock % 2=0 then (telling 1 0 sh.clock,nextT { t with start:=t.at_,saved:=t.regs,att:=some (fresh sh.clock) },sh)
  else (quiet,t,sh)
 else if i.op=13 then
  let r:=getS (attS t) sh (rg t i.b)
  let q:=turnedT p (withA t r.2.2) r.1 r.2.1
  (q.1,q.2,sh)
 else if i.op=14 then
  let r:=putS (attS t) sh (rg t i.b) (rg t i.a)
  let q:=turnedT p (withA t r.2.2) r.1 r.2.1
  (q.1,q.2,sh)
 else if i.op=16 then (telling 8 0 0,giveT t (targetI i.n),sh)
 else
  let r:=endS (attS t) sh
  let q:=turnedT p (withA t r.2.2.1) r.1 r.2.1
  (q.1,q.2,r.2.2.2)
def plainT (t:TS) (i:Ins):Option TS:=
 if i.op=1 then some (nextT (setR t i.a i.n))
 else if i.op=2 then some (nextT (setR t i.a (rg t i.b)))
 else if i.op=3 then some (nextT (setR t i.a ((rg t i.b+rg t i.c) % 18446744073709551616)))
 else if i.op=4 then some (nextT (setR t i.a ((rg t i.b - rg t i.c) % 18446744073709551616)))
 else if i.op=5 then some (nextT (setR t i.a ((rg t i.b*rg t i.c) % 18446744073709551616)))
 else if i.op=6 then some (nextT (setR t i.a (if rg t i.b<rg t i.c then 1 else 0)))
 else if i.op=7 then some (nextT (setR t i.a (if rg t i.b=rg t i.c then 1 else 0)))
 else if i.op=8 then some { t with at_:=targetI i.n }
 else if i.op=9 then some (if rg t i.a=0 then { t with at_:=targetI i.n } else nextT t)
 else none
def fuelT (t:TS):TS:=if t.ins=true then { t with fuel:=t.fuel+1 } else t
def stepT (p:List Ins) (t:TS) (sh:Sh):Told × TS × Sh:=
 if t.ins=true∧(attS t).phase≠1 then
  let r:=stepS (attS t) sh
  let q:=turnedT p (withA t r.2.2.1) r.1 r.2.1
  (q.1,q.2,r.2.2.2)
 else
  let o:=opAt p t.at_
  if isOp o=false∨(t.ins=true∧(formI o).ins=false)∨(t.ins=false∧(formI o).out=false) then ((failT t 210).1,(failT t 210).2,sh)
  else if t.ins=true∧t.fuel=4096 then ((failT t 6).1,(failT t 6).2,sh)
  else match plainT (fuelT t) (insAt p t.at_) with
   | some t'=>(quiet,t',sh)
   | none=>sharedT p (fuelT t) sh (insAt p t.at_)
def StepT (p:List Ins) (t:TS) (sh:Sh):Told × TS × Sh:=if t.st≠1 then (quiet,t,sh) else stepT p t sh
def W64 (v:Int):Prop:=0≤v∧v<18446744073709551616
def placed (p:List Ins) (t:TS) (s:AS):Prop:=s.phase=1∨(0<t.fuel∧opAt p t.at_=if getsB s=true then 13 else 15)
structure TMay (p:List Ins) (t:TS):Prop where
 st:1≤t.st∧t.st≤3
 err:t.st=3 ↔ t.err≠0
 at0:0≤t.at_∧t.at_≤9223372036854775807
 out:t.att=none → t.start=0∧t.saved=zero8∧t.fuel=0
 ins:∀ s,t.att=some s → t.st=1∧opAt p t.start=12∧(0≤t.fuel∧t.fuel≤4096)∧May s∧s.phase≠10∧placed p t s
structure TWide (t:TS):Prop where
 regs:t.regs.length=8∧∀ v ∈ t.regs,W64 v
 saved:t.saved.length=8∧∀ v ∈ t.saved,W64 v
 att:∀ s,t.att=some s → Wide s
end Go.Proofs.YtehopaabfoopeaaGreat
set_option linter.unusedSimpArgs false
set_option linter.unusedVariables false
set_option maxRecDepth 100000
namespace Go.Proofs.YtehopaabfoopeaaGreat
open Go.RowKit
section
variable {F:Fence} {n:Nat} {P:Program} {ops:Array Oper} {C:World → Prop}
end
end Go.Proofs.YtehopaabfoopeaaGreat
set_option linter.unusedSimpArgs false
set_option linter.unusedVariables false
set_option maxRecDepth 100000
namespace Go.Proofs.YtehopaabfoopeaaGreat
open Go.RowKit
section
variable {n l:Nat} {P:Program} {ops:Array Oper} {Q:Exit → Act → World → Prop} {md:Region.Mode}
end
end Go.Proofs.YtehopaabfoopeaaGreat
set_option linter.unusedSimpArgs false
set_option linter.unusedVariables false
set_option maxRecDepth 100000
namespace Go.Proofs.YtehopaabfoopeaaGreat
open Go.RowKit
section
variable {n lr:Nat} {P:Program} {ops:Array Oper} {Q:Exit → Act → World → Prop} {md:Region.Mode} {S:World → Prop}
def ordFrom (md:Region.Mode) (ops:Array Oper):List Nat → Array Bool → Bool
 | [],L=>(Region.ready md ops L).isEmpty
 | i :: rest,L=>(Region.ready md ops L).contains i && Region.free md ops L i && ordFrom md ops rest (L.setIfInBounds i true)
def ordB (md:Region.Mode) (ops:Array Oper) (order:List Nat):Bool:=Region.noSelect ops && decide (order.length=ops.size) && ordFrom md ops order (Array.replicate ops.size false)
end
end Go.Proofs.YtehopaabfoopeaaGreat
set_option linter.unusedSimpArgs false
set_option linter.unusedVariables false
set_option maxRecDepth 100000
namespace Go.Proofs.YtehopaabfoopeaaGreat
open Go.RowKit
section
variable {lr:Nat} {P:Program} {ops:Array Oper} {Q:Exit → Act → World → Prop} {md:Region.Mode} {S:World → Prop}
def wpB (P:Program) (md:Region.Mode) (ops:Array Oper) (Q:Exit → Act → World → Prop) (S:World → Prop):Nat → List Nat → Array Bool → Act → World → Prop
 | 0,_,L,a,w=>Region.ready md ops L=[]∧Q .normal a w
 | n+1,l,L,a,w =>
   (∃ i rest o v,l=i :: rest∧ops[i]? = some o∧((Region.ready md ops L).contains i && Region.free md ops L i)=true∧YieldsIf P ops S o v a∧wpB P md ops Q S n rest (L.setIfInBounds i true) (a.put o.dst v) w) ∨
   (Region.ready md ops L≠[]∧∀ j ∈ Region.ready md ops L,∃ rest,wpOp P ops Q j (fun a' w'=>S w'∧wpB P md ops Q S n rest (L.setIfInBounds j true) a' w') a w)
theorem wpAnyE_B (hsel:Region.noSelect ops=true) (hQ:∀ c d (v:Value) a w,Q (.panic c) (a.put d v) w → Q (.panic c) a w) :
  ∀ (n:Nat) (l:List Nat) (L:Array Bool) (a:Act) (w:World),Shut md ops L → S w → wpB P md ops Q S n l L a w → wpAnyE P md ops Q S ops.size n L a w
 | 0,_,_,_,_,_,_,h=>h
 | n+1,l,L,a,w,inv,hS,h=>by
  rcases h with ⟨i,rest,o,v,_,ho,hrf,hy,hK⟩ | ⟨hne,hK⟩
  ·simp only [Bool.and_eq_true] at hrf
   have hr':i ∈ Region.ready md ops L:=by simpa using hrf.1
   have hi:i<ops.size:=(Array.getElem?_eq_some_iff.1 ho).1
   exact wpAnyE_first ho (Region.noSelect_spec hsel) (fun c a w=>hQ c _ _ a w) (fun j i h1 h2 h3=>absurd h3 (by omega)) hi n L a w inv (Region.free_spec ho hrf.2) hr' hy hS
    (wpAnyE_B hsel hQ n rest _ _ _ (inv.set hr') hS hK)
  ·refine ⟨hne,fun j hj=>?_⟩
   obtain ⟨rest,hK⟩:=hK j hj
   exact wpOp_mono (fun a' w' h'=>⟨.inr h'.1,wpAnyE_B hsel hQ n rest _ _ _ (inv.set hj) h'.1 h'.2⟩) hK
theorem wpAny_B {l:List Nat} {a:Act} {w:World} (hQ:∀ c d (v:Value) a w,Q (.panic c) (a.put d v) w → Q (.panic c) a w) (hsel:Region.noSelect ops=true) (hS:S w)
  (h:wpB P md ops Q S ops.size l (Array.replicate ops.size false) a w):wpAny P md ops Q ops.size (Array.replicate ops.size false) a w:=by
 have inv0:Shut md ops (Array.replicate ops.size false):=⟨by simp,fun j oj _ hl=>(by rw [getD_replicate_false] at hl; cases hl)⟩
 exact wpAny_of_E _ _ _ _ (wpAnyE_B (P:=P) hsel hQ _ l _ a w inv0 hS h)
theorem wp_region_br {id:Nat} {a:Act} {w:World} {l:List Oper} (S:World → Prop) (order:List Nat) (hm:P.follows .mixedOrders=true) (hsel:Region.noSelect l.toArray=true) (hS:S w.drew)
  (h:wpB P .any l.toArray (NoPanic Q) S l.toArray.size order (Array.replicate l.toArray.size false) a w.drew):(Code.region id l.toArray true).wp P Q a w:=
 wp_region_noPanic (wp_region_any hm (wpAny_B (fun c d v a w h=>h) hsel hS h))
theorem wpB_take {l:List Oper} {n i d:Nat} {o:Oper} {rest:List Nat} {v:Value} {L:Array Bool} {a:Act} {w:World} (ho:l[i]? = some o) (hd:o.dst=some d) (hr:((Region.ready md l.toArray L).contains i && Region.free md l.toArray L i)=true)
  (hw:Region.wanted o (yielded l.toArray a.tmps)=true) (hv:∀ w,S w → (execOp a.eval o).run P w=.ok (.value v) w)
  (h:wpB P md l.toArray Q S n rest (L.setIfInBounds i true) (a.put (some d) v) w):wpB P md l.toArray Q S (n+1) (i :: rest) L a w:=
 .inl ⟨i,rest,o,v,rfl,by simpa using ho,hr,.inl ⟨hw,hv⟩,by rw [hd]; exact h⟩
theorem wpB_skip {l:List Oper} {n i:Nat} {o:Oper} {rest:List Nat} {L:Array Bool} {a:Act} {w:World} (ho:l[i]? = some o) (hr:((Region.ready md l.toArray L).contains i && Region.free md l.toArray L i)=true)
  (hw:Region.wanted o (yielded l.toArray a.tmps)=false)
  (h:wpB P md l.toArray Q S n rest (L.setIfInBounds i true) (a.put o.dst undef) w):wpB P md l.toArray Q S (n+1) (i :: rest) L a w:=
 .inl ⟨i,rest,o,undef,rfl,by simpa using ho,hr,.inr ⟨hw,rfl⟩,h⟩
theorem wpB_op {l:List Oper} {n i:Nat} {o:Oper} {rest:List Nat} {L:Array Bool} {a:Act} {w:World} (ho:l[i]? = some o) (hw:Region.wanted o (yielded l.toArray a.tmps)=true)
  (h:∀ K:Act → World → Prop,Go.Shut (∀ a' w',S w' → wpB P md l.toArray Q S n rest (L.setIfInBounds i true) a' w' → K a' w') → Oper.wp P o a w K Q) :
  wpOp P l.toArray Q i (fun a' w'=>S w'∧wpB P md l.toArray Q S n rest (L.setIfInBounds i true) a' w') a w:=by
 have ho':l.toArray[i]? = some o:=by simpa using ho
 unfold wpOp
 simp only [ho',hw,if_true]
 exact .inl (h _ fun a' w' h1 h2=>⟨h1,h2⟩)
theorem wpB_eff {l:List Oper} {n i:Nat} {o:Oper} {rest:List Nat} {L:Array Bool} {a:Act} {w:World} (ho:l[i]? = some o) (hr:Region.ready md l.toArray L=[i]) (hw:Region.wanted o (yielded l.toArray a.tmps)=true)
  (h:∀ K:Act → World → Prop,Go.Shut (∀ a' w',S w' → wpB P md l.toArray Q S n rest (L.setIfInBounds i true) a' w' → K a' w') → Oper.wp P o a w K Q):wpB P md l.toArray Q S (n+1) (i :: rest) L a w:=
 .inr ⟨by rw [hr]; simp,fun j hj=>by
  rw [hr] at hj
  obtain rfl:j=i:=by simpa using hj
  exact ⟨rest,wpB_op ho hw h⟩⟩
theorem wpB_two {l:List Oper} {n i j:Nat} {o o2:Oper} {rest:List Nat} (rest2:List Nat) {L:Array Bool} {a:Act} {w:World} (hr:Region.ready md l.toArray L=[i,j]) (ho:l[i]? = some o) (ho2:l[j]? = some o2)
  (hw:Region.wanted o (yielded l.toArray a.tmps)=true) (hw2:Region.wanted o2 (yielded l.toArray a.tmps)=true)
  (h:∀ K:Act → World → Prop,Go.Shut (∀ a' w',S w' → wpB P md l.toArray Q S n rest (L.setIfInBounds i true) a' w' → K a' w') → Oper.wp P o a w K Q)
  (h2:∀ K:Act → World → Prop,Go.Shut (∀ a' w',S w' → wpB P md l.toArray Q S n rest2 (L.setIfInBounds j true) a' w' → K a' w') → Oper.wp P o2 a w K Q):wpB P md l.toArray Q S (n+1) (i :: rest) L a w:=
 .inr ⟨by rw [hr]; simp,fun k hk=>by
  rw [hr] at hk
  have hk:k=i∨k=j:=by simpa using hk
  rcases hk with rfl | rfl
  ·exact ⟨rest,wpB_op ho hw h⟩
  ·exact ⟨rest2,wpB_op ho2 hw2 h2⟩⟩
theorem wpB_end {l:List Nat} {L:Array Bool} {a:Act} {w:World} (hr:Region.ready md ops L=[]) (h:Q .normal a w):wpB P md ops Q S 0 l L a w:=⟨hr,h⟩
end
end Go.Proofs.YtehopaabfoopeaaGreat
set_option linter.unusedSimpArgs false
set_option linter.unusedVariables false
set_option maxRecDepth 100000
namespace Go.Proofs.YtehopaabfoopeaaGreat
open Go.RowKit
section
variable {n lr:Nat} {P:Program} {ops:Array Oper} {Q:Exit → Act → World → Prop} {md:Region.Mode} {S:World → Prop} {T:List Nat}
def wpAnyT (P:Program) (md:Region.Mode) (ops:Array Oper) (Q:Exit → Act → World → Prop) (S:World → Prop) (T:List Nat):Nat → Array Bool → Act → World → Prop
 | 0,listed,a,w=>Region.ready md ops listed=[]∧Q .normal a w
 | fuel+1,listed,a,w=>Region.ready md ops listed≠[]∧∀ i ∈ Region.ready md ops listed,wpOp P ops Q i (fun a' w'=>(i ∈ T∨S w')∧wpAnyT P md ops Q S T fuel (listed.setIfInBounds i true) a' w') a w
theorem wpAny_of_T:∀ (fuel:Nat) (listed:Array Bool) (a:Act) (w:World),wpAnyT P md ops Q S T fuel listed a w → wpAny P md ops Q fuel listed a w
 | 0,_,_,_,h=>h
 | fuel+1,_,_,_,h=>⟨fun h0=>absurd h0 h.1,fun i hi=>wpOp_mono (fun a' w' h'=>wpAny_of_T fuel _ a' w' h'.2) (h.2 i hi)⟩
def TWaits (md:Region.Mode) (ops:Array Oper) (T:List Nat):Prop:=∀ j i,j ∈ T → i ∉ T → i<ops.size → anchored md ops j (j+1) i=true
theorem wpAnyT_first {i:Nat} {oi:Oper} {v:Value} (hi:ops[i]? = some oi) (hsel:∀ (j:Nat) (o:Oper) cs b,ops[j]? = some o → o.op≠.select cs b)
  (hQ:∀ c a w,Q (.panic c) (a.put oi.dst v) w → Q (.panic c) a w) (hl:TWaits md ops T) (hit:i ∉ T) :
  ∀ (fuel:Nat) (listed:Array Bool) (a:Act) (w:World),Shut md ops listed →
   (∀ j oj,ops[j]? = some oj → j≠i → listed.getD j true=false → (∀ e ∈ oj.after,Region.binds md e=true → e.on≠i) → oi.apart ops oj=true) →
   i ∈ Region.ready md ops listed → YieldsIf P ops S oi v a → S w →
   wpAnyT P md ops Q S T fuel (listed.setIfInBounds i true) (a.put oi.dst v) w → wpAnyT P md ops Q S T (fuel+1) listed a w:=by
 intro fuel
 induction fuel with
 | zero =>
  intro listed a w inv _ hr hy hS H
  refine ⟨fun h=>(by rw [h] at hr; cases hr),fun j hj=>?_⟩
  by_cases hji:j=i
  ·subst hji; exact hy.wpOp hi hS ⟨.inr hS,H⟩
  ·have:=ready_mono hj hji
   rw [H.1] at this
   cases this
 | succ fuel ih =>
  intro listed a w inv hfree hr hy hS H
  refine ⟨fun h=>(by rw [h] at hr; cases hr),fun j hj=>?_⟩
  by_cases hji:j=i
  ·subst hji; exact hy.wpOp hi hS ⟨.inr hS,H⟩
  ·have h1:=H.2 j (ready_mono hj hji)
   obtain ⟨hjun,oj,hoj,hall⟩:=mem_ready.1 hj
   have hiun:=(mem_ready.1 hr).1
   have hnot:∀ e ∈ oj.after,Region.binds md e=true → e.on≠i:=fun e he hb heq=>by
    have h1:=hall e he hb
    rw [heq,getD_both hiun] at h1
    cases h1
   have h2:=wpOp_putIf hoj (hfree j oj hoj hji hjun hnot) (fun cs b=>hsel i oi cs b hi) (fun cs b=>hsel j oj cs b hoj) hQ hy h1
   have hfree':∀ k ok,ops[k]? = some ok → k≠i → (listed.setIfInBounds j true).getD k true=false →
     (∀ e ∈ ok.after,Region.binds md e=true → e.on≠i) → oi.apart ops ok=true:=fun k ok hk hki hun hno=>by
    refine hfree k ok hk hki ?_ hno
    by_cases hjk:j=k
    ·subst hjk; exact hjun
    ·rw [getD_set_ne true hjk] at hun; exact hun
   have hjl:¬ j ∈ T:=by
    intro e
    have hsz:j<ops.size:=(Array.getElem?_eq_some_iff.1 hoj).1
    have hsi:i<ops.size:=(Array.getElem?_eq_some_iff.1 hi).1
    have ha:=hl j i e hit hsi
    have hset:(listed.setIfInBounds j true).getD j false=true:=by simp [inv.size,hsz]
    have:=anchored_listed (inv.set hj) hset _ i ha
    rw [getD_set_ne false hji,getD_both hiun] at this
    cases this
   refine wpOp_mono (fun a' w' h3=>?_) h2
   have hSw:S w':=h3.2.1.resolve_left hjl
   refine ⟨.inr hSw,ih (listed.setIfInBounds j true) a' w' (inv.set hj) hfree' (ready_mono hr (Ne.symm hji)) h3.1 hSw ?_⟩
   rw [Array.setIfInBounds_comm _ _ hji]
   exact h3.2.2
def wpT (P:Program) (md:Region.Mode) (ops:Array Oper) (Q:Exit → Act → World → Prop) (S:World → Prop) (T:List Nat):List Nat → Array Bool → Act → World → Prop
 | [],_,a,w=>Q .normal a w
 | i :: rest,L,a,w=>∃ o,ops[i]? = some o ∧
   ((∃ v,(i ∉ T)∧S w∧YieldsIf P ops S o v a∧wpT P md ops Q S T rest (L.setIfInBounds i true) (a.put o.dst v) w) ∨
    (Region.ready md ops L=[i]∧wpOp P ops Q i (fun a' w'=>(i ∈ T∨S w')∧wpT P md ops Q S T rest (L.setIfInBounds i true) a' w') a w))
def tailsB (md:Region.Mode) (ops:Array Oper) (T:List Nat):Bool:=T.all fun j=>(List.range ops.size).all fun i=>T.contains i || anchored md ops j (j+1) i
def ordT (md:Region.Mode) (ops:Array Oper) (order T:List Nat):Bool:=ordB md ops order && tailsB md ops T
theorem wpAnyT_ord (hsel:Region.noSelect ops=true) (hQ:∀ c d (v:Value) a w,Q (.panic c) (a.put d v) w → Q (.panic c) a w) (hT:TWaits md ops T) :
  ∀ (l:List Nat) (L:Array Bool) (a:Act) (w:World),Shut md ops L → ordFrom md ops l L=true → wpT P md ops Q S T l L a w → wpAnyT P md ops Q S T l.length L a w
 | [],L,a,w,_,hB,h=>⟨by simpa [ordFrom] using hB,h⟩
 | i :: l,L,a,w,inv,hB,h=>by
  simp only [ordFrom,Bool.and_eq_true] at hB
  obtain ⟨⟨hr,hf⟩,hB'⟩:=hB
  have hr':i ∈ Region.ready md ops L:=by simpa using hr
  obtain ⟨o,ho,h⟩:=h
  rcases h with ⟨v,hi,hS,hy,hK⟩ | ⟨honly,hK⟩
  ·exact wpAnyT_first ho (Region.noSelect_spec hsel) (fun c a w=>hQ c _ _ a w) hT hi l.length L a w inv (Region.free_spec ho hf) hr' hy hS
    (wpAnyT_ord hsel hQ hT l _ _ _ (inv.set hr') hB' hK)
  ·refine ⟨fun h=>(by rw [h] at hr'; cases hr'),fun j hj=>?_⟩
   rw [honly] at hj
   obtain rfl:j=i:=by simpa using hj
   refine wpOp_mono (fun a' w' h'=>⟨h'.1,?_⟩) hK
   exact wpAnyT_ord hsel hQ hT l _ _ _ (inv.set hr') hB' h'.2
theorem wp_region_ordT {id:Nat} {a:Act} {w:World} {l:List Oper} (S:World → Prop) (order T:List Nat) (hm:P.follows .mixedOrders=true) (hB:ordT .any l.toArray order T=true)
  (h:wpT P .any l.toArray (NoPanic Q) S T order (Array.replicate l.toArray.size false) a w.drew):(Code.region id l.toArray true).wp P Q a w:=by
 refine wp_region_noPanic (wp_region_any hm ?_)
 simp only [ordT,ordB,Bool.and_eq_true,decide_eq_true_eq] at hB
 obtain ⟨⟨⟨hsel,hl⟩,hB⟩,hT⟩:=hB
 have hTW:TWaits .any l.toArray T:=fun j i hj hi hs=>by
  unfold tailsB at hT
  simp only [List.all_eq_true,List.mem_range,Bool.or_eq_true] at hT
  rcases hT j hj i hs with k | k
  ·exact absurd (by simpa using k) hi
  ·exact k
 have inv0:Shut .any l.toArray (Array.replicate l.toArray.size false):=⟨by simp,fun j oj _ hl=>(by rw [getD_replicate_false] at hl; cases hl)⟩
 have:=wpAnyT_ord (P:=P) (S:=S) (Q:=NoPanic Q) hsel (fun c d v a w h=>h) hTW order _ a w.drew inv0 hB h
 rw [hl] at this
 exact wpAny_of_T _ _ _ _ this
theorem wpT_take {l:List Oper} {i d:Nat} {o:Oper} {rest:List Nat} {v:Value} {L:Array Bool} {a:Act} {w:World} (ho:l[i]? = some o) (hi:i ∉ T) (hS:S w) (hd:o.dst=some d) (hw:Region.wanted o (yielded l.toArray a.tmps)=true) (hv:∀ w,S w → (execOp a.eval o).run P w=.ok (.value v) w)
  (h:wpT P md l.toArray Q S T rest (L.setIfInBounds i true) (a.put (some d) v) w):wpT P md l.toArray Q S T (i :: rest) L a w:=
 ⟨o,by simpa using ho,.inl ⟨v,hi,hS,.inl ⟨hw,hv⟩,by rw [hd]; exact h⟩⟩
theorem wpT_eff {l:List Oper} {i:Nat} {o:Oper} {rest:List Nat} {L:Array Bool} {a:Act} {w:World} (ho:l[i]? = some o) (hr:Region.ready md l.toArray L=[i]) (hw:Region.wanted o (yielded l.toArray a.tmps)=true)
  (h:∀ K:Act → World → Prop,Go.Shut (∀ a' w',S w' → wpT P md l.toArray Q S T rest (L.setIfInBounds i true) a' w' → K a' w') → Oper.wp P o a w K Q):wpT P md l.toArray Q S T (i :: rest) L a w:=
 ⟨o,by simpa using ho,.inr ⟨hr,by
  have ho':l.toArray[i]? = some o:=by simpa using ho
  unfold wpOp
  simp only [ho',hw,if_true]
  exact .inl (h _ fun a' w' h1 h2=>⟨.inr h1,h2⟩)⟩⟩
theorem wpT_last {l:List Oper} {i:Nat} {o:Oper} {rest:List Nat} {L:Array Bool} {a:Act} {w:World} (ho:l[i]? = some o) (hi:i ∈ T) (hr:Region.ready md l.toArray L=[i]) (hw:Region.wanted o (yielded l.toArray a.tmps)=true)
  (h:∀ K:Act → World → Prop,Go.Shut (∀ a' w',wpT P md l.toArray Q S T rest (L.setIfInBounds i true) a' w' → K a' w') → Oper.wp P o a w K Q):wpT P md l.toArray Q S T (i :: rest) L a w:=
 ⟨o,by simpa using ho,.inr ⟨hr,by
  have ho':l.toArray[i]? = some o:=by simpa using ho
  unfold wpOp
  simp only [ho',hw,if_true]
  exact .inl (h _ fun a' w' h2=>⟨.inl hi,h2⟩)⟩⟩
theorem wpT_end {L:Array Bool} {a:Act} {w:World} (h:Q .normal a w):wpT P md ops Q S T [] L a w:=h
end
end Go.Proofs.YtehopaabfoopeaaGreat
