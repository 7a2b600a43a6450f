/- The contracts of the clock, function by function: a clock that is there. Slices of the call's own (ownsRow) beside blocks known whole. No condition. Regions that draw their order: a head whose operations come to the same in every world of a class (calls that only make memory among them), and a tail that waits for the head, walked in the order of the text. The condition: the region's own shape. Regions that draw their order: all operations come to the same in every world of a family, but for one store, behind which only copies may come up late. One walk in the order of the text serves every order. The condition: the region's own shape. Regions that draw their order, walked in the order of the text: what only looks (at cells that no effect ahead of it may turn) yields; an effect (a call, a store, an allocation) comes up when it alone may come up; a tail that waits for all else is walked as a plain list, and need not keep the condition on the world. The condition: the region's own shape. An attempt of the program in memory, and its small functions and steps. No conditions. -/
import Derived.Test.YtehopaabfoopeaaGreatTz00
import Derived.StillTailTactics
import Derived.Deep.QuietTactic
import Derived.BigQuiet
import Derived.Deep.RegionHeld3
import Derived.Maps.OwnSet
import Derived.Maps.AppendAt
set_option linter.unusedSimpArgs false
set_option linter.unusedVariables false
set_option maxRecDepth 100000
namespace Go.Proofs.YtehopaabfoopeaaGreat
open Go.RowKit
structure ClockAt (w:World) (c a b:Nat) (word steps:Int):Prop where
 head:Blk w c [.pointer (some ⟨a,0,none⟩),.int .i64 steps] 82
 row:∃ acc,RowAt w a b [word] acc
 nea:c≠a
 neb:c≠b
section
variable {w w':World} {c a b:Nat} {word steps:Int}
theorem ClockAt.upd {S:List Nat} (h:ClockAt w c a b word steps) (k:Upd S w w') (hc:c ∉ S) (ha:a ∉ S) (hb:b ∉ S):ClockAt w' c a b word steps:=
 ⟨h.head.upd k hc,let ⟨acc,r⟩:=h.row; ⟨acc,r.upd k ha hb⟩,h.nea,h.neb⟩
theorem ClockAt.ltc (h:ClockAt w c a b word steps):c<w.heap.size:=h.head.lt
theorem ClockAt.lta (h:ClockAt w c a b word steps):a<w.heap.size:=let ⟨_,r⟩:=h.row; r.lta
theorem ClockAt.ltb (h:ClockAt w c a b word steps):b<w.heap.size:=let ⟨_,r⟩:=h.row; r.ltb
end
theorem none_false (c:Nat) (a:Addr) (w:World) (h:w.cell? ⟨c,0,none⟩=some (.pointer (some a))) :
  Calls Tryz.prog 49 #[.pointer (some ⟨c,0,none⟩)] w fun e w'=>e=.returned (.bool false)∧w=w':=by
 go_enter Tryz.func49,Tryz.ntmps49
 go_wp2
 go_ret
 exact ⟨rfl,rfl⟩
theorem step_d (c:Nat) (n:Int) (u:FrameMode) (w:World) (h:w.cell? ⟨c,1,none⟩=some (.int .i64 n)) (hf:w.frozen? ⟨c,1,none⟩=false):
  CallsD Tryz.prog 53 #[.pointer (some ⟨c,0,none⟩)] u w fun e u' w'=>u'=u∧e=.returned (.tuple #[])∧w.setCell ⟨c,1,none⟩ (.int .i64 (wrap64 (n+1)))=w':=by
 go_enter_d Tryz.func53,Tryz.ntmps53
 go_wp2
 go_end0
 exact ⟨rfl,rfl⟩
theorem ClockAt.stepped {w:World} {c a b:Nat} {word steps:Int} (h:ClockAt w c a b word steps) (n:Int):ClockAt (w.setCell ⟨c,1,none⟩ (.int .i64 n)) c a b word n:=
 ⟨h.head.set 1 _,let ⟨acc,r⟩:=h.row; ⟨acc,r.upd ((Upd.refl [c] _).setCell (.inl (by simp)) _) (by simpa using h.nea.symm) (by simpa using h.neb.symm)⟩,h.nea,h.neb⟩
def opn (n:Int):Bool:=bits BinOp.and IntKind.u64 n 1 == 0
theorem opn_eq {n:Int} (h0:0≤n) (h1:n<18446744073709551616):opn n=decide (n % 2=0):=by
 unfold opn
 rw [u64_and n 1 h0 h1 (by omega) (by omega)]
 have:n.toNat &&& (1:Int).toNat=n.toNat % 2:=nat_mask1 _
 rw [this,Bool.eq_iff_iff]
 simp
 omega
theorem open_any (n:Int) (w:World) :
  Calls Tryz.prog 93 #[.int .u64 n] w fun e w'=>e=.returned (.bool (opn n))∧w=w':=by
 go_enter Tryz.func93,Tryz.ntmps93
 go_wp2
 go_ret
 exact ⟨rfl,rfl⟩
theorem ClockAt.mid {w w':World} {c a b:Nat} {word word' steps acc':Int} (h:ClockAt w c a b word steps) (r:RowAt w' a b [word'] acc') (u:Upd [a,b] w w'):ClockAt w' c a b word' steps:=
 ⟨h.head.upd u (by simp [h.nea,h.neb]),⟨_,r⟩,h.nea,h.neb⟩
theorem clkLoad {w:World} {c a b:Nat} {word steps:Int} (h:ClockAt w c a b word steps) :
  Calls Tryz.prog 30 #[.pointer (some ⟨c,0,none⟩)] w fun e w'=>e=.returned (.tuple #[.int .u64 word,.int .i64 0])∧ClockAt w' c a b word (wrap64 (steps+1))∧Upd [c,a,b] w w':=by
 obtain ⟨acc,r⟩:=h.row
 have h0:=h.head.cell 0 rfl
 refine calls_all fun K hK=>?_
 go_enter_defers Tryz.func30,Tryz.ntmps30
 go_wp2_with (first | (go_at_call 49; refine (none_false _ _ _ h0).mono ?_; rintro e w' ⟨rfl,rfl⟩) | (go_at_call 29; refine (load_any r 0 (by omega)).mono ?_; rintro e w' ⟨rfl,r1,u1⟩))
 have u2:Upd [a,b] w w':=u1.mono (T:=[a,b]) (by simp)
 have k:=h.mid r1 u2
 refine leaves_cons (f:=53) (args:=#[.pointer (some ⟨c,0,none⟩)]) (by simp) (by simp [go_sem]) ?_
 refine (step_d c steps .returning _ (k.head.cell 1 rfl) (k.head.free 1)).mono ?_
 rintro e u' w'' ⟨rfl,rfl,rfl⟩
 exact ⟨_,results_tmp2 rfl _ _ _,hK _ _ ⟨rfl,k.stepped _,(u2.mono (T:=[c,a,b]) (by simp)).setCell (.inl (by simp)) _⟩⟩
def heldRes (b:Bool):Int:=if b then 0 else 160
def heldWord (b:Bool) (x word:Int):Int:=if b then x else word
def takes (word s:Int):Bool:=opn s && (word == s)
theorem clkTake {w:World} {c a b:Nat} {word steps:Int} (hC:ClockAt w c a b word steps) (s:Int) :
  Calls Tryz.prog 113 #[.pointer (some ⟨c,0,none⟩),.int .u64 s] w fun e w' =>
   e=.returned (.tuple #[.bool (takes word s),.int .i64 0])∧ClockAt w' c a b (heldWord (takes word s) (up64 s) word) (wrap64 (steps+1))∧Upd [c,a,b] w w':=by
 obtain ⟨acc,r⟩:=hC.row
 have h0:=hC.head.cell 0 rfl
 by_cases ho:opn s=true
 ·have ht:takes word s=rHit [word] 0 s:=by simp [takes,ho,rHit,wd]
  rw [ht]
  refine calls_to (R:=fun e w'=>e=.returned (.tuple #[.bool (rHit [word] 0 s),.int .i64 (rLoad [word] 0).2])∧∃ w1,(RowAt w1 a b (if rHit [word] 0 s then [word].set (0:Int).toNat (up64 s) else [word]) (up64 acc)∧Upd [a,b] w w1)∧w1.setCell ⟨c,1,none⟩ (.int .i64 (wrap64 (steps+1)))=w') ?_
   (fun e w' ⟨he,w1,⟨r1,u1⟩,hw⟩=>⟨he,by
    rw [← hw]
    generalize rHit [word] 0 s=hit at *
    cases hit <;> exact (hC.mid r1 u1).stepped _,by rw [← hw]; exact (u1.mono (T:=[c,a,b]) (by simp)).setCell (.inl (by simp)) _⟩)
  refine calls_all fun K hK=>?_
  go_enter_defers Tryz.func113,Tryz.ntmps113
  go_wp2_with (first | (go_at_call 49; refine (none_false _ _ _ h0).mono ?_; rintro e w' ⟨rfl,rfl⟩) | (go_at_call 93; refine (open_any _ _).mono ?_; rintro e w' ⟨rfl,rfl⟩) | (go_at_call 117; refine (swap_any r 0 _ _ (by omega)).mono ?_; rintro e w' ⟨rfl,r1,u1⟩))
  have k:=hC.head.upd u1 (by simp [hC.nea,hC.neb])
  refine leaves_cons (f:=53) (args:=#[.pointer (some ⟨c,0,none⟩)]) (by simp) (by simp [go_sem]) ?_
  refine (step_d c steps .returning _ (k.cell 1 rfl) (k.free 1)).mono ?_
  rintro e u' w'' ⟨rfl,rfl,rfl⟩
  exact ⟨_,results_tmp2 rfl _ _ _,hK _ _ ⟨rfl,w',⟨r1,u1⟩,rfl⟩⟩
 ·have ho':opn s=false:=by simpa using ho
  have ht:takes word s=false:=by simp [takes,ho']
  rw [ht]
  show Calls _ _ _ _ fun e w'=>e=.returned (.tuple #[.bool false,.int .i64 0])∧ClockAt w' c a b word (wrap64 (steps+1))∧Upd [c,a,b] w w'
  have hs:=hC.head.cell 1 rfl
  have hf:=hC.head.free 1
  have k:=hC.stepped (wrap64 (steps+1))
  have ku:Upd [c,a,b] w (w.setCell ⟨c,1,none⟩ (.int .i64 (wrap64 (steps+1)))):=(Upd.refl _ _).setCell (.inl (by simp)) _
  refine calls_all fun K hK=>?_
  go_enter_defers Tryz.func113,Tryz.ntmps113
  go_wp2_with (first | (go_at_call 49; refine (none_false _ _ _ h0).mono ?_; rintro e w' ⟨rfl,rfl⟩) | (go_at_call 93; refine (open_any _ _).mono ?_; rintro e w' ⟨rfl,rfl⟩))
  refine leaves_cons (f:=53) (args:=#[.pointer (some ⟨c,0,none⟩)]) (by simp) (by simp [go_sem]) ?_
  refine (step_d c steps .returning _ hs hf).mono ?_
  rintro e u' w'' ⟨rfl,rfl,rfl⟩
  exact ⟨_,results_tmp2 rfl _ _ _,hK _ _ ⟨rfl,k,ku⟩⟩
def holds (word s:Int):Bool:=opn s && (word == up64 s)
theorem clkSet {w:World} {c a b:Nat} {word steps:Int} (hC:ClockAt w c a b word steps) (s x:Int) :
  Calls Tryz.prog 118 #[.pointer (some ⟨c,0,none⟩),.int .u64 s,.int .u64 x] w fun e w' =>
   e=.returned (.int .i64 (heldRes (holds word s)))∧ClockAt w' c a b (heldWord (holds word s) x word) (wrap64 (steps+1))∧Upd [c,a,b] w w':=by
 obtain ⟨acc,r⟩:=hC.row
 have h0:=hC.head.cell 0 rfl
 by_cases ho:opn s=true
 ·have ht:holds word s=rHit [word] 0 (up64 s):=by simp [holds,ho,rHit,wd]
  rw [ht]
  obtain ⟨hit,hh⟩:∃ hit,hit=rHit [word] 0 (up64 s):=⟨_,rfl⟩
  have sw:=swap_any r 0 (up64 s) x (by omega)
  rw [← hh] at sw ⊢
  have SW:=Lib.hid sw
  clear sw hh ht
  refine calls_to (R:=fun e w'=>e=.returned (.int .i64 (heldRes hit))∧∃ w1,(RowAt w1 a b (if hit then [word].set (0:Int).toNat x else [word]) (up64 acc)∧Upd [a,b] w w1)∧w1.setCell ⟨c,1,none⟩ (.int .i64 (wrap64 (steps+1)))=w') ?_
   (fun e w' ⟨he,w1,⟨r1,u1⟩,hw⟩=>⟨he,by
    rw [← hw]
    by_cases hh:hit=true
    ·subst hh; exact (hC.mid r1 u1).stepped _
    ·simp at hh; subst hh; exact (hC.mid r1 u1).stepped _,by rw [← hw]; exact (u1.mono (T:=[c,a,b]) (by simp)).setCell (.inl (by simp)) _⟩)
  cases hit
  all_goals
   refine calls_all fun K hK=>?_
   go_enter_defers Tryz.func118,Tryz.ntmps118
   go_wp2_with (first | (go_at_call 49; refine (none_false _ _ _ h0).mono ?_; rintro e w' ⟨rfl,rfl⟩) | (go_at_call 93; refine (open_any _ _).mono ?_; rintro e w' ⟨rfl,rfl⟩) | (go_at_call 117; refine SW.out.mono ?_; rintro e w' ⟨rfl,r1,u1⟩))
   have k:=hC.head.upd u1 (by simp [hC.nea,hC.neb])
   refine leaves_cons (f:=53) (args:=#[.pointer (some ⟨c,0,none⟩)]) (by simp) (by simp [go_sem]) ?_
   refine (step_d c steps .returning _ (k.cell 1 rfl) (k.free 1)).mono ?_
   rintro e u' w'' ⟨rfl,rfl,rfl⟩
   exact ⟨_,results_tmp rfl _ _ _,hK _ _ ⟨rfl,w',⟨r1,u1⟩,rfl⟩⟩
 ·have ho':opn s=false:=by simpa using ho
  have ht:holds word s=false:=by simp [holds,ho']
  rw [ht]
  show Calls _ _ _ _ fun e w'=>e=.returned (.int .i64 160)∧ClockAt w' c a b word (wrap64 (steps+1))∧Upd [c,a,b] w w'
  have hs:=hC.head.cell 1 rfl
  have hf:=hC.head.free 1
  have k:=hC.stepped (wrap64 (steps+1))
  have ku:Upd [c,a,b] w (w.setCell ⟨c,1,none⟩ (.int .i64 (wrap64 (steps+1)))):=(Upd.refl _ _).setCell (.inl (by simp)) _
  refine calls_all fun K hK=>?_
  go_enter_defers Tryz.func118,Tryz.ntmps118
  go_wp2_with (first | (go_at_call 49; refine (none_false _ _ _ h0).mono ?_; rintro e w' ⟨rfl,rfl⟩) | (go_at_call 93; refine (open_any _ _).mono ?_; rintro e w' ⟨rfl,rfl⟩))
  refine leaves_cons (f:=53) (args:=#[.pointer (some ⟨c,0,none⟩)]) (by simp) (by simp [go_sem]) ?_
  refine (step_d c steps .returning _ hs hf).mono ?_
  rintro e u' w'' ⟨rfl,rfl,rfl⟩
  exact ⟨_,results_tmp rfl _ _ _,hK _ _ ⟨rfl,k,ku⟩⟩
def up64b (s:Int):Int:=IntKind.u64.wrap (s+2)
theorem clkLeave {w:World} {c a b:Nat} {word steps:Int} (hC:ClockAt w c a b word steps) (s:Int) :
  Calls Tryz.prog 114 #[.pointer (some ⟨c,0,none⟩),.int .u64 s] w fun e w' =>
   e=.returned (.int .i64 (heldRes (holds word s)))∧ClockAt w' c a b (heldWord (holds word s) (up64b s) word) (wrap64 (steps+1))∧Upd [c,a,b] w w':=by
 have SW:=Lib.hid (clkSet hC s (up64b s))
 refine calls_all fun K hK=>?_
 go_enter Tryz.func114,Tryz.ntmps114
 go_wp2_with (go_at_call 118; refine SW.out.mono ?_; rintro e w' ⟨rfl,h1,h2⟩)
 exact ⟨rfl,h1,h2⟩
theorem clkSteps {w:World} {c a b:Nat} {word steps:Int} (h:ClockAt w c a b word steps) :
  Calls Tryz.prog 34 #[.pointer (some ⟨c,0,none⟩)] w fun e w'=>e=.returned (.int .i64 steps)∧w=w':=by
 have h0:=h.head.cell 0 rfl
 have h1:=h.head.cell 1 rfl
 go_enter Tryz.func34,Tryz.ntmps34
 go_wp2
 go_ret
 exact ⟨rfl,rfl⟩
def MadeClock (w:World) (word steps:Int) (e:Ending) (w':World):Prop:=
 ∃ c a b,e=.returned (.pointer (some ⟨c,0,none⟩))∧ClockAt w' c a b word steps∧w.heap.size≤c∧w.heap.size≤a∧w.heap.size≤b∧Upd [] w w'
theorem clkFrom (x:Int) (w:World):Calls Tryz.prog 6 #[.int .u64 x] w (MadeClock w x 0):=by
 have hs:SlI (w.alloc (.cells #[.int .u64 x] 23)) .u64 (some ⟨w.heap.size,0,none⟩) [x]:=SlI.of_blk (sp:=[]) (t:=23) (Blk.new w [.int .u64 x] 23)
 have HO:=Lib.hid (of_ok (some ⟨w.heap.size,0,none⟩) 1 [x] _ hs (by simp) (by simp))
 go_enter Tryz.func6,Tryz.ntmps6
 go_wp2_with (go_at_call 5; refine HO.out.mono ?_; rintro e w' ⟨a,b,rfl,r,ha,hb,hu⟩)
 go_ret
 have hn:=Blk.new w' [Value.pointer (some ⟨a,0,none⟩),.int .i64 0] 82
 simp only [World.size_alloc] at ha hb
 have hu2:Upd [] w w':=((Upd.refl [] w).alloc _).trans hu
 exact ⟨w'.heap.size,a,b,rfl,⟨hn,⟨_,r.upd ((Upd.refl [] _).alloc _) (by simp) (by simp)⟩,by have:=r.lta; omega,by have:=r.ltb; omega⟩,hu2.size,by omega,by omega,hu2.alloc _⟩
theorem clkNew (w:World):Calls Tryz.prog 26 #[] w (MadeClock w 0 0):=by
 have HO:=Lib.hid (clkFrom 0 w)
 go_enter Tryz.func26,Tryz.ntmps26
 go_wp2_with (go_at_call 6; refine HO.out.mono ?_; rintro e w' ⟨c,a,b,rfl,r⟩)
 go_ret
 exact ⟨c,a,b,rfl,r⟩
theorem number_any (n:Int) (w:World) (h0:0≤n) (h1:n<18446744073709551616) :
  Calls Tryz.prog 115 #[.int .u64 n] w fun e w'=>e=.returned (.int .u64 (n / 2))∧w=w':=by
 go_enter Tryz.func115,Tryz.ntmps115
 go_wp2
 go_ret
 exact ⟨rfl,rfl⟩
theorem clkTake_yes {w:World} {c a b:Nat} {word steps:Int} (h:ClockAt w c a b word steps) (s x:Int) (ht:takes word s=true) (hx:up64 s=x) :
  Calls Tryz.prog 113 #[.pointer (some ⟨c,0,none⟩),.int .u64 s] w fun e w'=>e=.returned (.tuple #[.bool true,.int .i64 0])∧ClockAt w' c a b x (wrap64 (steps+1))∧Upd [c,a,b] w w':=by
 have k:=clkTake h s
 rw [ht,hx] at k
 exact k
theorem clkTake_no {w:World} {c a b:Nat} {word steps:Int} (h:ClockAt w c a b word steps) (s:Int) (ht:takes word s=false) :
  Calls Tryz.prog 113 #[.pointer (some ⟨c,0,none⟩),.int .u64 s] w fun e w'=>e=.returned (.tuple #[.bool false,.int .i64 0])∧ClockAt w' c a b word (wrap64 (steps+1))∧Upd [c,a,b] w w':=by
 have k:=clkTake h s
 rw [ht] at k
 exact k
theorem clkLeave_yes {w:World} {c a b:Nat} {word steps:Int} (h:ClockAt w c a b word steps) (s x:Int) (ht:holds word s=true) (hx:up64b s=x) :
  Calls Tryz.prog 114 #[.pointer (some ⟨c,0,none⟩),.int .u64 s] w fun e w'=>e=.returned (.int .i64 0)∧ClockAt w' c a b x (wrap64 (steps+1))∧Upd [c,a,b] w w':=by
 have k:=clkLeave h s
 rw [ht,hx] at k
 exact k
theorem clkLeave_no {w:World} {c a b:Nat} {word steps:Int} (h:ClockAt w c a b word steps) (s:Int) (ht:holds word s=false) :
  Calls Tryz.prog 114 #[.pointer (some ⟨c,0,none⟩),.int .u64 s] w fun e w'=>e=.returned (.int .i64 160)∧ClockAt w' c a b word (wrap64 (steps+1))∧Upd [c,a,b] w w':=by
 have k:=clkLeave h s
 rw [ht] at k
 exact k
end Go.Proofs.YtehopaabfoopeaaGreat
set_option linter.unusedSimpArgs false
set_option linter.unusedVariables false
set_option maxRecDepth 100000
namespace Go.Proofs.YtehopaabfoopeaaGreat
open Go.RowKit
theorem news_blk {w:World} {b:Nat} {vs:List Value} {t:TypeId} (h:Blk w b vs t):∀ j u,vs[j]? = some u → w.cell? ((⟨b,0,none⟩:Addr).add j)=some u:=by
 intro j u hj
 rw [addr_add,Nat.zero_add]
 exact h.cell j hj
theorem news_new {W:World} (vs:List Value) (t:TypeId) {g:Nat} (hg:g=W.heap.size):∀ j u,vs[j]? = some u → (W.alloc (.cells vs.toArray t)).cell? ((⟨g,0,none⟩:Addr).add j)=some u:=by
 subst hg; exact news_blk (Blk.new W vs t)
section
variable {w w':World}
theorem own_ne_blk {base:Nat} {e t:TypeId} {size n g:Nat} {v:Value} {us vs:List Value} (h:w.ownsRow base e size v n us) (k:Blk w g vs t) (hne:e≠t):g ∉ v.ownBlock.toList:=by
 rcases h.2 with ⟨rfl,_⟩ | ⟨g',cap,cur,rfl,_,hh,_⟩
 ·simp [Value.ownBlock]
 ·simp only [Value.ownBlock,Option.toList_some,List.mem_singleton]
  rintro rfl
  unfold Blk at k
  rw [hh] at k
  simp at k
  exact hne k.2
theorem own_upd {base:Nat} {e:TypeId} {size n:Nat} {v:Value} {us:List Value} {S:List Nat} (h:w.ownsRow base e size v n us) (u:Upd S w w') (hS:∀ g ∈ S,v.ownBlock≠some g):w'.ownsRow base e size v n us:=by
 obtain ⟨h1,h2⟩:=h
 refine ⟨h1,?_⟩
 rcases h2 with h2 | ⟨g,cap,cur,rfl,hb,hh,r⟩
 ·exact .inl h2
 ·refine .inr ⟨g,cap,cur,rfl,hb,?_,r⟩
  rw [u.block g (by by_cases hg:g<w.heap.size; exact hg; rw [Array.getElem?_eq_none (by omega)] at hh; cases hh) (fun hg=>hS g hg rfl)]
  exact hh
theorem own_blocks {base:Nat} {e:TypeId} {size n:Nat} {v:Value} {us:List Value} (h:w.ownsRow base e size v n us):∀ g ∈ v.ownBlock.toList,base≤g∧g<w.heap.size:=by
 intro g hg
 exact h.lt g (by simpa using hg)
theorem Upd.own {w w':World} {row:Option Nat} (h:w.grownBy w' row):Upd row.toList w w':=Upd.of_grown h (fun k e=>.inl (by simp [e]))
theorem own_form {base:Nat} {e:TypeId} {size n:Nat} {v:Value} {us:List Value} (h:w.ownsRow base e size v n us):∃ p c,v=.slice p n c:=by
 rcases h.2 with ⟨rfl,rfl⟩ | ⟨g,cap,cur,rfl,_⟩
 ·exact ⟨none,0,rfl⟩
 ·exact ⟨_,_,rfl⟩
end
end Go.Proofs.YtehopaabfoopeaaGreat
set_option linter.unusedSimpArgs false
set_option linter.unusedVariables false
set_option maxRecDepth 100000
namespace Go.Proofs.YtehopaabfoopeaaGreat
open Go.RowKit
section
variable {P:Program} {ops:Array Oper} {md:Region.Mode} {C:World → Prop}
end
end Go.Proofs.YtehopaabfoopeaaGreat
set_option linter.unusedSimpArgs false
set_option linter.unusedVariables false
set_option maxRecDepth 100000
namespace Go.Proofs.YtehopaabfoopeaaGreat
open Go.RowKit
section
variable {P:Program} {ops:Array Oper} {md:Region.Mode} {C0 C1:World → Prop} {s:Nat}
def anchored (md:Region.Mode) (ops:Array Oper) (s:Nat):Nat → Nat → Bool
 | 0,_=>false
 | f+1,i=>(List.range (s+1)).any fun j=>decide (i<j) && Region.waitsFor md ops j i && (j == s || anchored md ops s f j)
structure Shut (md:Region.Mode) (ops:Array Oper) (listed:Array Bool):Prop where
 size:listed.size=ops.size
 closed:∀ j oj,ops[j]? = some oj → listed.getD j false=true → ∀ e ∈ oj.after,Region.binds md e=true → listed.getD e.on false=true
theorem Shut.set {i:Nat} {listed:Array Bool} (inv:Shut md ops listed) (hi:i ∈ Region.ready md ops listed):Shut md ops (listed.setIfInBounds i true):=by
 obtain ⟨_,oi,hoi,hall⟩:=mem_ready.1 hi
 refine ⟨by simp [inv.size],fun j oj hj hl e he hb=>?_⟩
 by_cases hij:i=j
 ·subst hij
  have:oj=oi:=Option.some.inj (hj.symm.trans hoi)
  subst this
  exact getD_set_true (hall e he hb)
 ·rw [getD_set_ne false hij] at hl
  exact getD_set_true (inv.closed j oj hj hl e he hb)
theorem anchored_listed {listed:Array Bool} (inv:Shut md ops listed) (hs:listed.getD s false=true):∀ (f i:Nat),anchored md ops s f i=true → listed.getD i false=true
 | 0,_,h=>by simp [anchored] at h
 | f+1,i,h=>by
  rw [anchored] at h
  obtain ⟨j,_,hj⟩:=List.any_eq_true.1 h
  simp only [Bool.and_eq_true,Bool.or_eq_true,beq_iff_eq] at hj
  obtain ⟨oj,hoj,e,he,hb,hon⟩:=Region.waitsFor_spec hj.1.2
  have hlj:listed.getD j false=true:=by
   rcases hj.2 with h1 | h1
   ·rw [h1]; exact hs
   ·exact anchored_listed inv hs f j h1
  rw [← hon]
  exact inv.closed j oj hoj hlj e he hb
end
end Go.Proofs.YtehopaabfoopeaaGreat
set_option linter.unusedSimpArgs false
set_option linter.unusedVariables false
set_option maxRecDepth 100000
namespace Go.Proofs.YtehopaabfoopeaaGreat
open Go.RowKit
section
variable {P:Program} {ops:Array Oper} {Q:Exit → Act → World → Prop} {md:Region.Mode} {S:World → Prop} {t:Nat}
def wpAnyE (P:Program) (md:Region.Mode) (ops:Array Oper) (Q:Exit → Act → World → Prop) (S:World → Prop) (t:Nat):Nat → Array Bool → Act → World → Prop
 | 0,listed,a,w=>Region.ready md ops listed=[]∧Q .normal a w
 | fuel+1,listed,a,w=>Region.ready md ops listed≠[]∧∀ i ∈ Region.ready md ops listed,wpOp P ops Q i (fun a' w'=>(t≤i∨S w')∧wpAnyE P md ops Q S t fuel (listed.setIfInBounds i true) a' w') a w
theorem wpAny_of_E:∀ (fuel:Nat) (listed:Array Bool) (a:Act) (w:World),wpAnyE P md ops Q S t fuel listed a w → wpAny P md ops Q fuel listed a w
 | 0,_,_,_,h=>h
 | fuel+1,_,_,_,h=>⟨fun h0=>absurd h0 h.1,fun i hi=>wpOp_mono (fun a' w' h'=>wpAny_of_E fuel _ a' w' h'.2) (h.2 i hi)⟩
def TailWaits (md:Region.Mode) (ops:Array Oper) (t:Nat):Prop:=∀ j i,t≤j → i<t → j<ops.size → anchored md ops j (j+1) i=true
theorem wpAnyE_first {i:Nat} {oi:Oper} {v:Value} (hi:ops[i]? = some oi) (hsel:∀ (j:Nat) (o:Oper) cs b,ops[j]? = some o → o.op≠.select cs b)
  (hQ:∀ c a w,Q (.panic c) (a.put oi.dst v) w → Q (.panic c) a w) (hl:TailWaits md ops t) (hit:i<t) :
  ∀ (fuel:Nat) (listed:Array Bool) (a:Act) (w:World),Shut md ops listed →
   (∀ j oj,ops[j]? = some oj → j≠i → listed.getD j true=false → (∀ e ∈ oj.after,Region.binds md e=true → e.on≠i) → oi.apart ops oj=true) →
   i ∈ Region.ready md ops listed → YieldsIf P ops S oi v a → S w →
   wpAnyE P md ops Q S t fuel (listed.setIfInBounds i true) (a.put oi.dst v) w → wpAnyE P md ops Q S t (fuel+1) listed a w:=by
 intro fuel
 induction fuel with
 | zero =>
  intro listed a w inv _ hr hy hS H
  refine ⟨fun h=>(by rw [h] at hr; cases hr),fun j hj=>?_⟩
  by_cases hji:j=i
  ·subst hji; exact hy.wpOp hi hS ⟨.inr hS,H⟩
  ·have:=ready_mono hj hji
   rw [H.1] at this
   cases this
 | succ fuel ih =>
  intro listed a w inv hfree hr hy hS H
  refine ⟨fun h=>(by rw [h] at hr; cases hr),fun j hj=>?_⟩
  by_cases hji:j=i
  ·subst hji; exact hy.wpOp hi hS ⟨.inr hS,H⟩
  ·have h1:=H.2 j (ready_mono hj hji)
   obtain ⟨hjun,oj,hoj,hall⟩:=mem_ready.1 hj
   have hiun:=(mem_ready.1 hr).1
   have hnot:∀ e ∈ oj.after,Region.binds md e=true → e.on≠i:=fun e he hb heq=>by
    have h1:=hall e he hb
    rw [heq,getD_both hiun] at h1
    cases h1
   have h2:=wpOp_putIf hoj (hfree j oj hoj hji hjun hnot) (fun cs b=>hsel i oi cs b hi) (fun cs b=>hsel j oj cs b hoj) hQ hy h1
   have hfree':∀ k ok,ops[k]? = some ok → k≠i → (listed.setIfInBounds j true).getD k true=false →
     (∀ e ∈ ok.after,Region.binds md e=true → e.on≠i) → oi.apart ops ok=true:=fun k ok hk hki hun hno=>by
    refine hfree k ok hk hki ?_ hno
    by_cases hjk:j=k
    ·subst hjk; exact hjun
    ·rw [getD_set_ne true hjk] at hun; exact hun
   have hjl:¬ t≤j:=by
    intro e
    have hsz:j<ops.size:=(Array.getElem?_eq_some_iff.1 hoj).1
    have ha:=hl j i e hit hsz
    have hset:(listed.setIfInBounds j true).getD j false=true:=by simp [inv.size,hsz]
    have:=anchored_listed (inv.set hj) hset _ i ha
    rw [getD_set_ne false hji,getD_both hiun] at this
    cases this
   refine wpOp_mono (fun a' w' h3=>?_) h2
   have hSw:S w':=h3.2.1.resolve_left hjl
   refine ⟨.inr hSw,ih (listed.setIfInBounds j true) a' w' (inv.set hj) hfree' (ready_mono hr (Ne.symm hji)) h3.1 hSw ?_⟩
   rw [Array.setIfInBounds_comm _ _ hji]
   exact h3.2.2
def fillB:Nat → Array Bool → Array Bool
 | 0,l=>l
 | k+1,l=>(fillB k l).setIfInBounds k true
def upB (ops:Array Oper) (k:Nat):Array Bool:=fillB k (Array.replicate ops.size false)
def wpE (P:Program) (md:Region.Mode) (ops:Array Oper) (Q:Exit → Act → World → Prop) (S:World → Prop) (t:Nat):Nat → List Oper → Act → World → Prop
 | _,[],a,w=>Q .normal a w
 | k,o :: rest,a,w=>if k=t then wpList P ops Q (o :: rest) a w else
   (∃ v,YieldsIf P ops S o v a∧wpE P md ops Q S t (k+1) rest (a.put o.dst v) w) ∨
   (Region.ready md ops (upB ops k)=[k]∧wpOp P ops Q k (fun a' w'=>S w'∧wpE P md ops Q S t (k+1) rest a' w') a w)
def tailB (md:Region.Mode) (ops:Array Oper) (t:Nat):Bool:=
 ((List.range' t (ops.size - t)).all fun j=>(List.range t).all fun i=>anchored md ops j (j+1) i) && ((List.range' t (ops.size - t)).all fun j=>Region.ready md ops (upB ops j) == [j])
def effB (md:Region.Mode) (ops:Array Oper) (t:Nat):Bool:=
 Region.noSelect ops && decide (t≤ops.size) && tailB md ops t && Region.lexFrom md ops ops.size 0 (Array.replicate ops.size false)
theorem wpAnyE_list (hend:Region.ready md ops (upB ops ops.size)=[]):∀ (l:List Oper) (k:Nat) (a:Act) (w:World),(∀ j,l[j]? = ops[k+j]?) → k+l.length=ops.size → t≤k →
  (∀ j,k≤j → j<ops.size → Region.ready md ops (upB ops j)=[j]) → wpList P ops Q l a w → wpAnyE P md ops Q S t l.length (upB ops k) a w
 | [],k,a,w,_,hk,_,_,h=>by
  have:k=ops.size:=by simpa using hk
  subst this
  exact ⟨hend,h⟩
 | o :: l,k,a,w,hl,hk,ht,hr,h=>by
  have h0:ops[k]? = some o:=by simpa using (hl 0).symm
  have hl':∀ j,l[j]? = ops[k+1+j]?:=fun j=>by have:=hl (j+1); simpa [Nat.add_assoc,Nat.add_comm 1 j] using this
  have hk':k+1+l.length=ops.size:=by simp only [List.length_cons] at hk; omega
  have hrk:=hr k (Nat.le_refl _) (by omega)
  refine ⟨by rw [hrk]; simp,fun j hj=>?_⟩
  rw [hrk] at hj
  obtain rfl:j=k:=by simpa using hj
  have h2:wpOp P ops Q j (wpList P ops Q l) a w:=by unfold wpOp; simp only [h0]; exact h
  exact wpOp_mono (fun a' w' h'=>⟨.inl ht,wpAnyE_list hend l (j+1) a' w' hl' hk' (by omega) (fun i hi=>hr i (by omega)) h'⟩) h2
theorem wpAnyE_lex (hsel:Region.noSelect ops=true) (hQ:∀ c d (v:Value) a w,Q (.panic c) (a.put d v) w → Q (.panic c) a w) (ht:t≤ops.size) (htail:tailB md ops t=true) (hend:Region.ready md ops (upB ops ops.size)=[]) :
  ∀ (l:List Oper) (k:Nat) (a:Act) (w:World),(∀ j,l[j]? = ops[k+j]?) → k+l.length=ops.size → Shut md ops (upB ops k) → (k≤t∨l=[]) → (S w∨l=[]) →
  Region.lexFrom md ops l.length k (upB ops k)=true → wpE P md ops Q S t k l a w → wpAnyE P md ops Q S t l.length (upB ops k) a w
 | [],k,a,w,_,hk,_,_,_,hB,h=>⟨by simpa [Region.lexFrom] using hB,h⟩
 | o :: l,k,a,w,hl,hk,inv,hkt,hS,hB,h=>by
  have h0:ops[k]? = some o:=by simpa using (hl 0).symm
  have hS':S w:=hS.resolve_right (by simp)
  have hkt':k≤t:=hkt.resolve_right (by simp)
  unfold tailB at htail
  simp only [Bool.and_eq_true,List.all_eq_true,List.mem_range'_1,List.mem_range,beq_iff_eq] at htail
  obtain ⟨htw,hts⟩:=htail
  have hl':∀ j,l[j]? = ops[k+1+j]?:=fun j=>by have:=hl (j+1); simpa [Nat.add_assoc,Nat.add_comm 1 j] using this
  have hk':k+1+l.length=ops.size:=by simp only [List.length_cons] at hk; omega
  rw [wpE] at h
  by_cases hkeq:k=t
  ·rw [if_pos hkeq] at h
   exact wpAnyE_list hend (o :: l) k a w hl hk (by omega) (fun j h1 h2=>hts j ⟨by omega,by omega⟩) h
  ·rw [if_neg hkeq] at h
   simp only [List.length_cons,Region.lexFrom,Bool.and_eq_true] at hB
   obtain ⟨⟨hr,hf⟩,hB'⟩:=hB
   have hr':k ∈ Region.ready md ops (upB ops k):=by simpa using hr
   rcases h with ⟨v,hy,hK⟩ | ⟨honly,hK⟩
   ·exact wpAnyE_first h0 (Region.noSelect_spec hsel) (fun c a w=>hQ c _ _ a w) (fun j i h1 h2 h3=>htw j ⟨h1,by omega⟩ i h2) (by omega) l.length (upB ops k) a w inv (Region.free_spec h0 hf) hr' hy hS'
     (wpAnyE_lex hsel hQ ht (by unfold tailB; simp only [Bool.and_eq_true,List.all_eq_true,List.mem_range'_1,List.mem_range,beq_iff_eq]; exact ⟨htw,hts⟩) hend l (k+1) _ _ hl' hk' (inv.set hr') (.inl (by omega)) (.inl hS') hB' hK)
   ·refine ⟨fun h=>(by rw [h] at hr'; cases hr'),fun j hj=>?_⟩
    rw [honly] at hj
    obtain rfl:j=k:=by simpa using hj
    refine wpOp_mono (fun a' w' h'=>⟨.inr h'.1,?_⟩) hK
    exact wpAnyE_lex hsel hQ ht (by unfold tailB; simp only [Bool.and_eq_true,List.all_eq_true,List.mem_range'_1,List.mem_range,beq_iff_eq]; exact ⟨htw,hts⟩) hend l (j+1) _ _ hl' hk' (inv.set hr') (.inl (by omega)) (.inl h'.1) hB' h'.2
theorem lexFrom_end:∀ (n k:Nat),k+n=ops.size → Region.lexFrom md ops n k (upB ops k)=true → Region.ready md ops (upB ops ops.size)=[]
 | 0,k,hk,h=>by
  have:k=ops.size:=by simpa using hk
  subst this
  simpa [Region.lexFrom] using h
 | n+1,k,hk,h=>by
  simp only [Region.lexFrom,Bool.and_eq_true] at h
  exact lexFrom_end n (k+1) (by omega) h.2
theorem wp_region_eff {id:Nat} {a:Act} {w:World} {l:List Oper} {Q:Exit → Act → World → Prop} (S:World → Prop) (t:Nat) (hm:P.follows .mixedOrders=true) (hB:effB .any l.toArray t=true) (hS:S w.drew)
  (h:wpE P .any l.toArray (NoPanic Q) S t 0 l a w.drew):(Code.region id l.toArray true).wp P Q a w:=by
 simp only [effB,Bool.and_eq_true,decide_eq_true_eq] at hB
 obtain ⟨⟨⟨hsel,ht⟩,hla⟩,hlex⟩:=hB
 refine wp_region_noPanic (wp_region_any hm ?_)
 have inv0:Shut .any l.toArray (upB l.toArray 0):=⟨by simp [upB,fillB],fun j oj _ hl=>(by rw [upB,fillB,getD_replicate_false] at hl; cases hl)⟩
 have:=wpAnyE_lex (P:=P) (S:=S) hsel (Q:=NoPanic Q) (fun c d v a w h=>h) ht hla (lexFrom_end _ 0 (by simp) hlex) l 0 a { w with drawn:=w.drawn+1 } (by simp) (by simp) inv0 (.inl (by omega)) (.inl hS) (by simpa [upB,fillB] using hlex) h
 simpa [upB,fillB] using wpAny_of_E _ _ _ _ this
theorem wpE_take {k d:Nat} {o:Oper} {rest:List Oper} {v:Value} {a:Act} {w:World} (hk:k≠t) (hd:o.dst=some d) (hw:Region.wanted o (yielded ops a.tmps)=true) (hv:∀ w,S w → (execOp a.eval o).run P w=.ok (.value v) w)
  (h:wpE P md ops Q S t (k+1) rest (a.put (some d) v) w):wpE P md ops Q S t k (o :: rest) a w:=by
 rw [wpE,if_neg hk]
 exact .inl ⟨v,.inl ⟨hw,hv⟩,by rw [hd]; exact h⟩
theorem wpE_skip {k:Nat} {o:Oper} {rest:List Oper} {a:Act} {w:World} (hk:k≠t) (hw:Region.wanted o (yielded ops a.tmps)=false)
  (h:wpE P md ops Q S t (k+1) rest (a.put o.dst undef) w):wpE P md ops Q S t k (o :: rest) a w:=by
 rw [wpE,if_neg hk]
 exact .inl ⟨undef,.inr ⟨hw,rfl⟩,h⟩
theorem wpE_eff {k:Nat} {o:Oper} {rest:List Oper} {a:Act} {w:World} (hk:k≠t) (ho:ops[k]? = some o) (hr:Region.ready md ops (upB ops k)=[k]) (hw:Region.wanted o (yielded ops a.tmps)=true)
  (h:∀ K:Act → World → Prop,Go.Shut (∀ a' w',S w' → wpE P md ops Q S t (k+1) rest a' w' → K a' w') → Oper.wp P o a w K Q):wpE P md ops Q S t k (o :: rest) a w:=by
 rw [wpE,if_neg hk]
 exact .inr ⟨hr,by unfold wpOp; simp only [ho,hw,if_true]; exact .inl (h _ fun a' w' h1 h2=>⟨h1,h2⟩)⟩
theorem wpE_tail {o:Oper} {rest:List Oper} {a:Act} {w:World} (h:wpList P ops Q (o :: rest) a w):wpE P md ops Q S t t (o :: rest) a w:=by
 rw [wpE,if_pos rfl]
 exact h
theorem wpE_append {k:Nat} {o:Oper} {rest:List Oper} {a:Act} {w w':World} (hk:k≠t) (ho:ops[k]? = some o) (hr:Region.ready md ops (upB ops k)=[k]) (hw:Region.wanted o (yielded ops a.tmps)=true) (s x:Operand) (ty u:TypeId)
  (hop:o.op=.call { callee:=.builtin .append,args:=#[s,x],argTypes:=#[ty,u] }) (sv xv v:Value) (hs:a.eval s=sv) (hx:a.eval x=xv)
  (hrun:(Builtin.append_ #[ty,u] o.type #[sv,xv]).run P w=.ok v w') (hS:S w') (h:wpE P md ops Q S t (k+1) rest (a.put o.dst v) w'):wpE P md ops Q S t k (o :: rest) a w:=by
 refine wpE_eff hk ho hr hw fun K hK=>?_
 unfold Oper.wp execOp
 simp only [hop,resolve,invoke,builtin,Sem.run_bind,Sem.run_pure,Result.andThen_ok,List.map_toArray,List.map_cons,List.map_nil,hs,hx,hrun]
 exact hK.out _ _ hS h
theorem wpE_end {k:Nat} {a:Act} {w:World} (h:Q .normal a w):wpE P md ops Q S t k [] a w:=h
end
end Go.Proofs.YtehopaabfoopeaaGreat
set_option linter.unusedSimpArgs false
set_option linter.unusedVariables false
set_option maxRecDepth 100000
namespace Go.Proofs.YtehopaabfoopeaaGreat
open Go.RowKit
open Go.Maps
def pcells (l:List (Int × Int)):List Value:=l.flatMap fun c=>[.int .u64 c.1,.int .u64 c.2]
theorem pcells_len (l:List (Int × Int)):(pcells l).length=2*l.length:=by
 induction l with
 | nil=>rfl
 | cons c l ih=>simp only [pcells,List.flatMap_cons,List.length_append,List.length_cons,List.length_nil] at *; omega
theorem pcells_snoc (l:List (Int × Int)) (c:Int × Int):pcells (l ++ [c])=pcells l ++ [.int .u64 c.1,.int .u64 c.2]:=by simp [pcells]
theorem pcells_get (l:List (Int × Int)) (i:Nat) (x y:Int) (h:l[i]? = some (x,y)):(pcells l)[i*2]? = some (.int .u64 x)∧(pcells l)[i*2+1]? = some (.int .u64 y):=by
 induction l generalizing i with
 | nil=>simp at h
 | cons c l ih =>
  cases i with
  | zero=>simp at h; subst h; simp [pcells]
  | succ i =>
   have:=ih i (by simpa using h)
   have e:(i+1)*2=i*2+2:=by omega
   rw [e]
   simpa [pcells] using this
theorem pcells_set (l:List (Int × Int)) (i:Nat) (x y v:Int) (h:l[i]? = some (x,y)):(pcells l).set (i*2+1) (.int .u64 v)=pcells (l.set i (x,v)):=by
 induction l generalizing i with
 | nil=>simp at h
 | cons c l ih =>
  cases i with
  | zero=>simp at h; subst h; simp [pcells]
  | succ i =>
   have:=ih i (by simpa using h)
   have e:(i+1)*2+1=(i*2+1)+2:=by omega
   rw [e]
   simpa [pcells] using this
structure OwnP (w:World) (v:Value) (l:List (Int × Int)) (F:List Nat):Prop where
 own:w.ownsRow 0 71 2 v l.length (pcells l)
 nil:l=[] → v=.slice none 0 0
 inF:∀ g,v.ownBlock=some g → g ∈ F
theorem OwnP.upd {w w':World} {v:Value} {l:List (Int × Int)} {F S:List Nat} (h:OwnP w v l F) (u:Upd S w w') (hS:∀ g ∈ S,v.ownBlock≠some g):OwnP w' v l F:=
 ⟨own_upd h.own u hS,h.nil,h.inF⟩
theorem OwnP.mono {w:World} {v:Value} {l:List (Int × Int)} {F G:List Nat} (h:OwnP w v l F) (hF:∀ x ∈ F,x ∈ G):OwnP w v l G:=⟨h.own,h.nil,fun g hg=>hF g (h.inF g hg)⟩
theorem OwnP.form {w:World} {v:Value} {l:List (Int × Int)} {F:List Nat} (h:OwnP w v l F):∃ p c,v=.slice p l.length c:=own_form h.own
theorem OwnP.lt {w:World} {v:Value} {l:List (Int × Int)} {F:List Nat} (h:OwnP w v l F) {g:Nat} (hg:v.ownBlock=some g):g<w.heap.size:=(own_blocks h.own g (by simp [hg])).2
theorem OwnP.open {w:World} {v:Value} {l:List (Int × Int)} {F:List Nat} (h:OwnP w v l F) (hl:l≠[]) :
  ∃ g cap sp,v=.slice (some ⟨g,0,none⟩) l.length cap∧l.length≤cap∧Blk w g (pcells l ++ sp) 71∧g ∈ F:=by
 obtain ⟨h1,h2⟩:=h.own
 rcases h2 with ⟨_,h2⟩ | ⟨g,cap,cur,hv,hb,hh,hn,hm,hs,ht⟩
 ·have:l.length=0:=by simpa using h2
  exact absurd (List.length_eq_zero_iff.1 this) hl
 ·subst hv
  refine ⟨g,cap,cur.toList.drop (l.length*2),rfl,hn,?_,h.inF g rfl⟩
  unfold Blk
  rw [← ht,List.take_append_drop]
  simpa using hh
theorem OwnP.ne_blk {w:World} {v:Value} {l:List (Int × Int)} {F:List Nat} {g:Nat} {vs:List Value} {t:TypeId} (h:OwnP w v l F) (k:Blk w g vs t) (hne:71≠t):v.ownBlock≠some g:=by
 have:=own_ne_blk h.own k hne
 simpa using this
def PlacesAt (w:World) (m:Nat) (l:List (Int × Int)):Prop:=
 ∃ D:DataW Unit,w.ownsMap Tryz.prog 23 (plainElem Tryz.prog 3) m l.length D ∧
  ∀ x:Int,0≤x → x<18446744073709551616 → Maps.has D (.int .u64 x)=(place l x).isSome∧∀ k,place l x=some k → D.atKey (.int .u64 x) (.lit (.int .i64 0))=.lit (.int .i64 (k:Int))
theorem PlacesAt.upd {w w':World} {m:Nat} {l:List (Int × Int)} {S:List Nat} (h:PlacesAt w m l) (u:Upd S w w') (hS:m ∉ S):PlacesAt w' m l:=by
 obtain ⟨D,⟨es,cl,hb,r⟩,h2⟩:=h
 have hlt:m<w.heap.size:=by
  by_cases hb':m<w.heap.size
  ·exact hb'
  ·rw [Array.getElem?_eq_none (by omega)] at hb; cases hb
 exact ⟨D,⟨es,cl,by rw [u.block m hlt hS]; exact hb,r⟩,h2⟩
theorem PlacesAt.lt {w:World} {m:Nat} {l:List (Int × Int)} (h:PlacesAt w m l):m<w.heap.size:=by
 obtain ⟨D,h,_⟩:=h
 exact h.lt
theorem PlacesAt.ne_blk {w:World} {m g:Nat} {l:List (Int × Int)} {vs:List Value} {t:TypeId} (h:PlacesAt w m l) (k:Blk w g vs t):g≠m:=by
 rintro rfl
 obtain ⟨D,⟨es,cl,hb,r⟩,_⟩:=h
 unfold Blk at k
 rw [k] at hb
 cases hb
def phasesV (a:Nat):List Value:=
 [.nilFunc,.nilFunc,.func (.func 95) #[.pointer (some ⟨a,0,none⟩)] #[],.func (.func 96) #[.pointer (some ⟨a,0,none⟩)] #[],.func (.func 97) #[.pointer (some ⟨a,0,none⟩)] #[],
  .func (.func 98) #[.pointer (some ⟨a,0,none⟩)] #[],.func (.func 99) #[.pointer (some ⟨a,0,none⟩)] #[],.func (.func 100) #[.pointer (some ⟨a,0,none⟩)] #[],
  .func (.func 101) #[.pointer (some ⟨a,0,none⟩)] #[],.func (.func 102) #[.pointer (some ⟨a,0,none⟩)] #[],.nilFunc]
def headV (a ra ca:Nat) (s:AS) (rv wv mv:Value):List Value:=
 [.pointer (some ⟨ra,0,none⟩),.pointer (some ⟨ca,0,none⟩),.int .u64 s.snap,rv,wv,.int .i64 s.phase,.int .i64 s.thn,.int .u64 s.addr,.int .u64 s.word,.int .u64 s.found,.int .i64 s.at_,mv] ++ phasesV a
structure AttV (w:World) (a ra ca:Nat) (s:AS) (F:List Nat) (rv wv mv:Value):Prop where
 head:Blk w a (headV a ra ca s rv wv mv) 132
 rd:OwnP w rv s.reads F
 wr:OwnP w wv s.writes F
 apart:∀ g,rv.ownBlock=some g → wv.ownBlock≠some g
 pl:s.phase≠10 → ∃ m,mv=.map (some m)∧m ∈ F∧PlacesAt w m s.writes
theorem AttV.upd {w w':World} {a ra ca:Nat} {s:AS} {F S:List Nat} {rv wv mv:Value} (h:AttV w a ra ca s F rv wv mv) (u:Upd S w w') (ha:a ∉ S) (hF:∀ g ∈ F,g ∉ S):AttV w' a ra ca s F rv wv mv:=
 ⟨h.head.upd u ha,h.rd.upd u (fun g hg e=>hF g (h.rd.inF g e) hg),h.wr.upd u (fun g hg e=>hF g (h.wr.inF g e) hg),h.apart,fun hp=>let ⟨m,e,hm,p⟩:=h.pl hp; ⟨m,e,hm,p.upd u (hF m hm)⟩⟩
theorem AttV.not_rd {w:World} {a ra ca:Nat} {s:AS} {F:List Nat} {rv wv mv:Value} (h:AttV w a ra ca s F rv wv mv):rv.ownBlock≠some a:=h.rd.ne_blk h.head (by decide)
theorem AttV.not_wr {w:World} {a ra ca:Nat} {s:AS} {F:List Nat} {rv wv mv:Value} (h:AttV w a ra ca s F rv wv mv):wv.ownBlock≠some a:=h.wr.ne_blk h.head (by decide)
theorem turn_results {fn:Func} (k:Nat) (hr:fn.results = #[.cell k 140]) (t:Array Value) (w:World) (rb:Nat) (T:Trn) (h2:t.getD k undef=.pointer (some ⟨rb,0,none⟩)) (hb:Blk w rb T.cells 140) :
  (results fn t).run Tryz.prog w=.ok T.val w:=by
 have c0:=hb.cell 0 rfl
 have c1:=hb.cell 1 rfl
 have c2:=hb.cell 2 rfl
 have c3:=hb.cell 3 rfl
 have c4:=hb.cell 4 rfl
 have c5:=hb.cell 5 rfl
 have c6:=hb.cell 6 rfl
 have c7:=hb.cell 7 rfl
 have h2':t[k]?.getD undef=.pointer (some ⟨rb,0,none⟩):=by simpa using h2
 simp [results,hr,h2',go_sem,c0,c1,c2,c3,c4,c5,c6,c7,Trn.val]
theorem turn_results2 {fn:Func} (k m:Nat) (hr:fn.results = #[.cell k 140,.tmp m]) (t:Array Value) (w:World) (rb:Nat) (T:Trn) (v:Value) (h2:t.getD k undef=.pointer (some ⟨rb,0,none⟩)) (h3:t.getD m undef=v) (hb:Blk w rb T.cells 140) :
  (results fn t).run Tryz.prog w=.ok (.tuple #[T.val,v]) w:=by
 have c0:=hb.cell 0 rfl
 have c1:=hb.cell 1 rfl
 have c2:=hb.cell 2 rfl
 have c3:=hb.cell 3 rfl
 have c4:=hb.cell 4 rfl
 have c5:=hb.cell 5 rfl
 have c6:=hb.cell 6 rfl
 have c7:=hb.cell 7 rfl
 have h2':t[k]?.getD undef=.pointer (some ⟨rb,0,none⟩):=by simpa using h2
 have h3':t[m]?.getD undef=v:=by simpa using h3
 simp [results,hr,h2',h3',go_sem,c0,c1,c2,c3,c4,c5,c6,c7,Trn.val]
theorem turn_set {w:World} {rb:Nat} {z:List Value} (h:Blk w rb z 140) (hz:z.length=8) (T:Trn) :
  Blk ((((((((w.setCell ⟨rb,0,none⟩ (.int .i64 T.out)).setCell ⟨rb,1,none⟩ (.int .u64 T.word)).setCell ⟨rb,2,none⟩ (.int .i64 0)).setCell ⟨rb,3,none⟩ (.int .i64 T.ev.kind)).setCell ⟨rb,4,none⟩ (.int .u64 T.ev.addr)).setCell ⟨rb,5,none⟩ (.int .u64 T.ev.word)).setCell ⟨rb,6,none⟩ (.bool T.ev.own)).setCell ⟨rb,7,none⟩ (.int .i64 0)) rb T.cells 140:=by
 obtain ⟨z0,z1,z2,z3,z4,z5,z6,z7,rfl⟩:∃ a b c d e f g i,z=[a,b,c,d,e,f,g,i]:=by
  match z,hz with
  | [a,b,c,d,e,f,g,i],_=>exact ⟨a,b,c,d,e,f,g,i,rfl⟩
 exact (((((((h.set 0 _).set 1 _).set 2 _).set 3 _).set 4 _).set 5 _).set 6 _).set 7 _
def turn0:List Value:=trnNone.cells
theorem going_code (w:World):Calls Tryz.prog 111 #[] w fun e w'=>e=.returned going.val∧Upd [] w w':=by
 refine calls_all fun K hK=>?_
 go_enter Tryz.func111,Tryz.ntmps111
 go_wp2
 exact bodyPost_ret (turn_results 0 rfl _ _ w.heap.size going rfl (Blk.new w _ _)) rfl (hK _ _ ⟨rfl,(Upd.refl _ _).alloc _⟩)
theorem loadW_eq (ws:List Int) (x:Int):(rLoad ws x).1=loadW ws x:=by unfold rLoad loadW; split <;> rfl
section
variable {w:World} {a ra ca rb:Nat} {s:AS} {F:List Nat} {rv wv mv:Value} {ws:List Int} {acc:Int}
theorem AttV.put (h:AttV w a ra ca s F rv wv mv) (o:Nat) (v:Value) (s':AS) (hs:(headV a ra ca s rv wv mv).set o v=headV a ra ca s' rv wv mv) (hr:s'.reads=s.reads) (hw:s'.writes=s.writes) (hp:s'.phase≠10 → s.phase≠10) :
  AttV (w.setCell ⟨a,o,none⟩ v) a ra ca s' F rv wv mv:=by
 have u:Upd [a] w (w.setCell ⟨a,o,none⟩ v):=(Upd.refl _ _).setCell (.inl (by simp)) _
 refine ⟨hs ▸ h.head.set o v,?_,?_,h.apart,fun hk=>?_⟩
 ·rw [hr]; exact h.rd.upd u (fun g hg e=>by simp at hg; subst hg; exact h.not_rd e)
 ·rw [hw]; exact h.wr.upd u (fun g hg e=>by simp at hg; subst hg; exact h.not_wr e)
 ·obtain ⟨m,e,hm,p⟩:=h.pl (hp hk)
  refine ⟨m,e,hm,?_⟩
  rw [hw]
  exact p.upd u (by simpa using (p.ne_blk h.head).symm)
theorem AttV.setSnap (h:AttV w a ra ca s F rv wv mv) (x:Int):AttV (w.setCell ⟨a,2,none⟩ (.int .u64 x)) a ra ca { s with snap:=x } F rv wv mv:=h.put 2 _ _ rfl rfl rfl id
theorem AttV.setPhase (h:AttV w a ra ca s F rv wv mv) (x:Int) (hp:s.phase≠10):AttV (w.setCell ⟨a,5,none⟩ (.int .i64 x)) a ra ca { s with phase:=x } F rv wv mv:=h.put 5 _ _ rfl rfl rfl fun _=>hp
theorem AttV.setThen (h:AttV w a ra ca s F rv wv mv) (x:Int):AttV (w.setCell ⟨a,6,none⟩ (.int .i64 x)) a ra ca { s with thn:=x } F rv wv mv:=h.put 6 _ _ rfl rfl rfl id
theorem AttV.setAddr (h:AttV w a ra ca s F rv wv mv) (x:Int):AttV (w.setCell ⟨a,7,none⟩ (.int .u64 x)) a ra ca { s with addr:=x } F rv wv mv:=h.put 7 _ _ rfl rfl rfl id
theorem AttV.setWord (h:AttV w a ra ca s F rv wv mv) (x:Int):AttV (w.setCell ⟨a,8,none⟩ (.int .u64 x)) a ra ca { s with word:=x } F rv wv mv:=h.put 8 _ _ rfl rfl rfl id
theorem AttV.setFound (h:AttV w a ra ca s F rv wv mv) (x:Int):AttV (w.setCell ⟨a,9,none⟩ (.int .u64 x)) a ra ca { s with found:=x } F rv wv mv:=h.put 9 _ _ rfl rfl rfl id
theorem AttV.setAt (h:AttV w a ra ca s F rv wv mv) (x:Int):AttV (w.setCell ⟨a,10,none⟩ (.int .i64 x)) a ra ca { s with at_:=x } F rv wv mv:=h.put 10 _ _ rfl rfl rfl id
theorem upd8 {S:List Nat} {w w':World} {rb:Nat} (h:Upd S w w') (hr:w.heap.size≤rb) (v0 v1 v2 v3 v4 v5 v6 v7:Value) :
  Upd S w ((((((((w'.setCell ⟨rb,0,none⟩ v0).setCell ⟨rb,1,none⟩ v1).setCell ⟨rb,2,none⟩ v2).setCell ⟨rb,3,none⟩ v3).setCell ⟨rb,4,none⟩ v4).setCell ⟨rb,5,none⟩ v5).setCell ⟨rb,6,none⟩ v6).setCell ⟨rb,7,none⟩ v7):=
 (((((((h.setCell (.inr hr) _).setCell (.inr hr) _).setCell (.inr hr) _).setCell (.inr hr) _).setCell (.inr hr) _).setCell (.inr hr) _).setCell (.inr hr) _).setCell (.inr hr) _
theorem at8 {w':World} {rb:Nat} (v0 v1 v2 v3 v4 v5 v6 v7:Value) :
  Upd [rb] w' ((((((((w'.setCell ⟨rb,0,none⟩ v0).setCell ⟨rb,1,none⟩ v1).setCell ⟨rb,2,none⟩ v2).setCell ⟨rb,3,none⟩ v3).setCell ⟨rb,4,none⟩ v4).setCell ⟨rb,5,none⟩ v5).setCell ⟨rb,6,none⟩ v6).setCell ⟨rb,7,none⟩ v7):=by
 (repeat (refine Upd.setCell ?_ (Or.inl (by simp)) _))
 exact Upd.refl _ _
theorem OwnP.ne_map {v:Value} {l:List (Int × Int)} {m:Nat} {k:List (Int × Int)} (h:OwnP w v l F) (p:PlacesAt w m k):v.ownBlock≠some m:=by
 intro e
 obtain ⟨D,⟨es,cl,hb,r⟩,_⟩:=p
 rcases h.own.2 with ⟨rfl,_⟩ | ⟨g,cap,cur,rfl,_,hh,_⟩
 ·simp [Value.ownBlock] at e
 ·simp [Value.ownBlock] at e
  subst e
  rw [hb] at hh; cases hh
theorem AttV.setReads {w':World} {v':Value} {l':List (Int × Int)} {G:List Nat} (h:AttV w a ra ca s F rv wv mv) (u:Upd rv.ownBlock.toList w w') (h':OwnP w' v' l' G) (hF:∀ g ∈ F,g ∈ G) (hv:v'.ownBlock=rv.ownBlock ∨ ∀ g,v'.ownBlock=some g → w.heap.size≤g) :
  AttV (w'.setCell ⟨a,3,none⟩ v') a ra ca { s with reads:=l' } G v' wv mv:=by
 have ua:Upd [a] w' (w'.setCell ⟨a,3,none⟩ v'):=(Upd.refl _ _).setCell (.inl (by simp)) _
 have hr:∀ g ∈ rv.ownBlock.toList,rv.ownBlock=some g:=fun g hg=>by simpa using hg
 have hh:Blk w' a (headV a ra ca s rv wv mv) 132:=h.head.upd u (fun hg=>h.not_rd (hr a hg))
 have hwr:OwnP w' wv s.writes F:=h.wr.upd u (fun g hg e=>h.apart g (hr g hg) e)
 refine ⟨hh.set 3 v',h'.upd ua (fun g hg e=>?_),(hwr.upd ua (fun g hg e=>?_)).mono hF,fun g hg e=>?_,fun hk=>?_⟩
 ·simp at hg; subst hg; exact h'.ne_blk hh (by decide) e
 ·simp at hg; subst hg; exact hwr.ne_blk hh (by decide) e
 ·rcases hv with hv | hv
  ·exact h.apart g (hv ▸ hg) e
  ·have:=hv g hg; have:=h.wr.lt e; omega
 ·obtain ⟨m,e,hm,p⟩:=h.pl hk
  exact ⟨m,e,hF m hm,(p.upd u (fun hg=>h.rd.ne_map p (hr m hg))).upd ua (by simpa using (p.ne_blk h.head).symm)⟩
theorem info_cell:(Tryz.prog.info? 71).map (fun i=>(i.zero,i.size,i.bytes))=some (some (.agg #[.int .u64 0,.int .u64 0]),2,16):=by kernel_rfl
theorem app_pair {W:World} {v:Value} {l:List (Int × Int)} (h:OwnP W v l F) (x y:Int) (hl:l.length<100000) :
  ∃ v' w' G,(Builtin.append_ #[53,53] 53 #[v,.slice (some ⟨W.heap.size,0,none⟩) 1 1]).run Tryz.prog (W.alloc (.cells #[.int .u64 x,.int .u64 y] 71))=.ok v' w' ∧
   OwnP w' v' (l ++ [(x,y)]) G∧Upd v.ownBlock.toList (W.alloc (.cells #[.int .u64 x,.int .u64 y] 71)) w'∧(v'.ownBlock=v.ownBlock∨v'.ownBlock=some (W.heap.size+1)) ∧
   (∀ g ∈ F,g ∈ G)∧(∀ g ∈ G,g ∈ F∨W.heap.size<g∧g<w'.heap.size):=by
 obtain ⟨i0,hi,hz0,hz1,hz2⟩:=info_parts info_cell
 have hW:OwnP (W.alloc (.cells #[.int .u64 x,.int .u64 y] 71)) v l F:=h.upd ((Upd.refl [] W).alloc _) (by simp)
 obtain ⟨v',w',hr,ho,hg,hn,hat⟩:=run_append_own_at (P:=Tryz.prog) (W.alloc (.cells #[.int .u64 x,.int .u64 y] 71)) 0 53 53 71 i0 (.agg #[.int .u64 0,.int .u64 0]) 2 16 Tryz.underlying53 hi hz0 hz1 hz2 rfl (by decide) v l.length (pcells l) hW.own
  ⟨W.heap.size,0,none⟩ 1 1 [.int .u64 x,.int .u64 y] rfl (news_new _ 71 rfl) (by simp [Value.oneCell']) (by unfold maxLen; omega) (by omega) (Nat.zero_le _)
 rw [World.size_alloc] at hat
 have ho':w'.ownsRow 0 71 2 v' (l ++ [(x,y)]).length (pcells (l ++ [(x,y)])):=by rw [pcells_snoc]; simpa using ho
 rcases hat with e | e
 ·exact ⟨v',w',F,hr,⟨ho',fun e=>absurd e (by simp),fun g hg'=>h.inF g (e ▸ hg')⟩,Upd.own hg,.inl e,fun _ h=>h,fun _ h=>.inl h⟩
 ·refine ⟨v',w',(W.heap.size+1) :: F,hr,⟨ho',fun e=>absurd e (by simp),fun g hg'=>?_⟩,Upd.own hg,.inr e,fun g h=>List.mem_cons_of_mem _ h,fun g hg'=>?_⟩
  ·rw [e] at hg'; cases hg'; simp
  ·rcases List.mem_cons.1 hg' with k | k
   ·have:=own_blocks ho' (W.heap.size+1) (by simp [e])
    exact .inr ⟨by omega,by omega⟩
   ·exact .inl k
end
/-! what is shared -/
structure SX where
 ra:Nat
 rb:Nat
 ca:Nat
 cr:Nat
 cb:Nat
def SX.foot (X:SX):List Nat:=[X.ra,X.rb,X.ca,X.cr,X.cb]
structure SX.At (X:SX) (w:World) (sh:Sh) (acc st:Int):Prop where
 row:RowAt w X.ra X.rb sh.row acc
 clk:ClockAt w X.ca X.cr X.cb sh.clock st
 a1:X.ra≠X.ca∧X.ra≠X.cr∧X.ra≠X.cb
 a2:X.rb≠X.ca∧X.rb≠X.cr∧X.rb≠X.cb
 wide:WideSh sh
theorem SX.At.lt {X:SX} {w:World} {sh:Sh} {acc st:Int} (h:X.At w sh acc st):∀ g ∈ X.foot,g<w.heap.size:=by
 have:=h.row.lta; have:=h.row.ltb; have:=h.clk.ltc; have:=h.clk.lta; have:=h.clk.ltb
 simp only [SX.foot,List.mem_cons,List.not_mem_nil,or_false]
 rintro g (rfl | rfl | rfl | rfl | rfl) <;> assumption
theorem SX.At.upd {X:SX} {w w':World} {sh:Sh} {acc st:Int} {S:List Nat} (h:X.At w sh acc st) (u:Upd S w w') (hS:∀ g ∈ X.foot,g ∉ S):X.At w' sh acc st:=
 ⟨h.row.upd u (hS _ (by simp [SX.foot])) (hS _ (by simp [SX.foot])),h.clk.upd u (hS _ (by simp [SX.foot])) (hS _ (by simp [SX.foot])) (hS _ (by simp [SX.foot])),h.a1,h.a2,h.wide⟩
structure Live (w:World) (X:SX) (sh:Sh) (acc st:Int) (a:Nat) (s:AS) (F:List Nat) (rv wv mv:Value):Prop where
 att:AttV w a X.ra X.ca s F rv wv mv
 sh:X.At w sh acc st
 sep:∀ g ∈ F,g<w.heap.size∧g ∉ X.foot∧g≠a
 wide:Wide s
section
variable {w w':World} {X:SX} {sh:Sh} {acc st:Int} {a:Nat} {s:AS} {F:List Nat} {rv wv mv:Value}
theorem Live.out (h:Live w X sh acc st a s F rv wv mv):a ∉ X.foot:=by
 have hh:=h.att.head
 obtain ⟨cap,h1,sp,h2,_⟩:=h.sh.row.head
 obtain ⟨_,r⟩:=h.sh.clk.row
 obtain ⟨cap',h3,sp',h4,_⟩:=r.head
 have h5:=h.sh.clk.head
 simp only [SX.foot,List.mem_cons,List.not_mem_nil,or_false,not_or]
 exact ⟨fun e=>by subst e; exact absurd (hh.inj h1).2 (by decide),fun e=>by subst e; exact absurd (hh.inj h2).2 (by decide),fun e=>by subst e; exact absurd (hh.inj h5).2 (by decide),fun e=>by subst e; exact absurd (hh.inj h3).2 (by decide),fun e=>by subst e; exact absurd (hh.inj h4).2 (by decide)⟩
theorem Live.lt (h:Live w X sh acc st a s F rv wv mv):a<w.heap.size:=h.att.head.lt
theorem Live.upd {S:List Nat} (h:Live w X sh acc st a s F rv wv mv) (u:Upd S w w') (ha:a ∉ S) (hF:∀ g ∈ F,g ∉ S) (hX:∀ g ∈ X.foot,g ∉ S):Live w' X sh acc st a s F rv wv mv:=
 ⟨h.att.upd u ha hF,h.sh.upd u hX,fun g hg=>⟨Nat.lt_of_lt_of_le (h.sep g hg).1 u.size,(h.sep g hg).2⟩,h.wide⟩
theorem Live.upd0 (h:Live w X sh acc st a s F rv wv mv) (u:Upd [] w w'):Live w' X sh acc st a s F rv wv mv:=h.upd u (by simp) (by simp) (by simp)
theorem Live.upd1 {b:Nat} (h:Live w X sh acc st a s F rv wv mv) (u:Upd [b] w w') (hb:w.heap.size≤b):Live w' X sh acc st a s F rv wv mv:=
 h.upd u (by have:=h.lt; simp; omega) (fun g hg=>by have:=(h.sep g hg).1; simp; omega) (fun g hg=>by have:=h.sh.lt g hg; simp; omega)
def Once (acc st acc' st':Int):Prop:=(acc'=acc∧st'=st)∨(acc'=up64 acc∧st'=st)∨(acc'=acc∧st'=wrap64 (st+1))
def StepOk (w:World) (X:SX) (acc st:Int) (a:Nat) (F:List Nat) (T:Trn) (s':AS) (sh':Sh) (e:Ending) (w':World):Prop:=
 e=.returned T.val∧∃ F' acc' st' rv' wv' mv',Live w' X sh' acc' st' a s' F' rv' wv' mv'∧Upd (a :: (F ++ X.foot)) w w'∧(∀ g ∈ F',g ∈ F∨w.heap.size≤g)∧Once acc st acc' st'
theorem Live.row (h:Live w X sh acc st a s F rv wv mv) {s':AS} {rv' wv' mv':Value} {ws:List Int} {acc':Int} (u:Upd [a,X.ra,X.rb] w w') (A:AttV w' a X.ra X.ca s' F rv' wv' mv') (R:RowAt w' X.ra X.rb ws acc') (hw:∀ v ∈ ws,0≤v∧v<18446744073709551616) (hs:Wide s') :
  Live w' X ⟨ws,sh.clock⟩ acc' st a s' F rv' wv' mv':=by
 have ho:=h.out
 simp only [SX.foot,List.mem_cons,List.not_mem_nil,or_false,not_or] at ho
 have a1:=h.sh.a1
 have a2:=h.sh.a2
 refine ⟨A,⟨R,h.sh.clk.upd u ?_ ?_ ?_,a1,a2,⟨hw,h.sh.wide.clock⟩⟩,fun g hg=>⟨Nat.lt_of_lt_of_le (h.sep g hg).1 u.size,(h.sep g hg).2⟩,hs⟩
 ·simp; omega
 ·simp; omega
 ·simp; omega
theorem Live.clk (h:Live w X sh acc st a s F rv wv mv) {s':AS} {rv' wv' mv':Value} {c st':Int} (u:Upd [a,X.ca,X.cr,X.cb] w w') (A:AttV w' a X.ra X.ca s' F rv' wv' mv') (C:ClockAt w' X.ca X.cr X.cb c st') (hc:0≤c∧c<18446744073709551616) (hs:Wide s') :
  Live w' X ⟨sh.row,c⟩ acc st' a s' F rv' wv' mv':=by
 have ho:=h.out
 simp only [SX.foot,List.mem_cons,List.not_mem_nil,or_false,not_or] at ho
 have a1:=h.sh.a1
 have a2:=h.sh.a2
 refine ⟨A,⟨h.sh.row.upd u ?_ ?_,C,a1,a2,⟨h.sh.wide.row,hc⟩⟩,fun g hg=>⟨Nat.lt_of_lt_of_le (h.sep g hg).1 u.size,(h.sep g hg).2⟩,hs⟩
 ·simp; omega
 ·simp; omega
theorem foot_row:∀ x ∈ [a,X.ra,X.rb],x ∈ a :: (F ++ X.foot):=by simp [SX.foot]
theorem foot_clk:∀ x ∈ [a,X.ca,X.cr,X.cb],x ∈ a :: (F ++ X.foot):=by simp [SX.foot]
theorem fin_step {w2:World} {sh0 sh':Sh} {acc' st':Int} {s0 s':AS} {F':List Nat} {rv0 wv0 mv0 rv' wv' mv':Value} {T:Trn} {rb:Nat} (h:Live w X sh0 acc st a s0 F rv0 wv0 mv0) (hrb:w.heap.size≤rb) (hN:Live w2 X sh' acc' st' a s' F' rv' wv' mv') (u:Upd (a :: (F ++ X.foot)) w w2) (hF:∀ g ∈ F',g ∈ F∨w.heap.size≤g∧g≠rb) (ho:Once acc st acc' st') (v0 v1 v2 v3 v4 v5 v6 v7:Value) :
  StepOk w X acc st a F T s' sh' (.returned T.val) ((((((((w2.setCell ⟨rb,0,none⟩ v0).setCell ⟨rb,1,none⟩ v1).setCell ⟨rb,2,none⟩ v2).setCell ⟨rb,3,none⟩ v3).setCell ⟨rb,4,none⟩ v4).setCell ⟨rb,5,none⟩ v5).setCell ⟨rb,6,none⟩ v6).setCell ⟨rb,7,none⟩ v7):=by
 refine ⟨rfl,F',acc',st',rv',wv',mv',hN.upd (at8 _ _ _ _ _ _ _ _) ?_ ?_ ?_,upd8 u hrb _ _ _ _ _ _ _ _,fun g hg=>(hF g hg).imp id (fun h=>by omega),ho⟩
 ·have:=h.lt; simp; omega
 ·intro g hg
  have:=hF g hg
  have hs:=h.sep g
  simp
  rcases this with k | k
  ·have:=(hs k).1; omega
  ·omega
 ·intro g hg
  have:=h.sh.lt g hg
  simp; omega
theorem AttV.over {ra ca:Nat} {l1 l2:List Value} (hb:Blk w a (headV a ra ca overS (.slice none 0 0) (.slice none 0 0) (.map none)) 132) (F:List Nat):AttV w a ra ca overS F (.slice none 0 0) (.slice none 0 0) (.map none):=
 ⟨hb,⟨World.ownsRow_nil _ _ _ _,fun _=>rfl,by simp [Value.ownBlock]⟩,⟨World.ownsRow_nil _ _ _ _,fun _=>rfl,by simp [Value.ownBlock]⟩,by simp [Value.ownBlock],fun h=>absurd rfl h⟩
theorem Live.keep (h:Live w X sh acc st a s F rv wv mv) {s':AS} {rv' wv' mv':Value} {F':List Nat} (u:Upd (a :: F) w w') (A:AttV w' a X.ra X.ca s' F' rv' wv' mv') (hF:∀ g ∈ F',g ∈ F∨w.heap.size≤g∧g<w'.heap.size) (hs:Wide s'):Live w' X sh acc st a s' F' rv' wv' mv':=by
 have ho:=h.out
 refine ⟨A,h.sh.upd u (fun g hg hm=>?_),fun g hg=>?_,hs⟩
 ·rcases List.mem_cons.1 hm with e | e
  ·subst e; exact ho hg
  ·exact (h.sep g e).2.1 hg
 ·rcases hF g hg with k | k
  ·exact ⟨Nat.lt_of_lt_of_le (h.sep g k).1 u.size,(h.sep g k).2⟩
  ·refine ⟨k.2,fun hm=>?_,fun e=>?_⟩
   ·have:=h.sh.lt g hm; omega
   ·have:=h.lt; omega
end
end Go.Proofs.YtehopaabfoopeaaGreat
