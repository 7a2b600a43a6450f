/- A step of a thread leaves a state that may be. No program in sight. No conditions. A step of a thread leaves a state that may be, and registers that are words. No program in sight. No conditions. A step of a thread leaves words in its registers. No program in sight. No conditions. The document's step, plainly: it is the program's. No program in sight. No conditions. As EffB, with a last operation (a store) behind which what was looked at is not needed. No condition. -/
import Derived.Test.YtehopaabfoopeaaGreatTz20
import Derived.Test.YtehopaabfoopeaaGreatTz12
import Derived.Test.YtehopaabfoopeaaGreatTz06
set_option linter.unusedSimpArgs false
set_option linter.unusedVariables false
set_option maxRecDepth 100000
namespace Go.Proofs.YtehopaabfoopeaaGreat
open Go.RowKit
section
variable {p:List Ins} {t:TS} {sh:Sh}
theorem fuelT_att (t:TS):(fuelT t).att=t.att:=by unfold fuelT; split <;> rfl
theorem tmay_fuel (h:TMay p t) (hf:¬ (t.ins=true∧t.fuel=4096)):TMay p (fuelT t):=by
 unfold fuelT
 split
 ·rename_i hi
  refine ⟨h.st,h.err,h.at0,fun e=>?_,fun s e=>?_⟩
  ·have:t.att=none:=e
   unfold TS.ins at hi; rw [this] at hi; cases hi
  ·obtain ⟨a,b,c,d,e1,f⟩:=h.ins s e
   refine ⟨a,b,⟨by simp only; omega,?_⟩,d,e1,?_⟩
   ·have:t.fuel≠4096:=fun k=>hf ⟨hi,k⟩
    simp only; omega
   ·rcases f with k | ⟨k,k2⟩
    ·exact .inl k
    ·exact .inr ⟨by simp only; omega,k2⟩
 ·exact h
theorem tmay_at (h:TMay p t) (hidle:∀ s,t.att=some s → s.phase=1) {t':TS} (h1:t'.st=t.st) (h2:t'.err=t.err) (h3:0≤t'.at_∧t'.at_≤9223372036854775807) (h4:t'.start=t.start) (h5:t'.saved=t.saved) (h6:t'.fuel=t.fuel) (h7:t'.att=t.att):TMay p t':=by
 refine ⟨by rw [h1]; exact h.st,by rw [h1,h2]; exact h.err,h3,fun e=>by rw [h4,h5,h6]; exact h.out (h7 ▸ e),fun s e=>?_⟩
 have hs:=h7 ▸ e
 obtain ⟨a,b,c,d,e1,f⟩:=h.ins s hs
 exact ⟨by rw [h1]; exact a,by rw [h4]; exact b,by rw [h6]; exact c,d,e1,.inl (hidle s hs)⟩
theorem tmay_plain (h:TMay p t) (hidle:∀ s,t.att=some s → s.phase=1) (hat:0≤t.at_∧t.at_<p.length) (hp:p.length≤256) {i:Ins} (hn:0≤i.n) {t':TS} (he:plainT t i=some t'):TMay p t':=by
 have hnx:0≤t.at_+1∧t.at_+1≤9223372036854775807:=by omega
 have htg:=target_bound hn
 unfold plainT at he
 repeat' split at he
 all_goals first
  | (cases he; exact tmay_at h hidle rfl rfl hnx rfl rfl rfl rfl)
  | (cases he; exact tmay_at h hidle rfl rfl htg rfl rfl rfl rfl)
  | (cases he; split <;> first | exact tmay_at h hidle rfl rfl htg rfl rfl rfl rfl | exact tmay_at h hidle rfl rfl hnx rfl rfl rfl rfl)
  | cases he
theorem TMay.pre (h:TMay p t) (hp:p.length≤256) (hat:0≤t.at_∧t.at_<p.length) {s:AS} (ha:t.att=some s):Pre p t:=by
 obtain ⟨a,b,c,d,e1,f⟩:=h.ins s ha
 refine ⟨a,?_,hat,hp,b,c⟩
 by_cases e:t.err=0
 ·exact e
 ·have:=h.err.2 e; omega
theorem tale_get {s:AS} {x:Int} (h1:s.phase=1) (hM:May s):(getS s sh x).2.1=0 → Tale true (getS s sh x).1 (getS s sh x).2.2:=by
 intro hk
 unfold getS at hk ⊢
 rw [if_neg (by omega)] at hk ⊢
 cases hpl:place s.writes x with
 | some k=>exact ⟨fun _=>h1,fun h=>absurd ⟨by simp,by simp⟩ h⟩
 | none =>
  rw [hpl] at hk
  simp only at hk ⊢
  by_cases hx:x<sh.row.length
  ·rw [if_neg (by omega)] at hk ⊢
   by_cases hl:1024≤s.reads.length
   ·rw [if_pos hl] at hk; simp at hk
   ·rw [if_neg hl]
    exact ⟨fun h=>by simp [loadS,going] at h,fun _=>⟨by simp [loadS],rfl⟩⟩
  ·rw [if_pos hx] at hk; simp at hk
theorem tale_put {s:AS} {x v:Int} (h1:s.phase=1):(putS s sh x v).2.1=0 → Tale false (putS s sh x v).1 (putS s sh x v).2.2:=by
 intro hk
 unfold putS at hk ⊢
 rw [if_neg (by omega)] at hk ⊢
 by_cases hx:x<sh.row.length
 ·rw [if_neg (by omega)] at hk ⊢
  cases hpl:place s.writes x with
  | some k=>exact ⟨fun _=>h1,fun h=>absurd ⟨by simp,by simp⟩ h⟩
  | none =>
   rw [hpl] at hk
   simp only at hk ⊢
   by_cases hl:s.writes.length<1024
   ·rw [if_pos hl]
    exact ⟨fun _=>h1,fun h=>absurd ⟨by simp,by simp⟩ h⟩
   ·rw [if_neg hl] at hk; simp at hk
 ·rw [if_pos hx] at hk; simp at hk
theorem tale_end {s:AS} (h1:s.phase=1) (hM:May s):Tale false (endS s sh).1 (endS s sh).2.2.1:=by
 have ht:s.thn=0:=by
  have:=hM.thn
  have hv:validB s=false:=by unfold validB; simp [h1]
  rw [hv] at this
  simpa using this
 unfold endS
 rw [if_neg (by omega)]
 split
 ·exact ⟨fun h=>by simp at h,fun h=>absurd ⟨by simp,by simp⟩ h⟩
 ·exact tale_lock ht
theorem tmay_shared (h:TMay p t) (hw:WideSh sh) (hidle:∀ s,t.att=some s → s.phase=1) (hat:0≤t.at_∧t.at_<p.length) (hp:p.length≤256) (hn:0≤(insAt p t.at_).n) (hst:t.st=1) (hop:10≤opAt p t.at_∧opAt p t.at_≤17)
  (hin:opAt p t.at_=13∨opAt p t.at_=14∨opAt p t.at_=15 → ∃ s,t.att=some s∧0<t.fuel) (hout:opAt p t.at_=12∨opAt p t.at_=17 → t.att=none):TMay p (sharedT p t sh (insAt p t.at_)).2.1:=by
 have hnx:0≤t.at_+1∧t.at_+1≤9223372036854775807:=by omega
 have hopi:(insAt p t.at_).op=opAt p t.at_:=rfl
 have herr:t.err=0:=by
  by_cases e:t.err=0
  ·exact e
  ·have:=h.err.2 e; omega
 generalize hi:insAt p t.at_=i at *
 unfold sharedT
 by_cases e10:i.op=10
 ·rw [if_pos e10]
  split
  ·exact tmay_at h hidle rfl rfl hnx rfl rfl rfl rfl
  ·exact tmay_fail h hp (by decide)
 rw [if_neg e10]
 by_cases e11:i.op=11
 ·rw [if_pos e11]
  split
  ·exact tmay_at h hidle rfl rfl hnx rfl rfl rfl rfl
  ·exact tmay_fail h hp (by decide)
 rw [if_neg e11]
 by_cases e17:i.op=17
 ·rw [if_pos e17]
  have ha:=hout (.inr (by omega))
  exact ⟨by simp,by simp [herr],h.at0,fun _=>h.out ha,fun s e=>by rw [show t.att=some s from e] at ha; cases ha⟩
 rw [if_neg e17]
 by_cases e12:i.op=12
 ·rw [if_pos e12]
  have ha:=hout (.inl (by omega))
  split
  ·rename_i hc
   refine ⟨by simp only [nextT]; omega,by simp only [nextT]; omega,hnx,fun e=>by (cases e),fun s e=>?_⟩
   cases e
   refine ⟨hst,by show opAt p t.at_=12; omega,?_,may_fresh hc,by simp [fresh],.inl rfl⟩
   have:=(h.out ha).2.2
   show 0≤t.fuel∧t.fuel≤4096
   omega
  ·exact h
 rw [if_neg e12]
 by_cases e13:i.op=13
 ·rw [if_pos e13]
  obtain ⟨s,hs,hf⟩:=hin (.inl (by omega))
  have h1:=hidle s hs
  have hM:=(h.ins s hs).2.2.2.1
  have ha:attS t=s:=by unfold attS; rw [hs]; rfl
  simp only [ha]
  exact tmay_turned (h.pre hp hat hs) (may_get hM _) (fun hk=>(tale_get h1 hM hk).1) (fun hk ho=>⟨((tale_get h1 hM hk).2 ho).1,.inr ⟨hf,by rw [((tale_get h1 hM hk).2 ho).2]; simp; omega⟩⟩)
 rw [if_neg e13]
 by_cases e14:i.op=14
 ·rw [if_pos e14]
  obtain ⟨s,hs,hf⟩:=hin (.inr (.inl (by omega)))
  have h1:=hidle s hs
  have hM:=(h.ins s hs).2.2.2.1
  have ha:attS t=s:=by unfold attS; rw [hs]; rfl
  simp only [ha]
  have hz:∀ {x v:Int},(putS s sh x v).2.1=0 → 2≤(putS s sh x v).1.out∧(putS s sh x v).1.out≤5:=by
   intro x v hk
   unfold putS at hk ⊢
   rw [if_neg (by omega)] at hk ⊢
   by_cases hx:x<sh.row.length
   ·rw [if_neg (by omega)] at hk ⊢
    cases hpl:place s.writes x with
    | some k=>simp
    | none =>
     rw [hpl] at hk
     simp only at hk ⊢
     by_cases hl:s.writes.length<1024
     ·rw [if_pos hl]; simp
     ·rw [if_neg hl] at hk; simp at hk
   ·rw [if_pos hx] at hk; simp at hk
  exact tmay_turned (h.pre hp hat hs) (may_put hM _ _) (fun hk=>(tale_put h1 hk).1) (fun hk ho=>absurd (hz hk) ho)
 rw [if_neg e14]
 by_cases e16:i.op=16
 ·rw [if_pos e16]
  exact tmay_give h (target_bound hn)
 rw [if_neg e16]
 have e15:i.op=15:=by omega
 obtain ⟨s,hs,hf⟩:=hin (.inr (.inr (by omega)))
 have h1:=hidle s hs
 have hM:=(h.ins s hs).2.2.2.1
 have ha:attS t=s:=by unfold attS; rw [hs]; rfl
 simp only [ha]
 exact tmay_turned (h.pre hp hat hs) (may_end hM) (fun _=>(tale_end h1 hM).1) (fun _ ho=>⟨((tale_end h1 hM).2 ho).1,.inr ⟨hf,by rw [((tale_end h1 hM).2 ho).2]; simp; omega⟩⟩)
end
end Go.Proofs.YtehopaabfoopeaaGreat
set_option linter.unusedSimpArgs false
set_option linter.unusedVariables false
set_option maxRecDepth 100000
namespace Go.Proofs.YtehopaabfoopeaaGreat
open Go.RowKit
section
variable {p:List Ins} {t:TS} {sh:Sh}
theorem fuelT_at (t:TS):(fuelT t).at_=t.at_:=by unfold fuelT; split <;> rfl
theorem fuelT_st (t:TS):(fuelT t).st=t.st:=by unfold fuelT; split <;> rfl
theorem tmay_step (h:TMay p t) (hfp:formedP p=true) (hnum:∀ i ∈ p,0≤i.n∧i.n<18446744073709551616) (hw:WideSh sh):TMay p (StepT p t sh).2.1:=by
 have hp:=(formedP_len hfp).2
 unfold StepT
 split
 ·exact h
 ·rename_i hst
  have hst1:t.st=1:=by omega
  by_cases hrun:∃ s,t.att=some s∧s.phase≠1
  ·obtain ⟨s,hs,h1⟩:=hrun
   have ha:attS t=s:=by unfold attS; rw [hs]; rfl
   have hi:t.ins=true:=by unfold TS.ins; rw [hs]; rfl
   unfold stepT
   rw [if_pos ⟨hi,by rw [ha]; exact h1⟩,ha]
   exact tmay_turn h hp hw hs h1
  ·have hidle:∀ s,t.att=some s → s.phase=1:=fun s hs=>by
    by_cases e:s.phase=1
    ·exact e
    ·exact absurd ⟨s,hs,e⟩ hrun
   by_cases hb:badIns t (opAt p t.at_)
   ·rw [stepT_bad hidle hb]; exact tmay_fail h hp (by decide)
   by_cases hf:t.ins=true∧t.fuel=4096
   ·rw [stepT_full hidle hb hf]; exact tmay_fail h hp (by decide)
   rw [stepT_go hidle hb hf]
   have hop:1≤opAt p t.at_∧opAt p t.at_≤17:=by
    have:isOp (opAt p t.at_)=true:=by
     cases h:isOp (opAt p t.at_) with
     | true=>rfl
     | false=>exact absurd (.inl h) hb
    simpa [isOp] using this
   have hat:=opAt_in (p:=p) (k:=t.at_) (by omega)
   have hmem:insAt p t.at_ ∈ p:=List.mem_of_getElem? (insAt_get p hat.1 hat.2)
   have hn:=(hnum _ hmem).1
   have hF:=tmay_fuel h hf
   have hidF:∀ s,(fuelT t).att=some s → s.phase=1:=fun s hs=>hidle s (by rw [← fuelT_att t]; exact hs)
   have hatF:0≤(fuelT t).at_∧(fuelT t).at_<p.length:=by rw [fuelT_at]; exact hat
   cases he:plainT (fuelT t) (insAt p t.at_) with
   | some t'=>exact tmay_plain hF hidF hatF hp hn he
   | none =>
    have h10:10≤opAt p t.at_:=by
     rcases Int.lt_or_le (opAt p t.at_) 10 with k | k
     ·have hc:(insAt p t.at_).op=1∨(insAt p t.at_).op=2∨(insAt p t.at_).op=3∨(insAt p t.at_).op=4∨(insAt p t.at_).op=5∨(insAt p t.at_).op=6∨(insAt p t.at_).op=7∨(insAt p t.at_).op=8∨(insAt p t.at_).op=9:=by
       have:(insAt p t.at_).op=opAt p t.at_:=rfl
       omega
      unfold plainT at he
      rcases hc with e | e | e | e | e | e | e | e | e <;> simp [e] at he
     ·exact k
    have:=tmay_shared (t:=fuelT t) (sh:=sh) hF hw hidF hatF hp (by rw [fuelT_at]; exact hn) (by rw [fuelT_st]; exact hst1) (by rw [fuelT_at]; exact ⟨h10,hop.2⟩) (fun hk=>by
     rw [fuelT_at] at hk
     rw [fuelT_att]
     cases ha:t.att with
     | some s =>
      refine ⟨s,rfl,?_⟩
      have hi:t.ins=true:=by unfold TS.ins; rw [ha]; rfl
      unfold fuelT
      rw [if_pos hi]
      have:=(h.ins s ha).2.2.1
      simp only; omega
     | none =>
      refine absurd (.inr (.inr ⟨by unfold TS.ins; rw [ha]; rfl,?_⟩)) hb
      rcases hk with k | k | k <;> (rw [k]; rfl)) (fun hk=>by
     rw [fuelT_at] at hk
     rw [fuelT_att]
     cases ha:t.att with
     | none=>rfl
     | some s =>
      refine absurd (.inr (.inl ⟨by unfold TS.ins; rw [ha]; rfl,?_⟩)) hb
      rcases hk with k | k <;> (rw [k]; rfl))
    rw [fuelT_at] at this
    exact this
end
end Go.Proofs.YtehopaabfoopeaaGreat
set_option linter.unusedSimpArgs false
set_option linter.unusedVariables false
set_option maxRecDepth 100000
namespace Go.Proofs.YtehopaabfoopeaaGreat
open Go.RowKit
def RW (t:TS):Prop:=(∀ v ∈ t.regs,W64 v)∧∀ v ∈ t.saved,W64 v
section
variable {p:List Ins} {t:TS} {sh:Sh}
theorem rw_zero:∀ v ∈ zero8,W64 v:=by
 intro v hv
 have:v=0:=by simpa [zero8] using hv
 subst this
 exact ⟨by omega,by omega⟩
theorem rw_set (h:RW t) {k v:Int} (hv:W64 v):RW (setR t k v):=by
 refine ⟨fun u hu=>?_,h.2⟩
 rcases List.mem_or_eq_of_mem_set hu with k | k
 ·exact h.1 u k
 ·exact k ▸ hv
theorem rw_leave (h:RW t) (k:Int):RW (leaveT t k):=⟨h.1,rw_zero⟩
theorem rw_give (h:RW t) (k:Int):RW (giveT t k):=⟨h.2,rw_zero⟩
theorem rw_fail (h:RW t) (k:Int):RW (failT t k).2:=by
 unfold failT
 split
 ·exact ⟨h.2,rw_zero⟩
 ·exact h
theorem rw_turned (h:RW t) {x:Trn} {k:Int} (hx:k=0 → x.out=2 → W64 x.word):RW (turnedT p t x k).2:=by
 unfold turnedT
 by_cases hk:k=0
 ·rw [if_neg (by simpa using hk)]
  by_cases h2:x.out=2
  ·simp only [h2,if_true]; exact rw_set h (hx hk h2)
  by_cases h3:x.out=3
  ·rw [if_neg h2,if_pos h3]; exact h
  by_cases h4:x.out=4
  ·rw [if_neg h2,if_neg h3,if_pos h4]; exact rw_leave h _
  by_cases h5:x.out=5
  ·rw [if_neg h2,if_neg h3,if_neg h4,if_pos h5]; exact rw_give h _
  rw [if_neg h2,if_neg h3,if_neg h4,if_neg h5]; exact h
 ·rw [if_pos (by simpa using hk)]; exact rw_fail h k
theorem rg_word (h:RW t) (k:Int):W64 (rg t k):=by
 unfold rg
 by_cases hk:k.toNat<t.regs.length
 ·rw [List.getD_eq_getElem?_getD,List.getElem?_eq_getElem hk]; exact h.1 _ (List.getElem_mem hk)
 ·rw [List.getD_eq_getElem?_getD,List.getElem?_eq_none (by omega)]; exact ⟨by simp,by simp⟩
theorem w64_mod (n:Int):W64 (n % 18446744073709551616):=⟨Int.emod_nonneg _ (by omega),Int.emod_lt_of_pos _ (by omega)⟩
theorem rw_plain (h:RW t) {i:Ins} (hn:W64 i.n) {t':TS} (he:plainT t i=some t'):RW t':=by
 have h1:∀ b:Prop,[Decidable b] → W64 (if b then 1 else 0):=fun b _=>by split <;> exact ⟨by omega,by omega⟩
 unfold plainT at he
 repeat' split at he
 all_goals first
  | (cases he; exact rw_set h hn)
  | (cases he; exact rw_set h (rg_word h _))
  | (cases he; exact rw_set h (w64_mod _))
  | (cases he; exact rw_set h (v:=1) ⟨by omega,by omega⟩)
  | (cases he; exact rw_set h (v:=0) ⟨by omega,by omega⟩)
  | (cases he; exact h)
  | (cases he; split <;> exact h)
  | cases he
theorem word_get {s:AS} {x:Int} (hw:Wide s):(getS s sh x).2.1=0 → (getS s sh x).1.out=2 → W64 (getS s sh x).1.word:=by
 intro hk ho
 unfold getS at hk ho ⊢
 by_cases h1:s.phase=1
 ·rw [if_neg (by simpa using h1)] at hk ho ⊢
  cases hpl:place s.writes x with
  | some k =>
   obtain ⟨hkl,v,hv⟩:=place_some hpl
   simp only
   rw [List.getD_eq_getElem?_getD,hv]
   exact (hw.writes (x,v) (List.mem_of_getElem? hv)).2
  | none =>
   rw [hpl] at ho
   simp only at ho
   split at ho
   ·simp [trnNone] at ho
   ·split at ho
    ·simp [trnNone] at ho
    ·simp [loadS,going] at ho
 ·rw [if_pos (by simpa using h1)] at hk; simp at hk
theorem word_step {s:AS} (hw:Wide s):(stepS s sh).2.1=0 → (stepS s sh).1.out=2 → W64 (stepS s sh).1.word:=by
 intro hk ho
 by_cases e2:s.phase=2
 ·by_cases hx:s.addr<sh.row.length
  ·rw [step2 e2 hx] at ho; simp [loadS,going] at ho
  ·rw [step2n e2 hx] at hk; simp at hk
 by_cases e3:s.phase=3
 ·rw [step3 e3] at ho ⊢
  unfold lookS at ho ⊢
  split
  ·exact hw.word
  ·rename_i hc; rw [if_neg hc] at ho; simp [going] at ho
 by_cases e4:s.phase=4
 ·rw [step4 e4] at ho; unfold waitS at ho; split at ho <;> simp [going] at ho
 by_cases e5:s.phase=5
 ·rw [step5 e5] at ho; unfold checkS at ho; split at ho
  ·simp [going] at ho
  ·split at ho <;> simp [going] at ho
 by_cases e6:s.phase=6
 ·rw [step6 e6] at ho; unfold closeS at ho; split at ho <;> simp [going] at ho
 by_cases e7:s.phase=7
 ·rw [step7 e7] at ho; unfold lockS at ho; split at ho <;> simp [going] at ho
 by_cases e8:s.phase=8
 ·rw [step8 e8] at ho; unfold storeS at ho; split at ho <;> simp [going] at ho
 by_cases e9:s.phase=9
 ·rw [step9 e9] at ho; simp [freeS] at ho
 unfold stepS at hk
 simp [e2,e3,e4,e5,e6,e7,e8,e9] at hk
theorem out_put {s:AS} {x v:Int}:(putS s sh x v).1.out≠2:=by
 unfold putS
 split
 ·simp [trnNone]
 ·split
  ·simp [trnNone]
  ·split
   ·simp
   ·split <;> simp [trnNone]
theorem out_end {s:AS}:(endS s sh).1.out≠2:=by
 unfold endS
 split
 ·simp [trnNone]
 ·split
  ·simp
  ·unfold lockS; split <;> simp [going]
theorem rw_step (h:RW t) (hatt:∀ s,t.att=some s → Wide s) (hnum:∀ i ∈ p,0≤i.n∧i.n<18446744073709551616) (hw:WideSh sh):RW (StepT p t sh).2.1:=by
 have hA:Wide (attS t):=by
  unfold attS
  cases ha:t.att with
  | none=>exact wide_over
  | some s=>exact hatt s ha
 have hin:∀ k,W64 (insAt p k).n:=fun k=>by
  unfold insAt
  split
  ·exact ⟨by simp,by simp⟩
  ·by_cases hk:k.toNat<p.length
   ·rw [List.getD_eq_getElem?_getD,List.getElem?_eq_getElem hk]; exact hnum _ (List.getElem_mem hk)
   ·rw [List.getD_eq_getElem?_getD,List.getElem?_eq_none (by omega)]; exact ⟨by simp,by simp⟩
 unfold StepT
 split
 ·exact h
 unfold stepT
 split
 ·exact rw_turned (t:=withA t _) h (word_step hA)
 simp only
 split
 ·exact rw_fail h _
 split
 ·exact rw_fail h _
 have hF:RW (fuelT t):=by unfold fuelT; split <;> exact h
 have hFA:attS (fuelT t)=attS t:=by unfold attS; rw [fuelT_att]
 split
 ·rename_i he; exact rw_plain hF (hin _) he
 ·unfold sharedT
  split
  ·split
   ·exact rw_set hF (wd_wide hw.row _)
   ·exact rw_fail hF _
  split
  ·split
   ·exact hF
   ·exact rw_fail hF _
  split
  ·exact hF
  split
  ·split
   ·exact ⟨hF.1,hF.1⟩
   ·exact hF
  split
  ·exact rw_turned (t:=withA (fuelT t) _) hF (by rw [hFA]; exact word_get hA)
  split
  ·exact rw_turned (t:=withA (fuelT t) _) hF (fun _ h2=>absurd h2 out_put)
  split
  ·exact rw_give hF _
  ·exact rw_turned (t:=withA (fuelT t) _) hF (fun _ h2=>absurd h2 out_end)
end
end Go.Proofs.YtehopaabfoopeaaGreat
set_option linter.unusedSimpArgs false
set_option linter.unusedVariables false
set_option maxRecDepth 100000
namespace Go.Proofs.YtehopaabfoopeaaGreat
open Go.RowKit
def lookR (p:List Ins) (r:RT) (sh:Sh):Told × RT × Sh:=
 if sh.clock=r.a.snap then (telling 2 r.a.addr r.a.word,nextR (setRR (withR r { r.a with word:=0,reads:=r.a.reads ++ [(r.a.addr,r.a.word)],addr:=0,phase:=1 }) (insAt p r.at_).a r.a.word),sh)
 else (quiet,withR r { r.a with word:=0,phase:=4,thn:=2 },sh)
def underR (p:List Ins) (r:RT) (sh:Sh):Told × RT × Sh:=
 if r.a.phase=2 then loadR r sh else if r.a.phase=3 then lookR p r sh
 else if r.a.phase=4∨r.a.phase=5∨r.a.phase=6 then againR r sh
 else if r.a.phase=7 then lockR r sh else if r.a.phase=8 then storeR r sh else freeR r sh
def fuelR (r:RT):RT:=if r.ins=true then { r with fuel:=r.fuel+1 } else r
def goR (p:List Ins) (r:RT) (sh:Sh):Told × RT × Sh:=
 if (plainR (insAt p r.at_) r.regs r.at_).2.2=true then (quiet,{ r with regs:=(plainR (insAt p r.at_) r.regs r.at_).1,at_:=(plainR (insAt p r.at_) r.regs r.at_).2.1 },sh)
 else if r.ins=true then insideR (insAt p r.at_) r sh else outsideR (insAt p r.at_) r sh
def stepR (p:List Ins) (r:RT) (sh:Sh):Told × RT × Sh:=
 if r.ins=true∧r.a.phase≠1 then underR p r sh
 else if opAt p r.at_=0∨(r.ins=true∧(formI (opAt p r.at_)).ins=false)∨(r.ins=false∧(formI (opAt p r.at_)).out=false) then ((failR r 210).1,(failR r 210).2,sh)
 else if r.ins=true∧r.fuel=4096 then ((failR r 6).1,(failR r 6).2,sh)
 else goR p (fuelR r) sh
def StepR (p:List Ins) (r:RT) (sh:Sh):Told × RT × Sh:=if r.st≠1 then (quiet,r,sh) else stepR p r sh
def asR (x:Told × TS × Sh):Told × RT × Sh:=(x.1,x.2.1.rt,x.2.2)
section
variable {p:List Ins} {t:TS} {sh:Sh} {s:AS}
theorem fail_rt (k:Int):((failT t k).1,(failT t k).2.rt)=failR t.rt k:=by
 obtain ⟨st,er,at_,rs,sta,sv,fu,att⟩:=t
 cases att <;> rfl
theorem fail_as (k:Int):asR ((failT t k).1,(failT t k).2,sh)=((failR t.rt k).1,(failR t.rt k).2,sh):=by
 have h:=fail_rt (t:=t) k
 unfold asR
 simp only
 rw [← h]
theorem with_rt (ha:t.att=some s) (s':AS):(withA t s').rt=withR t.rt s':=by
 obtain ⟨st,er,at_,rs,sta,sv,fu,att⟩:=t
 cases ha
 rfl
theorem rt_a (ha:t.att=some s):t.rt.a=s:=by
 obtain ⟨st,er,at_,rs,sta,sv,fu,att⟩:=t
 cases ha
 rfl
theorem rt_ins (ha:t.att=some s):t.rt.ins=true:=by
 obtain ⟨st,er,at_,rs,sta,sv,fu,att⟩:=t
 cases ha
 rfl
theorem turned_stay (ha:t.att=some s) (s':AS) (o w k a v:Int) (own:Bool) (ho:o=1∨o=0) (sh':Sh) :
  asR ((turnedT p (withA t s') ⟨o,w,⟨k,a,v,own⟩⟩ 0).1,(turnedT p (withA t s') ⟨o,w,⟨k,a,v,own⟩⟩ 0).2,sh')=((⟨k,a,v,own,0⟩,k != 0),withR t.rt s',sh'):=by
 unfold turnedT asR
 rw [if_neg (by simp),← with_rt ha]
 rcases ho with rfl | rfl <;> rfl
theorem turnedT_fail (s':AS) (x:Trn) {e:Int} (he:e≠0) (sh':Sh) :
  asR ((turnedT p (withA t s') x e).1,(turnedT p (withA t s') x e).2,sh')=((failR (withA t s').rt e).1,(failR (withA t s').rt e).2,sh'):=by
 unfold turnedT
 rw [if_pos he]
 exact fail_as e
theorem tgot (t':TS) (w k a v:Int) (own:Bool):turnedT p t' ⟨2,w,⟨k,a,v,own⟩⟩ 0=((⟨k,a,v,own,0⟩,k != 0),nextT (setR t' (insAt p t'.at_).a w)):=rfl
theorem tkept (t':TS) (w k a v:Int) (own:Bool):turnedT p t' ⟨3,w,⟨k,a,v,own⟩⟩ 0=((⟨k,a,v,own,0⟩,k != 0),nextT t'):=rfl
theorem tdone (t':TS) (w k a v:Int) (own:Bool):turnedT p t' ⟨4,w,⟨k,a,v,own⟩⟩ 0=((⟨k,a,v,own,0⟩,k != 0),leaveT t' (t'.at_+1)):=rfl
theorem tstale (t':TS) (w k a v:Int) (own:Bool):turnedT p t' ⟨5,w,⟨k,a,v,own⟩⟩ 0=((⟨k,a,v,own,0⟩,k != 0),giveT t' t'.start):=rfl
theorem failR_with (r:RT) (a:AS) (e:Int) (hi:r.ins=true):failR (withR r a) e=failR r e:=by
 obtain ⟨st,er,at_,rs,ins,sta,sv,fu,a2⟩:=r
 dsimp only at hi
 subst hi
 rfl
theorem under_eq (ha:t.att=some s) (hM:May s) (h1:s.phase≠1) (h10:s.phase≠10) (hw:WideSh sh) (hW:Wide s) :
  underR p t.rt sh=asR ((turnedT p (withA t (stepS s sh).2.2.1) (stepS s sh).1 (stepS s sh).2.1).1,(turnedT p (withA t (stepS s sh).2.2.1) (stepS s sh).1 (stepS s sh).2.1).2,(stepS s sh).2.2.2):=by
 have hph:=hM.ph
 have hra:=rt_a ha
 have hri:=rt_ins ha
 have hev:=hM.even
 have hsn:=hW.snap
 have hcl:=hw.clock
 unfold underR
 rw [hra]
 rcases (by omega:s.phase=2∨s.phase=3∨s.phase=4∨s.phase=5∨s.phase=6∨s.phase=7∨s.phase=8∨s.phase=9) with e | e | e | e | e | e | e | e
 ·rw [if_pos e]
  unfold loadR
  rw [hra]
  by_cases hx:s.addr<sh.row.length
  ·rw [step2 e hx,if_pos hx]
   unfold loadS going evNone loadW
   rw [if_pos hx]
   simp only
   rw [turned_stay ha _ _ _ _ _ _ _ (.inl rfl)]
   rfl
  ·rw [step2n e hx,if_neg hx]
   simp only
   rw [turnedT_fail _ _ (by decide),with_rt ha,failR_with _ _ _ hri]
 ·rw [if_neg (by omega),if_pos e,step3 e]
  unfold lookR lookS
  rw [hra]
  by_cases hc:sh.clock=s.snap
  ·rw [if_pos hc,if_pos hc]
   simp only
   rw [tgot]
   have:(nextT (setR (withA t { s with reads:=s.reads ++ [(s.addr,s.word)],phase:=1,addr:=0,word:=0 }) (insAt p t.at_).a s.word)).rt=nextR (setRR (withR t.rt { s with word:=0,reads:=s.reads ++ [(s.addr,s.word)],addr:=0,phase:=1 }) (insAt p t.rt.at_).a s.word):=by
    obtain ⟨st,er,at_,rs,sta,sv,fu,att⟩:=t
    cases ha
    rfl
   rw [← this]
   rfl
  ·rw [if_neg hc,if_neg hc]
   unfold going evNone
   simp only
   rw [turned_stay ha _ _ _ _ _ _ _ (.inl rfl)]
   rfl
 ·rw [if_neg (by omega),if_neg (by omega),if_pos (.inl e),step4 e]
  unfold againR waitS
  rw [hra,if_pos e]
  by_cases hc:sh.clock % 2=1
  ·rw [if_pos hc,if_pos hc]
   unfold going evNone
   simp only
   rw [turned_stay ha _ _ _ _ _ _ _ (.inl rfl),← with_rt ha]
   obtain ⟨st,er,at_,rs,sta,sv,fu,att⟩:=t
   cases ha
   rfl
  ·rw [if_neg hc,if_neg hc]
   unfold going evNone
   simp only
   rw [turned_stay ha _ _ _ _ _ _ _ (.inl rfl)]
   rfl
 ·rw [if_neg (by omega),if_neg (by omega),if_pos (.inr (.inl e)),step5 e]
  have h5:=hM.at5 e
  unfold againR checkS
  rw [hra,if_neg (by omega),if_pos e]
  cases hg:s.reads[s.at_.toNat]? with
  | none =>
   rw [List.getElem?_eq_none_iff] at hg
   omega
  | some c =>
   simp only
   by_cases hc:c.1<sh.row.length∧wd sh.row c.1.toNat=c.2
   ·rw [if_pos hc,if_pos hc]
    unfold going evNone
    simp only
    rw [turned_stay ha _ _ _ _ _ _ _ (.inl rfl)]
    rfl
   ·rw [if_neg hc,if_neg hc]
    simp only
    rw [tstale]
    rfl
 ·rw [if_neg (by omega),if_neg (by omega),if_pos (.inr (.inr e)),step6 e]
  unfold againR closeS
  rw [hra,if_neg (by omega),if_neg (by omega)]
  by_cases hc:sh.clock=s.found
  ·rw [if_neg (fun k=>k hc),if_pos hc]
   simp only
   rw [turned_stay ha _ _ _ _ _ _ _ (.inl rfl)]
   rfl
  ·rw [if_pos hc,if_neg hc]
   unfold going evNone
   simp only
   rw [turned_stay ha _ _ _ _ _ _ _ (.inl rfl)]
   rfl
 ·rw [if_neg (by omega),if_neg (by omega),if_neg (by omega),if_pos e,step7 e]
  have h0:=hM.at0 (by omega) (by omega)
  unfold lockR lockS
  rw [hra]
  by_cases hc:sh.clock=s.snap
  ·rw [if_pos hc,if_pos hc]
   simp only
   rw [turned_stay ha _ _ _ _ _ _ _ (.inl rfl),show (sh.clock+1) % 18446744073709551616=sh.clock+1 from by omega]
   obtain ⟨sn,rd,wl,ph,th,ad,wo,fo,at2⟩:=s
   dsimp only at h0
   subst h0
   rfl
  ·rw [if_neg hc,if_neg hc]
   unfold going evNone
   simp only
   rw [turned_stay ha _ _ _ _ _ _ _ (.inl rfl)]
   rfl
 ·rw [if_neg (by omega),if_neg (by omega),if_neg (by omega),if_neg (by omega),if_pos e,step8 e]
  have h8:=hM.at8 e
  unfold storeR storeS
  rw [hra]
  cases hg:s.writes[s.at_.toNat]? with
  | none =>
   rw [List.getElem?_eq_none_iff] at hg
   omega
  | some c =>
   unfold going evNone
   simp only
   rw [turned_stay ha _ _ _ _ _ _ _ (.inl rfl)]
   rfl
 ·rw [if_neg (by omega),if_neg (by omega),if_neg (by omega),if_neg (by omega),if_neg (by omega),step9 e]
  unfold freeR freeS
  rw [hra]
  rw [tdone,show (s.snap+1) % 18446744073709551616=s.snap+1 from by omega]
  rfl
theorem nextT_rt:(nextT t).rt=nextR t.rt:=rfl
theorem fuel_rt:(fuelT t).rt=fuelR t.rt:=by
 unfold fuelT fuelR
 cases h:t.ins with
 | true=>rw [if_pos rfl,if_pos (by exact h)]; rfl
 | false=>rw [if_neg (by simp),if_neg (by rw [show t.rt.ins=t.ins from rfl,h]; simp)]
theorem plain_eq (hop:opAt p t.at_≤9∧1≤opAt p t.at_):∃ t',plainT t (insAt p t.at_)=some t'∧goR p t.rt sh=(quiet,t'.rt,sh):=by
 have hq:(insAt p t.at_).op=opAt p t.at_:=rfl
 unfold goR
 rw [show t.rt.at_=t.at_ from rfl,show t.rt.regs=t.regs from rfl]
 generalize hi:insAt p t.at_=i at hq
 have hi1:i.op=1∨i.op=2∨i.op=3∨i.op=4∨i.op=5∨i.op=6∨i.op=7∨i.op=8∨i.op=9:=by omega
 clear hi hop hq
 obtain ⟨op,a,b,c,n⟩:=i
 dsimp only at hi1
 rcases hi1 with rfl | rfl | rfl | rfl | rfl | rfl | rfl | rfl | rfl
 iterate 8 exact ⟨_,rfl,rfl⟩
 refine ⟨if rg t a=0 then { t with at_:=targetI n } else nextT t,rfl,?_⟩
 rw [if_pos (show (plainR ⟨9,a,b,c,n⟩ t.regs t.at_).2.2=true from rfl)]
 show (quiet,({ t.rt with regs:=t.regs,at_:=if rg t a=0 then targetI n else t.at_+1 }:RT),sh)=_
 by_cases hz:rg t a=0
 ·rw [if_pos hz,if_pos hz]; rfl
 ·rw [if_neg hz,if_neg hz]; rfl
theorem shared_eq (hM:TMay p t) (hidle:∀ s,t.att=some s → s.phase=1) (hWt:∀ s,t.att=some s → Wide s) (hw:WideSh sh) (hop:10≤opAt p t.at_∧opAt p t.at_≤17)
  (hin:t.ins=true → opAt p t.at_=13∨opAt p t.at_=14∨opAt p t.at_=15∨opAt p t.at_=16) (hout:t.ins=false → opAt p t.at_=10∨opAt p t.at_=11∨opAt p t.at_=12∨opAt p t.at_=17) :
  plainT t (insAt p t.at_)=none∧goR p t.rt sh=asR (sharedT p t sh (insAt p t.at_)):=by
 have hq:(insAt p t.at_).op=opAt p t.at_:=rfl
 have hpn:plainT t (insAt p t.at_)=none:=by
  unfold plainT
  rw [if_neg (by omega),if_neg (by omega),if_neg (by omega),if_neg (by omega),if_neg (by omega),if_neg (by omega),if_neg (by omega),if_neg (by omega),if_neg (by omega)]
 refine ⟨hpn,?_⟩
 have hpr:(plainR (insAt p t.rt.at_) t.rt.regs t.rt.at_).2.2=false:=by
  rw [show t.rt.at_=t.at_ from rfl]
  unfold plainR
  simp only
  rw [if_neg (by omega),if_neg (by omega),if_neg (by omega),if_neg (by omega),if_neg (by omega),if_neg (by omega),if_neg (by omega),if_neg (by omega),if_neg (by omega)]
 unfold goR
 rw [if_neg (by rw [hpr]; simp),show t.rt.at_=t.at_ from rfl]
 clear hpr hpn
 generalize hi:insAt p t.at_=i at hq
 have hgi:∀ k,rgR t.rt k=rg t k:=fun _=>rfl
 cases ht:t.att with
 | some s =>
  have hti:t.ins=true:=by unfold TS.ins; rw [ht]; rfl
  have hra:=rt_a ht
  have hri:=rt_ins ht
  have hs1:=hidle s ht
  obtain ⟨_,_,_,hMs,_,_⟩:=hM.ins s ht
  have hWs:=hWt s ht
  have hwt:withA t s=t:=by
   obtain ⟨st,er,at_,rs,sta,sv,fu,att⟩:=t
   cases ht
   rfl
  have hat:attS t=s:=by unfold attS; rw [ht]; rfl
  have h0:=hMs.at0 (by omega) (by omega)
  rw [if_pos hri]
  have hop4:=hin hti
  unfold insideR sharedT
  rcases hop4 with e | e | e | e
  ·rw [if_pos (by omega),if_neg (by omega),if_neg (by omega),if_neg (by omega),if_neg (by omega),if_pos (by omega)]
   unfold getR getS
   rw [hat,hra,hgi,if_neg (show ¬ s.phase≠1 by omega)]
   cases hpl:place s.writes (rg t i.b) with
   | some k =>
    simp only
    rw [tgot,hwt,hi]
    rfl
   | none =>
    simp only
    by_cases hx:rg t i.b<sh.row.length
    ·have hn:¬ ¬ rg t i.b<sh.row.length:=fun k=>k hx
     rw [if_neg hn,if_neg hn]
     by_cases hl:s.reads.length=1024
     ·rw [if_pos hl,if_pos (by omega)]
      simp only
      rw [turnedT_fail _ _ (by decide),with_rt ht,failR_with _ _ _ hri]
     ·have:=hMs.lenR
      rw [if_neg hl,if_neg (by omega)]
      simp only
      unfold loadR loadS going evNone loadW
      simp only
      rw [show (withR t.rt { s with addr:=rg t i.b }).a = { s with addr:=rg t i.b } from rfl]
      rw [if_pos hx,if_pos hx,turned_stay ht _ _ _ _ _ _ _ (.inl rfl)]
      rfl
    ·rw [if_pos hx,if_pos hx]
     simp only
     rw [turnedT_fail _ _ (by decide),with_rt ht,failR_with _ _ _ hri]
  ·rw [if_neg (by omega),if_pos (by omega),if_neg (by omega),if_neg (by omega),if_neg (by omega),if_neg (by omega),if_neg (by omega),if_pos (by omega)]
   unfold putR putS
   rw [hat,hra,hgi,hgi,if_neg (show ¬ s.phase≠1 by omega)]
   by_cases hx:rg t i.b<sh.row.length
   ·have hn:¬ ¬ rg t i.b<sh.row.length:=fun k=>k hx
    rw [if_neg hn,if_neg hn]
    cases hpl:place s.writes (rg t i.b) with
    | some k =>
     simp only
     rw [tkept]
     unfold asR
     simp only
     rw [nextT_rt,with_rt ht]
     rfl
    | none =>
     simp only
     by_cases hl:s.writes.length=1024
     ·rw [if_pos hl,if_neg (by omega)]
      simp only
      rw [turnedT_fail _ _ (by decide),with_rt ht,failR_with _ _ _ hri]
     ·have:=hMs.lenW
      rw [if_neg hl,if_pos (by omega)]
      simp only
      rw [tkept]
      unfold asR
      simp only
      rw [nextT_rt,with_rt ht]
      rfl
   ·rw [if_pos hx,if_pos hx]
    simp only
    rw [turnedT_fail _ _ (by decide),with_rt ht,failR_with _ _ _ hri]
  ·rw [if_neg (by omega),if_neg (by omega),if_neg (by omega),if_neg (by omega),if_neg (by omega),if_neg (by omega),if_neg (by omega),if_neg (by omega),if_neg (by omega),if_neg (by omega)]
   unfold endR endS
   rw [hat,hra,if_neg (show ¬ s.phase≠1 by omega)]
   by_cases hwl:s.writes=[]
   ·rw [if_pos hwl,if_pos hwl]
    simp only
    rw [tdone]
    rfl
   ·rw [if_neg hwl,if_neg hwl]
    have hev:=hMs.even
    have hsn:=hWs.snap
    unfold lockR lockS
    rw [hra]
    by_cases hc:sh.clock=s.snap
    ·rw [if_pos hc,if_pos hc]
     simp only
     rw [turned_stay ht _ _ _ _ _ _ _ (.inl rfl),show (sh.clock+1) % 18446744073709551616=sh.clock+1 from by omega]
     obtain ⟨sn,rd,wl,ph,th,ad,wo,fo,at2⟩:=s
     dsimp only at h0
     subst h0
     rfl
    ·rw [if_neg hc,if_neg hc]
     unfold going evNone
     simp only
     rw [turned_stay ht _ _ _ _ _ _ _ (.inl rfl)]
     rfl
  ·rw [if_neg (by omega),if_neg (by omega),if_pos (by omega),if_neg (by omega),if_neg (by omega),if_neg (by omega),if_neg (by omega),if_neg (by omega),if_neg (by omega),if_pos (by omega)]
   rfl
 | none =>
  have hti:t.ins=false:=by unfold TS.ins; rw [ht]; rfl
  have hri:t.rt.ins=false:=hti
  rw [if_neg (by rw [hri]; simp)]
  have hop4:=hout hti
  have hcl:=hw.clock
  unfold outsideR sharedT
  rw [hgi,hgi]
  rcases hop4 with e | e | e | e
  ·have e1:i.op=10:=by omega
   rw [if_pos e1,if_pos e1]
   by_cases hx:rg t i.b<sh.row.length
   ·rw [if_pos hx,if_pos hx]
    rfl
   ·rw [if_neg hx,if_neg hx,fail_as]
  ·have e1:i.op=11:=by omega
   have n0:¬ i.op=10:=by omega
   rw [if_neg n0,if_neg n0,if_pos e1,if_pos e1]
   by_cases hx:rg t i.b<sh.row.length
   ·rw [if_pos hx,if_pos hx]
    rfl
   ·rw [if_neg hx,if_neg hx,fail_as]
  ·have e1:i.op=12:=by omega
   have n0:¬ i.op=10:=by omega
   have n1:¬ i.op=11:=by omega
   have n2:¬ i.op=17:=by omega
   rw [if_neg n0,if_neg n0,if_neg n1,if_neg n1,if_neg n2,if_neg n2,if_pos e1]
   by_cases hc:sh.clock % 2=1
   ·rw [if_pos hc,if_neg (by omega)]
    obtain ⟨st,er,at_,rs,sta,sv,fu,att⟩:=t
    cases ht
    rfl
   ·rw [if_neg hc,if_pos (by omega)]
    obtain ⟨_,_,hf⟩:=hM.out ht
    obtain ⟨st,er,at_,rs,sta,sv,fu,att⟩:=t
    cases ht
    rfl
  ·have e1:i.op=17:=by omega
   have n0:¬ i.op=10:=by omega
   have n1:¬ i.op=11:=by omega
   rw [if_neg n0,if_neg n0,if_neg n1,if_neg n1,if_pos e1,if_pos e1]
   rfl
end
end Go.Proofs.YtehopaabfoopeaaGreat
set_option linter.unusedSimpArgs false
set_option linter.unusedVariables false
set_option maxRecDepth 100000
namespace Go.Proofs.YtehopaabfoopeaaGreat
open Go.RowKit
section
variable {lr:Nat} {P:Program} {ops:Array Oper} {Q:Exit → Act → World → Prop} {md:Region.Mode} {S:World → Prop} {t:Nat}
def wpC (P:Program) (md:Region.Mode) (ops:Array Oper) (Q:Exit → Act → World → Prop) (S:World → Prop) (t:Nat):Nat → List Nat → Array Bool → Act → World → Prop
 | 0,_,L,a,w=>Region.ready md ops L=[]∧Q .normal a w
 | n+1,l,L,a,w =>
   (∃ i rest o v,l=i :: rest∧i<t∧ops[i]? = some o∧((Region.ready md ops L).contains i && Region.free md ops L i)=true∧YieldsIf P ops S o v a∧S w∧wpC P md ops Q S t n rest (L.setIfInBounds i true) (a.put o.dst v) w) ∨
   (Region.ready md ops L≠[]∧∀ j ∈ Region.ready md ops L,∃ rest,wpOp P ops Q j (fun a' w'=>(t≤j∨S w')∧wpC P md ops Q S t n rest (L.setIfInBounds j true) a' w') a w)
theorem wpAnyE_C (hsel:Region.noSelect ops=true) (hQ:∀ c d (v:Value) a w,Q (.panic c) (a.put d v) w → Q (.panic c) a w) (hT:TailWaits md ops t) :
  ∀ (n:Nat) (l:List Nat) (L:Array Bool) (a:Act) (w:World),Shut md ops L → wpC P md ops Q S t n l L a w → wpAnyE P md ops Q S t n L a w
 | 0,_,_,_,_,_,h=>h
 | n+1,l,L,a,w,inv,h=>by
  rcases h with ⟨i,rest,o,v,_,hit,ho,hrf,hy,hS,hK⟩ | ⟨hne,hK⟩
  ·simp only [Bool.and_eq_true] at hrf
   have hr':i ∈ Region.ready md ops L:=by simpa using hrf.1
   exact wpAnyE_first ho (Region.noSelect_spec hsel) (fun c a w=>hQ c _ _ a w) hT hit n L a w inv (Region.free_spec ho hrf.2) hr' hy hS
    (wpAnyE_C hsel hQ hT n rest _ _ _ (inv.set hr') hK)
  ·refine ⟨hne,fun j hj=>?_⟩
   obtain ⟨rest,hK⟩:=hK j hj
   exact wpOp_mono (fun a' w' h'=>⟨h'.1,wpAnyE_C hsel hQ hT n rest _ _ _ (inv.set hj) h'.2⟩) hK
def tailW (md:Region.Mode) (ops:Array Oper) (t:Nat):Bool:=(List.range' t (ops.size - t)).all fun j=>(List.range t).all fun i=>anchored md ops j (j+1) i
theorem tailW_spec (h:tailW md ops t=true):TailWaits md ops t:=by
 unfold tailW at h
 simp only [List.all_eq_true,List.mem_range'_1,List.mem_range] at h
 exact fun j i h1 h2 h3=>h j ⟨h1,by omega⟩ i h2
theorem wpAny_C {l:List Nat} {a:Act} {w:World} (hQ:∀ c d (v:Value) a w,Q (.panic c) (a.put d v) w → Q (.panic c) a w) (hsel:Region.noSelect ops=true) (hT:tailW md ops t=true)
  (h:wpC P md ops Q S t ops.size l (Array.replicate ops.size false) a w):wpAny P md ops Q ops.size (Array.replicate ops.size false) a w:=by
 have inv0:Shut md ops (Array.replicate ops.size false):=⟨by simp,fun j oj _ hl=>(by rw [getD_replicate_false] at hl; cases hl)⟩
 exact wpAny_of_E _ _ _ _ (wpAnyE_C (P:=P) hsel hQ (tailW_spec hT) _ l _ a w inv0 h)
theorem wp_region_brT {id:Nat} {a:Act} {w:World} {l:List Oper} (S:World → Prop) (order:List Nat) (t:Nat) (hm:P.follows .mixedOrders=true) (hsel:Region.noSelect l.toArray=true) (hT:tailW .any l.toArray t=true)
  (h:wpC P .any l.toArray (NoPanic Q) S t l.toArray.size order (Array.replicate l.toArray.size false) a w.drew):(Code.region id l.toArray true).wp P Q a w:=
 wp_region_noPanic (wp_region_any hm (wpAny_C (fun c d v a w h=>h) hsel hT h))
theorem wpC_take {l:List Oper} {n i d:Nat} {o:Oper} {rest:List Nat} {v:Value} {L:Array Bool} {a:Act} {w:World} (ho:l[i]? = some o) (hi:i<t) (hd:o.dst=some d) (hr:((Region.ready md l.toArray L).contains i && Region.free md l.toArray L i)=true)
  (hw:Region.wanted o (yielded l.toArray a.tmps)=true) (hS:S w) (hv:∀ w,S w → (execOp a.eval o).run P w=.ok (.value v) w)
  (h:wpC P md l.toArray Q S t n rest (L.setIfInBounds i true) (a.put (some d) v) w):wpC P md l.toArray Q S t (n+1) (i :: rest) L a w:=
 .inl ⟨i,rest,o,v,rfl,hi,by simpa using ho,hr,.inl ⟨hw,hv⟩,hS,by rw [hd]; exact h⟩
theorem wpC_op {l:List Oper} {n i:Nat} {o:Oper} {rest:List Nat} {L:Array Bool} {a:Act} {w:World} (ho:l[i]? = some o) (hw:Region.wanted o (yielded l.toArray a.tmps)=true)
  (h:∀ K:Act → World → Prop,Go.Shut (∀ a' w',(t≤i∨S w') → wpC P md l.toArray Q S t n rest (L.setIfInBounds i true) a' w' → K a' w') → Oper.wp P o a w K Q) :
  wpOp P l.toArray Q i (fun a' w'=>(t≤i∨S w')∧wpC P md l.toArray Q S t n rest (L.setIfInBounds i true) a' w') a w:=by
 have ho':l.toArray[i]? = some o:=by simpa using ho
 unfold wpOp
 simp only [ho',hw,if_true]
 exact .inl (h _ fun a' w' h1 h2=>⟨h1,h2⟩)
theorem wpC_eff {l:List Oper} {n i:Nat} {o:Oper} {rest:List Nat} {L:Array Bool} {a:Act} {w:World} (ho:l[i]? = some o) (hr:Region.ready md l.toArray L=[i]) (hw:Region.wanted o (yielded l.toArray a.tmps)=true)
  (h:∀ K:Act → World → Prop,Go.Shut (∀ a' w',(t≤i∨S w') → wpC P md l.toArray Q S t n rest (L.setIfInBounds i true) a' w' → K a' w') → Oper.wp P o a w K Q):wpC P md l.toArray Q S t (n+1) (i :: rest) L a w:=
 .inr ⟨by rw [hr]; simp,fun j hj=>by
  rw [hr] at hj
  obtain rfl:j=i:=by simpa using hj
  exact ⟨rest,wpC_op ho hw h⟩⟩
theorem wpC_two {l:List Oper} {n i j:Nat} {o o2:Oper} {rest:List Nat} (rest2:List Nat) {L:Array Bool} {a:Act} {w:World} (hr:Region.ready md l.toArray L=[i,j]) (ho:l[i]? = some o) (ho2:l[j]? = some o2)
  (hw:Region.wanted o (yielded l.toArray a.tmps)=true) (hw2:Region.wanted o2 (yielded l.toArray a.tmps)=true)
  (h:∀ K:Act → World → Prop,Go.Shut (∀ a' w',(t≤i∨S w') → wpC P md l.toArray Q S t n rest (L.setIfInBounds i true) a' w' → K a' w') → Oper.wp P o a w K Q)
  (h2:∀ K:Act → World → Prop,Go.Shut (∀ a' w',(t≤j∨S w') → wpC P md l.toArray Q S t n rest2 (L.setIfInBounds j true) a' w' → K a' w') → Oper.wp P o2 a w K Q):wpC P md l.toArray Q S t (n+1) (i :: rest) L a w:=
 .inr ⟨by rw [hr]; simp,fun k hk=>by
  rw [hr] at hk
  have hk:k=i∨k=j:=by simpa using hk
  rcases hk with rfl | rfl
  ·exact ⟨rest,wpC_op ho hw h⟩
  ·exact ⟨rest2,wpC_op ho2 hw2 h2⟩⟩
theorem wpC_end {l:List Nat} {L:Array Bool} {a:Act} {w:World} (hr:Region.ready md ops L=[]) (h:Q .normal a w):wpC P md ops Q S t 0 l L a w:=⟨hr,h⟩
theorem wpC_append {l:List Oper} {n i:Nat} {o:Oper} {rest:List Nat} {L:Array Bool} {a:Act} {w w':World} (h0:l[i]? = some o) (hr:Region.ready md l.toArray L=[i]) (hw:Region.wanted o (yielded l.toArray a.tmps)=true) (s x:Operand) (ty u:TypeId)
  (hop:o.op=.call { callee:=.builtin .append,args:=#[s,x],argTypes:=#[ty,u] }) (sv xv v:Value) (hs:a.eval s=sv) (hx:a.eval x=xv)
  (hrun:(Builtin.append_ #[ty,u] o.type #[sv,xv]).run P w=.ok v w') (hS:S w') (h:wpC P md l.toArray Q S t n rest (L.setIfInBounds i true) (a.put o.dst v) w'):wpC P md l.toArray Q S t (n+1) (i :: rest) L a w:=by
 refine wpC_eff h0 hr hw fun K hK=>?_
 unfold Oper.wp execOp
 simp only [hop,resolve,invoke,builtin,Sem.run_bind,Sem.run_pure,Result.andThen_ok,List.map_toArray,List.map_cons,List.map_nil,hs,hx,hrun]
 exact hK.out _ _ (.inr hS) h
theorem wpC_append_K {o:Oper} {a:Act} {w w':World} {K:Act → World → Prop} {Q2:Exit → Act → World → Prop} (s x:Operand) (ty u:TypeId)
  (hop:o.op=.call { callee:=.builtin .append,args:=#[s,x],argTypes:=#[ty,u] }) (sv xv v:Value) (hs:a.eval s=sv) (hx:a.eval x=xv)
  (hrun:(Builtin.append_ #[ty,u] o.type #[sv,xv]).run P w=.ok v w') (h:K (a.put o.dst v) w'):Oper.wp P o a w K Q2:=by
 unfold Oper.wp execOp
 simp only [hop,resolve,invoke,builtin,Sem.run_bind,Sem.run_pure,Result.andThen_ok,List.map_toArray,List.map_cons,List.map_nil,hs,hx,hrun]
 exact h
end
end Go.Proofs.YtehopaabfoopeaaGreat
