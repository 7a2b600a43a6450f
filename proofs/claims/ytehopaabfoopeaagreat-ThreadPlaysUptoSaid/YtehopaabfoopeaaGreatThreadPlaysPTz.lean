/- ThreadPlays (layer 11), the second form: threads over the same cells and clock, by picks. No condition. -/
import Derived.Test.YtehopaabfoopeaaGreatTz33
import Derived.Test.YtehopaabfoopeaaGreatTz34
import Derived.Deep.CondSized
set_option linter.unusedSimpArgs false
set_option linter.unusedVariables false
set_option maxRecDepth 100000
namespace Go.Proofs.YtehopaabfoopeaaGreat.threadPlays
open Go.ChangeShapes Go.WideShapes Go.ChangeAt Go.RowKit
theorem lifted (os:Os) (started:os.Started) (H:Type) (enc:TypeId × Value → H) (F:Stop.Interp) :
  ReturnsInHanded {} Tryz.checked os 3 .any ((Rows.OpenSpec.upto Rows.threadPlaysSpec).pre6 enc Tryz.prog Tryz.f3 Rows.threadPlaysUptoRow.domain false) (((Rows.OpenSpec.upto Rows.threadPlaysSpec).at F).post enc Tryz.prog Tryz.f3 false true false false):=by
 refine returnsInHanded_of_cond_sized (C:=Tryz.checked) (s:=Rows.OpenSpec.upto Rows.threadPlaysSpec) (k:=Rows.uptoSmall) rfl law_own started (by kernel_rfl) Tryz.func3
  (OpenSpec.witness (enc:=enc) (C:=Tryz.checked) (s:=Rows.OpenSpec.upto Rows.threadPlaysSpec) (k:=Rows.uptoSmall) rfl false ⟨#[],#[.agg #[.slice none 0 0,.int .u64 0,.slice none 0 0,.slice none 0 0]],[]⟩ 8 (by kernel_rfl) (by kernel_rfl) (by kernel_rfl)
   (x:=([.agg [.nil,.lit (.int .u64 0),.nil,.nil]],[],[])) (by kernel_rfl) rfl (by kernel_rfl)) ?_
 intro W base args ds gs before hval0 hW hcnd hk hsz _
 have hval:∀ (j:Nat) t v,Tryz.f3.params[j]? = some t → args[j]? = some v → Value.okWide Tryz.prog W .any base t v:=hval0
 have hW':=hW
 obtain ⟨p,q,hA0,hV,rfl,hfz,hnd⟩:=hW
 have hA:DataW.TrodAll enc Tryz.prog W 0 (fun _=>true) true Tryz.f3.params.toList args.toList ds p:=hA0
 rw [Tryz.params3] at hA hval
 obtain ⟨v0,vs0,d0,ds0,p0,q0,hargs,rfl,rfl,h0,r0⟩:=trodAll_cons hA
 obtain ⟨rfl,rfl,rfl⟩:=trodAll_nil r0
 obtain rfl:args = #[v0]:=by cases args; simp_all
 have hz0:Sized Tryz.prog 27 d0:=Sized.arg (j:=0) hsz (by rw [Tryz.params3]; rfl) rfl
 obtain ⟨cs,parts,rfl,hcsz,hdp,hf⟩:=open_struct2 Tryz.underlying27 (by kernel_rfl) (by kernel_rfl) (hval 0 27 v0 rfl rfl) h0 hz0
 obtain ⟨u0,m0,y0,c0,t0,s0,b00⟩:=hf 0 _ rfl
 obtain ⟨u1,m1,y1,c1,t1,s1,b10⟩:=hf 1 _ rfl
 obtain ⟨u2,m2,y2,c2,t2,s2,b20⟩:=hf 2 _ rfl
 obtain ⟨u3,m3,y3,c3,t3,s3,b30⟩:=hf 3 _ rfl
 obtain ⟨pa,cap,zs,rfl,hs,wf,hc,hm,hr,hl⟩:=open_ints_in Tryz.underlying22 Tryz.underlying23 (by kernel_rfl) t0 s0 8 (by kernel_rfl)
 obtain ⟨k1,rfl,b1⟩:=open_u64 t1
 obtain ⟨pp,cp,l,rfl,hP,hlm⟩:=open_progs t2 s2
 obtain ⟨pq,cq,ks,rfl,hs3,wf3,hc3,hm3,hr3,hl3⟩:=open_ints_in Tryz.underlying25 Tryz.underlying61 (by kernel_rfl) t3 s3 4 (by kernel_rfl)
 have hgs:gs=[]:=by obtain ⟨rfl,_⟩:=trodVars_none hV; rfl
 subst hdp
 rw [hgs] at hk
 simp only [List.append_nil] at hk
 have hlu:l.length≤1048576:=Nat.le_trans (slice_bulk Tryz.underlying24 t2) (bulk_agg hk b20)
 have hku:ks.length≤1048576:=Nat.le_trans (slice_bulk Tryz.underlying25 t3) (bulk_agg hk b30)
 have hb3:∀ n ∈ ks,0≤n∧n<4294967296:=by
  intro n hn
  have:0≤n∧n≤4294967295:=by simpa [Lit.wf,IntKind.min,IntKind.max,IntKind.signed,IntKind.bits] using wf3 n hn
  omega
 have hb:∀ n ∈ zs,0≤n∧n<18446744073709551616:=by
  intro n hn
  have:0≤n∧n≤18446744073709551615:=by simpa [Lit.wf,IntKind.min,IntKind.max,IntKind.signed,IntKind.bits] using wf n hn
  omega
 obtain rfl:cs = #[.slice pa zs.length cap,.int .u64 k1,.slice pp l.length cp,.slice pq ks.length cq]:=by
  have hcsz4:cs.size=4:=hcsz
  apply Array.ext'
  apply List.ext_getElem?
  intro i
  by_cases hi:i<4
  ·have:i=0∨i=1∨i=2∨i=3:=by omega
   rcases this with rfl | rfl | rfl | rfl <;> simpa using by assumption
  ·rw [List.getElem?_eq_none (by simp; omega),List.getElem?_eq_none (by simp; omega)]
 refine (plays_walk W pa zs cap k1 pp l cp pq ks cq hs hb (Nat.le_trans hc hm) hP hlm b1 hs3 hb3 (Nat.le_trans hc3 hm3) hlu hku).mono fun e W' ⟨he,hu⟩=>?_
 subst he
 exact ⟨_,rfl,law_post rfl (by rw [Tryz.params3]; decide +kernel) rfl (by obtain ⟨rfl,_⟩:=trodVars_none hV; rfl) hW' (hu.below (Nat.le_refl _) (by simp))⟩
theorem proved:Rows.ThreadPlaysUptoSaid:=
 OpenClaim.holds_of_cond 3 Tryz.f3 rfl rfl rfl rfl rfl rfl rfl ⟨rfl,rfl,rfl,rfl,rfl⟩ rfl rfl rfl rfl rfl (by kernel_rfl) Tryz.func3 (by kernel_rfl)
  (of_decide_eq_true (by kernel_rfl)) (by unfold Func.isWrapper; first | (rw [if_pos (by decide +kernel)]; kernel_rfl) | (rw [if_neg (by decide +kernel)]; exact ⟨rfl,rfl⟩))
  (fun os started H enc _ F=>lifted os started H enc F)
end Go.Proofs.YtehopaabfoopeaaGreat.threadPlays
