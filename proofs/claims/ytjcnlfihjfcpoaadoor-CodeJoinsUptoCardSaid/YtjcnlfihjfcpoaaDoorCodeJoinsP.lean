/- CodeJoins (layer 8): programs put behind one another; they stay; a join of joins is the join of all. The conditions: the row's own list of variables; the arguments hold at most 1048576 values. -/
import Derived.Test.YtjcnlfihjfcpoaaDoorLJoins
import Derived.Test.YtjcnlfihjfcpoaaDoorCBulk
import Derived.Test.YtjcnlfihjfcpoaaDoorCLaid
import Derived.Test.YtjcnlfihjfcpoaaDoorLaw
import Derived.Test.YtjcnlfihjfcpoaaDoorOpen
import Derived.Test.YtjcnlfihjfcpoaaDoorCards
import Derived.Test.YtjcnlfihjfcpoaaDoorTie
import Derived.SevenTiedAt
import Derived.ChangeMaps5
set_option linter.unusedSimpArgs false
set_option linter.unusedVariables false
set_option maxRecDepth 100000
namespace Go.Proofs.YtjcnlfihjfcpoaaDoor.codeJoins
open Go.ChangeShapes Go.WideShapes Go.ChangeAt Go.RowKit

theorem listed : Lists Rows.codeJoinsUptoRow.laid := by
  unfold Lists Rows.codeJoinsUptoRow
  exact ⟨by repeat (first | exact List.mem_cons_self | refine List.mem_cons_of_mem _ ?_), by repeat (first | exact List.mem_cons_self | refine List.mem_cons_of_mem _ ?_), by repeat (first | exact List.mem_cons_self | refine List.mem_cons_of_mem _ ?_), by repeat (first | exact List.mem_cons_self | refine List.mem_cons_of_mem _ ?_)⟩

theorem plainH (w : World) : laidMetH Tryd.prog Rows.codeJoinsUptoRow.laid w = laidMet Tryd.prog Rows.codeJoinsUptoRow.laid w := MakeChecks.laidMetH_plain _ _ _ (by kernel_rfl)

theorem lifted (os : Os) (started : os.Started) (H : Type) (enc : TypeId × Value → H) (F : Stop.Interp) :
    ReturnsInHanded {} Tryd.checked os 7 .any ((Rows.OpenSpec.upto Rows.codeJoinsSpec).preRow enc Tryd.prog Tryd.f7 Rows.codeJoinsUptoRow.domain false Rows.codeJoinsUptoRow.laid) (((Rows.OpenSpec.upto Rows.codeJoinsSpec).at F).post enc Tryd.prog Tryd.f7 false true false false) := by
  have hx0 : (DataW.whole enc Tryd.prog ((World.laidAll Tryd.prog os Rows.codeJoinsUptoRow.laid).forCall (fun _ _ => 0) ⟨#[], #[.slice none 0 0, .slice none 0 0, .slice none 0 0], []⟩).memory Tryd.f7.params.toList Rows.codeJoinsSpec.vars false (#[.slice none 0 0, .slice none 0 0, .slice none 0 0] : Array Value).toList 8).map (fun x => (x.1, x.2.1)) = some ([.nil, .nil, .nil], []) := by kernel_rfl
  obtain ⟨⟨x1, x2, x3⟩, hx, hx1⟩ := Option.map_eq_some_iff.1 hx0
  simp only [Prod.mk.injEq] at hx1
  obtain ⟨rfl, rfl⟩ := hx1
  refine returnsInHanded_of_row (C := Tryd.checked) (s := (Rows.OpenSpec.upto Rows.codeJoinsSpec)) law_own started (by kernel_rfl) Tryd.func7
    (witness_card (enc := enc) (s := (Rows.OpenSpec.upto Rows.codeJoinsSpec)) (conds := Rows.codeJoinsUptoRow.domain) (laid := Rows.codeJoinsUptoRow.laid) #[.slice none 0 0, .slice none 0 0, .slice none 0 0] (World.shaped_of_ZipB (by kernel_rfl) (by kernel_rfl)) (by kernel_rfl)
      (OpenSpec.preRow_of_cond 8 hx (by kernel_rfl) (fun k hk => by cases hk; kernel_rfl) (by kernel_rfl) (by rw [plainH]; exact laidMet_laidAll _ (by kernel_rfl) (by kernel_rfl)))) ?_
  intro W base args ds gs before hval0 hW hcnd hcond hsz0 hL hsh _
  have hL0 : laidMetH Tryd.prog Rows.codeJoinsUptoRow.laid W := hL
  rw [plainH] at hL0
  have hPre : Pre W := pre_laid listed hL0 hsh
  have hbulk : Rows.uptoSmall H (ds ++ gs) = true := hcond _ rfl
  have hsz : (DataW.weightsEach Tryd.prog (Tryd.f7.params.toList ++ Rows.codeJoinsSpec.plain.varTypes Tryd.prog) (ds ++ gs)).all (· ≤ reachBytes) = true := hsz0
  clear hcond hsz0
  have hval : ∀ (j : Nat) t v, Tryd.f7.params[j]? = some t → args[j]? = some v → Value.okWide Tryd.prog W .any base t v := hval0
  have hW' := hW
  obtain ⟨p, q, hA0, hV, rfl, hfz, hnd⟩ := hW
  have hA : DataW.TrodAll enc Tryd.prog W 0 (fun _ => true) true Tryd.f7.params.toList args.toList ds p := hA0
  rw [Tryd.params7] at hA hval
  obtain ⟨v0, vs0, d0, ds0, p0, q0, hargs, rfl, rfl, h0, r0⟩ := trodAll_cons hA
  obtain ⟨v1, vs1, d1, ds1, p1, q1, rfl, rfl, rfl, h1, r1⟩ := trodAll_cons r0
  obtain ⟨v2, vs2, d2, ds2, p2, q2, rfl, rfl, rfl, h2, r2⟩ := trodAll_cons r1
  obtain ⟨rfl, rfl, rfl⟩ := trodAll_nil r2
  obtain rfl : args = #[v0, v1, v2] := by cases args; simp_all
  obtain ⟨pa0, n0, cap0, V0, rfl, hs0, hc0, hm0, hf0⟩ := open_sl_structs Tryd.underlying50 Tryd.underlying38 (by kernel_rfl) (by kernel_rfl) (by decide) (hval 0 50 v0 rfl rfl) h0
  obtain ⟨pa1, n1, cap1, V1, rfl, hs1, hc1, hm1, hf1⟩ := open_sl_structs Tryd.underlying50 Tryd.underlying38 (by kernel_rfl) (by kernel_rfl) (by decide) (hval 1 50 v1 rfl rfl) h1
  obtain ⟨pa2, n2, cap2, V2, rfl, hs2, hc2, hm2, hf2⟩ := open_sl_structs Tryd.underlying50 Tryd.underlying38 (by kernel_rfl) (by kernel_rfl) (by decide) (hval 2 50 v2 rfl rfl) h2
  have hr0 := slice_reach (j := 0) Tryd.underlying50 h0 hsz (by rw [Tryd.params7]; rfl) rfl 40 (by kernel_rfl)
  have hr1 := slice_reach (j := 1) Tryd.underlying50 h1 hsz (by rw [Tryd.params7]; rfl) rfl 40 (by kernel_rfl)
  have hr2 := slice_reach (j := 2) Tryd.underlying50 h2 hsz (by rw [Tryd.params7]; rfl) rfl 40 (by kernel_rfl)
  have k0 := bulk_slice Tryd.underlying50 h0
  have k1 := bulk_slice Tryd.underlying50 h1
  have k2 := bulk_slice Tryd.underlying50 h2
  have h22 := hbulk
  unfold Rows.uptoSmall at h22
  have h11 := of_decide_eq_true h22
  simp only [List.cons_append, List.nil_append, Rows.uptoBulkAll] at h11
  obtain ⟨L0, rfl, sl0, wd0⟩ := sl_instrs Tryd.underlying38 hs0 hf0
  obtain ⟨L1, rfl, sl1, wd1⟩ := sl_instrs Tryd.underlying38 hs1 hf1
  obtain ⟨L2, rfl, sl2, wd2⟩ := sl_instrs Tryd.underlying38 hs2 hf2
  refine (codeJoins_walk L0 L1 L2 pa0 pa1 pa2 cap0 cap1 cap2 W sl0 sl1 sl2 wd0 wd1 wd2 (by omega) hPre).mono fun e W' ⟨he, hu⟩ => ?_
  subst he
  exact ⟨_, rfl, law_post (s := Rows.codeJoinsSpec) rfl (by rw [Tryd.params7]; decide +kernel) rfl (by obtain ⟨rfl, _⟩ := trodVars_none hV; rfl) hW' (hu.below (Nat.le_refl _) (by simp))⟩

theorem said : Rows.codeJoinsUptoRow.holds Tryd.pinned (Rows.OpenSpec.upto Rows.codeJoinsSpec) :=
  OpenClaim.holds_of_cond 7 Tryd.f7 rfl rfl rfl rfl rfl rfl rfl ⟨rfl, rfl, rfl, rfl, rfl⟩ rfl rfl rfl rfl rfl (by kernel_rfl) Tryd.func7 (by kernel_rfl)
    (of_decide_eq_true (by kernel_rfl)) (by unfold Func.isWrapper; first | (rw [if_pos (by decide +kernel)]; kernel_rfl) | (rw [if_neg (by decide +kernel)]; exact ⟨rfl, rfl⟩))
    (fun os started H enc _ F => by rw [OpenClaim.pre_eq_preRow]; exact lifted os started H enc F)

theorem plain (f : FuncId) (fn : Func) (hf : Tryd.pinned.checked.prog.funcNamed "parley/parleylaw08.CodeJoins" = some f) (hfn : Tryd.pinned.checked.prog.funcs[f]? = some fn) :
    true = Tryd.pinned.checked.prog.looks [] ∧ ∀ (j : Nat) t, fn.params[j]? = some t → Tryd.pinned.checked.prog.wantsStandIn t = false := by
  obtain rfl : f = 7 := Option.some.inj ((show Tryd.prog.funcNamed "parley/parleylaw08.CodeJoins" = some 7 by kernel_rfl).symm.trans hf) |>.symm
  obtain rfl : fn = Tryd.f7 := (Option.some.inj (Tryd.func7.symm.trans hfn)).symm
  refine ⟨by kernel_rfl, fun j t ht => ?_⟩
  have hall : ((Tryd.f7).params.toList.all fun u => !Tryd.prog.wantsStandIn u) = true := by kernel_rfl
  have hm : t ∈ (Tryd.f7).params.toList := by simpa using Array.mem_of_getElem? ht
  exact (show Tryd.prog.wantsStandIn t = false by simpa using List.all_eq_true.1 hall t hm)

theorem proved : Rows.CodeJoinsUptoCardSaid :=
  Claim7.holds_tied_plain_at .later [] _ _ _ _ said (fun _ h => by cases h) (by kernel_rfl) (fun _ h => by cases h) codeJoinsUpto_row_tie rfl ⟨rfl, rfl⟩ (by kernel_rfl) rfl plain (by kernel_rfl)

end Go.Proofs.YtjcnlfihjfcpoaaDoor.codeJoins
