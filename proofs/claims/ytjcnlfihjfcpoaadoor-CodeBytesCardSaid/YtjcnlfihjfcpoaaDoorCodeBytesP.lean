/- CodeBytes (layer 8): the bytes of any instructions, and these read again; they stay. No condition but the row's own list of variables. -/
import Derived.Test.YtjcnlfihjfcpoaaDoorLBytes
import Derived.Test.YtjcnlfihjfcpoaaDoorCLaid
import Derived.Test.YtjcnlfihjfcpoaaDoorLaw
import Derived.Test.YtjcnlfihjfcpoaaDoorOpen
import Derived.Test.YtjcnlfihjfcpoaaDoorCards
import Derived.Test.YtjcnlfihjfcpoaaDoorTie
import Derived.SevenTiedAt
import Derived.ChangeMaps5
set_option linter.unusedSimpArgs false
set_option linter.unusedVariables false
set_option maxRecDepth 100000
namespace Go.Proofs.YtjcnlfihjfcpoaaDoor.codeBytes
open Go.ChangeShapes Go.WideShapes Go.ChangeAt Go.RowKit

theorem listed : Lists Rows.codeBytesRow.laid := by
  unfold Lists Rows.codeBytesRow
  exact ⟨by repeat (first | exact List.mem_cons_self | refine List.mem_cons_of_mem _ ?_), by repeat (first | exact List.mem_cons_self | refine List.mem_cons_of_mem _ ?_), by repeat (first | exact List.mem_cons_self | refine List.mem_cons_of_mem _ ?_), by repeat (first | exact List.mem_cons_self | refine List.mem_cons_of_mem _ ?_)⟩

theorem plainH (w : World) : laidMetH Tryd.prog Rows.codeBytesRow.laid w = laidMet Tryd.prog Rows.codeBytesRow.laid w := MakeChecks.laidMetH_plain _ _ _ (by kernel_rfl)

theorem lifted (os : Os) (started : os.Started) (H : Type) (enc : TypeId × Value → H) (F : Stop.Interp) :
    ReturnsInHanded {} Tryd.checked os 8 .any ((OpenSpec.ofChange Rows.codeBytesSpec).preRow enc Tryd.prog Tryd.f8 Rows.codeBytesRow.domain false Rows.codeBytesRow.laid) (((OpenSpec.ofChange Rows.codeBytesSpec).at F).post enc Tryd.prog Tryd.f8 false true false false) := by
  have hx0 : (DataW.whole enc Tryd.prog ((World.laidAll Tryd.prog os Rows.codeBytesRow.laid).forCall (fun _ _ => 0) ⟨#[], #[.slice none 0 0], []⟩).memory Tryd.f8.params.toList Rows.codeBytesSpec.vars false (#[.slice none 0 0] : Array Value).toList 8).map (fun x => (x.1, x.2.1)) = some ([.nil], []) := by kernel_rfl
  obtain ⟨⟨x1, x2, x3⟩, hx, hx1⟩ := Option.map_eq_some_iff.1 hx0
  simp only [Prod.mk.injEq] at hx1
  obtain ⟨rfl, rfl⟩ := hx1
  refine returnsInHanded_of_row (C := Tryd.checked) (s := (OpenSpec.ofChange Rows.codeBytesSpec)) law_own started (by kernel_rfl) Tryd.func8
    (witness_card (enc := enc) (s := (OpenSpec.ofChange Rows.codeBytesSpec)) (conds := Rows.codeBytesRow.domain) (laid := Rows.codeBytesRow.laid) #[.slice none 0 0] (World.shaped_of_ZipB (by kernel_rfl) (by kernel_rfl)) (by kernel_rfl)
      (OpenSpec.preRow_of_cond 8 hx (by kernel_rfl) (fun k hk => by cases hk) (by kernel_rfl) (by rw [plainH]; exact laidMet_laidAll _ (by kernel_rfl) (by kernel_rfl)))) ?_
  intro W base args ds gs before hval0 hW hcnd hcond hsz0 hL hsh _
  have hL0 : laidMetH Tryd.prog Rows.codeBytesRow.laid W := hL
  rw [plainH] at hL0
  have hPre : Pre W := pre_laid listed hL0 hsh
  have hsz : (DataW.weightsEach Tryd.prog (Tryd.f8.params.toList ++ Rows.codeBytesSpec.plain.varTypes Tryd.prog) (ds ++ gs)).all (· ≤ reachBytes) = true := hsz0
  clear hcond hsz0
  have hval : ∀ (j : Nat) t v, Tryd.f8.params[j]? = some t → args[j]? = some v → Value.okWide Tryd.prog W .any base t v := hval0
  have hW' := hW
  obtain ⟨p, q, hA0, hV, rfl, hfz, hnd⟩ := hW
  have hA : DataW.TrodAll enc Tryd.prog W 0 (fun _ => true) true Tryd.f8.params.toList args.toList ds p := hA0
  rw [Tryd.params8] at hA hval
  obtain ⟨v0, vs0, d0, ds0, p0, q0, hargs, rfl, rfl, h0, r0⟩ := trodAll_cons hA
  obtain ⟨rfl, rfl, rfl⟩ := trodAll_nil r0
  obtain rfl : args = #[v0] := by cases args; simp_all
  obtain ⟨pa0, n0, cap0, V0, rfl, hs0, hc0, hm0, hf0⟩ := open_sl_structs Tryd.underlying50 Tryd.underlying38 (by kernel_rfl) (by kernel_rfl) (by decide) (hval 0 50 v0 rfl rfl) h0
  have hr0 := slice_reach (j := 0) Tryd.underlying50 h0 hsz (by rw [Tryd.params8]; rfl) rfl 40 (by kernel_rfl)
  obtain ⟨L0, rfl, sl0, wd0⟩ := sl_instrs Tryd.underlying38 hs0 hf0
  refine (codeBytes_walk L0 pa0 cap0 W sl0 wd0 (by omega) hPre).mono fun e W' ⟨he, hu⟩ => ?_
  subst he
  exact ⟨_, rfl, law_post (s := Rows.codeBytesSpec) rfl (by rw [Tryd.params8]; decide +kernel) rfl (by obtain ⟨rfl, _⟩ := trodVars_none hV; rfl) hW' (hu.below (Nat.le_refl _) (by simp))⟩

theorem said : Rows.codeBytesRow.holds Tryd.pinned (OpenSpec.ofChange Rows.codeBytesSpec) :=
  OpenClaim.holds_of_cond 8 Tryd.f8 rfl rfl rfl rfl rfl rfl rfl ⟨rfl, rfl, rfl, rfl, rfl⟩ rfl rfl rfl rfl rfl (by kernel_rfl) Tryd.func8 (by kernel_rfl)
    (of_decide_eq_true (by kernel_rfl)) (by unfold Func.isWrapper; first | (rw [if_pos (by decide +kernel)]; kernel_rfl) | (rw [if_neg (by decide +kernel)]; exact ⟨rfl, rfl⟩))
    (fun os started H enc _ F => by rw [OpenClaim.pre_eq_preRow]; exact lifted os started H enc F)

theorem plain (f : FuncId) (fn : Func) (hf : Tryd.pinned.checked.prog.funcNamed "parley/parleylaw08.CodeBytes" = some f) (hfn : Tryd.pinned.checked.prog.funcs[f]? = some fn) :
    true = Tryd.pinned.checked.prog.looks [] ∧ ∀ (j : Nat) t, fn.params[j]? = some t → Tryd.pinned.checked.prog.wantsStandIn t = false := by
  obtain rfl : f = 8 := Option.some.inj ((show Tryd.prog.funcNamed "parley/parleylaw08.CodeBytes" = some 8 by kernel_rfl).symm.trans hf) |>.symm
  obtain rfl : fn = Tryd.f8 := (Option.some.inj (Tryd.func8.symm.trans hfn)).symm
  refine ⟨by kernel_rfl, fun j t ht => ?_⟩
  have hall : ((Tryd.f8).params.toList.all fun u => !Tryd.prog.wantsStandIn u) = true := by kernel_rfl
  have hm : t ∈ (Tryd.f8).params.toList := by simpa using Array.mem_of_getElem? ht
  exact (show Tryd.prog.wantsStandIn t = false by simpa using List.all_eq_true.1 hall t hm)

theorem proved : Rows.CodeBytesCardSaid :=
  Claim7.holds_tied_plain_at .later [] _ _ _ _ said (fun _ h => by cases h) (by kernel_rfl) (fun _ h => by cases h) codeBytes_row_tie rfl ⟨rfl, rfl⟩ (by kernel_rfl) rfl plain (by kernel_rfl)

end Go.Proofs.YtjcnlfihjfcpoaaDoor.codeBytes
