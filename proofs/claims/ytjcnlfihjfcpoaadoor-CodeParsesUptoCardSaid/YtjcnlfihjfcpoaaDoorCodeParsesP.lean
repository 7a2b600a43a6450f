/- CodeParses (layer 8): of any line the instruction whose text it is, or none. The conditions: the row's own list of variables; the line is of at most 1048576 letters. -/
import Derived.Test.YtjcnlfihjfcpoaaDoorLParses
import Derived.Test.YtjcnlfihjfcpoaaDoorCLaid
import Derived.Test.YtjcnlfihjfcpoaaDoorLaw
import Derived.Test.YtjcnlfihjfcpoaaDoorOpen
import Derived.Test.YtjcnlfihjfcpoaaDoorCards
import Derived.Test.YtjcnlfihjfcpoaaDoorTie
import Derived.SevenTiedAt
import Derived.ChangeMaps5
set_option linter.unusedSimpArgs false
set_option linter.unusedVariables false
set_option maxRecDepth 100000
namespace Go.Proofs.YtjcnlfihjfcpoaaDoor.codeParses
open Go.ChangeShapes Go.WideShapes Go.ChangeAt Go.RowKit

theorem listed : Lists Rows.codeParsesUptoRow.laid := by
  unfold Lists Rows.codeParsesUptoRow
  exact ⟨by repeat (first | exact List.mem_cons_self | refine List.mem_cons_of_mem _ ?_), by repeat (first | exact List.mem_cons_self | refine List.mem_cons_of_mem _ ?_), by repeat (first | exact List.mem_cons_self | refine List.mem_cons_of_mem _ ?_), by repeat (first | exact List.mem_cons_self | refine List.mem_cons_of_mem _ ?_)⟩

theorem plainH (w : World) : laidMetH Tryd.prog Rows.codeParsesUptoRow.laid w = laidMet Tryd.prog Rows.codeParsesUptoRow.laid w := MakeChecks.laidMetH_plain _ _ _ (by kernel_rfl)

theorem lifted (os : Os) (started : os.Started) (H : Type) (enc : TypeId × Value → H) (F : Stop.Interp) :
    ReturnsInHanded {} Tryd.checked os 5 .any ((Rows.OpenSpec.upto Rows.codeParsesSpec).preRow enc Tryd.prog Tryd.f5 Rows.codeParsesUptoRow.domain false Rows.codeParsesUptoRow.laid) (((Rows.OpenSpec.upto Rows.codeParsesSpec).at F).post enc Tryd.prog Tryd.f5 false true false false) := by
  have hx0 : (DataW.whole enc Tryd.prog ((World.laidAll Tryd.prog os Rows.codeParsesUptoRow.laid).forCall (fun _ _ => 0) ⟨#[], #[.string ⟨#[]⟩], []⟩).memory Tryd.f5.params.toList Rows.codeParsesSpec.vars false (#[.string ⟨#[]⟩] : Array Value).toList 8).map (fun x => (x.1, x.2.1)) = some ([.lit (.string [])], []) := by kernel_rfl
  obtain ⟨⟨x1, x2, x3⟩, hx, hx1⟩ := Option.map_eq_some_iff.1 hx0
  simp only [Prod.mk.injEq] at hx1
  obtain ⟨rfl, rfl⟩ := hx1
  refine returnsInHanded_of_row (C := Tryd.checked) (s := (Rows.OpenSpec.upto Rows.codeParsesSpec)) law_own started (by kernel_rfl) Tryd.func5
    (witness_card (enc := enc) (s := (Rows.OpenSpec.upto Rows.codeParsesSpec)) (conds := Rows.codeParsesUptoRow.domain) (laid := Rows.codeParsesUptoRow.laid) #[.string ⟨#[]⟩] (World.shaped_of_ZipB (by kernel_rfl) (by kernel_rfl)) (by kernel_rfl)
      (OpenSpec.preRow_of_cond 8 hx (by kernel_rfl) (fun k hk => by cases hk; kernel_rfl) (by kernel_rfl) (by rw [plainH]; exact laidMet_laidAll _ (by kernel_rfl) (by kernel_rfl)))) ?_
  intro W base args ds gs before hval0 hW hcnd hcond hsz0 hL hsh _
  have hL0 : laidMetH Tryd.prog Rows.codeParsesUptoRow.laid W := hL
  rw [plainH] at hL0
  have hPre : Pre W := pre_laid listed hL0 hsh
  have hbulk : Rows.uptoSmall H (ds ++ gs) = true := hcond _ rfl
  have hsz : (DataW.weightsEach Tryd.prog (Tryd.f5.params.toList ++ Rows.codeParsesSpec.plain.varTypes Tryd.prog) (ds ++ gs)).all (· ≤ reachBytes) = true := hsz0
  clear hcond hsz0
  have hval : ∀ (j : Nat) t v, Tryd.f5.params[j]? = some t → args[j]? = some v → Value.okWide Tryd.prog W .any base t v := hval0
  have hW' := hW
  obtain ⟨p, q, hA0, hV, rfl, hfz, hnd⟩ := hW
  have hA : DataW.TrodAll enc Tryd.prog W 0 (fun _ => true) true Tryd.f5.params.toList args.toList ds p := hA0
  rw [Tryd.params5] at hA hval
  obtain ⟨v0, vs0, d0, ds0, p0, q0, hargs, rfl, rfl, h0, r0⟩ := trodAll_cons hA
  obtain ⟨rfl, rfl, rfl⟩ := trodAll_nil r0
  obtain rfl : args = #[v0] := by cases args; simp_all
  obtain ⟨s0, rfl, rfl, rfl, w0⟩ := Go.ChangeMaps.open_string Tryd.underlying9 (hval 0 9 v0 rfl rfl) h0
  have hs0 : s0.size ≤ 140737488351232 := by
    have := sized_string hsz (j := 0) (t := 9) (bytes := s0.data.toList) (by rw [Tryd.params5]; rfl) rfl
    rw [Lib.size_eq]; simpa [reachBytes] using this
  have hlen : s0.size < 4294967281 := by
    have h2 := hbulk
    unfold Rows.uptoSmall at h2
    have h1 := of_decide_eq_true h2
    simp only [List.cons_append, List.nil_append, Rows.uptoBulkAll, Rows.uptoBulk] at h1
    rw [Lib.size_eq]
    omega
  refine (codeParses_walk s0 W hlen hPre).mono fun e W' ⟨he, hu⟩ => ?_
  subst he
  exact ⟨_, rfl, law_post (s := Rows.codeParsesSpec) rfl (by rw [Tryd.params5]; decide +kernel) rfl (by obtain ⟨rfl, _⟩ := trodVars_none hV; rfl) hW' (hu.below (Nat.le_refl _) (by simp))⟩

theorem said : Rows.codeParsesUptoRow.holds Tryd.pinned (Rows.OpenSpec.upto Rows.codeParsesSpec) :=
  OpenClaim.holds_of_cond 5 Tryd.f5 rfl rfl rfl rfl rfl rfl rfl ⟨rfl, rfl, rfl, rfl, rfl⟩ rfl rfl rfl rfl rfl (by kernel_rfl) Tryd.func5 (by kernel_rfl)
    (of_decide_eq_true (by kernel_rfl)) (by unfold Func.isWrapper; first | (rw [if_pos (by decide +kernel)]; kernel_rfl) | (rw [if_neg (by decide +kernel)]; exact ⟨rfl, rfl⟩))
    (fun os started H enc _ F => by rw [OpenClaim.pre_eq_preRow]; exact lifted os started H enc F)

theorem plain (f : FuncId) (fn : Func) (hf : Tryd.pinned.checked.prog.funcNamed "parley/parleylaw08.CodeParses" = some f) (hfn : Tryd.pinned.checked.prog.funcs[f]? = some fn) :
    true = Tryd.pinned.checked.prog.looks [] ∧ ∀ (j : Nat) t, fn.params[j]? = some t → Tryd.pinned.checked.prog.wantsStandIn t = false := by
  obtain rfl : f = 5 := Option.some.inj ((show Tryd.prog.funcNamed "parley/parleylaw08.CodeParses" = some 5 by kernel_rfl).symm.trans hf) |>.symm
  obtain rfl : fn = Tryd.f5 := (Option.some.inj (Tryd.func5.symm.trans hfn)).symm
  refine ⟨by kernel_rfl, fun j t ht => ?_⟩
  have hall : ((Tryd.f5).params.toList.all fun u => !Tryd.prog.wantsStandIn u) = true := by kernel_rfl
  have hm : t ∈ (Tryd.f5).params.toList := by simpa using Array.mem_of_getElem? ht
  exact (show Tryd.prog.wantsStandIn t = false by simpa using List.all_eq_true.1 hall t hm)

theorem proved : Rows.CodeParsesUptoCardSaid :=
  Claim7.holds_tied_plain_at .later [] _ _ _ _ said (fun _ h => by cases h) (by kernel_rfl) (fun _ h => by cases h) codeParsesUpto_row_tie rfl ⟨rfl, rfl⟩ (by kernel_rfl) rfl plain (by kernel_rfl)

end Go.Proofs.YtjcnlfihjfcpoaaDoor.codeParses
