/- names, put: the kinds' names; a word is put behind a line. The conditions: the library's table is laid; sizes. -/
import Derived.Test.YtfldpejifpmapaaDoorEBuild
import Derived.Test.YtfldpejifpmapaaDoorFmt
import Derived.Test.YtfldpejifpmapaaDoorEffC
import Derived.Test.YtfldpejifpmapaaDoorEHist
import Derived.Lib.ItoaLen
set_option linter.unusedSimpArgs false
set_option linter.unusedVariables false
set_option maxRecDepth 100000
namespace Go.Proofs.YtfldpejifpmapaaDoor
open Go.RowKit
open Go.Maps
def nameBsE : List (List UInt8) := [[], [98, 101, 103, 105, 110], [114, 101, 97, 100], [119, 114, 105, 116, 101], [109, 111, 118, 101, 100], [108, 111, 99, 107, 101, 100], [99, 111, 109, 109, 105, 116, 116, 101, 100], [115, 116, 97, 108, 101], [97, 98, 111, 114, 116, 101, 100], [102, 97, 105, 108, 101, 100], [108, 111, 97, 100, 101, 100], [115, 116, 111, 114, 101, 100], [104, 97, 108, 116, 101, 100]]
def strV (l : List UInt8) : Value := .string ⟨l.toArray⟩
def namesA : Array Value := (nameBsE.map strV).toArray
set_option maxHeartbeats 2000000 in
theorem names_code (w : World) : Calls Tryd.prog 39 #[] w fun e w' => e = .returned (.agg namesA) ∧ Upd [] w w' := by
  have u1 : Upd [] w (w.alloc (.cells namesA 74)) := (Upd.refl [] _).alloc _
  refine calls_all fun K hK => ?_
  go_enter Tryd.func39, Tryd.ntmps39
  go_wp2
  exact bodyPost_ret (row_results Tryd.underlying74 rfl rfl _ _ w.heap.size (nameBsE.map strV) rfl (Blk.range (Blk.new w (nameBsE.map strV) 74)) (by kernel_rfl)) rfl (hK _ _ ⟨rfl, u1⟩)
set_option maxHeartbeats 2000000 in
theorem put_code (sb : Nat) (l : List UInt8) (u : Nat) (w : World) (hB : Blk w sb [strV l] 9) (hl : l.length ≤ 1000000) (hu : u < 18446744073709551616) (hT : Tab w) :
    Calls Tryd.prog 41 #[.int .u64 (u : Int), .pointer (some ⟨sb, 0, none⟩)] w fun e w' => e = .returned (.tuple #[]) ∧ Blk w' sb [strV (l ++ 32 :: Lib.decDigits u)] 9 ∧ Upd [sb] w w' := by
  have hdl := Lib.nDigits_le20 u hu
  rw [← Lib.decDigits_length] at hdl
  have hb1 : ¬ 9223372036854775807 < 1 + (Lib.decDigits u).length := by omega
  have hb2 : ¬ 9223372036854775807 < l.length + (1 + (Lib.decDigits u).length) := by omega
  have HB := Lib.hid hB
  have HF := Lib.hid (fun (W : World) (hu2 : Upd [] w W) => fmtu u hu W (hT.upd hu2))
  clear hB hT hu hdl hl
  unfold strV at HB
  refine calls_all fun KK hKK => ?_
  go_enter Tryd.func41, Tryd.ntmps41
  have ud : Upd [] w w.drew := (Upd.refl [] _).drew
  have HU1 := Lib.hid ud
  have HB1 := Lib.hid (HB.out.upd ud (by simp))
  obtain ⟨W1, hW1⟩ : ∃ W, w.drew = W := ⟨_, rfl⟩
  refine wp_region_brT (fun w' => w'.cell? ⟨sb, 0, none⟩ = some (.string ⟨l.toArray⟩)) [0, 1, 2, 3, 4, 5] 5 (by kernel_rfl) (by kernel_rfl) (by kernel_rfl) ?_
  rw [hW1] at HU1 HB1 ⊢
  clear hW1 ud
  have hS := HB1.out.cell 0 rfl
  repeat ((refine wpC_take (v := ?_) rfl (by decide) rfl (by kernel_rfl) (by rfl) hS ?_ ?_); rotate_left 1; (· ((intro w hSw; (try dsimp only at hSw); go_simp); try with_reducible rfl)); try simp only [Act.put, List.setIfInBounds_toArray, List.set_cons_zero, List.set_cons_succ])
  refine wpC_eff rfl (by kernel_rfl) (by rfl) (fun K2 hK2 => ?_)
  go_simp
  refine (HF.out W1 HU1.out).mono ?_
  rintro e W2 ⟨rfl, u2⟩
  have HB2 := Lib.hid (HB1.out.upd u2 (by simp))
  have HU2 := Lib.hid (HU1.out.trans u2)
  clear hS u2
  have hS := HB2.out.cell 0 rfl
  refine hK2.out _ _ (.inr hS) ?_
  clear hK2 K2
  repeat ((refine wpC_take (v := ?_) rfl (by decide) rfl (by kernel_rfl) (by rfl) hS ?_ ?_); rotate_left 1; (· ((intro w hSw; (try dsimp only at hSw); go_simp); try with_reducible rfl)); try simp only [Act.put, List.setIfInBounds_toArray, List.set_cons_zero, List.set_cons_succ])
  have f0 := HB2.out.free 0
  refine wpC_eff rfl (by kernel_rfl) (by rfl) (fun K2 hK2 => ?_)
  go_simp
  refine hK2.out _ _ (.inl (by decide)) ?_
  refine wpC_end (by kernel_rfl) (NoPanic.normal ?_)
  go_wp2_with fail
  go_end0
  have hB3 := HB2.out.set 0 (strV (l ++ 32 :: Lib.decDigits u))
  have he : (⟨l.toArray⟩ : ByteArray) ++ (⟨#[32]⟩ ++ ⟨(Lib.decDigits u).toArray⟩) = ⟨(l ++ 32 :: Lib.decDigits u).toArray⟩ := by simp [ByteArray.ext_iff]
  rw [he]
  exact hKK _ _ ⟨rfl, hB3, (HU2.out.mono (by simp)).setCell (.inl (by simp)) _⟩
def nameE (e : Ev) : List UInt8 := if e.own = true then [111, 119, 110] else nameBsE.getD e.kd.toNat []
def tailE (e : Ev) : List UInt8 := if pairK e.kd = true then (32 :: Lib.decDigits e.ad.toNat) ++ (32 :: Lib.decDigits e.wd.toNat) else if singK e.kd = true then 32 :: Lib.decDigits e.wd.toNat else if e.kd = 9 then 32 :: Lib.decDigits e.er.toNat else []
/-- the line of an event in form -/
def lineE (e : Ev) : List UInt8 := (Lib.decDigits e.th.toNat ++ 32 :: nameE e) ++ tailE e
def lineO (e : Ev) : List UInt8 × Int := if formE e = true then (lineE e, 0) else ([], 201)
theorem run_index_arr1 {P : Program} {w : World} (t e : TypeId) (n : Nat) (cs : Array Value) (kd : IntKind) (k : Nat) (v : Value) (h : P.underlying t = some (.array n e)) (hs : ∀ w, (sizeOf e).run P w = .ok 1 w) (ha : ∀ w, (isAgg e).run P w = .ok false w) (hk : k < n) (hv : cs[k]? = some v) :
    (Instr.index t (.agg cs) (.int kd (k : Int))).run P w = .ok v w := by
  have h0 : 0 ≤ (k : Int) ∧ (k : Int) < (n : Int) := by omega
  simp [Instr.index, run_underlying h, asIntOf, h0, hk, part, hs, ha, hv, go_sem]
theorem names_at (k : Nat) (hk : k < 13) (w : World) : (Instr.index 74 (.agg namesA) (.int .i64 (k : Int))).run Tryd.prog w = .ok (strV (nameBsE.getD k [])) w := by
  refine run_index_arr1 74 9 13 _ _ k _ Tryd.underlying74 (fun w => by go_simp) (fun w => by go_simp) hk ?_
  unfold namesA
  rw [List.getElem?_toArray, List.getElem?_map, List.getD_eq_getElem?_getD, List.getElem?_eq_getElem (show k < nameBsE.length by simpa [nameBsE] using hk)]
  rfl
theorem names_len (k : Nat) : (nameBsE.getD k []).length ≤ 9 := by
  by_cases h : k < 13
  · have : ∀ k, k < 13 → (nameBsE.getD k []).length ≤ 9 := by decide
    exact this k h
  · rw [List.getD_eq_getElem?_getD, List.getElem?_eq_none (by simp [nameBsE]; omega)]
    simp
set_option maxHeartbeats 2000000 in
theorem line_no (w : World) (e : Ev) (he : e.wide) (hf : formE e = false) : Calls Tryd.prog 13 #[e.val] w fun r w' => r = .returned (.tuple #[.string ⟨#[]⟩, .int .i64 201]) ∧ Upd [] w w' := by
  have hfc : ∀ W, Calls Tryd.prog 38 #[e.val] W fun r w' => r = .returned (.bool false) ∧ Upd [] W w' := fun W => by have h := formed_code e he W; rw [hf] at h; exact h
  obtain ⟨th, kd, ad, wd, own, er⟩ := e
  clear hf he
  simp only [Ev.val] at hfc ⊢
  have HFC := Lib.hid hfc
  clear hfc
  refine calls_all fun K hK => ?_
  go_enter Tryd.func13, Tryd.ntmps13
  go_wp2_with fail
  refine (HFC.out _).mono ?_
  rintro e W2 ⟨rfl, u2⟩
  have U2 := Lib.hid (((Upd.refl [] w).alloc (.cells #[.int .i64 th, .int .i64 kd, .int .u64 ad, .int .u64 wd, .bool own, .int .i64 er] 27)).trans u2)
  clear u2
  go_wp2_with fail
  exact ⟨rfl, U2.out⟩
end Go.Proofs.YtfldpejifpmapaaDoor
