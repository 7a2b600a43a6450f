/- A strings.Builder of the call's own: a string, a byte is written. The conditions are sizes. (The shelf's contracts of the writers do not fit this dump: the copy check's last way is refused by the loader.) -/
import Derived.Test.YtfldpejifpmapaaDoorEPure
import Derived.Test.YtfldpejifpmapaaDoorOwn
import Derived.Test.YtfldpejifpmapaaDoorShelf
import Derived.Lib.AppendStr
import Derived.Lib.Builder
import Derived.Laws.Externs
set_option linter.unusedSimpArgs false
set_option linter.unusedVariables false
set_option maxRecDepth 100000
namespace Go.Proofs.YtfldpejifpmapaaDoor
open Go.RowKit
section
variable {B b : Nat} {bs : List Value} {w : World}
set_option maxHeartbeats 1000000 in
theorem copy_used (h0 : w.cell? ⟨b, 0, none⟩ = some (.pointer (some ⟨b, 0, none⟩))) : Calls Tryd.prog 56 #[.pointer (some ⟨b, 0, none⟩)] w fun e w' => e = .returned (.tuple #[]) ∧ w' = w := by
  obtain ⟨j, hj, _⟩ := Option.map_eq_some_iff.1 (show (Tryd.prog.info? 66).map (·.size) = some 2 by kernel_rfl)
  have hne := fun w => Lib.run_neq_ptr_same (P := Tryd.prog) w ⟨b, 0, none⟩ Tryd.underlying63 hj
  go_enter Tryd.func56, Tryd.ntmps56
  go_wp2
  go_end0
  exact ⟨rfl, rfl⟩
set_option maxHeartbeats 1000000 in
theorem copy_fresh (h0 : w.cell? ⟨b, 0, none⟩ = some (.pointer none)) (hsh : w.shape? b = some (66, 2)) (hfz : w.frozen? ⟨b, 0, none⟩ = false) : Calls Tryd.prog 56 #[.pointer (some ⟨b, 0, none⟩)] w fun e w' => e = .returned (.tuple #[]) ∧ w' = w.setCell ⟨b, 0, none⟩ (.pointer (some ⟨b, 0, none⟩)) := by
  obtain ⟨j, hj, hjs⟩ := Option.map_eq_some_iff.1 (show (Tryd.prog.info? 66).map (·.size) = some 2 by kernel_rfl)
  have hne := fun w => Lib.run_neq_ptr_same (P := Tryd.prog) w ⟨b, 0, none⟩ Tryd.underlying63 hj
  have k1 := Lib.run_to_unsafe (P := Tryd.prog) w ⟨b, 0, none⟩ Tryd.underlying63 Tryd.underlying127 hj (by rw [hjs]; decide) hsh (Nat.zero_lt_succ 1)
  have k3 := Lib.run_from_unsafe (P := Tryd.prog) w ⟨b, 0, none⟩ Tryd.underlying127 Tryd.underlying63 hj hsh (by kernel_rfl)
  go_enter Tryd.func56, Tryd.ntmps56
  go_wp2
  rw [run_callFunc_extern Tryd.func73 (by kernel_rfl) (by kernel_rfl) (by kernel_rfl) (e := Extern.AbiNoEscape.same) (by kernel_rfl)]
  rw [Lib.run_noEscape]
  simp only [Result.andThen]
  rw [Oper.upon_value]
  go_wp2
  go_end0
  exact ⟨rfl, rfl⟩
theorem copy_code (h : Lib.IsBuilder 66 5 B b bs w) : Calls Tryd.prog 56 #[.pointer (some ⟨b, 0, none⟩)] w fun e w' => e = .returned (.tuple #[]) ∧ Lib.BuilderAt 66 5 B b (.pointer (some ⟨b, 0, none⟩)) bs w' ∧ Below B w w' := by
  rcases h with h | h
  · refine (copy_fresh h.cell0 h.shape h.frozen0).mono ?_
    rintro e w' ⟨rfl, rfl⟩
    exact ⟨rfl, h.used _, (Below.refl B w).setCell (p := ⟨b, 0, none⟩) h.1 _⟩
  · refine (copy_used h.cell0).mono ?_
    rintro e w' ⟨rfl, rfl⟩
    exact ⟨rfl, h, Below.refl B _⟩
theorem info_byte : (Tryd.prog.info? 5).map (fun i => (i.zero, i.size, i.bytes)) = some (some (.int .u8 0), 1, 1) := by kernel_rfl
set_option maxHeartbeats 2000000 in
theorem wstr_code (s : ByteArray) (h : Lib.IsBuilder 66 5 B b bs w) (hlen : bs.length + s.size ≤ 140737488355328) (hBw : B ≤ w.heap.size) : Calls Tryd.prog 35 #[.pointer (some ⟨b, 0, none⟩), .string s] w fun e w' => e = .returned (.tuple #[.int .i64 s.size, .nilIface]) ∧ Lib.IsBuilder 66 5 B b (bs ++ Lib.strCells s) w' ∧ Below B w w' := by
  obtain ⟨i0, hi, hz0, hz1, hz2⟩ := info_parts info_byte
  have HC := Lib.hid (copy_code h)
  have HB0 := Lib.hid hBw
  clear h
  refine calls_all fun K hK => ?_
  go_enter Tryd.func35, Tryd.ntmps35
  go_wp2_with fail
  refine (HC.out).mono ?_
  rintro e w1 ⟨rfl, ⟨hB, v, hbk, hown, hne⟩, hb1⟩
  have HBK := Lib.hid (show Blk w1 b [.pointer (some ⟨b, 0, none⟩), v] 66 from hbk)
  have c1 := HBK.out.cell 1 rfl
  have hsz := hb1.size
  obtain ⟨v', w2, hr, hown', hg, _⟩ := Lib.run_append_own_string (P := Tryd.prog) w1 B 64 9 64 5 i0 Tryd.underlying64 Tryd.underlying9 hi hz0 hz1 hz2 v bs.length bs hown s (by unfold maxLen; omega) hlen (by omega)
  have u2 : Upd v.ownBlock.toList w1 w2 := Upd.own hg
  have HB2 := Lib.hid (HBK.out.upd u2 (by simp; exact hne))
  have d1 := HB2.out.cell 1 rfl
  have f1 := HB2.out.free 1
  have HBL := Lib.hid (hb1.trans (u2.below (B := B) (by omega) (fun g hg => (own_blocks hown g hg).1)))
  obtain ⟨pp, pc, hv'⟩ := own_form hown'
  subst hv'
  obtain ⟨pq, pd, hv⟩ := own_form hown
  have HOWN := Lib.hid hown'
  have HHB := Lib.hid hB
  clear hown hown' u2 hg hbk hne hb1 hB
  subst hv
  go_wp2_with (at_builtin; refine wpList_append_eq rfl _ _ _ _ rfl _ _ _ rfl rfl hr ?_)
  have hle : (bs ++ Lib.strCells s).length = bs.length + s.size := by simp [Lib.strCells]; try exact (Lib.size_eq s).symm
  exact ⟨rfl, .inr (Lib.BuilderAt.put (T := 66) (e := 5) HHB.out HB2.out (bs' := bs ++ Lib.strCells s) (by rw [hle]; exact HOWN.out) (by decide)), HBL.out.setCell (p := ⟨b, 1, none⟩) HHB.out _⟩
set_option maxHeartbeats 2000000 in
theorem wbyte_code (c : Int) (h : Lib.IsBuilder 66 5 B b bs w) (hlen : bs.length + 1 ≤ 140737488355328) (hBw : B ≤ w.heap.size) : Calls Tryd.prog 36 #[.pointer (some ⟨b, 0, none⟩), .int .u8 c] w fun e w' => e = .returned .nilIface ∧ Lib.IsBuilder 66 5 B b (bs ++ [.int .u8 c]) w' ∧ Below B w w' := by
  obtain ⟨i0, hi, hz0, hz1, hz2⟩ := info_parts info_byte
  have HC := Lib.hid (copy_code h)
  have HB0 := Lib.hid hBw
  clear h
  refine calls_all fun K hK => ?_
  go_enter Tryd.func36, Tryd.ntmps36
  go_wp2_with fail
  refine (HC.out).mono ?_
  rintro e w1 ⟨rfl, ⟨hB, v, hbk, hown, hne⟩, hb1⟩
  have HBK := Lib.hid (show Blk w1 b [.pointer (some ⟨b, 0, none⟩), v] 66 from hbk)
  have c1 := HBK.out.cell 1 rfl
  have hsz := hb1.size
  have ua : Upd [] w1 (w1.alloc (.cells #[.int .u8 c] 5)) := (Upd.refl _ _).alloc _
  obtain ⟨v', w2, hr, hown', hg, _, _⟩ := run_append_own_at (P := Tryd.prog) (w1.alloc (.cells #[.int .u8 c] 5)) B 64 64 5 i0 (.int .u8 0) 1 1 Tryd.underlying64 hi hz0 hz1 hz2 rfl (by decide) v bs.length bs (own_upd hown ua (by simp))
    ⟨w1.heap.size, 0, none⟩ 1 1 [.int .u8 c] rfl (news_new _ 5 rfl) (by simp [Value.oneCell']) (by unfold maxLen; omega) (by omega) (by rw [World.size_alloc]; omega)
  have u2 : Upd v.ownBlock.toList (w1.alloc (.cells #[.int .u8 c] 5)) w2 := Upd.own hg
  have u3 : Upd v.ownBlock.toList w1 w2 := (ua.mono (by simp)).trans u2
  have HB2 := Lib.hid (HBK.out.upd u3 (by simp; exact hne))
  have d1 := HB2.out.cell 1 rfl
  have f1 := HB2.out.free 1
  have HBL := Lib.hid (hb1.trans (u3.below (B := B) (by omega) (fun g hg => (own_blocks hown g hg).1)))
  obtain ⟨pp, pc, hv'⟩ := own_form hown'
  subst hv'
  obtain ⟨pq, pd, hv⟩ := own_form hown
  have HOWN := Lib.hid hown'
  have HHB := Lib.hid hB
  clear hown hown' u2 u3 ua hg hbk hne hb1 hB
  subst hv
  go_wp2_with (at_builtin; refine wpList_append_eq rfl _ _ _ _ rfl _ _ _ rfl rfl hr ?_)
  exact ⟨rfl, .inr (Lib.BuilderAt.put (T := 66) (e := 5) HHB.out HB2.out (bs' := bs ++ [.int .u8 c]) (by simpa using HOWN.out) (by decide)), HBL.out.setCell (p := ⟨b, 1, none⟩) HHB.out _⟩
end
end Go.Proofs.YtfldpejifpmapaaDoor
