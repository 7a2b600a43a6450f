/- CodeParses' walk: of any line the instruction whose text it is, or none. The conditions: the tables are laid; the line is of a size that strings.Split's contract bears. -/
import Derived.Test.YtjcnlfihjfcpoaaDoorCRParse
import Derived.Test.YtjcnlfihjfcpoaaDoorCPlain2
import Derived.Test.YtjcnlfihjfcpoaaDoorLNames
set_option linter.unusedSimpArgs false
set_option linter.unusedVariables false
set_option maxRecDepth 100000
namespace Go.Proofs.YtjcnlfihjfcpoaaDoor
open Go.RowKit

set_option maxHeartbeats 4000000 in
theorem codeParses_walk (s : ByteArray) (w : World) (hs : s.size < 4294967281) (hP : Pre w) : Calls Tryd.prog 5 #[.string s] w fun e w' => e = .returned (.bool true) ∧ Upd [] w w' := by
  have HQ := fun w h => parse_any s w hs h
  have HR := fun w => rparse_any s w hs
  have htp := fun i h => text_parse (l := s.data.toList) (i := i) h
  cases hX : parseL s.data.toList with
  | none =>
    rw [hX] at HQ HR
    simp only [insO, errO, zeroIns, Ins.val, Option.isSome] at HQ HR
    clear htp
    refine calls_all fun K hK => ?_
    go_enter Tryd.func5, Tryd.ntmps5
    go_wp2_with fail
    refine (HQ _ hP).mono ?_
    rintro e w1 ⟨rfl, u1⟩
    have HA := Lib.hid (Blk.new w1 [.int .i64 0, .int .i64 0, .int .i64 0, .int .i64 0, .int .u64 0] 38)
    have U1 := Lib.hid (u1.alloc (.cells #[.int .i64 0, .int .i64 0, .int .i64 0, .int .i64 0, .int .u64 0] 38))
    clear u1
    go_wp2_with fail
    refine (HR _).mono ?_
    rintro e w2 ⟨rfl, u2⟩
    have hA2 := (HA.out.upd u2 (by simp)).alloc (.cells #[.int .i64 0, .int .i64 0, .int .i64 0, .int .i64 0, .int .u64 0] 38)
    have U2 := Lib.hid ((U1.out.trans u2).alloc (.cells #[.int .i64 0, .int .i64 0, .int .i64 0, .int .i64 0, .int .u64 0] 38))
    have d0 := hA2.cell 0 rfl
    have d1 := hA2.cell 1 rfl
    have d2 := hA2.cell 2 rfl
    have d3 := hA2.cell 3 rfl
    have d4 := hA2.cell 4 rfl
    clear hA2 u2 U1
    go_wp2_with (first | (go_at_call 20; refine (num_any _ _).mono ?_; rintro e w' ⟨rfl, rfl⟩) | (go_at_call 16; refine (works _ (hP.upd U2.out)).mono ?_; rintro e w9 ⟨rfl, u9⟩))
    all_goals exact ⟨rfl, U2.out.trans u9⟩
  | some i =>
    obtain ⟨hfo, htx, hn1, hn2⟩ := htp i hX
    have HT := fun w h1 h2 => text_formed i w hfo ⟨hn1, hn2⟩ h1 h2
    rw [htx] at HT
    rw [hX] at HQ HR
    simp only [insO, errO, Option.isSome] at HQ HR
    have hTT : (s.toList == s.toList) = true := by simp
    have hTT2 : (s.data.toList == s.toList) = true := by rw [Lib.toList_data]; simp
    clear htp htx hX hfo
    obtain ⟨op, a, b, c, n⟩ := i
    simp only [Ins.val] at HQ HR HT
    refine calls_all fun K hK => ?_
    go_enter Tryd.func5, Tryd.ntmps5
    go_wp2_with fail
    refine (HQ _ hP).mono ?_
    rintro e w1 ⟨rfl, u1⟩
    have HA := Lib.hid (Blk.new w1 [.int .i64 op, .int .i64 a, .int .i64 b, .int .i64 c, .int .u64 n] 38)
    have U1 := Lib.hid (u1.alloc (.cells #[.int .i64 op, .int .i64 a, .int .i64 b, .int .i64 c, .int .u64 n] 38))
    clear u1
    go_wp2_with fail
    refine (HR _).mono ?_
    rintro e w2 ⟨rfl, u2⟩
    have hA2 := (HA.out.upd u2 (by simp)).alloc (.cells #[.int .i64 op, .int .i64 a, .int .i64 b, .int .i64 c, .int .u64 n] 38)
    have U2 := Lib.hid ((U1.out.trans u2).alloc (.cells #[.int .i64 op, .int .i64 a, .int .i64 b, .int .i64 c, .int .u64 n] 38))
    have d0 := hA2.cell 0 rfl
    have d1 := hA2.cell 1 rfl
    have d2 := hA2.cell 2 rfl
    have d3 := hA2.cell 3 rfl
    have d4 := hA2.cell 4 rfl
    clear hA2 u2 U1
    go_wp2_with (first | (go_at_call 20; refine (num_any _ _).mono ?_; rintro e w' ⟨rfl, rfl⟩) | (go_at_call 17; refine (HT _ ((hP.upd U2.out).names) ((hP.upd U2.out).tab)).mono ?_; rintro e w8 ⟨rfl, u8⟩) | (go_at_call 16; refine (works _ (hP.upd (U2.out.trans u8))).mono ?_; rintro e w9 ⟨rfl, u9⟩))
    all_goals exact ⟨rfl, (U2.out.trans u8).trans u9⟩
end Go.Proofs.YtjcnlfihjfcpoaaDoor
