/- The reference's parts: what stands between single blanks. The condition is a size. -/
import Derived.Test.YtjcnlfihjfcpoaaDoorCRNum
import Derived.Test.YtjcnlfihjfcpoaaDoorOwn
import Derived.Maps.AppendAt
set_option linter.unusedSimpArgs false
set_option linter.unusedVariables false
set_option maxRecDepth 100000
namespace Go.Proofs.YtjcnlfihjfcpoaaDoor
open Go.RowKit

theorem info_str : (Tryd.prog.info? 9).map (fun i => (i.zero, i.size, i.bytes)) = some (some (.string ⟨#[]⟩), 1, 16) := by kernel_rfl

theorem ex_data (s : ByteArray) (a b : Nat) : (s.extract a b).data.toList = (s.data.toList.take b).drop a := by
  rw [Lib.extract_data, List.drop_take]

theorem take_snoc (s : ByteArray) (f k : Nat) (hf : f ≤ k) (h : k < s.size) : (s.extract f (k + 1)).data.toList = (s.extract f k).data.toList ++ [s.get! k] := by
  rw [ex_data, ex_data, List.take_add_one, getb s k h]
  simp only [Option.toList_some]
  rw [List.drop_append_of_le_length]
  rw [List.length_take, ← Lib.size_eq]
  omega

set_option maxHeartbeats 4000000 in
theorem rparts (s : ByteArray) (hs : s.size < 4294967281) (w : World) : Calls Tryd.prog 39 #[.string s] w fun e w' => ∃ (v : Value) (X : List ByteArray), e = .returned v ∧ X.map (·.data.toList) = sp s.data.toList ∧ w'.ownsRow w.heap.size 9 1 v X.length (X.map .string) ∧ Upd [] w w' := by
  obtain ⟨i5, hi5, hz5, hs5, hy5⟩ := info_parts info_str
  refine calls_all fun K hK => ?_
  go_enter Tryd.func39, Tryd.ntmps39
  go_wp2_with fail
  go_loopw [3, 4, 5] (fun v3 v4 v5 wr => ∃ (k f : Nat) (X : List ByteArray), f ≤ k ∧ k ≤ s.size ∧ v4 = .int .i64 f ∧ v5 = .int .i64 k ∧ X.length ≤ f ∧ wr.ownsRow w.heap.size 9 1 v3 X.length (X.map .string) ∧ Upd [] w wr ∧ X.map (·.data.toList) ++ (s.extract f k).data.toList.foldr cons1 (sp (s.data.toList.drop k)) = sp s.data.toList) (fun _ _ v5 _ => s.size - (intOf v5).toNat)
  case atStart => exact ⟨0, 0, [], by omega, by omega, rfl, rfl, by simp, World.ownsRow_nil _ _ _ _, Upd.refl _ _, by rw [ex_data]; simp⟩
  case round =>
    obtain ⟨k, f, X, hf, hk, rfl, rfl, hXf, ho, hu, hsp⟩ := hrel
    have HO := Lib.hid ho
    have HU := Lib.hid hu
    have HS := Lib.hid hsp
    have hws := hu.size
    clear ho hu hsp
    by_cases hlt : k < s.size
    · have hkl : (k : Int) < (s.size : Int) := by omega
      have hdr := drop_get s k hlt
      have hsn := take_snoc s f k hf hlt
      by_cases hc : s.get! k = 32
      · have hc1 : (((s[k]'hlt).toNat : Int) == 32) = true := by rw [byte_at s k hlt, hc]; rfl
        have HN : Hid ((X ++ [s.extract f k]).map (·.data.toList) ++ (s.extract (k + 1) (k + 1)).data.toList.foldr cons1 (sp (s.data.toList.drop (k + 1))) = sp s.data.toList) := Lib.hid (by
          rw [← HS.out, hdr, hc, sp_blank, pre_cons, List.map_append, ex_data s (k + 1) (k + 1)]
          have : (s.data.toList.take (k + 1)).drop (k + 1) = [] := List.drop_eq_nil_of_le (by rw [List.length_take]; omega)
          rw [this]
          simp)
        clear HS hdr hsn
        go_wp2_with (at_builtin; refine wpList_append_own _ rfl (.tmp 16) (.tmp 21) 70 rfl w.heap.size 9 i5 (.string ⟨#[]⟩) 1 16 Tryd.underlying70 hi5 hz5 hs5 hy5 rfl (by decide) _ _ _ rfl (World.ownsRow.alloc HO.out _) ⟨_, 0, none⟩ 1 1 _ rfl rfl (news_new _ 9 (by simp)) (by simp [Value.oneCell']) (by unfold maxLen; omega) (by omega) (by simp; omega) ?_; intro v6 w6 ho6 hg6 _)
        have HU6 := Lib.hid ((HU.out.alloc _).tr (U := []) (Upd.own hg6) (by simp) (fun g hg => .inr (own_blocks HO.out g hg).1))
        have HO6 := Lib.hid ho6
        clear ho6 hg6
        go_roundw
        case rel => exact ⟨k + 1, k + 1, X ++ [s.extract f k], by omega, by omega, by go_num, by go_num, by simp; omega, by rw [List.length_append, List.map_append]; exact HO6.out, HU6.out, HN.out⟩
        case measure => simp [intOf]; omega
      · have hc1 : (((s[k]'hlt).toNat : Int) == 32) = false := by
          rw [byte_at s k hlt, beq_eq_false_iff_ne]; intro e; exact hc (UInt8.toNat_inj.1 (show (s.get! k).toNat = 32 by omega))
        have HN : Hid (X.map (·.data.toList) ++ (s.extract f (k + 1)).data.toList.foldr cons1 (sp (s.data.toList.drop (k + 1))) = sp s.data.toList) := Lib.hid (by
          rw [← HS.out, hdr, sp_other _ _ hc, hsn, List.foldr_append]; rfl)
        clear HS hdr hsn
        go_wp2_with fail
        go_roundw
        case rel => exact ⟨k + 1, f, X, by omega, by omega, by go_num, by go_num, hXf, HO.out, HU.out, HN.out⟩
        case measure => simp [intOf]; omega
    · obtain rfl : k = s.size := by omega
      have HN : Hid ((X ++ [s.extract f s.size]).map (·.data.toList) = sp s.data.toList) := Lib.hid (by
        have h := HS.out
        rw [List.drop_eq_nil_of_le (by rw [← Lib.size_eq]; omega), show sp [] = [[]] from rfl, pre_cons] at h
        rw [← h]
        simp)
      clear HS
      go_wp2_with (at_builtin; refine wpList_append_own _ rfl (.tmp 25) (.tmp 29) 70 rfl w.heap.size 9 i5 (.string ⟨#[]⟩) 1 16 Tryd.underlying70 hi5 hz5 hs5 hy5 rfl (by decide) _ _ _ rfl (World.ownsRow.alloc HO.out _) ⟨_, 0, none⟩ 1 1 _ rfl rfl (news_new _ 9 (by simp)) (by simp [Value.oneCell']) (by unfold maxLen; omega) (by omega) (by simp; omega) ?_; intro v6 w6 ho6 hg6 _)
      have HU6 := Lib.hid ((HU.out.alloc _).tr (U := []) (Upd.own hg6) (by simp) (fun g hg => .inr (own_blocks HO.out g hg).1))
      all_goals exact ⟨_, X ++ [s.extract f s.size], rfl, HN.out, by rw [List.length_append, List.map_append]; exact ho6, HU6.out⟩
end Go.Proofs.YtjcnlfihjfcpoaaDoor
