/- Words lent with marks behind them (lent), held against what was lent (left), an answer written over and grown (spoil). The conditions are sizes. -/
import Derived.Test.YthjiiedpplimpaaDiffer
set_option linter.unusedSimpArgs false
set_option linter.unusedVariables false
set_option maxRecDepth 100000
namespace Go.Proofs.Ythjiiedpplimpaa
open Go.RowKit

theorem run_append_none (t ty e : TypeId) (i : TypeInfo) (ht : Try.prog.underlying t = some (.slice e)) (hi : Try.prog.info? e = some i) (w : World) (p : Option Addr) (c : Nat) :
    (Builtin.append_ #[t, t] ty #[.slice none 0 0, .slice p 0 c]).run Try.prog w = .ok (.slice none 0 0) w := by
  cases p with
  | none => simp [Builtin.append_, run_underlying ht, sizeOf, typeInfo, hi, Builtin.lenOf, Builtin.firstCells]
  | some a => simp [Builtin.append_, run_underlying ht, sizeOf, typeInfo, hi, Builtin.lenOf, Builtin.firstCells, loadCells, loadCellsFrom]

/-- what lent answers -/
def LentOk (w : World) (zs : List Int) (e : Ending) (w' : World) : Prop :=
  ∃ g spare, e = .returned (.slice (some ⟨g, 0, none⟩) zs.length (zs.length + 2 + List.length spare)) ∧ Blk w' g (zs.map (Value.int .u64) ++ ([.int .u64 77, .int .u64 78] ++ spare)) 27 ∧ w.heap.size ≤ g ∧ Upd [] w w'

theorem lent_any (p : Option Addr) (cap : Nat) (zs : List Int) (w : World) (h : SlI w .u64 p zs) (hn : zs.length * 8 ≤ 140737488351232) :
    Calls Try.prog 26 #[.slice p zs.length cap] w (LentOk w zs) := by
  obtain ⟨i0, hi, hz0, hz1, hz2⟩ := info_parts info_u64
  have hsl : ∀ {w1 w2 : World} {v : Value}, w1.ownsRow w.heap.size 27 1 v zs.length (zs.map (Value.int .u64)) → Upd [] w w1 → (w1.alloc (.cells #[.int .u64 77, .int .u64 78] 27)).grownBy w2 v.ownBlock → Upd [] w w2 := fun h1 h2 h3 =>
    (h2.alloc _).tr (Upd.own h3) (by simp) (fun g hg => .inr (own_blocks h1 g hg).1)
  by_cases hz : zs = []
  · subst hz
    have hr := run_append_none 31 31 27 i0 Try.underlying31 hi
    refine calls_all fun K hK => ?_
    go_enter Try.func26, Try.ntmps26
    go_wp2_with (first | (at_builtin; refine wpList_append_eq rfl (.const (.slice none 0 0)) (.tmp 4) _ _ rfl _ _ _ rfl rfl (hr _ _ _) ?_) | (at_builtin; refine wpList_append_own _ rfl (.tmp 5) (.tmp 6) 31 rfl w.heap.size 27 i0 (.int .u64 0) 1 8 Try.underlying31 hi hz0 hz1 hz2 rfl (by decide) _ _ _ rfl (World.ownsRow_nil _ _ _ _) ⟨_, 0, none⟩ 2 2 [.int .u64 77, .int .u64 78] rfl rfl (news_new [.int .u64 77, .int .u64 78] 27 (by simp)) (by simp [Value.oneCell']) (by unfold maxLen; omega) (by omega) (by simp) ?_; intro v2 w2 ho2 hg2 _; obtain ⟨g, c, rfl⟩ := own_some ho2 (by omega); obtain ⟨q1, q2, spare, q3, q4, q5⟩ := own_open ho2; have q6 : (0 : Nat) ≤ c := by omega))
    exact ⟨g, spare, by rw [← q4]; rfl, q3, q1, hsl (World.ownsRow_nil _ _ _ _) (Upd.refl _ _) hg2⟩
  · obtain ⟨ad, e, hsrc⟩ := h.src hz
    subst e
    have hpos : 0 < zs.length := List.length_pos_iff.2 hz
    refine calls_all fun K hK => ?_
    go_enter Try.func26, Try.ntmps26
    go_wp2_with (first | (at_builtin; refine wpList_append_own _ rfl (.const (.slice none 0 0)) (.tmp 4) 31 rfl w.heap.size 27 i0 (.int .u64 0) 1 8 Try.underlying31 hi hz0 hz1 hz2 rfl (by decide) _ _ _ rfl (World.ownsRow_nil _ _ _ _) ad zs.length cap (zs.map (Value.int .u64)) rfl (by simp) hsrc (by intro u hu; simp at hu; obtain ⟨x, _, rfl⟩ := hu; rfl) (by unfold maxLen; omega) (by omega) (Nat.le_refl _) ?_; intro v1 w1 ho1 hg1 _; rw [Nat.zero_add, List.nil_append] at ho1; have u1 : Upd [] w w1 := Upd.own hg1) | (at_builtin; refine wpList_append_own _ rfl (.tmp 5) (.tmp 6) 31 rfl w.heap.size 27 i0 (.int .u64 0) 1 8 Try.underlying31 hi hz0 hz1 hz2 rfl (by decide) _ _ _ rfl (ho1.alloc _) ⟨_, 0, none⟩ 2 2 [.int .u64 77, .int .u64 78] rfl rfl (news_new [.int .u64 77, .int .u64 78] 27 (by simp)) (by simp [Value.oneCell']) (by unfold maxLen; omega) (by omega) (by have := u1.size; simp; omega) ?_; intro v2 w2 ho2 hg2 _; obtain ⟨g, c, rfl⟩ := own_some ho2 (by omega); obtain ⟨q1, q2, spare, q3, q4, q5⟩ := own_open ho2; have q6 : zs.length ≤ c := by omega))
    exact ⟨g, spare, by rw [← q4]; rfl, by rw [← List.append_assoc]; exact q3, q1, hsl ho1 u1 hg2⟩

end Go.Proofs.Ythjiiedpplimpaa
