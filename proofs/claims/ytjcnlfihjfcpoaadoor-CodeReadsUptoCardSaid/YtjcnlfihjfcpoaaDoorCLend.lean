/- Instructions lent with marks behind them (lend), held against what was lent (kept), the same instructions (Same). The conditions are sizes. -/
import Derived.Test.YtjcnlfihjfcpoaaDoorCBytes
import Derived.Test.YtjcnlfihjfcpoaaDoorCWorks
import Derived.BigQuiet
set_option linter.unusedSimpArgs false
set_option linter.unusedVariables false
set_option maxRecDepth 100000
namespace Go.Proofs.YtjcnlfihjfcpoaaDoor
open Go.RowKit

theorem info_instr : (Tryd.prog.info? 38).map (fun i => (i.zero, i.size, i.bytes)) = some (some (.agg #[.int .i64 0, .int .i64 0, .int .i64 0, .int .i64 0, .int .u64 0]), 5, 40) := by kernel_rfl

def icells (L : List Ins) : List Value := L.flatMap Ins.cells
theorem icells_len : ∀ L : List Ins, (icells L).length = L.length * 5
  | [] => rfl
  | x :: L => by
    have := icells_len L
    unfold icells at *
    rw [List.flatMap_cons, List.length_append, this, List.length_cons]
    simp [Ins.cells]
    omega
theorem icells_at : ∀ (L : List Ins) (i : Nat) (x : Ins), L[i]? = some x → ∀ (j : Nat) v, x.cells[j]? = some v → (icells L)[i * 5 + j]? = some v
  | [], i, x, h, _, _, _ => by simp at h
  | y :: L, i, x, h, j, v, hj => by
    have hj5 : j < 5 := by have := (List.getElem?_eq_some_iff.1 hj).1; simpa [Ins.cells] using this
    unfold icells
    rw [List.flatMap_cons]
    cases i with
    | zero =>
      simp at h
      subst h
      rw [List.getElem?_append_left (by simp [Ins.cells]; omega), Nat.zero_mul, Nat.zero_add]
      exact hj
    | succ i =>
      have e5 : y.cells.length = 5 := rfl
      rw [List.getElem?_append_right (by rw [e5]; omega), e5, show (i + 1) * 5 + j - 5 = i * 5 + j by omega]
      exact icells_at L i x (by simpa using h) j v hj
theorem icells_cell {L : List Ins} {q : Nat} {v : Value} (h : (icells L)[q]? = some v) : ∃ (i : Nat) (x : Ins) (j : Nat), L[i]? = some x ∧ x.cells[j]? = some v ∧ q = i * 5 + j := by
  have hq : q < L.length * 5 := by rw [← icells_len]; exact (List.getElem?_eq_some_iff.1 h).1
  have hi : q / 5 < L.length := by omega
  refine ⟨q / 5, L[q / 5], q % 5, List.getElem?_eq_getElem hi, ?_, by omega⟩
  have h5 : q % 5 < (L[q / 5]).cells.length := by show q % 5 < 5; omega
  have := icells_at L (q / 5) L[q / 5] (List.getElem?_eq_getElem hi) (q % 5) _ (List.getElem?_eq_getElem h5)
  rw [show q / 5 * 5 + q % 5 = q by omega, h] at this
  rw [List.getElem?_eq_getElem h5, ← this]
theorem icells_one (L : List Ins) : ∀ u ∈ icells L, u.oneCell' = true := by
  intro u hu
  unfold icells at hu
  obtain ⟨x, _, hx⟩ := List.mem_flatMap.1 hu
  simp only [Ins.cells, List.mem_cons, List.not_mem_nil, or_false] at hx
  rcases hx with rfl | rfl | rfl | rfl | rfl <;> rfl

theorem SlN.src {w : World} {ad : Addr} {L : List Ins} (h : SlN w (some ad) L) : ∀ j v, (icells L)[j]? = some v → w.cell? (ad.add j) = some v := by
  intro q v hq
  obtain ⟨i, x, j, hi, hj, rfl⟩ := icells_cell hq
  obtain ⟨b, o, e⟩ := h.ne (by rintro rfl; simp at hi)
  simp only [Option.some.injEq] at e
  subst e
  rw [addr_add]
  exact h.cells b o rfl i x hi j v hj
theorem SlN.blk {w : World} {g : Nat} {L : List Ins} {rest : List Value} {t : TypeId} (h : Blk w g (icells L ++ rest) t) : SlN w (some ⟨g, 0, none⟩) L := by
  refine ⟨fun _ => ⟨_, _, rfl⟩, fun b o e i x hi j v hj => ?_⟩
  simp only [Option.some.injEq, Addr.mk.injEq, and_true] at e
  obtain ⟨rfl, rfl⟩ := e
  have hq := icells_at L i x hi j v hj
  rw [Nat.zero_add, h.at, List.getElem?_append_left (List.getElem?_eq_some_iff.1 hq).1]
  exact hq

theorem own_openS {w : World} {base size : Nat} {e : TypeId} {n g c : Nat} {us : List Value} (h : w.ownsRow base e size (.slice (some ⟨g, 0, none⟩) n c) n us) :
    base ≤ g ∧ us.length = n * size ∧ ∃ spare : List Value, Blk w g (us ++ spare) e ∧ n * size + spare.length = c * size ∧ n ≤ c ∧ c ≤ maxLen := by
  obtain ⟨h1, h2⟩ := h
  rcases h2 with ⟨h2, _⟩ | ⟨g', cap, cur, hv, hb, hh, hn, hm, hs, ht⟩
  · cases h2
  · cases hv
    have hle : n * size ≤ c * size := Nat.mul_le_mul_right _ hn
    refine ⟨hb, h1, cur.toList.drop (n * size), ?_, ?_, hn, hm⟩
    · rw [← ht, List.take_append_drop]
      unfold Blk
      simpa using hh
    · simp; omega

def marks : List Value := [.int .i64 77, .int .i64 (-1), .int .i64 0, .int .i64 0, .int .u64 0, .int .i64 78, .int .i64 0, .int .i64 0, .int .i64 0, .int .u64 0]
/-- what lend answers: the instructions and the marks in memory of its own -/
def LentAt (w : World) (g c : Nat) (L : List Ins) : Prop := L.length + 2 ≤ c ∧ ∃ spare, Blk w g (icells L ++ (marks ++ spare)) 38
theorem LentAt.sl {w : World} {g c : Nat} {L : List Ins} (h : LentAt w g c L) : SlN w (some ⟨g, 0, none⟩) L := by
  obtain ⟨_, spare, hB⟩ := h
  exact SlN.blk hB
theorem LentAt.upd {w w' : World} {g c : Nat} {L : List Ins} {S : List Nat} (h : LentAt w g c L) (u : Upd S w w') (hS : g ∉ S) : LentAt w' g c L := by
  obtain ⟨hc, spare, hB⟩ := h
  exact ⟨hc, spare, hB.upd u hS⟩

theorem run_append_lit (t ty e : TypeId) (i : TypeInfo) (ht : Tryd.prog.underlying t = some (.slice e)) (hi : Tryd.prog.info? e = some i) (w : World) (a : Addr) (p : Option Addr) (c : Nat) :
    (Builtin.append_ #[t, t] ty #[.slice (some a) 0 0, .slice p 0 c]).run Tryd.prog w = .ok (.slice (some a) 0 0) w := by
  cases p with
  | none => simp [Builtin.append_, run_underlying ht, sizeOf, typeInfo, hi, Builtin.lenOf, Builtin.firstCells, storeCells]
  | some b => simp [Builtin.append_, run_underlying ht, sizeOf, typeInfo, hi, Builtin.lenOf, Builtin.firstCells, loadCells, loadCellsFrom, storeCells]

def lentOk (w : World) (L : List Ins) (e : Ending) (w' : World) : Prop := ∃ g c, e = .returned (.slice (some ⟨g, 0, none⟩) L.length c) ∧ LentAt w' g c L ∧ w.heap.size ≤ g ∧ Upd [] w w'

set_option maxHeartbeats 4000000 in
theorem lend_any (L : List Ins) (p : Option Addr) (cap : Nat) (w : World) (h : SlN w p L) (hn : L.length * 40 ≤ 140737488351232) : Calls Tryd.prog 24 #[.slice p L.length cap] w (lentOk w L) := by
  obtain ⟨i0, hi, hz0, hz1, hz2⟩ := info_parts info_instr
  have o0 : (w.alloc (.cells #[] 38)).ownsRow w.heap.size 38 5 (.slice (some ⟨w.heap.size, 0, none⟩) 0 0) 0 [] := World.ownsRow_lit w #[] 0 (Nat.le_refl _) (by simp [maxLen]) (by simp)
  have hfin : ∀ {w1 w2 : World} {v1 v2 : Value}, w1.ownsRow w.heap.size 38 5 v1 L.length (icells L) → Upd [] w w1 → (w1.alloc (.cells marks.toArray 38)).grownBy w2 v1.ownBlock → w2.ownsRow w.heap.size 38 5 v2 (L.length + 2) (icells L ++ marks) →
      ∃ g c, v2 = .slice (some ⟨g, 0, none⟩) (L.length + 2) c ∧ L.length + 2 ≤ c ∧ LentAt w2 g c L ∧ w.heap.size ≤ g ∧ Upd [] w w2 := fun h1 h2 h3 h4 => by
    obtain ⟨g, c, rfl⟩ := own_some h4 (by omega)
    obtain ⟨q1, q2, spare, q3, q4, q5, q6⟩ := own_openS h4
    exact ⟨g, c, rfl, q5, ⟨q5, spare, by rw [← List.append_assoc]; exact q3⟩, q1, (h2.alloc _).tr (Upd.own h3) (by simp) (fun g hg => .inr (own_blocks h1 g hg).1)⟩
  have u0 : Upd [] w (w.alloc (.cells #[] 38)) := (Upd.refl _ _).alloc _
  cases p with
  | none =>
    have hL : L = [] := by
      cases L with
      | nil => rfl
      | cons a b => obtain ⟨_, _, e⟩ := h.ne (by simp); cases e
    subst hL
    have hr := run_append_lit 50 50 38 i0 Tryd.underlying50 hi
    refine calls_all fun K hK => ?_
    go_enter Tryd.func24, Tryd.ntmps24
    go_wp2_with (first | (at_builtin; refine wpList_append_eq rfl (.tmp 4) (.tmp 5) _ _ rfl _ _ _ rfl rfl (hr _ _ _ _) ?_) | (at_builtin; refine wpList_append_own _ rfl (.tmp 6) (.tmp 9) 50 rfl w.heap.size 38 i0 (.agg #[.int .i64 0, .int .i64 0, .int .i64 0, .int .i64 0, .int .u64 0]) 5 40 Tryd.underlying50 hi hz0 hz1 hz2 rfl (by decide) _ _ _ rfl (o0.alloc _) ⟨_, 0, none⟩ 2 2 marks rfl rfl (news_new marks 38 (by simp)) (by decide) (by unfold maxLen; omega) (by omega) (by simp only [World.size_alloc]; omega) ?_; intro v2 w2 ho2 hg2 _; obtain ⟨g, c, rfl, hc, hLA, hgw, hU⟩ := hfin o0 u0 hg2 ho2; have hcc : ¬ c < 0 := by omega))
    all_goals exact ⟨g, c, rfl, hLA, hgw, hU⟩
  | some ad =>
    have hsrc := h.src
    refine calls_all fun K hK => ?_
    go_enter Tryd.func24, Tryd.ntmps24
    go_wp2_with (first | (at_builtin; refine wpList_append_own _ rfl (.tmp 4) (.tmp 5) 50 rfl w.heap.size 38 i0 (.agg #[.int .i64 0, .int .i64 0, .int .i64 0, .int .i64 0, .int .u64 0]) 5 40 Tryd.underlying50 hi hz0 hz1 hz2 rfl (by decide) _ _ _ rfl o0 ad L.length cap (icells L) rfl (icells_len L) (fun j v hj => (World.cell?_alloc_old _ _ _ (Nat.ne_of_lt (World.block_lt_of_cell? _ _ (hsrc j v hj)))).trans (hsrc j v hj)) (icells_one L) (by unfold maxLen; omega) (by omega) (by simp) ?_; intro v1 w1 ho1 hg1 _; rw [Nat.zero_add, List.nil_append] at ho1; have u1 : Upd [] w w1 := u0.tr (Upd.own hg1) (by simp) (fun g hg => .inr (own_blocks o0 g hg).1)) | (at_builtin; refine wpList_append_own _ rfl (.tmp 6) (.tmp 9) 50 rfl w.heap.size 38 i0 (.agg #[.int .i64 0, .int .i64 0, .int .i64 0, .int .i64 0, .int .u64 0]) 5 40 Tryd.underlying50 hi hz0 hz1 hz2 rfl (by decide) _ _ _ rfl (ho1.alloc _) ⟨_, 0, none⟩ 2 2 marks rfl rfl (news_new marks 38 (by simp)) (by decide) (by unfold maxLen; omega) (by omega) (by have := u1.size; simp; omega) ?_; intro v2 w2 ho2 hg2 _; obtain ⟨g, c, rfl, hc, hLA, hgw, hU⟩ := hfin ho1 u1 hg2 ho2; have hcc : (L.length : Int) ≤ (c : Int) := by omega))
    all_goals exact ⟨g, c, rfl, hLA, hgw, hU⟩

set_option maxHeartbeats 4000000 in
theorem same_any (L : List Ins) (p q : Option Addr) (cp cq : Nat) (w : World) (hb : L.length < 4611686018427387904) (h : SlN w p L) (k : SlN w q L) : Calls Tryd.prog 27 #[.slice p L.length cp, .slice q L.length cq] w fun e w' => e = .returned (.bool true) ∧ Upd [] w w' := by
  have hne : ((L.length : Int) != (L.length : Int)) = false := by simp
  refine calls_all fun K hK => ?_
  go_enter Tryd.func27, Tryd.ntmps27
  go_wp2_with fail
  go_loopw [5] (fun v5 wr => ∃ j : Nat, j ≤ L.length ∧ v5 = .int .i64 j ∧ Upd [] w wr) (fun v5 _ => L.length - (intOf v5).toNat)
  case atStart => exact ⟨0, by omega, rfl, Upd.refl _ _⟩
  case round =>
    obtain ⟨j, hj, rfl, hu⟩ := hrel
    have HU := Lib.hid hu
    by_cases hlt : j < L.length
    · obtain ⟨x, hx⟩ : ∃ x, L[j]? = some x := ⟨_, List.getElem?_eq_getElem hlt⟩
      obtain ⟨b, o, rfl⟩ := h.ne (by rintro rfl; simp at hlt)
      obtain ⟨b', o', rfl⟩ := k.ne (by rintro rfl; simp at hlt)
      have c0 := (h.upd hu (by simp)).cells b o rfl j x hx 0 _ rfl
      have c1 := (h.upd hu (by simp)).cells b o rfl j x hx 1 _ rfl
      have c2 := (h.upd hu (by simp)).cells b o rfl j x hx 2 _ rfl
      have c3 := (h.upd hu (by simp)).cells b o rfl j x hx 3 _ rfl
      have c4 := (h.upd hu (by simp)).cells b o rfl j x hx 4 _ rfl
      have e0 := (k.upd hu (by simp)).cells b' o' rfl j x hx 0 _ rfl
      have e1 := (k.upd hu (by simp)).cells b' o' rfl j x hx 1 _ rfl
      have e2 := (k.upd hu (by simp)).cells b' o' rfl j x hx 2 _ rfl
      have e3 := (k.upd hu (by simp)).cells b' o' rfl j x hx 3 _ rfl
      have e4 := (k.upd hu (by simp)).cells b' o' rfl j x hx 4 _ rfl
      have hjl : (j : Int) < (L.length : Int) := by omega
      simp only [Nat.add_zero] at c0 e0
      simp only [← Nat.add_assoc] at c0 c1 c2 c3 c4 e0 e1 e2 e3 e4
      obtain ⟨op, a, bb, cc, n⟩ := x
      clear hx hu h k
      go_wp2_with fail
      go_quiet (fail)
      go_wp2_with fail
      go_roundw
      case rel => exact ⟨j + 1, by omega, by go_num, HU.out.drewN _⟩
      case measure => simp [intOf]; omega
    · obtain rfl : j = L.length := by omega
      go_wp2
      all_goals exact ⟨rfl, HU.out⟩

set_option maxHeartbeats 4000000 in
theorem kept_any (L : List Ins) (g c : Nat) (q : Option Addr) (cq : Nat) (w : World) (hb : L.length < 4611686018427387904) (h : LentAt w g c L) (k : SlN w q L) : Calls Tryd.prog 28 #[.slice (some ⟨g, 0, none⟩) L.length c, .slice q L.length cq] w fun e w' => e = .returned (.bool true) ∧ Upd [] w w' := by
  have hS := h.sl
  obtain ⟨hc, spare, hB⟩ := h
  have hm : ∀ j, j < 10 → (icells L ++ (marks ++ spare))[L.length * 5 + j]? = marks[j]? := fun j hj => by
    rw [List.getElem?_append_right (by rw [icells_len]; omega), icells_len, Nat.add_sub_cancel_left, List.getElem?_append_left (by simpa [marks] using hj)]
  have hcc : (L.length : Int) + 2 ≤ (c : Int) := by omega
  refine calls_all fun K hK => ?_
  go_enter Tryd.func28, Tryd.ntmps28
  go_wp2_with fail
  refine (same_any L (some ⟨g, 0, none⟩) q c cq _ hb hS k).mono ?_
  rintro e w1 ⟨rfl, u1⟩
  have hB1 := hB.upd u1 (by simp)
  have m0 := hB1.cell (L.length * 5) (hm 0 (by omega))
  have m1 := hB1.cell (L.length * 5 + 1) (hm 1 (by omega))
  have m2 := hB1.cell (L.length * 5 + 2) (hm 2 (by omega))
  have m3 := hB1.cell (L.length * 5 + 3) (hm 3 (by omega))
  have m4 := hB1.cell (L.length * 5 + 4) (hm 4 (by omega))
  have m5 := hB1.cell ((L.length + 1) * 5) ((show ((L.length + 1) * 5) = L.length * 5 + 5 by omega) ▸ hm 5 (by omega))
  have m6 := hB1.cell ((L.length + 1) * 5 + 1) ((show ((L.length + 1) * 5 + 1) = L.length * 5 + 6 by omega) ▸ hm 6 (by omega))
  have m7 := hB1.cell ((L.length + 1) * 5 + 2) ((show ((L.length + 1) * 5 + 2) = L.length * 5 + 7 by omega) ▸ hm 7 (by omega))
  have m8 := hB1.cell ((L.length + 1) * 5 + 3) ((show ((L.length + 1) * 5 + 3) = L.length * 5 + 8 by omega) ▸ hm 8 (by omega))
  have m9 := hB1.cell ((L.length + 1) * 5 + 4) ((show ((L.length + 1) * 5 + 4) = L.length * 5 + 9 by omega) ▸ hm 9 (by omega))
  clear hB1 hB hm
  go_wp2_with fail
  all_goals exact ⟨rfl, u1⟩
end Go.Proofs.YtjcnlfihjfcpoaaDoor
