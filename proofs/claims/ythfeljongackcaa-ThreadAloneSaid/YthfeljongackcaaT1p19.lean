/- A thread's State, its cells as a list, with an attempt. No conditions. A new thread: its program copied; a load of many cells in a drawn region. The conditions are sizes. ThreadAlone: the events of a block in memory; validates, counted. The conditions are sizes. -/
import Derived.Test.YthfeljongackcaaT1p18
import Derived.Test.YthfeljongackcaaT1p12
import Derived.Test.YthfeljongackcaaT1p11
import Derived.Deep.MidRow
set_option linter.unusedSimpArgs false
set_option linter.unusedVariables false
set_option maxRecDepth 100000
namespace Go.Proofs.Ythfeljongackcaa
open Go.RowKit
open Go.Maps
section
variable {w w' : World} {tb : Nat}
theorem Blk.range {b : Nat} {vs : List Value} {t : TypeId} (h : Blk w b vs t) : w.rangeAt b 0 vs := fun j v hj => by rw [Nat.zero_add]; exact h.cell j hj
theorem rowSet_tail (fore old new : List Value) (hl : old.length = new.length) : rowSet (fore ++ old) fore.length new = fore ++ new := by
  unfold rowSet
  rw [List.take_left, ← hl, ← List.length_append, List.drop_length, List.append_nil]
theorem rhead_len (s : AS) (rv wv : Value) : (rheadV s rv wv).length = 9 := rfl
set_option maxHeartbeats 2000000 in
theorem state_abs_some {fore old : List Value} {s : AS} {a : Nat} (hl : fore.length = 22) (hlo : old.length = 9) (h1 : (fore ++ old).toArray.all (·.oneCell') = true) (hr : w.rangeAt tb 0 (fore ++ old)) (c34 : w.cell? ⟨tb, 34, none⟩ = some (.pointer (some ⟨a, 0, none⟩)))
    (H : ∀ W, Upd [] w W → Calls Try.prog 26 #[.pointer (some ⟨a, 0, none⟩)] W (NewState W s)) : Calls Try.prog 37 #[.pointer (some ⟨tb, 0, none⟩)] w fun e w' => ∃ rv wv, e = .returned (.agg (fore ++ rheadV s rv wv).toArray) ∧ TwoNew w w' s rv wv := by
  obtain ⟨vs, hvs⟩ : ∃ vs, fore ++ old = vs := ⟨_, rfl⟩
  have hvl : vs.length = 31 := by rw [← hvs, List.length_append]; omega
  rw [hvs] at hr h1
  have htb : tb < w.heap.size := World.block_lt_of_cell? w _ c34
  obtain ⟨W1, hW1⟩ : ∃ W, w.alloc (.cells zero31 103) = W := ⟨_, rfl⟩
  have u1 : Upd [] w W1 := by rw [← hW1]; exact (Upd.refl [] _).alloc _
  have B1 : Blk W1 w.heap.size zero31.toList 103 := by rw [← hW1]; exact Blk.new w zero31.toList 103
  obtain ⟨W2, hW2⟩ : ∃ W, W1.alloc (.cells zero31 103) = W := ⟨_, rfl⟩
  have u2 : Upd [] W1 W2 := by rw [← hW2]; exact (Upd.refl [] _).alloc _
  have B2 : Blk W2 W1.heap.size zero31.toList 103 := by rw [← hW2]; exact Blk.new W1 zero31.toList 103
  have th2 : W2.there W1.heap.size 0 31 := B2.there 0 31 (by decide)
  have r1 : W1.rangeAt tb 0 vs := by rw [← hW1]; exact World.rangeAt_alloc hr _
  have hs1 : w.heap.size < W1.heap.size := by rw [← hW1]; simp
  have hs2 : W1.heap.size < W2.heap.size := by rw [← hW2]; simp
  have HR := Lib.hid r1
  have HT2 := Lib.hid th2
  obtain ⟨W3, hW3⟩ : ∃ W, W2.setCells W1.heap.size 0 vs = W := ⟨_, rfl⟩
  have E3 : ∀ w, (binOp .neq 29 (.pointer (some ⟨a, 0, none⟩)) (.pointer none)).run Try.prog w = .ok (.bool true) w := fun w => by kernel_rfl
  have u3 : Upd [] w W3 := by rw [← hW3]; exact Upd.rows _ 0 (u1.trans u2) (.inr (by omega))
  have B3 : Blk W3 W1.heap.size vs 103 := by
    have k := Blk.rows vs 0 B2 (by rw [hvl]; decide)
    rw [hW3] at k
    have e : rowSet zero31.toList 0 vs = vs := by unfold rowSet; rw [List.take_zero, List.nil_append, List.drop_eq_nil_of_le (by rw [hvl]; decide), List.append_nil]
    rw [e] at k
    exact k
  have B1b : Blk W3 w.heap.size zero31.toList 103 := by
    have k := B1.upd u2 (by simp)
    have u4 : Upd [W1.heap.size] W2 W3 := by rw [← hW3]; exact Upd.rows _ 0 (Upd.refl _ _) (.inl (by simp))
    exact k.upd u4 (by simp; omega)
  have c3 : W3.cell? ⟨tb, 34, none⟩ = some (.pointer (some ⟨a, 0, none⟩)) := by
    rw [← c34]; exact World.cell?_of_block (u3.block tb htb (by simp))
  have HC := Lib.hid (H W3 u3)
  have HB3 := Lib.hid B3
  have HB1 := Lib.hid B1b
  have HU3 := Lib.hid u3
  have hs3 := B3.lt
  clear hr c34 B1 B2 th2 r1 u1 u2 H B3 B1b u3
  simp only [zero31] at hW1 hW2
  refine calls_all fun K hK => ?_
  go_enter Try.func37, Try.ntmps37
  go_upto_region 3 with (fail)
  go_upto_region 4 with (first
    | ((with_reducible refine wpList_load_mid (op := ⟨some 10, .load 103 (.tmp 9), _, _, _, _⟩) rfl 103 _ rfl tb 0 ?_ vs _ HR.out Try.underlying103 (by rfl) (by rw [hvl]; kernel_rfl) ?_); (· rfl))
    | ((with_reducible refine wpList_store_mid (op := ⟨none, .store 103 (.tmp 3) (.tmp 10), _, _, _, _⟩) rfl 103 _ _ rfl W1.heap.size 0 vs.toArray ?_ ?_ (by simpa [hvl] using HT2.out) (by simp only [List.size_toArray, hvl]; kernel_rfl) h1 ?_); (· rfl); (· rfl)))
  rw [hW3]
  clear hW3
  go_wp2_with (fail)
  refine HC.out.mono ?_
  rintro e W4 ⟨rv, wv, rfl, hT⟩
  obtain ⟨p1, c1, rfl⟩ := hT.rd.form
  obtain ⟨p2, c2, rfl⟩ := hT.wr.form
  obtain ⟨sn, rd, wl, ph, th, ad, wo, fo, at_⟩ := s
  dsimp only at hT
  have uT := hT.u
  have B3 := HB3.out.upd uT (by simp)
  have B1 := HB1.out.upd uT (by simp)
  have th4 : W4.there W1.heap.size 22 9 := B3.there 22 9 (by rw [hvl]; decide)
  have hs4 := uT.size
  obtain ⟨us, hus⟩ : ∃ us : List Value, [.int .u64 sn, .slice p1 rd.length c1, .slice p2 wl.length c2, .int .i64 ph, .int .i64 th, .int .u64 ad, .int .u64 wo, .int .u64 fo, .int .i64 at_] = us := ⟨_, rfl⟩
  have hul : us.length = 9 := by rw [← hus]; rfl
  have hu1 : us.toArray.all (·.oneCell') = true := by rw [← hus]; simp [Value.oneCell']
  obtain ⟨W5, hW5⟩ : ∃ W, W4.setCells W1.heap.size 22 us = W := ⟨_, rfl⟩
  have B5 : Blk W5 W1.heap.size (fore ++ us) 103 := by
    have k := Blk.rows us 22 B3 (by rw [hvl, hul]; decide)
    rw [hW5, ← hvs, ← hl, rowSet_tail fore old us (by omega)] at k
    exact k
  have u5 : Upd [W1.heap.size] W4 W5 := by rw [← hW5]; exact Upd.rows _ 22 (Upd.refl _ _) (.inl (by simp))
  have HB1' := Lib.hid (B1.upd u5 (by simp; omega))
  have HT4 := Lib.hid th4
  have hfl : (fore ++ us).length = 31 := by rw [List.length_append]; omega
  have HT5 := Lib.hid (HB1'.out.there 0 31 (by decide))
  have HR5 := Lib.hid B5.range
  have hf1 : (fore ++ us).toArray.all (·.oneCell') = true := by
    rw [← hvs] at h1
    rw [← List.append_toArray, Array.all_append] at h1 ⊢
    simp only [Bool.and_eq_true] at h1 ⊢
    exact ⟨h1.1, hu1⟩
  have HT := Lib.hid hT
  have hrw : Value.agg #[.int .u64 sn, .slice p1 rd.length c1, .slice p2 wl.length c2, .int .i64 ph, .int .i64 th, .int .u64 ad, .int .u64 wo, .int .u64 fo, .int .i64 at_] = .agg us.toArray := by rw [← hus]
  have hst : stateV ⟨sn, rd, wl, ph, th, ad, wo, fo, at_⟩ (.slice p1 rd.length c1) (.slice p2 wl.length c2) = .agg us.toArray := hrw
  have hfin : fore ++ rheadV ⟨sn, rd, wl, ph, th, ad, wo, fo, at_⟩ (.slice p1 rd.length c1) (.slice p2 wl.length c2) = fore ++ us := by rw [← hus]; rfl
  have HF := Lib.hid hfin
  have HU5 := Lib.hid u5
  rw [hst]
  clear hrw hst hfin hus hT uT B3 B1 th4 B5 u5
  go_upto_region 6 with ((with_reducible refine wpList_store_mid (op := ⟨none, .store 60 (.tmp 21) (.tmp 20), _, _, _, _⟩) rfl 60 _ _ rfl W1.heap.size 22 us.toArray ?_ ?_ (by simpa [hul] using HT4.out) (by simp only [List.size_toArray, hul]; kernel_rfl) hu1 ?_); (· rfl); (· rfl))
  rw [hW5]
  clear hW5
  go_wp2_with (first
    | ((with_reducible refine wpList_load_mid (op := ⟨some 22, .load 103 (.tmp 3), _, _, _, _⟩) rfl 103 _ rfl W1.heap.size 0 ?_ (fore ++ us) _ HR5.out Try.underlying103 (by rfl) (by rw [hfl]; kernel_rfl) ?_); (· rfl))
    | ((with_reducible refine wpList_store_mid (op := ⟨none, .store 103 (.tmp 2) (.tmp 22), _, _, _, _⟩) rfl 103 _ _ rfl w.heap.size 0 (fore ++ us).toArray ?_ ?_ (by simpa [hfl] using HT5.out) (by simp only [List.size_toArray, hfl]; kernel_rfl) hf1 ?_); (· rfl); (· rfl)))
  obtain ⟨W6, hW6⟩ : ∃ W, W5.setCells w.heap.size 0 (fore ++ us) = W := ⟨_, rfl⟩
  have u6 : Upd [W1.heap.size, w.heap.size] W4 W6 := by rw [← hW6]; exact Upd.rows _ 0 (HU5.out.mono (by simp)) (.inl (by simp))
  have uA : Upd [] w W6 := by
    have k : Upd [] w W4 := HU3.out.trans HT.out.u
    have k5 : Upd [] w W5 := k.tr (U := []) HU5.out (fun g hg => by simp at hg) (fun g hg => by simp at hg; subst hg; exact .inr (by omega))
    rw [← hW6]
    exact Upd.rows _ 0 k5 (.inr (Nat.le_refl _))
  have hw3 := HU3.out.size
  have k := HT.out.later u6 (fun g hg => by simp at hg; rcases hg with rfl | rfl <;> exact .inl (by omega))
  refine bodyPost_ret (tst_results rfl _ _ w.heap.size (fore ++ us) rfl (World.rangeAt_setCells_same W5 _ 0 _ (by rw [hfl]; exact HT5.out)) hfl) rfl (hK _ _ ⟨_, _, congrArg (fun l : List Value => Ending.returned (.agg l.toArray)) HF.out.symm, ?_⟩)
  rw [hW6]
  exact ⟨k.1, k.2, HT.out.ap, fun g hg => by have := HT.out.nr g hg; omega, fun g hg => by have := HT.out.nw g hg; omega, uA⟩
end
end Go.Proofs.Ythfeljongackcaa
set_option linter.unusedSimpArgs false
set_option linter.unusedVariables false
set_option maxRecDepth 100000
namespace Go.Proofs.Ythfeljongackcaa
open Go.RowKit
open Go.Maps
section
variable {P : Program} {md : Region.Mode} {ops : Array Oper} {Q : Exit → Act → World → Prop} {S : World → Prop} {t : Nat}
theorem wpB_load_mid {l : List Oper} {n i d : Nat} {o : Oper} {rest : List Nat} {L : Array Bool} {a : Act} {w : World} (h0 : l[i]? = some o) (hd : o.dst = some d) (hrr : ((Region.ready md l.toArray L).contains i && Region.free md l.toArray L i) = true) (hw : Region.wanted o (yielded l.toArray a.tmps) = true) (ty : TypeId) (x : Operand) (ho : o.op = .load ty x)
    (b off : Nat) (hx : a.eval x = .pointer (some ⟨b, off, none⟩)) (cs : List Value) (ds : TypeDesc) (hS : ∀ w, S w → w.rangeAt b off cs) (hu : P.underlying ty = some ds) (hr : ds.isRow = true) (hi : (P.info? ty).map (·.size) = some cs.length)
    (h : wpB P md l.toArray Q S n rest (L.setIfInBounds i true) (a.put (some d) (.agg cs.toArray)) w) : wpB P md l.toArray Q S (n + 1) (i :: rest) L a w :=
  wpB_take h0 hd hrr hw (fun w hw' => by
    unfold execOp
    simp only [ho, hx, Instr.loadAt, Instr.sureAddr, Sem.run_bind, Sem.run_pure, Result.andThen_ok, run_loadVar_mid w b off ty cs ds (hS w hw') hu hr hi]) h
/-- an append, by its run -/
theorem wpB_append {l : List Oper} {n i : Nat} {o : Oper} {rest : List Nat} {L : Array Bool} {a : Act} {w w' : World} (h0 : l[i]? = some o) (hr : Region.ready md l.toArray L = [i]) (hw : Region.wanted o (yielded l.toArray a.tmps) = true) (s x : Operand) (ty u : TypeId)
    (hop : o.op = .call { callee := .builtin .append, args := #[s, x], argTypes := #[ty, u] }) (sv xv v : Value) (hs : a.eval s = sv) (hx : a.eval x = xv)
    (hrun : (Builtin.append_ #[ty, u] o.type #[sv, xv]).run P w = .ok v w') (hS : S w') (h : wpB P md l.toArray Q S n rest (L.setIfInBounds i true) (a.put o.dst v) w') : wpB P md l.toArray Q S (n + 1) (i :: rest) L a w := by
  refine wpB_eff h0 hr hw fun K hK => ?_
  unfold Oper.wp execOp
  simp only [hop, resolve, invoke, builtin, Sem.run_bind, Sem.run_pure, Result.andThen_ok, List.map_toArray, List.map_cons, List.map_nil, hs, hx, hrun]
  exact hK.out _ _ hS h
end
theorem info_instr : (Try.prog.info? 144).map (fun i => (i.zero, i.size, i.bytes)) = some (some (.agg #[.int .i64 0, .int .i64 0, .int .i64 0, .int .i64 0, .int .u64 0]), 5, 40) := by kernel_rfl
theorem codeV_one {p : List Ins} {u : Value} (hu : u ∈ codeV p) : u.oneCell' = true := by
  simp only [codeV, List.mem_flatMap] at hu
  obtain ⟨x, _, hx⟩ := hu
  simp only [Ins.cells, List.mem_cons, List.not_mem_nil, or_false] at hx
  rcases hx with rfl | rfl | rfl | rfl | rfl <;> rfl
theorem CodeAt.src {w : World} {po : Option Addr} {p : List Ins} (h : CodeAt w po p) (hl : p ≠ []) : ∃ ad, po = some ad ∧ ∀ j u, (codeV p)[j]? = some u → w.cell? (ad.add j) = some u := by
  obtain ⟨x, hx⟩ : ∃ x, p[0]? = some x := ⟨_, List.getElem?_eq_getElem (List.length_pos_iff.2 hl)⟩
  obtain ⟨b, o, rfl, _⟩ := h 0 x hx
  refine ⟨_, rfl, fun j u hj => ?_⟩
  have hjl : j < p.length * 5 := by
    by_cases hh : j < p.length * 5
    · exact hh
    · rw [List.getElem?_eq_none (by rw [codeV_len]; omega)] at hj; cases hj
  obtain ⟨y, hy⟩ : ∃ y, p[j / 5]? = some y := ⟨_, List.getElem?_eq_getElem (by omega)⟩
  obtain ⟨b', o', e, h0, h1, h2, h3, h4⟩ := h (j / 5) y hy
  cases e
  obtain ⟨c0, c1, c2, c3, c4⟩ := codeV_get p (j / 5) y hy
  rw [addr_add]
  have hm : j = j / 5 * 5 ∨ j = j / 5 * 5 + 1 ∨ j = j / 5 * 5 + 2 ∨ j = j / 5 * 5 + 3 ∨ j = j / 5 * 5 + 4 := by omega
  generalize j / 5 = q at *
  rcases hm with rfl | rfl | rfl | rfl | rfl
  · rw [c0] at hj; cases hj; exact h0
  · rw [c1] at hj; cases hj; rw [← Nat.add_assoc]; exact h1
  · rw [c2] at hj; cases hj; rw [← Nat.add_assoc]; exact h2
  · rw [c3] at hj; cases hj; rw [← Nat.add_assoc]; exact h3
  · rw [c4] at hj; cases hj; rw [← Nat.add_assoc]; exact h4
theorem app_code (W : World) (po : Option Addr) (cap : Nat) (p : List Ins) (h : CodeAt W po p) (h1 : 1 ≤ p.length) (h2 : p.length ≤ 256) :
    ∃ pb cap' W', (Builtin.append_ #[97, 97] 97 #[.slice none 0 0, .slice po p.length cap]).run Try.prog W = .ok (.slice (some ⟨pb, 0, none⟩) p.length cap') W' ∧ ProgAt W' pb cap' p ∧ Upd [] W W' ∧ W.heap.size ≤ pb := by
  obtain ⟨i0, hi, hz0, hz1, hz2⟩ := info_parts info_instr
  obtain ⟨ad, rfl, hsrc⟩ := h.src (List.length_pos_iff.1 h1)
  obtain ⟨v', w', hr, ho, hg, _, hor⟩ := run_append_own_at (P := Try.prog) (w := W) 0 97 97 144 i0 (.agg #[.int .i64 0, .int .i64 0, .int .i64 0, .int .i64 0, .int .u64 0]) 5 40 Try.underlying97 hi hz0 hz1 hz2 rfl (by omega)
    (.slice none 0 0) 0 [] ⟨rfl, .inl ⟨rfl, rfl⟩⟩ ad p.length cap (codeV p) (codeV_len p) hsrc (fun u hu => codeV_one hu) (by unfold maxLen; omega) (by omega) (Nat.zero_le _)
  rw [Nat.zero_add, List.nil_append] at ho
  obtain ⟨k1, k2⟩ := ho
  rcases k2 with ⟨_, k2⟩ | ⟨g, cap', cur, hv, hb, hh, hn, hm, hs, ht⟩
  · omega
  · subst hv
    refine ⟨g, cap', w', hr, ⟨h1, h2, cur.toList.drop (p.length * 5), ?_⟩, Upd.of_grown hg (fun k e => by simp [Value.ownBlock] at e), ?_⟩
    · unfold Blk
      rw [← ht, List.take_append_drop]
      simpa using hh
    · rcases hor with e | e
      · simp [Value.ownBlock] at e
      · simp [Value.ownBlock] at e; omega
end Go.Proofs.Ythfeljongackcaa
set_option linter.unusedSimpArgs false
set_option linter.unusedVariables false
set_option maxRecDepth 100000
namespace Go.Proofs.Ythfeljongackcaa
open Go.RowKit
open Go.Maps
/-- a list of events of the law's own -/
def evCells (b : List TE) : List Value := b.flatMap TE.cells
theorem evCells_len (b : List TE) : (evCells b).length = b.length * 6 := by
  induction b with
  | nil => rfl
  | cons e b ih => simp only [evCells, List.flatMap_cons, List.length_append, List.length_cons] at *; rw [ih]; simp [TE.cells]; omega
theorem evCells_snoc (b : List TE) (e : TE) : evCells (b ++ [e]) = evCells b ++ e.cells := by simp [evCells]
theorem evCells_get : ∀ (b : List TE) (i : Nat) (e : TE), b[i]? = some e → (evCells b)[i * 6 + 1]? = some (.int .i64 e.kind) ∧ (evCells b)[i * 6 + 4]? = some (.bool e.own)
  | [], i, e, h => by simp at h
  | c :: b, 0, e, h => by simp at h; subst h; simp [evCells, TE.cells]
  | c :: b, i + 1, e, h => by
    have ih := evCells_get b i e (by simpa using h)
    have e1 : (i + 1) * 6 + 1 = (i * 6 + 1) + 6 := by omega
    have e2 : (i + 1) * 6 + 4 = (i * 6 + 4) + 6 := by omega
    rw [e1, e2]
    simpa [evCells, TE.cells] using ih
structure EvL (w : World) (base : Nat) (v : Value) (b : List TE) : Prop where
  own : w.ownsRow base 34 6 v b.length (evCells b)
section
variable {w w' : World} {base : Nat} {v : Value} {b : List TE}
theorem EvL.nil : EvL w base (.slice none 0 0) [] := ⟨⟨rfl, .inl ⟨rfl, rfl⟩⟩⟩
theorem EvL.upd {S : List Nat} (h : EvL w base v b) (u : Upd S w w') (hS : ∀ g ∈ S, v.ownBlock ≠ some g) : EvL w' base v b := ⟨own_upd h.own u hS⟩
theorem EvL.form (h : EvL w base v b) : ∃ p c, v = .slice p b.length c := own_form h.own
theorem EvL.lt (h : EvL w base v b) {g : Nat} (hg : v.ownBlock = some g) : base ≤ g ∧ g < w.heap.size := own_blocks h.own g (by simp [hg])
theorem EvL.cell (h : EvL w base v b) {i : Nat} {e : TE} (he : b[i]? = some e) : ∃ g c, v = .slice (some ⟨g, 0, none⟩) b.length c ∧ w.cell? ⟨g, i * 6 + 1, none⟩ = some (.int .i64 e.kind) ∧ w.cell? ⟨g, i * 6 + 4, none⟩ = some (.bool e.own) := by
  have hi : i < b.length := (List.getElem?_eq_some_iff.1 he).1
  obtain ⟨h1, h2⟩ := h.own
  rcases h2 with ⟨_, h2⟩ | ⟨g, cap, cur, hv, hb, hh, hn, hm, hs, ht⟩
  · omega
  · subst hv
    have B : Blk w g (evCells b ++ cur.toList.drop (b.length * 6)) 34 := by
      unfold Blk
      rw [← ht, List.take_append_drop]
      simpa using hh
    obtain ⟨k1, k2⟩ := evCells_get b i e he
    have hl := evCells_len b
    exact ⟨g, cap, rfl, B.cell _ (by rw [List.getElem?_append_left (by omega)]; exact k1), B.cell _ (by rw [List.getElem?_append_left (by omega)]; exact k2)⟩
theorem info_event : (Try.prog.info? 34).map (fun i => (i.zero, i.size, i.bytes)) = some (some (.agg #[.int .i64 0, .int .i64 0, .int .u64 0, .int .u64 0, .bool false, .int .i64 0]), 6, 48) := by kernel_rfl
/-- append of one event -/
theorem app_ev {W : World} (h : EvL W base v b) (e : TE) (hl : b.length < 100000) (hb : base ≤ W.heap.size) :
    ∃ v' w', (Builtin.append_ #[99, 99] 99 #[v, .slice (some ⟨W.heap.size, 0, none⟩) 1 1]).run Try.prog (W.alloc (.cells #[.int .i64 0, .int .i64 e.kind, .int .u64 e.addr, .int .u64 e.word, .bool e.own, .int .i64 e.err] 34)) = .ok v' w' ∧
      EvL w' base v' (b ++ [e]) ∧ Upd v.ownBlock.toList (W.alloc (.cells #[.int .i64 0, .int .i64 e.kind, .int .u64 e.addr, .int .u64 e.word, .bool e.own, .int .i64 e.err] 34)) w' ∧ (v'.ownBlock = v.ownBlock ∨ v'.ownBlock = some (W.heap.size + 1)) := by
  obtain ⟨i0, hi, hz0, hz1, hz2⟩ := info_parts info_event
  have hW := h.upd ((Upd.refl [] W).alloc (.cells #[.int .i64 0, .int .i64 e.kind, .int .u64 e.addr, .int .u64 e.word, .bool e.own, .int .i64 e.err] 34)) (by simp)
  obtain ⟨v', w', hr, ho, hg, hn, hat⟩ := run_append_own_at (P := Try.prog) (W.alloc (.cells #[.int .i64 0, .int .i64 e.kind, .int .u64 e.addr, .int .u64 e.word, .bool e.own, .int .i64 e.err] 34)) base 99 99 34 i0 (.agg #[.int .i64 0, .int .i64 0, .int .u64 0, .int .u64 0, .bool false, .int .i64 0]) 6 48 Try.underlying99 hi hz0 hz1 hz2 rfl (by decide) v b.length (evCells b) hW.own
    ⟨W.heap.size, 0, none⟩ 1 1 e.cells rfl (news_new _ 34 rfl) (by simp [TE.cells, Value.oneCell']) (by unfold maxLen; omega) (by omega) (by rw [World.size_alloc]; omega)
  rw [World.size_alloc] at hat
  refine ⟨v', w', hr, ⟨?_⟩, Upd.own hg, hat⟩
  rw [evCells_snoc]
  simpa using ho
end
set_option maxHeartbeats 1000000 in
theorem validates_code (w : World) (vs : List Value) (ph : Int) (hl : vs.length = 31) (h : vs[25]? = some (.int .i64 ph)) : Calls Try.prog 39 #[.agg vs.toArray] w fun e w' => e = .returned (.bool (decide (4 ≤ ph) && decide (ph ≤ 6))) ∧ Upd [] w w' := by
  obtain ⟨W1, hW1⟩ : ∃ W, w.alloc (.cells vs.toArray 103) = W := ⟨_, rfl⟩
  have u1 : Upd [] w W1 := by rw [← hW1]; exact (Upd.refl [] _).alloc _
  have B1 : Blk W1 w.heap.size vs 103 := by rw [← hW1]; exact Blk.new w vs 103
  have c25 := B1.cell 25 h
  clear h B1
  by_cases h4 : 4 ≤ ph
  · have d4 : decide (4 ≤ ph) = true := decide_eq_true h4
    refine calls_all fun K hK => ?_
    go_enter Try.func39, Try.ntmps39
    go_wp2_with fail
    all_goals exact ⟨by simp [h4], u1⟩
  · have d4 : decide (4 ≤ ph) = false := decide_eq_false h4
    refine calls_all fun K hK => ?_
    go_enter Try.func39, Try.ntmps39
    go_wp2_with fail
    all_goals exact ⟨by simp [h4], u1⟩
theorem nrB_take {b : List TE} {i : Nat} {e : TE} (he : b[i]? = some e) : nrB (b.take (i + 1)) = nrB (b.take i) + if e.kind == 2 && !e.own then 1 else 0 := by
  have hi := (List.getElem?_eq_some_iff.1 he)
  rw [List.take_add_one, he]
  exact nrB_app
theorem hasLock_take {b : List TE} {i : Nat} {e : TE} (he : b[i]? = some e) : hasLock (b.take (i + 1)) = (hasLock (b.take i) || e.kind == 5) := by
  rw [List.take_add_one, he]
  exact hasLock_app
set_option maxHeartbeats 4000000 in
theorem counted_code (w : World) (base : Nat) (v : Value) (b : List TE) (n fuel : Int) (s : AS) (rv : Value) (wp : Option Addr) (wc : Nat) (hE : EvL w base v b) (hb : b.length ≤ 30000) (hf : 0 ≤ fuel ∧ fuel ≤ 4096) (hw : s.writes.length ≤ 1024) :
    Calls Try.prog 40 #[v, .int .i64 n, .int .i64 fuel, stateV s rv (.slice wp s.writes.length wc)] w fun e w' => e = .returned (.bool (countedP b n fuel s)) ∧ Upd [] w w' := by
  obtain ⟨q, c, rfl⟩ := hE.form
  obtain ⟨r, hcp⟩ : ∃ r, countedP b n fuel s = r := ⟨_, rfl⟩
  rw [hcp]
  have HCP := Lib.hid hcp
  clear hcp
  obtain ⟨sn, rd, wl, ph, th, ad, wo, fo, at_⟩ := s
  dsimp only at hw
  simp only [stateV]
  obtain ⟨W1, hW1⟩ : ∃ W, w.alloc (.cells #[.int .u64 sn, rv, .slice wp wl.length wc, .int .i64 ph, .int .i64 th, .int .u64 ad, .int .u64 wo, .int .u64 fo, .int .i64 at_] 60) = W := ⟨_, rfl⟩
  have u1 : Upd [] w W1 := by rw [← hW1]; exact (Upd.refl [] _).alloc _
  have B1 : Blk W1 w.heap.size [.int .u64 sn, rv, .slice wp wl.length wc, .int .i64 ph, .int .i64 th, .int .u64 ad, .int .u64 wo, .int .u64 fo, .int .i64 at_] 60 := by rw [← hW1]; exact Blk.new w _ 60
  have hE1 := hE.upd u1 (by simp)
  have c2 := B1.cell 2 rfl
  have U1 := Lib.hid u1
  clear hE u1 B1
  refine calls_all fun K hK => ?_
  go_enter Try.func40, Try.ntmps40
  go_wp2_with fail
  go_loopw [9, 10, 11] (fun v9 v10 v11 wr => ∃ i : Nat, i ≤ b.length ∧ v11 = .int .i64 i ∧ v9 = .int .i64 (1 + fuel + (nrB (b.take i) : Int)) ∧ v10 = .int .i64 (if hasLock (b.take i) = true then (wl.length : Int) else 0) ∧ wr = W1) (fun _ _ v11 _ => b.length - (intOf v11).toNat)
  case atStart => exact ⟨0, by omega, rfl, by simp [nrB], by simp [hasLock], rfl⟩
  case round =>
    obtain ⟨i, hi, rfl, hv9, hv10, rfl⟩ := hrel
    obtain ⟨N, hN⟩ : ∃ N, nrB (b.take i) = N := ⟨_, rfl⟩
    obtain ⟨L, hL⟩ : ∃ L : Int, (if hasLock (b.take i) = true then (wl.length : Int) else 0) = L := ⟨_, rfl⟩
    have hNb : N ≤ i := by
      rw [← hN]
      have := List.countP_le_length (p := fun e : TE => e.kind == 2 && !e.own) (l := b.take i)
      rw [List.length_take] at this
      unfold nrB
      omega
    have hLb : 0 ≤ L ∧ L ≤ 1024 := by rw [← hL]; split <;> omega
    rw [hN] at hv9
    rw [hL] at hv10
    subst hv9
    subst hv10
    have HN := Lib.hid hN
    have HL := Lib.hid hL
    clear hN hL
    by_cases hlt : i < b.length
    · have hlt' : (i : Int) < (b.length : Int) := by omega
      obtain ⟨e, he⟩ : ∃ e, b[i]? = some e := ⟨_, List.getElem?_eq_getElem hlt⟩
      obtain ⟨g, c', hq, c1, c4⟩ := hE1.cell he
      obtain rfl : q = some ⟨g, 0, none⟩ := by cases hq; rfl
      clear hq
      have HE := Lib.hid he
      have HN2 := Lib.hid (nrB_take he)
      have HL2 := Lib.hid (hasLock_take he)
      clear he
      obtain ⟨ek, ea, ew, eo, ee⟩ := e
      dsimp only at c1 c4 HN2 HL2
      by_cases h2 : ek = 2
      · subst h2
        cases eo with
        | true =>
          go_wp2_with fail
          go_roundw
          case rel =>
            refine ⟨i + 1, by omega, by go_num, ?_, ?_, trivial⟩
            · rw [HN2.out, HN.out]; simp
            · rw [HL2.out, ← HL.out]; simp
          case measure => simp [intOf]; omega
        | false =>
          go_wp2_with fail
          go_roundw
          case rel =>
            refine ⟨i + 1, by omega, by go_num, ?_, ?_, trivial⟩
            · rw [HN2.out, HN.out]; simp; go_num
            · rw [HL2.out, ← HL.out]; simp
          case measure => simp [intOf]; omega
      · have h2b : (ek == 2) = false := beq_eq_false_iff_ne.2 h2
        by_cases h5 : ek = 5
        · subst h5
          clear h2 h2b
          go_wp2_with fail
          go_roundw
          case rel =>
            refine ⟨i + 1, by omega, by go_num, ?_, ?_, trivial⟩
            · rw [HN2.out, HN.out]; simp
            · rw [HL2.out]; simp
          case measure => simp [intOf]; omega
        · have h5b : (ek == 5) = false := beq_eq_false_iff_ne.2 h5
          go_wp2_with fail
          go_roundw
          case rel =>
            refine ⟨i + 1, by omega, by go_num, ?_, ?_, trivial⟩
            · rw [HN2.out, HN.out, h2b]; simp
            · rw [HL2.out, ← HL.out, h5b]; simp
          case measure => simp [intOf]; omega
    · obtain rfl : i = b.length := by omega
      rw [List.take_length] at HN HL
      have hc := HCP.out
      unfold countedP at hc
      rw [HN.out] at hc
      simp only at hc
      have hlw : (if hasLock b = true then ((wl.length : Nat) : Int) else 0) = L := HL.out
      rw [hlw] at hc
      by_cases hL0 : 0 < L
      · have dL : decide (0 < L) = true := decide_eq_true hL0
        rw [if_pos hL0] at hc
        have HC := Lib.hid hc
        clear hc hlw HCP HN HL
        go_wp2_with fail
        first | exact ⟨congrArg (fun q => Ending.returned (Value.bool q)) HC.out, U1.out⟩ | exact ⟨HC.out, U1.out⟩
      · have dL : decide (0 < L) = false := decide_eq_false hL0
        rw [if_neg hL0] at hc
        have HC := Lib.hid hc
        clear hc hlw HCP HN HL
        go_wp2_with fail
        first | exact ⟨congrArg (fun q => Ending.returned (Value.bool q)) HC.out, U1.out⟩ | exact ⟨HC.out, U1.out⟩
end Go.Proofs.Ythfeljongackcaa
