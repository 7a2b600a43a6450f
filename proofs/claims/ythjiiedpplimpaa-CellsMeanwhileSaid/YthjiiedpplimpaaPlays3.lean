/- A step on a row of the program's and on one of the document's, whatever the step, a row that is there or one that is not (plays); a number's remainder by 3 (place). The conditions are sizes. -/
import Derived.Test.YthjiiedpplimpaaDiffer2
import Derived.Test.YthjiiedpplimpaaGoesNo
set_option linter.unusedSimpArgs false
set_option linter.unusedVariables false
set_option maxRecDepth 100000
namespace Go.Proofs.Ythjiiedpplimpaa
open Go.RowKit

section
variable {w : World} {x : Rw}

theorem StepV.Ok.upd {w w' : World} {ft : List Nat} {s : StepV} {S : List Nat} (h : s.Ok w ft) (u : Upd S w w') (hn : ∀ b o, s.p = some ⟨b, o, none⟩ → s.zs ≠ [] → b ∉ S) : s.Ok w' ft := ⟨h.A, h.W, h.O, h.B, h.sl.upd2 u hn, h.low, h.allz, h.reach, h.cap⟩
theorem StepV.Ok.foot {w : World} {ft ft' : List Nat} {s : StepV} (h : s.Ok w ft) (hn : ∀ b o, s.p = some ⟨b, o, none⟩ → s.zs ≠ [] → b ∉ ft') : s.Ok w ft' := ⟨h.A, h.W, h.O, h.B, h.sl, hn, h.allz, h.reach, h.cap⟩

theorem rp_56 (s : StepV) (hk : s.kind = 5 ∨ s.kind = 6) (ok : s.Ok w x.foot) (h : x.At w) : Calls Try.prog 53 #[.pointer (some ⟨x.a, 0, none⟩), .pointer (some ⟨x.ra, 0, none⟩), .agg s.cells.toArray] w (RpOut w x) := by
  have u0 : Upd [] w (w.alloc (.cells s.cells.toArray 95)) := (Upd.refl [] w).alloc _
  have hx := h.upd0 u0
  have ok0 := ok.upd u0 (by simp)
  have hpt : Calls Try.prog 77 #[.pointer (some ⟨x.a, 0, none⟩), .pointer (some ⟨x.ra, 0, none⟩), .agg s.cells.toArray] (w.alloc (.cells s.cells.toArray 95)) (RpOut (w.alloc (.cells s.cells.toArray 95)) x) := by
    rcases hk with hk | hk
    · exact parts_5 s hk ok0 hx
    · exact parts_6 s (by omega) ok0 hx
  obtain ⟨kind, who, to, leave, A, W, O, B, p, zs, cap⟩ := s
  have hs := Blk.new w [.int .i64 kind, .int .i64 who, .int .i64 to, .int .i64 leave, .int .u64 A, .int .u64 W, .int .u64 O, .int .u64 B, .slice p zs.length cap] 95
  have c0 := hs.cell 0 rfl
  have c1 := hs.cell 1 rfl
  have c2 := hs.cell 2 rfl
  have c3 := hs.cell 3 rfl
  have c4 := hs.cell 4 rfl
  have c5 := hs.cell 5 rfl
  have c6 := hs.cell 6 rfl
  have c7 := hs.cell 7 rfl
  have c8 := hs.cell 8 rfl
  show Calls Try.prog _ #[_, _, .agg #[.int .i64 kind, .int .i64 who, .int .i64 to, .int .i64 leave, .int .u64 A, .int .u64 W, .int .u64 O, .int .u64 B, .slice p zs.length cap]] _ _
  rcases hk with hk | hk
  · obtain rfl : kind = 5 := hk
    refine calls_all fun K hK => ?_
    go_enter Try.func53, Try.ntmps53
    go_wp2_with fail
    refine hpt.mono ?_
    rintro e w1 ⟨rfl, x', hf, hx', u1⟩
    go_wp2
    exact ⟨rfl, x', hf, hx', (u0.mono (by simp)).trans u1⟩
  · obtain rfl : kind = 6 := hk
    refine calls_all fun K hK => ?_
    go_enter Try.func53, Try.ntmps53
    go_wp2_with fail
    refine hpt.mono ?_
    rintro e w1 ⟨rfl, x', hf, hx', u1⟩
    go_wp2
    exact ⟨rfl, x', hf, hx', (u0.mono (by simp)).trans u1⟩

theorem rp_any (s : StepV) (ok : s.Ok w x.foot) (h : x.At w) : Calls Try.prog 53 #[.pointer (some ⟨x.a, 0, none⟩), .pointer (some ⟨x.ra, 0, none⟩), .agg s.cells.toArray] w (RpOut w x) := by
  by_cases h1 : s.kind = 1
  · exact rp_1 s h1 ok h
  by_cases h2 : s.kind = 2
  · exact rp_2 s h2 ok h
  by_cases h3 : s.kind = 3
  · exact rp_3 s h3 ok h
  by_cases h4 : s.kind = 4
  · exact rp_4 s h4 ok h
  by_cases h5 : s.kind = 5
  · exact rp_56 s (.inl h5) ok h
  by_cases h6 : s.kind = 6
  · exact rp_56 s (.inr h6) ok h
  by_cases h7 : s.kind = 7
  · exact rp_7 s h7 ok h
  by_cases h8 : s.kind = 8
  · exact rp_8 s h8 ok h
  exact rp_0 s ⟨h1, h2, h3, h4, h5, h6, h7, h8⟩ h
end


section
variable {w : World}

theorem np_parts5 (s : StepV) (hk : s.kind = 5) (ok : s.Ok w []) : Calls Try.prog 77 #[.pointer none, .pointer none, .agg s.cells.toArray] w fun e w' => e = .returned (.bool true) ∧ Upd [] w w' := by
  obtain ⟨kind, who, to, leave, A, W, O, B, p, zs, cap⟩ := s
  obtain rfl : kind = 5 := hk
  have hs := (Blk.new w [.int .i64 5, .int .i64 who, .int .i64 to, .int .i64 leave, .int .u64 A, .int .u64 W, .int .u64 O, .int .u64 B, .slice p zs.length cap] 95)
  have u0 : Upd [] w (w.alloc (.cells #[.int .i64 5, .int .i64 who, .int .i64 to, .int .i64 leave, .int .u64 A, .int .u64 W, .int .u64 O, .int .u64 B, .slice p zs.length cap] 95)) := ((Upd.refl [] w).alloc _)
  obtain ⟨oA, oW, oO, oB, osl, olow, oz, oreach, ocap⟩ := ok
  dsimp only at oA oW oO oB osl olow oz oreach ocap
  have hN : ∀ w : World, NoRow w none := fun _ => .inl rfl
  show Calls Try.prog _ #[_, _, .agg #[.int .i64 5, .int .i64 who, .int .i64 to, .int .i64 leave, .int .u64 A, .int .u64 W, .int .u64 O, .int .u64 B, .slice p zs.length cap]] _ _
  have osl0 := osl.upd u0 (by simp)
  refine calls_all fun K hK => ?_
  go_enter Try.func77, Try.ntmps77
  go_wp2_with fail
  refine (lent_any p cap zs _ osl0 oreach).mono ?_
  rintro e w1 ⟨g, sp, rfl, hB, hg, u1⟩
  simp only [World.size_alloc] at hg
  have hs1 := hs.upd u1 (by simp)
  have osl1 := osl0.upd u1 (by simp)
  have ud : Upd [] w1 w1.drew := (Upd.refl _ _).drew
  have hs2 := hs1.drew
  have hB2 := hB.drew
  have osl2 := osl1.upd ud (by simp)
  have c4 := hs2.cell 4 rfl
  have c8 := hs2.cell 8 rfl
  have cc := hs1.cell 8 rfl
  have U1 : Upd [] w w1.drew := (u0.trans u1).trans ud
  have k4 := left_any (c := zs.length + 2 + sp.length) (c' := cap) hB2 (by omega) oreach osl2
  go_wp2_with fail
  go_region_held3 (fun w' => w'.cell? ⟨w.heap.size, 4, none⟩ = some (.int .u64 A) ∧ w'.cell? ⟨w.heap.size, 8, none⟩ = some (.slice p zs.length cap)) (first | exact ⟨c4, c8⟩ | exact ⟨f4, f8⟩) (first | (go_at_call 68; refine (fill_no (hN _) _ _ _ _).mono ?_; rintro e w' ⟨rfl, rfl⟩) | (go_at_call 13; refine (num_any _ _).mono ?_; rintro e w' ⟨rfl, rfl⟩) | (go_at_call 84; refine (rfill_no _ _ _ _ _).mono ?_; rintro e w' ⟨rfl, rfl⟩) | (go_at_call 49; refine (k4).mono ?_; rintro e w5 ⟨rfl, q5⟩; have hs5 := hs2.upd q5.upd (by simp); have f4 := hs5.cell 4 rfl; have f8 := hs5.cell 8 rfl))
  have hB5 := hB2.upd q5.upd (by simp)
  have hcl : (zs.map (Value.int .u64)).length = zs.length := by simp
  go_wp2_with fail
  refine (spoil_own hB5 hcl (.inr rfl) (by unfold maxLen; omega) (by omega)).mono ?_
  rintro e w6 ⟨rfl, u6⟩
  go_wp2
  all_goals first | exact ⟨rfl, (U1.trans q5.upd).tr u6 (by simp) (by simp; omega)⟩ | exact (U1.trans q5.upd).tr u6 (by simp) (by simp; omega)

theorem np_parts6 (s : StepV) (hk : s.kind = 6) (ok : s.Ok w []) : Calls Try.prog 77 #[.pointer none, .pointer none, .agg s.cells.toArray] w fun e w' => e = .returned (.bool true) ∧ Upd [] w w' := by
  obtain ⟨kind, who, to, leave, A, W, O, B, p, zs, cap⟩ := s
  obtain rfl : kind = 6 := hk
  have hs := (Blk.new w [.int .i64 6, .int .i64 who, .int .i64 to, .int .i64 leave, .int .u64 A, .int .u64 W, .int .u64 O, .int .u64 B, .slice p zs.length cap] 95)
  have u0 : Upd [] w (w.alloc (.cells #[.int .i64 6, .int .i64 who, .int .i64 to, .int .i64 leave, .int .u64 A, .int .u64 W, .int .u64 O, .int .u64 B, .slice p zs.length cap] 95)) := ((Upd.refl [] w).alloc _)
  obtain ⟨oA, oW, oO, oB, osl, olow, oz, oreach, ocap⟩ := ok
  dsimp only at oA oW oO oB osl olow oz oreach ocap
  have hN : ∀ w : World, NoRow w none := fun _ => .inl rfl
  show Calls Try.prog _ #[_, _, .agg #[.int .i64 6, .int .i64 who, .int .i64 to, .int .i64 leave, .int .u64 A, .int .u64 W, .int .u64 O, .int .u64 B, .slice p zs.length cap]] _ _
  refine calls_all fun K hK => ?_
  go_enter Try.func77, Try.ntmps77
  go_wp2_with ((go_at_call 13; refine (num_any _ _).mono ?_; rintro e w' ⟨rfl, rfl⟩))
  refine (slice_no (hN _) _ _).mono ?_
  rintro e w1 ⟨rfl, rfl⟩
  go_wp2_with ((go_at_call 13; refine (num_any _ _).mono ?_; rintro e w' ⟨rfl, rfl⟩))
  refine (rslice_no _ _ _).mono ?_
  rintro e w1 ⟨rfl, rfl⟩
  go_wp2_with ((go_at_call 13; refine (num_any _ _).mono ?_; rintro e w' ⟨rfl, rfl⟩))
  refine (sw_nil _).mono ?_
  rintro e w2 ⟨rfl, q2⟩
  go_wp2_with ((go_at_call 13; refine (num_any _ _).mono ?_; rintro e w' ⟨rfl, rfl⟩))
  refine (spoil_nil _).mono ?_
  rintro e w3 ⟨rfl, u3⟩
  go_wp2
  all_goals first | exact ⟨rfl, (u0.trans q2.upd).trans u3⟩ | exact (u0.trans q2.upd).trans u3

theorem np_1 (s : StepV) (hk : s.kind = 1) (ok : s.Ok w []) : Calls Try.prog 53 #[.pointer none, .pointer none, .agg s.cells.toArray] w fun e w' => e = .returned (.bool true) ∧ Upd [] w w' := by
  obtain ⟨kind, who, to, leave, A, W, O, B, p, zs, cap⟩ := s
  obtain rfl : kind = 1 := hk
  have hs := (Blk.new w [.int .i64 1, .int .i64 who, .int .i64 to, .int .i64 leave, .int .u64 A, .int .u64 W, .int .u64 O, .int .u64 B, .slice p zs.length cap] 95)
  have u0 : Upd [] w (w.alloc (.cells #[.int .i64 1, .int .i64 who, .int .i64 to, .int .i64 leave, .int .u64 A, .int .u64 W, .int .u64 O, .int .u64 B, .slice p zs.length cap] 95)) := ((Upd.refl [] w).alloc _)
  obtain ⟨oA, oW, oO, oB, osl, olow, oz, oreach, ocap⟩ := ok
  dsimp only at oA oW oO oB osl olow oz oreach ocap
  have hN : ∀ w : World, NoRow w none := fun _ => .inl rfl
  show Calls Try.prog _ #[_, _, .agg #[.int .i64 1, .int .i64 who, .int .i64 to, .int .i64 leave, .int .u64 A, .int .u64 W, .int .u64 O, .int .u64 B, .slice p zs.length cap]] _ _
  have c4 := hs.cell 4 rfl
  refine calls_all fun K hK => ?_
  go_enter Try.func53, Try.ntmps53
  go_wp2_with ((go_at_call 13; refine (num_any _ _).mono ?_; rintro e w' ⟨rfl, rfl⟩))
  refine (load_no (hN _) _).mono ?_
  rintro e w1 ⟨rfl, rfl⟩
  go_wp2_with ((go_at_call 13; refine (num_any _ _).mono ?_; rintro e w' ⟨rfl, rfl⟩))
  refine (rload_no _ _).mono ?_
  rintro e w1 ⟨rfl, rfl⟩
  go_wp2_with ((go_at_call 13; refine (num_any _ _).mono ?_; rintro e w' ⟨rfl, rfl⟩))
  all_goals first | exact ⟨rfl, u0⟩ | exact u0

theorem np_2 (s : StepV) (hk : s.kind = 2) (ok : s.Ok w []) : Calls Try.prog 53 #[.pointer none, .pointer none, .agg s.cells.toArray] w fun e w' => e = .returned (.bool true) ∧ Upd [] w w' := by
  obtain ⟨kind, who, to, leave, A, W, O, B, p, zs, cap⟩ := s
  obtain rfl : kind = 2 := hk
  have hs := (Blk.new w [.int .i64 2, .int .i64 who, .int .i64 to, .int .i64 leave, .int .u64 A, .int .u64 W, .int .u64 O, .int .u64 B, .slice p zs.length cap] 95)
  have u0 : Upd [] w (w.alloc (.cells #[.int .i64 2, .int .i64 who, .int .i64 to, .int .i64 leave, .int .u64 A, .int .u64 W, .int .u64 O, .int .u64 B, .slice p zs.length cap] 95)) := ((Upd.refl [] w).alloc _)
  obtain ⟨oA, oW, oO, oB, osl, olow, oz, oreach, ocap⟩ := ok
  dsimp only at oA oW oO oB osl olow oz oreach ocap
  have hN : ∀ w : World, NoRow w none := fun _ => .inl rfl
  show Calls Try.prog _ #[_, _, .agg #[.int .i64 2, .int .i64 who, .int .i64 to, .int .i64 leave, .int .u64 A, .int .u64 W, .int .u64 O, .int .u64 B, .slice p zs.length cap]] _ _
  have hs2 := hs.drew
  have c4 := hs2.cell 4 rfl
  have c5 := hs2.cell 5 rfl
  refine calls_all fun K hK => ?_
  go_enter Try.func53, Try.ntmps53
  go_wp2_with fail
  go_region_held3 (fun w' => w'.cell? ⟨w.heap.size, 4, none⟩ = some (.int .u64 A) ∧ w'.cell? ⟨w.heap.size, 5, none⟩ = some (.int .u64 W)) (first | exact ⟨c4, c5⟩) (first | (go_at_call 31; refine (store_no (hN _) _ _).mono ?_; rintro e w' ⟨rfl, rfl⟩) | (go_at_call 13; refine (num_any _ _).mono ?_; rintro e w' ⟨rfl, rfl⟩) | (go_at_call 32; refine (rstore_no _ _ _).mono ?_; rintro e w' ⟨rfl, rfl⟩))
  go_wp2_with ((go_at_call 13; refine (num_any _ _).mono ?_; rintro e w' ⟨rfl, rfl⟩))
  all_goals first | exact ⟨rfl, u0.drew⟩ | exact u0.drew

theorem np_3 (s : StepV) (hk : s.kind = 3) (ok : s.Ok w []) : Calls Try.prog 53 #[.pointer none, .pointer none, .agg s.cells.toArray] w fun e w' => e = .returned (.bool true) ∧ Upd [] w w' := by
  obtain ⟨kind, who, to, leave, A, W, O, B, p, zs, cap⟩ := s
  obtain rfl : kind = 3 := hk
  have hs := (Blk.new w [.int .i64 3, .int .i64 who, .int .i64 to, .int .i64 leave, .int .u64 A, .int .u64 W, .int .u64 O, .int .u64 B, .slice p zs.length cap] 95)
  have u0 : Upd [] w (w.alloc (.cells #[.int .i64 3, .int .i64 who, .int .i64 to, .int .i64 leave, .int .u64 A, .int .u64 W, .int .u64 O, .int .u64 B, .slice p zs.length cap] 95)) := ((Upd.refl [] w).alloc _)
  obtain ⟨oA, oW, oO, oB, osl, olow, oz, oreach, ocap⟩ := ok
  dsimp only at oA oW oO oB osl olow oz oreach ocap
  have hN : ∀ w : World, NoRow w none := fun _ => .inl rfl
  show Calls Try.prog _ #[_, _, .agg #[.int .i64 3, .int .i64 who, .int .i64 to, .int .i64 leave, .int .u64 A, .int .u64 W, .int .u64 O, .int .u64 B, .slice p zs.length cap]] _ _
  have c4 := hs.cell 4 rfl
  refine calls_all fun K hK => ?_
  go_enter Try.func53, Try.ntmps53
  go_wp2_with ((go_at_call 13; refine (num_any _ _).mono ?_; rintro e w' ⟨rfl, rfl⟩))
  refine (swap_no (hN _) _ _ _).mono ?_
  rintro e w1 ⟨rfl, rfl⟩
  go_wp2_with ((go_at_call 13; refine (num_any _ _).mono ?_; rintro e w' ⟨rfl, rfl⟩))
  refine (rswap_no _ _ _ _).mono ?_
  rintro e w1 ⟨rfl, rfl⟩
  go_wp2_with ((go_at_call 13; refine (num_any _ _).mono ?_; rintro e w' ⟨rfl, rfl⟩))
  all_goals first | exact ⟨rfl, u0⟩ | exact u0

theorem np_4 (s : StepV) (hk : s.kind = 4) (ok : s.Ok w []) : Calls Try.prog 53 #[.pointer none, .pointer none, .agg s.cells.toArray] w fun e w' => e = .returned (.bool true) ∧ Upd [] w w' := by
  obtain ⟨kind, who, to, leave, A, W, O, B, p, zs, cap⟩ := s
  obtain rfl : kind = 4 := hk
  have hs := (Blk.new w [.int .i64 4, .int .i64 who, .int .i64 to, .int .i64 leave, .int .u64 A, .int .u64 W, .int .u64 O, .int .u64 B, .slice p zs.length cap] 95)
  have u0 : Upd [] w (w.alloc (.cells #[.int .i64 4, .int .i64 who, .int .i64 to, .int .i64 leave, .int .u64 A, .int .u64 W, .int .u64 O, .int .u64 B, .slice p zs.length cap] 95)) := ((Upd.refl [] w).alloc _)
  obtain ⟨oA, oW, oO, oB, osl, olow, oz, oreach, ocap⟩ := ok
  dsimp only at oA oW oO oB osl olow oz oreach ocap
  have hN : ∀ w : World, NoRow w none := fun _ => .inl rfl
  show Calls Try.prog _ #[_, _, .agg #[.int .i64 4, .int .i64 who, .int .i64 to, .int .i64 leave, .int .u64 A, .int .u64 W, .int .u64 O, .int .u64 B, .slice p zs.length cap]] _ _
  have c4 := hs.cell 4 rfl
  refine calls_all fun K hK => ?_
  go_enter Try.func53, Try.ntmps53
  go_wp2_with ((go_at_call 13; refine (num_any _ _).mono ?_; rintro e w' ⟨rfl, rfl⟩))
  refine (add_no (hN _) _ _).mono ?_
  rintro e w1 ⟨rfl, rfl⟩
  go_wp2_with ((go_at_call 13; refine (num_any _ _).mono ?_; rintro e w' ⟨rfl, rfl⟩))
  refine (radd_no _ _ _).mono ?_
  rintro e w1 ⟨rfl, rfl⟩
  go_wp2_with ((go_at_call 13; refine (num_any _ _).mono ?_; rintro e w' ⟨rfl, rfl⟩))
  all_goals first | exact ⟨rfl, u0⟩ | exact u0

theorem np_7 (s : StepV) (hk : s.kind = 7) (ok : s.Ok w []) : Calls Try.prog 53 #[.pointer none, .pointer none, .agg s.cells.toArray] w fun e w' => e = .returned (.bool true) ∧ Upd [] w w' := by
  obtain ⟨kind, who, to, leave, A, W, O, B, p, zs, cap⟩ := s
  obtain rfl : kind = 7 := hk
  have hs := (Blk.new w [.int .i64 7, .int .i64 who, .int .i64 to, .int .i64 leave, .int .u64 A, .int .u64 W, .int .u64 O, .int .u64 B, .slice p zs.length cap] 95)
  have u0 : Upd [] w (w.alloc (.cells #[.int .i64 7, .int .i64 who, .int .i64 to, .int .i64 leave, .int .u64 A, .int .u64 W, .int .u64 O, .int .u64 B, .slice p zs.length cap] 95)) := ((Upd.refl [] w).alloc _)
  obtain ⟨oA, oW, oO, oB, osl, olow, oz, oreach, ocap⟩ := ok
  dsimp only at oA oW oO oB osl olow oz oreach ocap
  have hN : ∀ w : World, NoRow w none := fun _ => .inl rfl
  show Calls Try.prog _ #[_, _, .agg #[.int .i64 7, .int .i64 who, .int .i64 to, .int .i64 leave, .int .u64 A, .int .u64 W, .int .u64 O, .int .u64 B, .slice p zs.length cap]] _ _
  have c3 := hs.cell 3 rfl
  refine calls_all fun K hK => ?_
  go_enter Try.func53, Try.ntmps53
  go_wp2_with ((go_at_call 13; refine (num_any _ _).mono ?_; rintro e w' ⟨rfl, rfl⟩))
  refine (goes_no _ leave).mono ?_
  rintro e w1 ⟨rfl, b1⟩
  go_wp2_with ((go_at_call 13; refine (num_any _ _).mono ?_; rintro e w' ⟨rfl, rfl⟩))
  all_goals first | exact ⟨rfl, u0.trans (Upd.of_below b1)⟩ | exact u0.trans (Upd.of_below b1)

theorem np_8 (s : StepV) (hk : s.kind = 8) (ok : s.Ok w []) : Calls Try.prog 53 #[.pointer none, .pointer none, .agg s.cells.toArray] w fun e w' => e = .returned (.bool true) ∧ Upd [] w w' := by
  obtain ⟨kind, who, to, leave, A, W, O, B, p, zs, cap⟩ := s
  obtain rfl : kind = 8 := hk
  have hs := (Blk.new w [.int .i64 8, .int .i64 who, .int .i64 to, .int .i64 leave, .int .u64 A, .int .u64 W, .int .u64 O, .int .u64 B, .slice p zs.length cap] 95)
  have u0 : Upd [] w (w.alloc (.cells #[.int .i64 8, .int .i64 who, .int .i64 to, .int .i64 leave, .int .u64 A, .int .u64 W, .int .u64 O, .int .u64 B, .slice p zs.length cap] 95)) := ((Upd.refl [] w).alloc _)
  obtain ⟨oA, oW, oO, oB, osl, olow, oz, oreach, ocap⟩ := ok
  dsimp only at oA oW oO oB osl olow oz oreach ocap
  have hN : ∀ w : World, NoRow w none := fun _ => .inl rfl
  show Calls Try.prog _ #[_, _, .agg #[.int .i64 8, .int .i64 who, .int .i64 to, .int .i64 leave, .int .u64 A, .int .u64 W, .int .u64 O, .int .u64 B, .slice p zs.length cap]] _ _
  have c4 := hs.cell 4 rfl
  refine calls_all fun K hK => ?_
  go_enter Try.func53, Try.ntmps53
  go_wp2_with ((go_at_call 13; refine (num_any _ _).mono ?_; rintro e w' ⟨rfl, rfl⟩))
  refine (tells_no _ A oA.1).mono ?_
  rintro e w1 ⟨rfl, u1⟩
  go_wp2_with ((go_at_call 13; refine (num_any _ _).mono ?_; rintro e w' ⟨rfl, rfl⟩))
  all_goals first | exact ⟨rfl, u0.trans u1⟩ | exact u0.trans u1


theorem np_5 (s : StepV) (hk : s.kind = 5) (ok : s.Ok w []) : Calls Try.prog 53 #[.pointer none, .pointer none, .agg s.cells.toArray] w fun e w' => e = .returned (.bool true) ∧ Upd [] w w' := by
  have u0 : Upd [] w (w.alloc (.cells s.cells.toArray 95)) := (Upd.refl [] w).alloc _
  have hpt := np_parts5 s hk (ok.upd u0 (by simp))
  obtain ⟨kind, who, to, leave, A, W, O, B, p, zs, cap⟩ := s
  have hs := Blk.new w [.int .i64 kind, .int .i64 who, .int .i64 to, .int .i64 leave, .int .u64 A, .int .u64 W, .int .u64 O, .int .u64 B, .slice p zs.length cap] 95
  have c0 := hs.cell 0 rfl
  have c1 := hs.cell 1 rfl
  have c2 := hs.cell 2 rfl
  have c3 := hs.cell 3 rfl
  have c4 := hs.cell 4 rfl
  have c5 := hs.cell 5 rfl
  have c6 := hs.cell 6 rfl
  have c7 := hs.cell 7 rfl
  have c8 := hs.cell 8 rfl
  show Calls Try.prog _ #[_, _, .agg #[.int .i64 kind, .int .i64 who, .int .i64 to, .int .i64 leave, .int .u64 A, .int .u64 W, .int .u64 O, .int .u64 B, .slice p zs.length cap]] _ _
  obtain rfl : kind = 5 := hk
  refine calls_all fun K hK => ?_
  go_enter Try.func53, Try.ntmps53
  go_wp2_with fail
  refine hpt.mono ?_
  rintro e w1 ⟨rfl, u1⟩
  go_wp2
  all_goals first | exact ⟨rfl, u0.trans u1⟩ | exact u0.trans u1

theorem np_6 (s : StepV) (hk : s.kind = 6) (ok : s.Ok w []) : Calls Try.prog 53 #[.pointer none, .pointer none, .agg s.cells.toArray] w fun e w' => e = .returned (.bool true) ∧ Upd [] w w' := by
  have u0 : Upd [] w (w.alloc (.cells s.cells.toArray 95)) := (Upd.refl [] w).alloc _
  have hpt := np_parts6 s hk (ok.upd u0 (by simp))
  obtain ⟨kind, who, to, leave, A, W, O, B, p, zs, cap⟩ := s
  have hs := Blk.new w [.int .i64 kind, .int .i64 who, .int .i64 to, .int .i64 leave, .int .u64 A, .int .u64 W, .int .u64 O, .int .u64 B, .slice p zs.length cap] 95
  have c0 := hs.cell 0 rfl
  have c1 := hs.cell 1 rfl
  have c2 := hs.cell 2 rfl
  have c3 := hs.cell 3 rfl
  have c4 := hs.cell 4 rfl
  have c5 := hs.cell 5 rfl
  have c6 := hs.cell 6 rfl
  have c7 := hs.cell 7 rfl
  have c8 := hs.cell 8 rfl
  show Calls Try.prog _ #[_, _, .agg #[.int .i64 kind, .int .i64 who, .int .i64 to, .int .i64 leave, .int .u64 A, .int .u64 W, .int .u64 O, .int .u64 B, .slice p zs.length cap]] _ _
  obtain rfl : kind = 6 := hk
  refine calls_all fun K hK => ?_
  go_enter Try.func53, Try.ntmps53
  go_wp2_with fail
  refine hpt.mono ?_
  rintro e w1 ⟨rfl, u1⟩
  go_wp2
  all_goals first | exact ⟨rfl, u0.trans u1⟩ | exact u0.trans u1

theorem np_0 (s : StepV) (hk : s.kind ≠ 1 ∧ s.kind ≠ 2 ∧ s.kind ≠ 3 ∧ s.kind ≠ 4 ∧ s.kind ≠ 5 ∧ s.kind ≠ 6 ∧ s.kind ≠ 7 ∧ s.kind ≠ 8) : Calls Try.prog 53 #[.pointer none, .pointer none, .agg s.cells.toArray] w fun e w' => e = .returned (.bool true) ∧ Upd [] w w' := by
  obtain ⟨kind, who, to, leave, A, W, O, B, p, zs, cap⟩ := s
  dsimp only at hk
  have k1 : (kind == 1) = false := by simp [hk.1]
  have k2 : (kind == 2) = false := by simp [hk.2.1]
  have k3 : (kind == 3) = false := by simp [hk.2.2.1]
  have k4 : (kind == 4) = false := by simp [hk.2.2.2.1]
  have k5 : (kind == 5) = false := by simp [hk.2.2.2.2.1]
  have k6 : (kind == 6) = false := by simp [hk.2.2.2.2.2.1]
  have k7 : (kind == 7) = false := by simp [hk.2.2.2.2.2.2.1]
  have k8 : (kind == 8) = false := by simp [hk.2.2.2.2.2.2.2]
  clear hk
  have u0 : Upd [] w (w.alloc (.cells #[.int .i64 kind, .int .i64 who, .int .i64 to, .int .i64 leave, .int .u64 A, .int .u64 W, .int .u64 O, .int .u64 B, .slice p zs.length cap] 95)) := (Upd.refl [] w).alloc _
  show Calls Try.prog _ #[_, _, .agg #[.int .i64 kind, .int .i64 who, .int .i64 to, .int .i64 leave, .int .u64 A, .int .u64 W, .int .u64 O, .int .u64 B, .slice p zs.length cap]] _ _
  refine calls_all fun K hK => ?_
  go_enter Try.func53, Try.ntmps53
  go_wp2_with ((go_at_call 13; refine (num_any _ _).mono ?_; rintro e w' ⟨rfl, rfl⟩))
  all_goals first | exact ⟨rfl, u0⟩ | exact u0

theorem np_any (s : StepV) (ok : s.Ok w []) : Calls Try.prog 53 #[.pointer none, .pointer none, .agg s.cells.toArray] w fun e w' => e = .returned (.bool true) ∧ Upd [] w w' := by
  by_cases h1 : s.kind = 1
  · exact np_1 s h1 ok
  by_cases h2 : s.kind = 2
  · exact np_2 s h2 ok
  by_cases h3 : s.kind = 3
  · exact np_3 s h3 ok
  by_cases h4 : s.kind = 4
  · exact np_4 s h4 ok
  by_cases h5 : s.kind = 5
  · exact np_5 s h5 ok
  by_cases h6 : s.kind = 6
  · exact np_6 s h6 ok
  by_cases h7 : s.kind = 7
  · exact np_7 s h7 ok
  by_cases h8 : s.kind = 8
  · exact np_8 s h8 ok
  exact np_0 s ⟨h1, h2, h3, h4, h5, h6, h7, h8⟩

end

/-- a number's remainder by 3 -/
def pl3 (n : Int) : Nat := (n % 3).toNat
theorem pl3_lt (n : Int) : pl3 n < 3 := by unfold pl3; omega

theorem place_any (n : Int) (w : World) (hn : -9223372036854775808 ≤ n ∧ n ≤ 9223372036854775807) : Calls Try.prog 50 #[.int .i64 n] w fun e w' => e = .returned (.int .i64 (pl3 n)) ∧ w = w' := by
  have h1 := Int.lt_tmod_of_pos n (b := 3) (by omega)
  have h2 := Int.tmod_lt_of_pos n (b := 3) (by omega)
  have ht : n = 3 * (n.tdiv 3) + n.tmod 3 := by have := Int.mul_tdiv_add_tmod n 3; omega
  by_cases h0 : n.tmod 3 < 0
  · have hd : decide (n.tmod 3 < 0) = true := by simpa using h0
    have hr : n.tmod 3 + 3 = (pl3 n : Int) := by unfold pl3; omega
    have HR := Lib.hid hr
    clear hr ht h0
    refine calls_all fun K hK => ?_
    go_enter Try.func50, Try.ntmps50
    go_wp2_with ((go_at_call 13; refine (num_any _ _).mono ?_; rintro e w' ⟨rfl, rfl⟩))
    all_goals first | (refine ⟨?_, rfl⟩; rw [HR.out]) | simp only [HR.out] | (simp only [HR.out]; exact ⟨rfl, rfl⟩)
  · have hd : decide (n.tmod 3 < 0) = false := by simpa using h0
    have hr : n.tmod 3 = (pl3 n : Int) := by unfold pl3; omega
    have HR := Lib.hid hr
    clear hr ht h0
    refine calls_all fun K hK => ?_
    go_enter Try.func50, Try.ntmps50
    go_wp2_with ((go_at_call 13; refine (num_any _ _).mono ?_; rintro e w' ⟨rfl, rfl⟩))
    all_goals first | (refine ⟨?_, rfl⟩; rw [HR.out]) | simp only [HR.out] | (simp only [HR.out]; exact ⟨rfl, rfl⟩)

end Go.Proofs.Ythjiiedpplimpaa
