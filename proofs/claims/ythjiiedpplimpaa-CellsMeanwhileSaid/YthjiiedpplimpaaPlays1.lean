/- A step on a row of the program's and on one of the document's: the answers are alike (plays). The conditions are sizes. -/
import Derived.Test.YthjiiedpplimpaaTells
import Derived.Test.YthjiiedpplimpaaGoes
import Derived.Deep.RegionHeld3
set_option linter.unusedSimpArgs false
set_option linter.unusedVariables false
set_option maxRecDepth 100000
namespace Go.Proofs.Ythjiiedpplimpaa
open Go.RowKit

/-- a row of the program's and one of the document's with the same words and the same count -/
structure Rw where
  a : Nat
  b : Nat
  ra : Nat
  rb : Nat
  ws : List Int
  acc : Int
def Rw.foot (x : Rw) : List Nat := [x.a, x.b, x.ra, x.rb]
structure Rw.At (w : World) (x : Rw) : Prop where
  row : RowAt w x.a x.b x.ws x.acc
  ref : RRow w x.ra x.rb x.ws x.acc
  allw : AllW x.ws
  apart : (x.a ≠ x.ra ∧ x.a ≠ x.rb) ∧ (x.b ≠ x.ra ∧ x.b ≠ x.rb)

theorem Rw.At.upd {S : List Nat} {w w' : World} {x : Rw} (h : x.At w) (u : Upd S w w') (hS : ∀ k ∈ x.foot, k ∉ S) : x.At w' :=
  ⟨h.row.upd u (hS _ (by simp [Rw.foot])) (hS _ (by simp [Rw.foot])), h.ref.upd u (hS _ (by simp [Rw.foot])) (hS _ (by simp [Rw.foot])), h.allw, h.apart⟩
theorem Rw.At.upd0 {w w' : World} {x : Rw} (h : x.At w) (u : Upd [] w w') : x.At w' := h.upd u (fun _ _ => by simp)
theorem Rw.At.lt {w : World} {x : Rw} (h : x.At w) {k : Nat} (hk : k ∈ x.foot) : k < w.heap.size := by
  simp only [Rw.foot, List.mem_cons, List.not_mem_nil, or_false] at hk
  rcases hk with rfl | rfl | rfl | rfl
  · exact h.row.lta
  · exact h.row.ltb
  · exact h.ref.lta
  · exact h.ref.ltb

theorem AllW.set {ws : List Int} (h : AllW ws) (i : Nat) {x : Int} (hx : 0 ≤ x ∧ x < 18446744073709551616) : AllW (ws.set i x) := fun v hv => by
  rcases List.mem_or_eq_of_mem_set hv with h1 | h1
  · exact h v h1
  · subst h1; exact hx
theorem AllW.fill {ws zs : List Int} (h : AllW ws) (k : AllW zs) (i : Nat) : AllW (fillAt ws i zs) := fun v hv => by
  unfold fillAt at hv
  rcases List.mem_append.1 hv with h1 | h1
  · exact h v (List.mem_of_mem_take h1)
  · rcases List.mem_append.1 h1 with h2 | h2
    · exact k v h2
    · exact h v (List.mem_of_mem_drop h2)
theorem addU_in (x y : Int) : 0 ≤ addU x y ∧ addU x y < 18446744073709551616 := by unfold addU; rw [IntKind.wrap_u64]; omega

/-- a step -/
structure StepV where
  kind : Int
  who : Int
  to : Int
  leave : Int
  A : Int
  W : Int
  O : Int
  B : Int
  p : Option Addr
  zs : List Int
  cap : Nat
def StepV.cells (s : StepV) : List Value := [.int .i64 s.kind, .int .i64 s.who, .int .i64 s.to, .int .i64 s.leave, .int .u64 s.A, .int .u64 s.W, .int .u64 s.O, .int .u64 s.B, .slice s.p s.zs.length s.cap]
structure StepV.Ok (w : World) (foot : List Nat) (s : StepV) : Prop where
  A : 0 ≤ s.A ∧ s.A < 18446744073709551616
  W : 0 ≤ s.W ∧ s.W < 18446744073709551616
  O : 0 ≤ s.O ∧ s.O < 18446744073709551616
  B : 0 ≤ s.B ∧ s.B < 18446744073709551616
  sl : SlI w .u64 s.p s.zs
  low : ∀ b o, s.p = some ⟨b, o, none⟩ → s.zs ≠ [] → b ∉ foot
  allz : AllW s.zs
  reach : s.zs.length * 8 ≤ 140737488351232
  cap : s.zs.length ≤ s.cap

/-- what a step leaves -/
def RpOut (w : World) (x : Rw) (e : Ending) (w' : World) : Prop := e = .returned (.bool true) ∧ ∃ x' : Rw, x'.foot = x.foot ∧ x'.At w' ∧ Upd x.foot w w'

section
variable {w : World} {x : Rw}


theorem rp_1 (s : StepV) (hk : s.kind = 1) (ok : s.Ok w x.foot) (h : x.At w) : Calls Try.prog 53 #[.pointer (some ⟨x.a, 0, none⟩), .pointer (some ⟨x.ra, 0, none⟩), .agg s.cells.toArray] w (RpOut w x) := by
  obtain ⟨kind, who, to, leave, A, W, O, B, p, zs, cap⟩ := s
  obtain rfl : kind = 1 := hk
  have hs := Blk.new w [.int .i64 1, .int .i64 who, .int .i64 to, .int .i64 leave, .int .u64 A, .int .u64 W, .int .u64 O, .int .u64 B, .slice p zs.length cap] 95
  have u0 : Upd [] w (w.alloc (.cells #[.int .i64 1, .int .i64 who, .int .i64 to, .int .i64 leave, .int .u64 A, .int .u64 W, .int .u64 O, .int .u64 B, .slice p zs.length cap] 95)) := (Upd.refl [] w).alloc _
  have hx := h.upd0 u0
  obtain ⟨⟨a1, a2⟩, ⟨a3, a4⟩⟩ := h.apart
  have la := h.row.lta
  have lb := h.row.ltb
  have lra := h.ref.lta
  have lrb := h.ref.ltb
  obtain ⟨oA, oW, oO, oB, osl, olow, oz, oreach, ocap⟩ := ok
  dsimp only at oA oW oO oB osl olow oz oreach ocap
  show Calls Try.prog _ #[_, _, .agg #[.int .i64 1, .int .i64 who, .int .i64 to, .int .i64 leave, .int .u64 A, .int .u64 W, .int .u64 O, .int .u64 B, .slice p zs.length cap]] _ _
  obtain ⟨q, hq⟩ : ∃ q, rLoad x.ws A = q := ⟨_, rfl⟩
  obtain ⟨v, e0⟩ := q
  have e1 : (v == v) = true := by simp
  have e2 : (e0 == e0) = true := by simp
  have k1 := load_any hx.row A oA.1
  rw [hq] at k1
  have HQ := Lib.hid hq
  clear hq
  refine calls_all fun K hK => ?_
  go_enter Try.func53, Try.ntmps53
  go_wp2_with ((go_at_call 13; refine (num_any _ _).mono ?_; rintro e w' ⟨rfl, rfl⟩))
  refine (k1).mono ?_
  rintro e w1 ⟨rfl, h1, u1⟩
  have r1 := hx.ref.upd u1 (by simp; omega) (by simp; omega)
  have c4 := (hs.upd u1 (by simp; omega)).cell 4 rfl
  have k2 := rload_any r1 A oA.1
  rw [HQ.out] at k2
  go_wp2_with ((go_at_call 13; refine (num_any _ _).mono ?_; rintro e w' ⟨rfl, rfl⟩))
  refine (k2).mono ?_
  rintro e w2 ⟨rfl, h2, u2⟩
  go_wp2_with ((go_at_call 13; refine (num_any _ _).mono ?_; rintro e w' ⟨rfl, rfl⟩))
  exact ⟨rfl, ⟨x.a, x.b, x.ra, x.rb, x.ws, up64 x.acc⟩, rfl, ⟨h1.upd u2 (by simp; omega) (by simp; omega), h2, h.allw, h.apart⟩, (u0.mono (by simp)).trans ((u1.mono (by simp [Rw.foot])).trans (u2.mono (by simp [Rw.foot])))⟩


theorem rp_2 (s : StepV) (hk : s.kind = 2) (ok : s.Ok w x.foot) (h : x.At w) : Calls Try.prog 53 #[.pointer (some ⟨x.a, 0, none⟩), .pointer (some ⟨x.ra, 0, none⟩), .agg s.cells.toArray] w (RpOut w x) := by
  obtain ⟨kind, who, to, leave, A, W, O, B, p, zs, cap⟩ := s
  obtain rfl : kind = 2 := hk
  have hs := (Blk.new w [.int .i64 2, .int .i64 who, .int .i64 to, .int .i64 leave, .int .u64 A, .int .u64 W, .int .u64 O, .int .u64 B, .slice p zs.length cap] 95).drew
  have u0 : Upd [] w (w.alloc (.cells #[.int .i64 2, .int .i64 who, .int .i64 to, .int .i64 leave, .int .u64 A, .int .u64 W, .int .u64 O, .int .u64 B, .slice p zs.length cap] 95)).drew := ((Upd.refl [] w).alloc _).drew
  have hx := h.upd0 u0
  obtain ⟨⟨a1, a2⟩, ⟨a3, a4⟩⟩ := h.apart
  have la := h.row.lta
  have lb := h.row.ltb
  have lra := h.ref.lta
  have lrb := h.ref.ltb
  obtain ⟨oA, oW, oO, oB, osl, olow, oz, oreach, ocap⟩ := ok
  dsimp only at oA oW oO oB osl olow oz oreach ocap
  show Calls Try.prog _ #[_, _, .agg #[.int .i64 2, .int .i64 who, .int .i64 to, .int .i64 leave, .int .u64 A, .int .u64 W, .int .u64 O, .int .u64 B, .slice p zs.length cap]] _ _
  obtain ⟨e0, hq⟩ : ∃ q, (rLoad x.ws A).2 = q := ⟨_, rfl⟩
  have e2 : (e0 == e0) = true := by simp
  have k1 := store_any hx.row A W oA.1
  rw [hq] at k1
  have HQ := Lib.hid hq
  clear hq
  have b4 := hs.cell 4 rfl
  have b5 := hs.cell 5 rfl
  refine calls_all fun K hK => ?_
  go_enter Try.func53, Try.ntmps53
  go_wp2_with fail
  go_region_held3 (fun w' => w'.cell? ⟨w.heap.size, 4, none⟩ = some (.int .u64 A) ∧ w'.cell? ⟨w.heap.size, 5, none⟩ = some (.int .u64 W)) (first | exact ⟨b4, b5⟩ | exact ⟨c4, c5⟩ | exact ⟨d4, d5⟩) (first | (go_at_call 31; refine (k1).mono ?_; rintro e w1 ⟨rfl, h1, u1⟩; have r1 := hx.ref.upd u1 (by simp; omega) (by simp; omega); have hs1 := hs.upd u1 (by simp; omega); have c4 := hs1.cell 4 rfl; have c5 := hs1.cell 5 rfl; have k2 := rstore_any r1 A W oA.1; rw [HQ.out] at k2) | (go_at_call 13; refine (num_any _ _).mono ?_; rintro e w' ⟨rfl, rfl⟩) | (go_at_call 32; refine (k2).mono ?_; rintro e w2 ⟨rfl, h2, u2⟩; have hs2 := hs1.upd u2 (by simp; omega); have d4 := hs2.cell 4 rfl; have d5 := hs2.cell 5 rfl))
  go_wp2_with ((go_at_call 13; refine (num_any _ _).mono ?_; rintro e w' ⟨rfl, rfl⟩))
  exact ⟨rfl, ⟨x.a, x.b, x.ra, x.rb, x.ws.set A.toNat W, up64 x.acc⟩, rfl, ⟨h1.upd u2 (by simp; omega) (by simp; omega), h2, h.allw.set _ oW, h.apart⟩, (u0.mono (by simp)).trans ((u1.mono (by simp [Rw.foot])).trans (u2.mono (by simp [Rw.foot])))⟩

theorem rp_3 (s : StepV) (hk : s.kind = 3) (ok : s.Ok w x.foot) (h : x.At w) : Calls Try.prog 53 #[.pointer (some ⟨x.a, 0, none⟩), .pointer (some ⟨x.ra, 0, none⟩), .agg s.cells.toArray] w (RpOut w x) := by
  obtain ⟨kind, who, to, leave, A, W, O, B, p, zs, cap⟩ := s
  obtain rfl : kind = 3 := hk
  have hs := Blk.new w [.int .i64 3, .int .i64 who, .int .i64 to, .int .i64 leave, .int .u64 A, .int .u64 W, .int .u64 O, .int .u64 B, .slice p zs.length cap] 95
  have u0 : Upd [] w (w.alloc (.cells #[.int .i64 3, .int .i64 who, .int .i64 to, .int .i64 leave, .int .u64 A, .int .u64 W, .int .u64 O, .int .u64 B, .slice p zs.length cap] 95)) := (Upd.refl [] w).alloc _
  have hx := h.upd0 u0
  obtain ⟨⟨a1, a2⟩, ⟨a3, a4⟩⟩ := h.apart
  have la := h.row.lta
  have lb := h.row.ltb
  have lra := h.ref.lta
  have lrb := h.ref.ltb
  obtain ⟨oA, oW, oO, oB, osl, olow, oz, oreach, ocap⟩ := ok
  dsimp only at oA oW oO oB osl olow oz oreach ocap
  show Calls Try.prog _ #[_, _, .agg #[.int .i64 3, .int .i64 who, .int .i64 to, .int .i64 leave, .int .u64 A, .int .u64 W, .int .u64 O, .int .u64 B, .slice p zs.length cap]] _ _
  obtain ⟨e0, hq⟩ : ∃ q, (rLoad x.ws A).2 = q := ⟨_, rfl⟩
  obtain ⟨hit, hh⟩ : ∃ q, rHit x.ws A O = q := ⟨_, rfl⟩
  have e1 : (hit == hit) = true := by simp
  have e2 : (e0 == e0) = true := by simp
  have k1 := swap_any hx.row A O W oA.1
  rw [hq, hh] at k1
  have HQ := Lib.hid hq
  have HH := Lib.hid hh
  clear hq hh
  obtain ⟨ws2, hw2⟩ : ∃ ws2, (if hit = true then x.ws.set A.toNat W else x.ws) = ws2 := ⟨_, rfl⟩
  have hall : AllW ws2 := by rw [← hw2]; split; exact h.allw.set _ oW; exact h.allw
  rw [hw2] at k1
  have HW := Lib.hid hw2
  clear hw2
  refine calls_all fun K hK => ?_
  go_enter Try.func53, Try.ntmps53
  go_wp2_with ((go_at_call 13; refine (num_any _ _).mono ?_; rintro e w' ⟨rfl, rfl⟩))
  refine (k1).mono ?_
  rintro e w1 ⟨rfl, h1, u1⟩
  have r1 := hx.ref.upd u1 (by simp; omega) (by simp; omega)
  have hs1 := hs.upd u1 (by simp; omega)
  have c4 := hs1.cell 4 rfl
  have c5 := hs1.cell 5 rfl
  have c6 := hs1.cell 6 rfl
  have k2 := rswap_any r1 A O W oA.1
  rw [HQ.out, HH.out, HW.out] at k2
  go_wp2_with ((go_at_call 13; refine (num_any _ _).mono ?_; rintro e w' ⟨rfl, rfl⟩))
  refine (k2).mono ?_
  rintro e w2 ⟨rfl, h2, u2⟩
  go_wp2_with ((go_at_call 13; refine (num_any _ _).mono ?_; rintro e w' ⟨rfl, rfl⟩))
  exact ⟨rfl, ⟨x.a, x.b, x.ra, x.rb, ws2, up64 x.acc⟩, rfl, ⟨h1.upd u2 (by simp; omega) (by simp; omega), h2, hall, h.apart⟩, (u0.mono (by simp)).trans ((u1.mono (by simp [Rw.foot])).trans (u2.mono (by simp [Rw.foot])))⟩

theorem rp_4 (s : StepV) (hk : s.kind = 4) (ok : s.Ok w x.foot) (h : x.At w) : Calls Try.prog 53 #[.pointer (some ⟨x.a, 0, none⟩), .pointer (some ⟨x.ra, 0, none⟩), .agg s.cells.toArray] w (RpOut w x) := by
  obtain ⟨kind, who, to, leave, A, W, O, B, p, zs, cap⟩ := s
  obtain rfl : kind = 4 := hk
  have hs := Blk.new w [.int .i64 4, .int .i64 who, .int .i64 to, .int .i64 leave, .int .u64 A, .int .u64 W, .int .u64 O, .int .u64 B, .slice p zs.length cap] 95
  have u0 : Upd [] w (w.alloc (.cells #[.int .i64 4, .int .i64 who, .int .i64 to, .int .i64 leave, .int .u64 A, .int .u64 W, .int .u64 O, .int .u64 B, .slice p zs.length cap] 95)) := (Upd.refl [] w).alloc _
  have hx := h.upd0 u0
  obtain ⟨⟨a1, a2⟩, ⟨a3, a4⟩⟩ := h.apart
  have la := h.row.lta
  have lb := h.row.ltb
  have lra := h.ref.lta
  have lrb := h.ref.ltb
  obtain ⟨oA, oW, oO, oB, osl, olow, oz, oreach, ocap⟩ := ok
  dsimp only at oA oW oO oB osl olow oz oreach ocap
  show Calls Try.prog _ #[_, _, .agg #[.int .i64 4, .int .i64 who, .int .i64 to, .int .i64 leave, .int .u64 A, .int .u64 W, .int .u64 O, .int .u64 B, .slice p zs.length cap]] _ _
  obtain ⟨q, hq⟩ : ∃ q, rLoad x.ws A = q := ⟨_, rfl⟩
  obtain ⟨v, e0⟩ := q
  have e1 : (v == v) = true := by simp
  have e2 : (e0 == e0) = true := by simp
  have k1 := add_any hx.row A W oA.1 h.allw oW
  rw [hq] at k1
  have HQ := Lib.hid hq
  clear hq
  refine calls_all fun K hK => ?_
  go_enter Try.func53, Try.ntmps53
  go_wp2_with ((go_at_call 13; refine (num_any _ _).mono ?_; rintro e w' ⟨rfl, rfl⟩))
  refine (k1).mono ?_
  rintro e w1 ⟨rfl, h1, u1⟩
  have r1 := hx.ref.upd u1 (by simp; omega) (by simp; omega)
  have hs1 := hs.upd u1 (by simp; omega)
  have c4 := hs1.cell 4 rfl
  have c5 := hs1.cell 5 rfl
  have k2 := radd_any r1 A W oA.1
  rw [HQ.out] at k2
  go_wp2_with ((go_at_call 13; refine (num_any _ _).mono ?_; rintro e w' ⟨rfl, rfl⟩))
  refine (k2).mono ?_
  rintro e w2 ⟨rfl, h2, u2⟩
  go_wp2_with ((go_at_call 13; refine (num_any _ _).mono ?_; rintro e w' ⟨rfl, rfl⟩))
  exact ⟨rfl, ⟨x.a, x.b, x.ra, x.rb, x.ws.set A.toNat (addU (wd x.ws A.toNat) W), up64 x.acc⟩, rfl, ⟨h1.upd u2 (by simp; omega) (by simp; omega), h2, h.allw.set _ (addU_in _ _), h.apart⟩, (u0.mono (by simp)).trans ((u1.mono (by simp [Rw.foot])).trans (u2.mono (by simp [Rw.foot])))⟩

theorem rp_7 (s : StepV) (hk : s.kind = 7) (ok : s.Ok w x.foot) (h : x.At w) : Calls Try.prog 53 #[.pointer (some ⟨x.a, 0, none⟩), .pointer (some ⟨x.ra, 0, none⟩), .agg s.cells.toArray] w (RpOut w x) := by
  obtain ⟨kind, who, to, leave, A, W, O, B, p, zs, cap⟩ := s
  obtain rfl : kind = 7 := hk
  have hs := Blk.new w [.int .i64 7, .int .i64 who, .int .i64 to, .int .i64 leave, .int .u64 A, .int .u64 W, .int .u64 O, .int .u64 B, .slice p zs.length cap] 95
  have u0 : Upd [] w (w.alloc (.cells #[.int .i64 7, .int .i64 who, .int .i64 to, .int .i64 leave, .int .u64 A, .int .u64 W, .int .u64 O, .int .u64 B, .slice p zs.length cap] 95)) := (Upd.refl [] w).alloc _
  have hx := h.upd0 u0
  obtain ⟨⟨a1, a2⟩, ⟨a3, a4⟩⟩ := h.apart
  have la := h.row.lta
  have lb := h.row.ltb
  have lra := h.ref.lta
  have lrb := h.ref.ltb
  obtain ⟨oA, oW, oO, oB, osl, olow, oz, oreach, ocap⟩ := ok
  dsimp only at oA oW oO oB osl olow oz oreach ocap
  show Calls Try.prog _ #[_, _, .agg #[.int .i64 7, .int .i64 who, .int .i64 to, .int .i64 leave, .int .u64 A, .int .u64 W, .int .u64 O, .int .u64 B, .slice p zs.length cap]] _ _
  have c3 := hs.cell 3 rfl
  refine calls_all fun K hK => ?_
  go_enter Try.func53, Try.ntmps53
  go_wp2_with ((go_at_call 13; refine (num_any _ _).mono ?_; rintro e w' ⟨rfl, rfl⟩))
  refine (goes_row leave hx.row hx.ref).mono ?_
  rintro e w1 ⟨rfl, b1⟩
  go_wp2_with ((go_at_call 13; refine (num_any _ _).mono ?_; rintro e w' ⟨rfl, rfl⟩))
  exact ⟨rfl, x, rfl, hx.upd0 (Upd.of_below b1), (u0.trans (Upd.of_below b1)).mono (by simp)⟩

theorem rp_8 (s : StepV) (hk : s.kind = 8) (ok : s.Ok w x.foot) (h : x.At w) : Calls Try.prog 53 #[.pointer (some ⟨x.a, 0, none⟩), .pointer (some ⟨x.ra, 0, none⟩), .agg s.cells.toArray] w (RpOut w x) := by
  obtain ⟨kind, who, to, leave, A, W, O, B, p, zs, cap⟩ := s
  obtain rfl : kind = 8 := hk
  have hs := Blk.new w [.int .i64 8, .int .i64 who, .int .i64 to, .int .i64 leave, .int .u64 A, .int .u64 W, .int .u64 O, .int .u64 B, .slice p zs.length cap] 95
  have u0 : Upd [] w (w.alloc (.cells #[.int .i64 8, .int .i64 who, .int .i64 to, .int .i64 leave, .int .u64 A, .int .u64 W, .int .u64 O, .int .u64 B, .slice p zs.length cap] 95)) := (Upd.refl [] w).alloc _
  have hx := h.upd0 u0
  obtain ⟨⟨a1, a2⟩, ⟨a3, a4⟩⟩ := h.apart
  have la := h.row.lta
  have lb := h.row.ltb
  have lra := h.ref.lta
  have lrb := h.ref.ltb
  obtain ⟨oA, oW, oO, oB, osl, olow, oz, oreach, ocap⟩ := ok
  dsimp only at oA oW oO oB osl olow oz oreach ocap
  show Calls Try.prog _ #[_, _, .agg #[.int .i64 8, .int .i64 who, .int .i64 to, .int .i64 leave, .int .u64 A, .int .u64 W, .int .u64 O, .int .u64 B, .slice p zs.length cap]] _ _
  have c4 := hs.cell 4 rfl
  refine calls_all fun K hK => ?_
  go_enter Try.func53, Try.ntmps53
  go_wp2_with ((go_at_call 13; refine (num_any _ _).mono ?_; rintro e w' ⟨rfl, rfl⟩))
  refine (tells_row hx.row hx.ref h.allw A).mono ?_
  rintro e w1 ⟨rfl, u1⟩
  go_wp2_with ((go_at_call 13; refine (num_any _ _).mono ?_; rintro e w' ⟨rfl, rfl⟩))
  exact ⟨rfl, x, rfl, hx.upd0 u1, (u0.trans u1).mono (by simp)⟩

theorem rp_0 (s : StepV) (hk : s.kind ≠ 1 ∧ s.kind ≠ 2 ∧ s.kind ≠ 3 ∧ s.kind ≠ 4 ∧ s.kind ≠ 5 ∧ s.kind ≠ 6 ∧ s.kind ≠ 7 ∧ s.kind ≠ 8) (h : x.At w) : Calls Try.prog 53 #[.pointer (some ⟨x.a, 0, none⟩), .pointer (some ⟨x.ra, 0, none⟩), .agg s.cells.toArray] w (RpOut w x) := by
  obtain ⟨kind, who, to, leave, A, W, O, B, p, zs, cap⟩ := s
  dsimp only at hk
  have k1 : (kind == 1) = false := by simp [hk.1]
  have k2 : (kind == 2) = false := by simp [hk.2.1]
  have k3 : (kind == 3) = false := by simp [hk.2.2.1]
  have k4 : (kind == 4) = false := by simp [hk.2.2.2.1]
  have k5 : (kind == 5) = false := by simp [hk.2.2.2.2.1]
  have k6 : (kind == 6) = false := by simp [hk.2.2.2.2.2.1]
  have k7 : (kind == 7) = false := by simp [hk.2.2.2.2.2.2.1]
  have k8 : (kind == 8) = false := by simp [hk.2.2.2.2.2.2.2]
  clear hk
  have u0 : Upd [] w (w.alloc (.cells #[.int .i64 kind, .int .i64 who, .int .i64 to, .int .i64 leave, .int .u64 A, .int .u64 W, .int .u64 O, .int .u64 B, .slice p zs.length cap] 95)) := (Upd.refl [] w).alloc _
  show Calls Try.prog _ #[_, _, .agg #[.int .i64 kind, .int .i64 who, .int .i64 to, .int .i64 leave, .int .u64 A, .int .u64 W, .int .u64 O, .int .u64 B, .slice p zs.length cap]] _ _
  refine calls_all fun K hK => ?_
  go_enter Try.func53, Try.ntmps53
  go_wp2_with ((go_at_call 13; refine (num_any _ _).mono ?_; rintro e w' ⟨rfl, rfl⟩))
  exact ⟨rfl, x, rfl, h.upd0 u0, u0.mono (by simp)⟩

end

end Go.Proofs.Ythjiiedpplimpaa
