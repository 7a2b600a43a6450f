/- AttemptAlone: got: a get's answer, and the steps it takes. The conditions: an attempt alone, its logs short. -/
import Derived.Test.YthfeljongackcaaAAlone2
set_option linter.unusedSimpArgs false
set_option linter.unusedVariables false
set_option maxRecDepth 100000
namespace Go.Proofs.Ythfeljongackcaa
open Go.RowKit
open Go.Maps
theorem nowL_cell {w : World} {g : Nat} {ws : List Int} {L : List (Int × Int)} {sp : List Value} {t : TypeId} (h : Blk w g ((nowL ws L).map (Value.int .u64) ++ sp) t) (i : Nat) (hi : i < ws.length) : w.cell? ⟨g, i, none⟩ = some (.int .u64 (nowAt ws L i)) :=
  h.cell i (by rw [List.getElem?_append_left (by simpa [nowL] using hi)]; simp [nowL, hi])
theorem wroteL_cell {w : World} {g : Nat} {ws : List Int} {L : List (Int × Int)} {sp : List Value} {t : TypeId} (h : Blk w g ((wroteL ws L).map Value.bool ++ sp) t) (i : Nat) (hi : i < ws.length) : w.cell? ⟨g, i, none⟩ = some (.bool (place L (i : Int)).isSome) :=
  h.cell i (by rw [List.getElem?_append_left (by simpa [wroteL] using hi)]; simp [wroteL, hi])

/-- what got leaves -/
def Gotten (W : World) (X : SX) (ws : List Int) (a : Nat) (R L : List (Int × Int)) (F : List Nat) (e : Ending) (W' : World) : Prop :=
  e = .returned (.bool true) ∧ ∃ R' F', R'.length ≤ R.length + 1 ∧ May (al R' L) ∧ LX W' X (sh0 ws) a (al R' L) F' ∧ Upd (own X a F) W W' ∧ ∀ g ∈ F', g ∈ F ∨ W.heap.size ≤ g
theorem Gotten.of {W W' : World} {X : SX} {ws : List Int} {a : Nat} {R R' L : List (Int × Int)} {F F' : List Nat} {tb : Nat} {T : Trn} (h : Sg (own X a F) W tb T X (sh0 ws) a (al R' L) F' W') (hR : R'.length ≤ R.length + 1) (hM : May (al R' L)) (hF : ∀ g ∈ F', g ∈ F ∨ W.heap.size ≤ g) : Gotten W X ws a R L F (.returned (.bool true)) W' :=
  ⟨rfl, R', F', hR, hM, h.hL, h.U, hF⟩
theorem upd_drewN {S : List Nat} {a b : World} (h : Upd S a b) (n : Nat) : Upd S a (b.drewN n) := h.trans ⟨rfl, rfl, rfl, Nat.le_refl _, fun _ _ _ => rfl⟩
theorem Gotten.drewN {W W' : World} {X : SX} {ws : List Int} {a : Nat} {R L : List (Int × Int)} {F : List Nat} {e : Ending} (h : Gotten W X ws a R L F e W') (n : Nat) : Gotten W X ws a R L F e (W'.drewN n) := by
  obtain ⟨he, R', F', hR, hM, hL, u, hF⟩ := h
  exact ⟨he, R', F', hR, hM, hL.upd0 (upd_drewN (Upd.refl [] _) n), upd_drewN u n, hF⟩
set_option maxHeartbeats 4000000 in
theorem got_walk {W : World} {X : SX} {ws : List Int} {a : Nat} {R L : List (Int × Int)} {F : List Nat} (h : LX W X (sh0 ws) a (al R L) F) (hM : May (al R L)) (hR : R.length < 1024) (hin : ∀ c ∈ L, 0 ≤ c.1 ∧ c.1 < ws.length) (hn : ws.length ≤ 65536)
    (x : Int) (hx : 0 ≤ x ∧ x < 18446744073709551616) (n1 c1 n2 c2 : Nat) (sp1 sp2 : List Value) (B1 : Blk W n1 ((nowL ws L).map (Value.int .u64) ++ sp1) 31) (B2 : Blk W n2 ((wroteL ws L).map Value.bool ++ sp2) 4) (hn1 : n1 ∉ own X a F) (hn2 : n2 ∉ own X a F) :
    Calls Try.prog 20 #[.pointer (some ⟨a, 0, none⟩), .int .u64 x, .slice (some ⟨n1, 0, none⟩) ws.length c1, .slice (some ⟨n2, 0, none⟩) ws.length c2] W (Gotten W X ws a R L F) := by
  have HL := Lib.hid h
  have HM := Lib.hid hM
  have HB1 := Lib.hid B1
  have HB2 := Lib.hid B2
  have HIN := Lib.hid hin
  clear h hM B1 B2 hin
  obtain ⟨i, rfl⟩ : ∃ i : Nat, x = i := ⟨x.toNat, by omega⟩
  by_cases hlt : i < ws.length
  · have hlt' : (i : Int) < (ws.length : Int) := by omega
    have hlu : IntKind.u64.wrap (ws.length : Int) = ws.length := by rw [IntKind.wrap_u64]; omega
    have hge : decide ((ws.length : Int) ≤ (i : Int)) = false := by simp; omega
    cases hp : place L (i : Int) with
    | some k =>
      obtain ⟨hk, u, hku⟩ := place_some hp
      have he := al_get_own (ws := ws) (R := R) hp hku
      have hno := nowAt_own (ws := ws) hp hku
      have HE := Lib.hid he
      have HP := Lib.hid hp
      have HN := Lib.hid hno
      clear hp hk hku he hno
      have huu : (u == u) = true := by simp
      refine calls_all fun K hK => ?_
      go_enter Try.func20, Try.ntmps20
      go_wp2_with fail
      have hcall := get_x HL.out HM.out (i : Int) (by omega)
      rw [HE.out] at hcall
      refine hcall.mono ?_
      clear hcall
      rintro e W2 ⟨rfl, F2, hL2, u2, hF2⟩
      simp only [Trn.val] at hL2 ⊢
      have S : Sg (own X a F) W W2.heap.size ⟨2, u, ⟨2, i, u, true⟩⟩ X (sh0 ws) a (al R L) F2 (W2.alloc (.cells #[.int .i64 2, .int .u64 u, .int .i64 0, .int .i64 2, .int .u64 i, .int .u64 u, .bool true, .int .i64 0] 36)) :=
        Sg.first hL2 u2 (fun g hg => (hF2 g hg).imp (fun k => by simp [own, k]) id) (by simp [own]) (fun g hg => by simp [own, hg]) ⟨2, u, ⟨2, i, u, true⟩⟩
      have G := Lib.hid (Gotten.of S (Nat.le_succ _) HM.out hF2)
      have C1 := nowL_cell (HB1.out.upd S.U hn1) i hlt
      have C2 := wroteL_cell (HB2.out.upd S.U hn2) i hlt
      rw [HN.out] at C1
      rw [HP.out] at C2
      simp only [Option.isSome_some] at C2
      go_wp2_with fail
      clear HE hL2 u2 hF2
      have q0 := (S.blk).cell 0 rfl
      have q1 := (S.blk).cell 1 rfl
      have q2 := (S.blk).cell 2 rfl
      have q3 := (S.blk).cell 3 rfl
      have q4 := (S.blk).cell 4 rfl
      have q5 := (S.blk).cell 5 rfl
      have q6 := (S.blk).cell 6 rfl
      have q7 := (S.blk).cell 7 rfl
      have g0 := (S.blk).free 0
      have g1 := (S.blk).free 1
      have g2 := (S.blk).free 2
      have g3 := (S.blk).free 3
      have g4 := (S.blk).free 4
      have g5 := (S.blk).free 5
      have g6 := (S.blk).free 6
      have g7 := (S.blk).free 7
      generalize W2.alloc (.cells #[.int .i64 2, .int .u64 u, .int .i64 0, .int .i64 2, .int .u64 i, .int .u64 u, .bool true, .int .i64 0] 36) = W3 at S G C1 C2 q0 q1 q2 q3 q4 q5 q6 q7 ⊢
      refine (num07 _ _).mono ?_
      rintro e w' ⟨rfl, rfl⟩
      go_wp2_with fail
      go_quiet ((go_at_call 12; exact Calls.quiet_of_same ((num07 _ _).mono fun _ _ h => ⟨h.1, h.2.symm⟩)))
      go_wp2_with fail
      all_goals exact G.out.drewN _
    | none =>
      have hno := nowAt_not (ws := ws) hp
      have hxi : (i : Int).toNat = i := by omega
      have he := al_get (ws := ws) (R := R) hp hlt' hR
      rw [hxi] at he
      have he2 := al_look (ws := ws) (R := R) (L := L) (x := (i : Int)) (v := wd ws i)
      have hM2 : May (am R L i (wd ws i)) := by have := may_get (sh := sh0 ws) HM.out (i : Int); rw [he] at this; exact this
      have hM3 : May (al (R ++ [((i : Int), wd ws i)]) L) := by have := may_step (sh := sh0 ws) hM2 (.inl rfl); rw [he2] at this; exact this
      have HE := Lib.hid he
      have HE2 := Lib.hid he2
      have HP := Lib.hid hp
      have HN := Lib.hid hno
      have HM2 := Lib.hid hM2
      have HM3 := Lib.hid hM3
      clear hp he he2 hno hM2 hM3 hxi
      obtain ⟨u, hu⟩ : ∃ u, u = wd ws i := ⟨_, rfl⟩
      rw [← hu] at HE HE2 HN HM2 HM3
      clear hu
      have huu : (u == u) = true := by simp
      refine calls_all fun K hK => ?_
      go_enter Try.func20, Try.ntmps20
      go_wp2_with fail
      have hcall := get_x HL.out HM.out (i : Int) (by omega)
      rw [HE.out] at hcall
      refine hcall.mono ?_
      clear hcall
      rintro e W2 ⟨rfl, F2, hL2, u2, hF2⟩
      simp only [Trn.val, going, evNone] at hL2 ⊢
      have S : Sg (own X a F) W W2.heap.size ⟨1, 0, ⟨0, 0, 0, false⟩⟩ X (sh0 ws) a (am R L i u) F2 (W2.alloc (.cells #[.int .i64 1, .int .u64 0, .int .i64 0, .int .i64 0, .int .u64 0, .int .u64 0, .bool false, .int .i64 0] 36)) :=
        Sg.first hL2 u2 (fun g hg => (hF2 g hg).imp (fun k => by simp [own, k]) id) (by simp [own]) (fun g hg => by simp [own, hg]) ⟨1, 0, ⟨0, 0, 0, false⟩⟩
      have C2 := wroteL_cell (HB2.out.upd S.U hn2) i hlt
      rw [HP.out] at C2
      simp only [Option.isSome_none] at C2
      have hz2 := Lib.hid u2.size
      go_wp2_with fail
      clear HE hL2 u2
      generalize hW3 : W2.alloc (.cells #[.int .i64 1, .int .u64 0, .int .i64 0, .int .i64 0, .int .u64 0, .int .u64 0, .bool false, .int .i64 0] 36) = W3 at S C2 ⊢
      have hz3 : W2.heap.size ≤ W3.heap.size := by rw [← hW3, World.size_alloc]; omega
      clear hW3
      have q0 := S.blk.cell 0 rfl
      refine (num07 _ _).mono ?_
      rintro e w' ⟨rfl, rfl⟩
      go_wp2_with fail
      clear q0 C2
      have hcall := step_x S.hL HM2.out
      rw [HE2.out] at hcall
      refine hcall.mono ?_
      clear hcall
      rintro e W4 ⟨rfl, F4, hL4, u4, hF4⟩
      simp only [Trn.val] at hL4 ⊢
      replace S := S.next hL4 u4 hF4
      have hF : ∀ g ∈ F4, g ∈ F ∨ W.heap.size ≤ g := fun g hg => by
        have := hz2.out
        rcases hF4 g hg with k | k
        · exact hF2 g k
        · right; omega
      clear hL4 u4 hF4 hz3 hz2 hF2
      have q0 := (S.blk).cell 0 rfl
      have q1 := (S.blk).cell 1 rfl
      have q2 := (S.blk).cell 2 rfl
      have q3 := (S.blk).cell 3 rfl
      have q4 := (S.blk).cell 4 rfl
      have q5 := (S.blk).cell 5 rfl
      have q6 := (S.blk).cell 6 rfl
      have q7 := (S.blk).cell 7 rfl
      have g0 := (S.blk).free 0
      have g1 := (S.blk).free 1
      have g2 := (S.blk).free 2
      have g3 := (S.blk).free 3
      have g4 := (S.blk).free 4
      have g5 := (S.blk).free 5
      have g6 := (S.blk).free 6
      have g7 := (S.blk).free 7
      go_wp2_with fail
      obtain ⟨w5, h5, S5⟩ := S.turn' (⟨2, u, ⟨2, i, u, false⟩⟩ : Trn)
      dsimp only at h5
      rw [← h5]
      clear q0 q1 q2 q3 q4 q5 q6 q7 g0 g1 g2 g3 g4 g5 g6 g7 h5
      clear S
      have S := S5
      clear S5
      have G := Lib.hid (Gotten.of (R := R) (R' := R ++ [((i : Int), u)]) S (by simp) HM3.out hF)
      have C1 := nowL_cell (HB1.out.upd S.U hn1) i hlt
      have C2 := wroteL_cell (HB2.out.upd S.U hn2) i hlt
      rw [HN.out] at C1
      rw [HP.out] at C2
      simp only [Option.isSome_none] at C2
      have q0 := (S.blk).cell 0 rfl
      have q1 := (S.blk).cell 1 rfl
      have q2 := (S.blk).cell 2 rfl
      have q3 := (S.blk).cell 3 rfl
      have q4 := (S.blk).cell 4 rfl
      have q5 := (S.blk).cell 5 rfl
      have q6 := (S.blk).cell 6 rfl
      have q7 := (S.blk).cell 7 rfl
      have g0 := (S.blk).free 0
      have g1 := (S.blk).free 1
      have g2 := (S.blk).free 2
      have g3 := (S.blk).free 3
      have g4 := (S.blk).free 4
      have g5 := (S.blk).free 5
      have g6 := (S.blk).free 6
      have g7 := (S.blk).free 7
      go_quiet ((go_at_call 12; exact Calls.quiet_of_same ((num07 _ _).mono fun _ _ h => ⟨h.1, h.2.symm⟩)))
      go_wp2_with fail
      all_goals exact G.out.drewN _
  · have hge : decide ((ws.length : Int) ≤ (i : Int)) = true := by simp; omega
    have hlu : IntKind.u64.wrap (ws.length : Int) = ws.length := by rw [IntKind.wrap_u64]; omega
    have hp : place L (i : Int) = none := by
      cases hp : place L (i : Int) with
      | none => rfl
      | some k =>
        obtain ⟨hk, u, hku⟩ := place_some hp
        have := (HIN.out _ (List.mem_of_getElem? hku)).2
        simp at this
        omega
    have HE := Lib.hid (al_get_out (ws := ws) (R := R) hp (by omega))
    clear hp
    refine calls_all fun K hK => ?_
    go_enter Try.func20, Try.ntmps20
    go_wp2_with fail
    have hcall := get_x HL.out HM.out (i : Int) (by omega)
    rw [HE.out] at hcall
    refine hcall.mono ?_
    clear hcall
    rintro e W2 ⟨rfl, F2, hL2, u2, hF2⟩
    simp only [Trn.val, trnNone, evNone] at hL2 ⊢
    have S : Sg (own X a F) W W2.heap.size ⟨0, 0, ⟨0, 0, 0, false⟩⟩ X (sh0 ws) a (al R L) F2 (W2.alloc (.cells #[.int .i64 0, .int .u64 0, .int .i64 0, .int .i64 0, .int .u64 0, .int .u64 0, .bool false, .int .i64 0] 36)) :=
      Sg.first hL2 u2 (fun g hg => (hF2 g hg).imp (fun k => by simp [own, k]) id) (by simp [own]) (fun g hg => by simp [own, hg]) ⟨0, 0, ⟨0, 0, 0, false⟩⟩
    have G := Lib.hid (Gotten.of S (Nat.le_succ _) HM.out hF2)
    clear S hL2 u2 hF2
    go_wp2_with fail
    refine (num07 _ _).mono ?_
    rintro e w' ⟨rfl, rfl⟩
    go_wp2_with fail
    all_goals exact G.out
end Go.Proofs.Ythfeljongackcaa
