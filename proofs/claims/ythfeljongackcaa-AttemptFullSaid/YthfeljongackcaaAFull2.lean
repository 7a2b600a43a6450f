/- AttemptFull's walk. No condition. -/
import Derived.Test.YthfeljongackcaaAFull
set_option linter.unusedSimpArgs false
set_option linter.unusedVariables false
set_option maxRecDepth 100000
namespace Go.Proofs.Ythfeljongackcaa
open Go.RowKit
def att2 (a : Nat) (s : AS) (F : List Nat) (b : Nat) (t : AS) (G : List Nat) : Nat → Option One := fun i => if i = 0 then some (a, s, F) else if i = 1 then some (b, t, G) else none
theorem att2_0 {a b : Nat} {s s' t : AS} {F F' G : List Nat} : ∀ j, j ≠ 0 → att2 a s F b t G j = att2 a s' F' b t G j := fun j h => by unfold att2; rw [if_neg h, if_neg h]
theorem att2_1 {a b : Nat} {s t t' : AS} {F G G' : List Nat} : ∀ j, j ≠ 1 → att2 a s F b t G j = att2 a s F b t' G' j := fun j h => by unfold att2; by_cases h0 : j = 0 <;> simp [h0, h]
set_option maxHeartbeats 4000000 in
theorem attemptFull_walk (w : World) : Calls Try.prog 3 #[] w fun e w' => e = .returned (.bool true) ∧ Upd [] w w' := by
  have hck : shF.clock = 0 := rfl
  refine calls_all fun K hK => ?_
  go_enter Try.func3, Try.ntmps3
  go_wp2_with fail
  refine (new_row 2000 w (by omega) (by omega)).mono ?_
  rintro e w1 ⟨ra, rb, rfl, hR, hra, hrb, u1⟩
  go_wp2_with fail
  refine (clkNew w1).mono ?_
  rintro e w2 ⟨ca, cr, cb, rfl, hC, h1, h2, h3, u2⟩
  have hX : XAt w2 ⟨ra, rb, ca, cr, cb⟩ shF := XAt.made hR hC u2 h1 h2 h3 wideF
  have hs1 := u1.size
  have hX0 : ∀ g ∈ SX.foot ⟨ra, rb, ca, cr, cb⟩, w.heap.size ≤ g := by simp [SX.foot]; omega
  have U2 := u1.trans u2
  clear hR hC u2 h1 h2 h3 hra hrb hs1 u1
  generalize hXe : (⟨ra, rb, ca, cr, cb⟩ : SX) = X at hX hX0
  obtain rfl : ra = X.ra := by rw [← hXe]
  obtain rfl : ca = X.ca := by rw [← hXe]
  clear hXe
  have M : Hid (Many w X shF (fun _ => none) w2) := Lib.hid ⟨hX, (fun i a s F h => by cases h), (fun i j a s F b t G _ h => by cases h), (fun i a s F h => by cases h), hX0, U2⟩
  clear hX hX0 U2
  go_wp2_with fail
  refine (num07 _ _).mono ?_
  rintro e w' ⟨rfl, rfl⟩
  go_wp2_with fail
  refine (begin_x M.out.x rfl).mono ?_
  rintro e w3 ⟨a, F, rfl, hL, u3, ha, hF⟩
  simp only [Trn.val, hck] at hL ⊢
  replace M := Lib.hid ((M.out.set (att' := fun i => if i = 0 then some (a, fresh 0, F) else none) 0 hL u3 (fun g hg => by rcases List.mem_cons.1 hg with rfl | k; exact ha; exact hF g k) rfl (fun j hj => if_neg hj)).free0 ((Upd.refl [] _).alloc (.cells #[.int .i64 6, .int .u64 0, .int .i64 0, .int .i64 1, .int .u64 0, .int .u64 0, .bool false, .int .i64 0] 36)))
  clear hL u3 ha hF
  go_wp2_with fail
  generalize w3.alloc (.cells #[.int .i64 6, .int .u64 0, .int .i64 0, .int .i64 1, .int .u64 0, .int .u64 0, .bool false, .int .i64 0] 36) = w4 at M ⊢
  refine (begin_x M.out.x rfl).mono ?_
  rintro e w5 ⟨b, G, rfl, hL, u3, ha, hF⟩
  simp only [Trn.val, hck] at hL ⊢
  replace M := Lib.hid ((M.out.set (att' := att2 a (fresh 0) F b (fresh 0) G) 1 hL u3 (fun g hg => by rcases List.mem_cons.1 hg with rfl | k; exact ha; exact hF g k) rfl (fun j hj => by unfold att2; by_cases h0 : j = 0 <;> simp [h0, hj])).free0 ((Upd.refl [] _).alloc (.cells #[.int .i64 6, .int .u64 0, .int .i64 0, .int .i64 1, .int .u64 0, .int .u64 0, .bool false, .int .i64 0] 36)))
  clear hL u3 ha hF
  go_wp2_with fail
  generalize w5.alloc (.cells #[.int .i64 6, .int .u64 0, .int .i64 0, .int .i64 1, .int .u64 0, .int .u64 0, .bool false, .int .i64 0] 36) = w6 at M ⊢
  go_loopw [10] (fun v10 wr => ∃ (k : Nat) (F : List Nat), k ≤ 1024 ∧ v10 = .int .i64 k ∧ Many w X shF (att2 a (rk k) F b (fresh 0) G) wr) (fun v10 _ => 1024 - (intOf v10).toNat)
  case atStart => exact ⟨0, F, by omega, rfl, M.out⟩
  case round =>
    clear M F
    obtain ⟨k, F, hk, rfl, hM⟩ := hrel
    have M := Lib.hid hM
    clear hM
    by_cases hlt : k < 1024
    · have hlt' : (k : Int) < 1024 := by omega
      go_wp2_with fail
      have hcall := (get_x (M.out.hL 0 a (rk k) F rfl) (fm1 k hk) 7 (by omega))
      rw [fe1 k hlt] at hcall
      refine hcall.mono ?_
      clear hcall
      rintro e W2 ⟨rfl, F2, hL2, u2, hF2⟩
      simp only [Trn.val, going, evNone, trnNone]
      replace M := Lib.hid (M.out.next (att' := att2 a (rm k) F2 b (fresh 0) G) 0 rfl hL2 u2 hF2 rfl att2_0)
      clear hL2 u2 hF2
      go_wp2_with fail
      have hcall := (step_x (M.out.hL 0 a (rm k) F2 rfl) (fm2 k hlt))
      rw [fe2 k] at hcall
      refine hcall.mono ?_
      clear hcall
      rintro e W2 ⟨rfl, F2, hL2, u2, hF2⟩
      simp only [Trn.val, going, evNone, trnNone]
      replace M := Lib.hid (M.out.next (att' := att2 a (rk (k + 1)) F2 b (fresh 0) G) 0 rfl hL2 u2 hF2 rfl att2_0)
      clear hL2 u2 hF2
      go_wp2_with fail
      replace M := Lib.hid (M.out.free0 ((Upd.refl [] _).alloc (.cells #[.int .i64 2, .int .u64 0, .int .i64 0, .int .i64 2, .int .u64 7, .int .u64 0, .bool false, .int .i64 0] 36)))
      refine (num07 _ _).mono ?_
      rintro e w' ⟨rfl, rfl⟩
      go_wp2_with fail
      go_roundw
      case rel => exact ⟨k + 1, _, by omega, by go_num, M.out⟩
      case measure => simp [intOf]; omega
    · obtain rfl : k = 1024 := by omega
      go_wp2_with fail
      have hcall := (get_x (M.out.hL 0 a (rk 1024) F rfl) (fm1 1024 (by omega)) 7 (by omega))
      rw [fe3] at hcall
      refine hcall.mono ?_
      clear hcall
      rintro e W2 ⟨rfl, F2, hL2, u2, hF2⟩
      simp only [Trn.val, going, evNone, trnNone]
      replace M := Lib.hid (M.out.next (att' := att2 a (rk 1024) F2 b (fresh 0) G) 0 rfl hL2 u2 hF2 rfl att2_0)
      clear hL2 u2 hF2
      go_wp2_with fail
      replace M := Lib.hid (M.out.free0 ((Upd.refl [] _).alloc (.cells #[.int .i64 0, .int .u64 0, .int .i64 0, .int .i64 0, .int .u64 0, .int .u64 0, .bool false, .int .i64 0] 36)))
      generalize W2.alloc (.cells #[.int .i64 0, .int .u64 0, .int .i64 0, .int .i64 0, .int .u64 0, .int .u64 0, .bool false, .int .i64 0] 36) = W3 at M ⊢
      go_loopw [15] (fun v15 wr => ∃ (k : Nat) (G : List Nat), k ≤ 1024 ∧ v15 = .int .i64 k ∧ Many w X shF (att2 a (rk 1024) F2 b (wk k) G) wr) (fun v15 _ => 1024 - (intOf v15).toNat)
      case atStart => exact ⟨0, G, by omega, rfl, M.out⟩
      case round =>
        clear M
        obtain ⟨k, G, hk, rfl, hM⟩ := hrel
        have M := Lib.hid hM
        clear hM
        by_cases hlt : k < 1024
        · have hlt' : (k : Int) < 1024 := by omega
          have hku : IntKind.u64.wrap (k : Int) = k := by rw [IntKind.wrap_u64]; omega
          go_wp2_with fail
          have hcall := (put_x (M.out.hL 1 b (wk k) G rfl) (fm3 k hk) k 1 (by omega) (by omega))
          rw [fe4 k hlt] at hcall
          refine hcall.mono ?_
          clear hcall
          rintro e W2 ⟨rfl, G2, hL2, u2, hF2⟩
          simp only [Trn.val, going, evNone, trnNone]
          replace M := Lib.hid (M.out.next (att' := att2 a (rk 1024) F2 b (wk (k + 1)) G2) 1 rfl hL2 u2 hF2 rfl att2_1)
          clear hL2 u2 hF2
          go_wp2_with fail
          replace M := Lib.hid (M.out.free0 ((Upd.refl [] _).alloc (.cells #[.int .i64 3, .int .u64 0, .int .i64 0, .int .i64 3, .int .u64 k, .int .u64 1, .bool false, .int .i64 0] 36)))
          refine (num07 _ _).mono ?_
          rintro e w' ⟨rfl, rfl⟩
          go_wp2_with fail
          go_roundw
          case rel => ((repeat apply Exists.intro); exact ⟨⟨k + 1, _, by omega, by go_num, M.out⟩, rfl⟩)
          case measure => simp [intOf]; omega
        · obtain rfl : k = 1024 := by omega
          go_wp2_with fail
          have hcall := (put_x (M.out.hL 1 b (wk 1024) G rfl) (fm3 1024 (by omega)) 1024 1 (by omega) (by omega))
          rw [fe5] at hcall
          refine hcall.mono ?_
          clear hcall
          rintro e W2 ⟨rfl, G2, hL2, u2, hF2⟩
          simp only [Trn.val, going, evNone, trnNone]
          replace M := Lib.hid (M.out.next (att' := att2 a (rk 1024) F2 b (wk 1024) G2) 1 rfl hL2 u2 hF2 rfl att2_1)
          clear hL2 u2 hF2
          go_wp2_with fail
          replace M := Lib.hid (M.out.free0 ((Upd.refl [] _).alloc (.cells #[.int .i64 0, .int .u64 0, .int .i64 0, .int .i64 0, .int .u64 0, .int .u64 0, .bool false, .int .i64 0] 36)))
          generalize W2.alloc (.cells #[.int .i64 0, .int .u64 0, .int .i64 0, .int .i64 0, .int .u64 0, .int .u64 0, .bool false, .int .i64 0] 36) = W4 at M ⊢
          have hcall := (put_x (M.out.hL 1 b (wk 1024) G2 rfl) (fm3 1024 (by omega)) 0 2 (by omega) (by omega))
          rw [fe6] at hcall
          refine hcall.mono ?_
          clear hcall
          rintro e W2 ⟨rfl, G2, hL2, u2, hF2⟩
          simp only [Trn.val, going, evNone, trnNone]
          replace M := Lib.hid (M.out.next (att' := att2 a (rk 1024) F2 b wz G2) 1 rfl hL2 u2 hF2 rfl att2_1)
          clear hL2 u2 hF2
          go_wp2_with fail
          replace M := Lib.hid (M.out.free0 ((Upd.refl [] _).alloc (.cells #[.int .i64 3, .int .u64 0, .int .i64 0, .int .i64 3, .int .u64 0, .int .u64 2, .bool false, .int .i64 0] 36)))
          generalize W2.alloc (.cells #[.int .i64 3, .int .u64 0, .int .i64 0, .int .i64 3, .int .u64 0, .int .u64 2, .bool false, .int .i64 0] 36) = W5 at M ⊢
          have hcall := (get_x (M.out.hL 1 b wz G2 rfl) fm4 0 (by omega))
          rw [fe7] at hcall
          refine hcall.mono ?_
          clear hcall
          rintro e W2 ⟨rfl, G2, hL2, u2, hF2⟩
          simp only [Trn.val, going, evNone, trnNone]
          replace M := Lib.hid (M.out.next (att' := att2 a (rk 1024) F2 b wz G2) 1 rfl hL2 u2 hF2 rfl att2_1)
          clear hL2 u2 hF2
          go_wp2_with fail
          have TB : Blk (W2.alloc (.cells #[.int .i64 2, .int .u64 2, .int .i64 0, .int .i64 2, .int .u64 0, .int .u64 2, .bool true, .int .i64 0] 36)) W2.heap.size (⟨2, 2, ⟨2, 0, 2, true⟩⟩ : Trn).cells 36 := Blk.new W2 _ _
          have htb : W2.heap.size ∉ own X b G2 := fun h => Nat.lt_irrefl _ ((M.out.hL 1 b wz G2 rfl).lt _ h)
          replace M := Lib.hid (M.out.free0 ((Upd.refl [] _).alloc (.cells #[.int .i64 2, .int .u64 2, .int .i64 0, .int .i64 2, .int .u64 0, .int .u64 2, .bool true, .int .i64 0] 36)))
          generalize W2.alloc (.cells #[.int .i64 2, .int .u64 2, .int .i64 0, .int .i64 2, .int .u64 0, .int .u64 2, .bool true, .int .i64 0] 36) = W6 at M TB ⊢
          have hcall := put_x (M.out.hL 1 b wz G2 rfl) fm4 2000 1 (by omega) (by omega)
          rw [fe8] at hcall
          refine hcall.mono ?_
          clear hcall
          rintro e W7 ⟨rfl, G3, hL2, u2, hF2⟩
          simp only [Trn.val, going, evNone, trnNone]
          replace TB := TB.upd u2 htb
          replace M := Lib.hid (M.out.next (att' := att2 a (rk 1024) F2 b wz G3) 1 rfl hL2 u2 hF2 rfl att2_1)
          clear hL2 u2 hF2 htb
          go_wp2_with fail
          replace TB := TB.alloc (.cells #[.int .i64 0, .int .u64 0, .int .i64 0, .int .i64 0, .int .u64 0, .int .u64 0, .bool false, .int .i64 0] 36)
          replace M := Lib.hid (M.out.free0 ((Upd.refl [] _).alloc (.cells #[.int .i64 0, .int .u64 0, .int .i64 0, .int .i64 0, .int .u64 0, .int .u64 0, .bool false, .int .i64 0] 36)))
          generalize W7.alloc (.cells #[.int .i64 0, .int .u64 0, .int .i64 0, .int .i64 0, .int .u64 0, .int .u64 0, .bool false, .int .i64 0] 36) = W8 at M TB ⊢
          have q1 := TB.cell 1 rfl
          refine (num07 _ _).mono ?_
          rintro e w' ⟨rfl, rfl⟩
          go_wp2_with fail
          refine (num07 _ _).mono ?_
          rintro e w' ⟨rfl, rfl⟩
          go_wp2_with fail
          refine (num07 _ _).mono ?_
          rintro e w' ⟨rfl, rfl⟩
          go_wp2_with fail
          refine (num07 _ _).mono ?_
          rintro e w' ⟨rfl, rfl⟩
          go_wp2_with fail
          refine (num07 _ _).mono ?_
          rintro e w' ⟨rfl, rfl⟩
          go_wp2_with fail
          refine (phase_x (M.out.hL 0 a (rk 1024) F2 rfl)).mono ?_
          rintro e w' ⟨rfl, rfl⟩
          go_wp2_with fail
          refine (known07_walk W8).mono ?_
          rintro e w9 ⟨rfl, u9⟩
          go_wp2_with fail
          all_goals exact ⟨rfl, M.out.U.trans u9⟩
end Go.Proofs.Ythfeljongackcaa
