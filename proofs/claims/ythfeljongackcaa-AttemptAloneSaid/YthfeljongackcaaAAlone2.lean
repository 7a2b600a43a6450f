/- AttemptAlone: what got and committed see. The conditions: an attempt alone, its log short. -/
import Derived.Test.YthfeljongackcaaAAlone1
import Derived.Test.YthfeljongackcaaCellsW
import Derived.Deep.QuietTactic
import Derived.BigQuiet
set_option linter.unusedSimpArgs false
set_option linter.unusedVariables false
set_option maxRecDepth 100000
namespace Go.Proofs.Ythfeljongackcaa
open Go.RowKit
open Go.Maps
/-- one attempt, one turn's block; what is written is among O, or new since w0 -/
structure Sg (O : List Nat) (w0 : World) (tb : Nat) (T : Trn) (X : SX) (sh : Sh) (a : Nat) (s : AS) (F : List Nat) (W : World) : Prop where
  hL : LX W X sh a s F
  out : ∀ g ∈ own X a F, g ∈ O ∨ w0.heap.size ≤ g
  blk : Blk W tb T.cells 36
  ntb : tb ∉ own X a F
  tb0 : w0.heap.size ≤ tb
  U : Upd O w0 W
theorem own_next {X : SX} {a : Nat} {F F' : List Nat} {n : Nat} (hF : ∀ g ∈ F', g ∈ F ∨ n ≤ g) : ∀ g ∈ own X a F', g ∈ own X a F ∨ n ≤ g := fun g hg => by
  simp only [own, List.mem_cons, List.mem_append] at hg ⊢
  rcases hg with k | k | k
  · exact .inl (.inl k)
  · exact (hF g k).imp (fun k => .inr (.inl k)) id
  · exact .inl (.inr (.inr k))
section
variable {O : List Nat} {w0 W W' : World} {tb : Nat} {T : Trn} {X : SX} {sh sh' : Sh} {a : Nat} {s s' : AS} {F F' : List Nat}
theorem Sg.next (h : Sg O w0 tb T X sh a s F W) (hL : LX W' X sh' a s' F') (u : Upd (own X a F) W W') (hF : ∀ g ∈ F', g ∈ F ∨ W.heap.size ≤ g) : Sg O w0 tb T X sh' a s' F' W' := by
  have hs := h.U.size
  have ht := h.blk.lt
  have ho := own_next (X := X) (a := a) hF
  refine ⟨hL, fun g hg => ?_, h.blk.upd u h.ntb, fun hg => ?_, h.tb0, h.U.tr u (fun x hx => .inl hx) (fun x hx => h.out x hx)⟩
  · rcases ho g hg with k | k
    · exact h.out g k
    · right; omega
  · rcases ho _ hg with k | k
    · exact h.ntb k
    · omega
theorem Sg.shared (h : Sg O w0 tb T X sh a s F W) (hL : XAt W' X sh') (u : Upd X.foot W W') : Sg O w0 tb T X sh' a s F W' := by
  obtain ⟨acc, st, hX⟩ := hL
  obtain ⟨_, _, rv, wv, mv, k⟩ := h.hL
  have k2 := k.att.upd u k.out (fun g hg => (k.sep g hg).2.1)
  have hu : Upd (own X a F) W W' := u.mono (by simp [own]; exact fun x h => .inl (.inr (.inr h)))
  exact h.next ⟨acc, st, rv, wv, mv, k2, hX, fun g hg => ⟨Nat.lt_of_lt_of_le (k.sep g hg).1 u.size, (k.sep g hg).2⟩, k.wide⟩ hu (fun g hg => .inl hg)
theorem Sg.turn' (h : Sg O w0 tb T X sh a s F W) (T' : Trn) :
    ∃ W', W' = (((((((W.setCell ⟨tb, 0, none⟩ (.int .i64 T'.out)).setCell ⟨tb, 1, none⟩ (.int .u64 T'.word)).setCell ⟨tb, 2, none⟩ (.int .i64 0)).setCell ⟨tb, 3, none⟩ (.int .i64 T'.ev.kind)).setCell ⟨tb, 4, none⟩ (.int .u64 T'.ev.addr)).setCell ⟨tb, 5, none⟩ (.int .u64 T'.ev.word)).setCell ⟨tb, 6, none⟩ (.bool T'.ev.own)).setCell ⟨tb, 7, none⟩ (.int .i64 0) ∧ Sg O w0 tb T' X sh a s F W' :=
  ⟨_, rfl, h.hL.updb (at8 _ _ _ _ _ _ _ _) h.ntb, h.out, turn_set h.blk rfl T', h.ntb, h.tb0, (((((((h.U.setCell (.inr h.tb0) _).setCell (.inr h.tb0) _).setCell (.inr h.tb0) _).setCell (.inr h.tb0) _).setCell (.inr h.tb0) _).setCell (.inr h.tb0) _).setCell (.inr h.tb0) _).setCell (.inr h.tb0) _⟩
theorem Sg.first (hL : LX W X sh a s F) (u : Upd O w0 W) (hF : ∀ g ∈ F, g ∈ O ∨ w0.heap.size ≤ g) (ha : a ∈ O) (hX : ∀ g ∈ X.foot, g ∈ O) (T : Trn) : Sg O w0 W.heap.size T X sh a s F (W.alloc (.cells T.cells.toArray 36)) := by
  have ho : ∀ g ∈ own X a F, g ∈ O ∨ w0.heap.size ≤ g := fun g hg => by
    simp only [own, List.mem_cons, List.mem_append] at hg
    rcases hg with rfl | k | k
    · exact .inl ha
    · exact hF g k
    · exact .inl (hX g k)
  exact ⟨hL.upd0 ((Upd.refl [] _).alloc _), ho, Blk.new W _ _, fun h => Nat.lt_irrefl _ (hL.lt _ h), u.size, u.alloc _⟩
end

/-- alike words -/
theorem same_ints (w : World) (p q : Option Addr) (zs : List Int) (c d : Nat) (hx : SlI w .u64 p zs) (hy : SlI w .u64 q zs) (hn : zs.length ≤ 4611686018427387904) :
    Calls Try.prog 51 #[.slice p zs.length c, .slice q zs.length d] w fun e w' => e = .returned (.bool true) ∧ Upd [] w w' := by
  have HC := Lib.hid hx
  have HC' := Lib.hid hy
  clear hx hy
  refine calls_all fun K hK => ?_
  go_enter Try.func51, Try.ntmps51
  go_wp2_with fail
  go_loopw [5] (fun v5 wr => ∃ k : Nat, k ≤ zs.length ∧ v5 = .int .i64 k ∧ Upd [] w wr) (fun v5 _ => zs.length - (intOf v5).toNat)
  case atStart => exact ⟨0, by omega, rfl, Upd.refl _ _⟩
  case round =>
    obtain ⟨k, hk, rfl, hu⟩ := hrel
    have HU := Lib.hid hu
    clear hu
    by_cases hlt : k < zs.length
    · have hlt' : (k : Int) < (zs.length : Int) := by omega
      have hz : zs ≠ [] := fun e => by subst e; simp at hlt
      obtain ⟨b, o, rfl⟩ := HC.out.ne hz
      obtain ⟨b', o', rfl⟩ := HC'.out.ne hz
      have c0 := HC.out.cells b o rfl k hlt
      have d0 := HC'.out.cells b' o' rfl k hlt
      have hcell : ∀ (b' o' : Nat) (v : Value), w.cell? ⟨b', o', none⟩ = some v → wr.cell? ⟨b', o', none⟩ = some v := fun b' o' v h => (World.cell?_of_block (w := w) (HU.out.block b' (World.block_lt_of_cell? w _ h) (by simp))).trans h
      replace c0 := hcell _ _ _ c0
      replace d0 := hcell _ _ _ d0
      clear hcell hz
      have hxx : (wd zs k != wd zs k) = false := by simp
      go_wp2_with fail
      refine wp_region_eff (fun w' => w'.cell? ⟨b, o + k, none⟩ = some (.int .u64 (wd zs k)) ∧ w'.cell? ⟨b', o' + k, none⟩ = some (.int .u64 (wd zs k))) 9 (by kernel_rfl) (by kernel_rfl) ⟨c0, d0⟩ ?_
      repeat
        refine wpE_take (v := ?_) (by decide) rfl (by rfl) ?_ ?_
        rotate_left 1
        · ((intro w hSw; (try dsimp only at hSw); go_simp); try with_reducible rfl)
        try simp only [Act.put, List.setIfInBounds_toArray, List.set_cons_zero, List.set_cons_succ]
      refine wpE_end (NoPanic.normal ?_)
      have HU2 := Lib.hid HU.out.drew
      clear c0 d0
      generalize wr.drew = wr2 at HU2 ⊢
      go_wp2_with fail
      go_roundw
      case rel => exact ⟨k + 1, by omega, by go_num, HU2.out⟩
      case measure => simp [intOf]; omega
    · obtain rfl : k = zs.length := by omega
      go_wp2_with fail
      all_goals exact ⟨rfl, HU.out⟩
end Go.Proofs.Ythfeljongackcaa
