/- AttemptAlone, plainly: an attempt alone, what it reads and writes. No program in sight. The condition: fewer than 1024 entries. AttemptAlone: what got and committed see. The conditions: an attempt alone, its log short. The law's alike: what is shared is the same on both sides, and the attempt's state. No condition. The law's begins: an attempt takes a place on both sides. No condition. A region that draws its order, with effects, where two effects may come up one ahead of the other (an allocation and a call): the walk branches there; what only looks is taken in the order of a list, that is only a hint. No condition. -/
import Derived.Test.YthfeljongackcaaM7p10
import Derived.Test.YthfeljongackcaaM7p01
import Derived.Deep.QuietTactic
import Derived.BigQuiet
import Derived.Test.YthfeljongackcaaM7p30
import Derived.Test.YthfeljongackcaaM7p17
set_option linter.unusedSimpArgs false
set_option linter.unusedVariables false
set_option maxRecDepth 100000
namespace Go.Proofs.Ythfeljongackcaa
open Go.RowKit
/-- between two calls, alone: the reads, the writes -/
def al (R L : List (Int × Int)) : AS := ⟨0, R, L, 1, 0, 0, 0, 0, 0⟩
/-- a word is being read -/
def am (R L : List (Int × Int)) (x v : Int) : AS := ⟨0, R, L, 3, 0, x, v, 0, 0⟩
def sh0 (ws : List Int) : Sh := ⟨ws, 0⟩
section
variable {ws : List Int} {R L : List (Int × Int)} {x v : Int}
theorem al_put_out (hx : ¬ x < ws.length) : putS (al R L) (sh0 ws) x v = (trnNone, 4, al R L) := by
  unfold putS
  rw [if_neg (by simp [al]), if_pos (by simpa [sh0] using hx)]
theorem al_put_old {k : Nat} (hx : x < ws.length) (hp : place L x = some k) : putS (al R L) (sh0 ws) x v = (⟨3, 0, ⟨3, x, v, false⟩⟩, 0, al R (L.set k (x, v))) := by
  unfold putS
  rw [if_neg (by simp [al]), if_neg (by simpa [sh0] using hx)]
  have : place (al R L).writes x = some k := hp
  rw [this]
  rfl
theorem al_put_new (hx : x < ws.length) (hp : place L x = none) (hl : L.length < 1024) : putS (al R L) (sh0 ws) x v = (⟨3, 0, ⟨3, x, v, false⟩⟩, 0, al R (L ++ [(x, v)])) := by
  unfold putS
  rw [if_neg (by simp [al]), if_neg (by simpa [sh0] using hx)]
  have : place (al R L).writes x = none := hp
  rw [this]
  simp only
  rw [if_pos (by exact hl)]
  rfl
theorem al_get_own {k : Nat} {u : Int} (hp : place L x = some k) (hk : L[k]? = some (x, u)) : getS (al R L) (sh0 ws) x = (⟨2, u, ⟨2, x, u, true⟩⟩, 0, al R L) := by
  unfold getS
  rw [if_neg (by simp [al])]
  have : place (al R L).writes x = some k := hp
  rw [this]
  have hg : (L.getD k (0, 0)).2 = u := by simp [List.getD, hk]
  show (_, _, _) = _
  rw [show (al R L).writes = L from rfl, hg]
theorem al_get_out (hp : place L x = none) (hx : ¬ x < ws.length) : getS (al R L) (sh0 ws) x = (trnNone, 4, al R L) := by
  unfold getS
  rw [if_neg (by simp [al])]
  have : place (al R L).writes x = none := hp
  rw [this]
  simp only
  rw [if_pos (by simpa [sh0] using hx)]
theorem al_get (hp : place L x = none) (hx : x < ws.length) (hr : R.length < 1024) : getS (al R L) (sh0 ws) x = (going, 0, am R L x (wd ws x.toNat)) := by
  unfold getS
  rw [if_neg (by simp [al])]
  have : place (al R L).writes x = none := hp
  rw [this]
  simp only
  rw [if_neg (by simpa [sh0] using hx), if_neg (by show ¬ 1024 ≤ R.length; omega)]
  have h : loadW (sh0 ws).row x = wd ws x.toNat := by
    unfold loadW
    exact if_pos hx
  show (going, 0, ({ al R L with addr := x, word := loadW (sh0 ws).row x, phase := 3 } : AS)) = _
  rw [h]
  rfl
theorem al_look : stepS (am R L x v) (sh0 ws) = (⟨2, v, ⟨2, x, v, false⟩⟩, 0, al (R ++ [(x, v)]) L, sh0 ws) := by
  unfold stepS
  rw [if_neg (by simp [am]), if_pos (by simp [am])]
  unfold lookS
  rw [if_pos (by simp [am, sh0])]
  rfl

/-- the word that stands there now, as the law keeps it -/
def nowL (ws : List Int) (L : List (Int × Int)) : List Int := (List.range ws.length).map (nowAt ws L)
/-- what was written, as the law keeps it -/
def wroteL (ws : List Int) (L : List (Int × Int)) : List Bool := (List.range ws.length).map fun (i : Nat) => (place L (i : Int)).isSome
theorem nowL_len : (nowL ws L).length = ws.length := by simp [nowL]
theorem wroteL_len : (wroteL ws L).length = ws.length := by simp [wroteL]
theorem nowL_nil : nowL ws [] = ws := by
  apply List.ext_getElem (by simp [nowL])
  intro i h1 h2
  simp only [nowL, List.getElem_map, List.getElem_range]
  show wd ws i = _
  rw [wd_get h2]
theorem wroteL_nil : wroteL ws [] = List.replicate ws.length false := by
  apply List.ext_getElem (by simp [wroteL])
  intro i h1 h2
  simp [wroteL, place]
theorem nowAt_own {i k : Nat} {u : Int} (hp : place L (i : Int) = some k) (hk : L[k]? = some ((i : Int), u)) : nowAt ws L i = u := by
  unfold nowAt
  rw [hp]
  simp [List.getD, hk]
theorem nowAt_not {i : Nat} (hp : place L (i : Int) = none) : nowAt ws L i = wd ws i := by
  unfold nowAt
  rw [hp]
theorem nowL_put {i : Nat} {L' : List (Int × Int)} (hi : i < ws.length) (h : ∀ j : Nat, j < ws.length → nowAt ws L' j = if (i : Int) = (j : Int) then v else nowAt ws L j) : nowL ws L' = (nowL ws L).set i v := by
  apply List.ext_getElem (by simp [nowL])
  intro j h1 h2
  have hj : j < ws.length := by simpa [nowL] using h1
  rw [List.getElem_set]
  simp only [nowL, List.getElem_map, List.getElem_range]
  rw [h j hj]
  by_cases e : i = j
  · subst e; simp
  · rw [if_neg (by omega), if_neg e]
theorem wroteL_put {i : Nat} {L' : List (Int × Int)} (hi : i < ws.length) (h : ∀ j : Nat, (place L' (j : Int)).isSome = if i = j then true else (place L (j : Int)).isSome) : wroteL ws L' = (wroteL ws L).set i true := by
  apply List.ext_getElem (by simp [wroteL])
  intro j h1 h2
  rw [List.getElem_set]
  simp only [wroteL, List.getElem_map, List.getElem_range]
  rw [h j]
/-- a put at an address: what the lists are then -/
theorem put_lists {i : Nat} (hi : i < ws.length) (hl : L.length < 1024) (L' : List (Int × Int)) (T : Trn) (he : putS (al R L) (sh0 ws) (i : Int) v = (T, 0, al R L')) :
    nowL ws L' = (nowL ws L).set i v ∧ wroteL ws L' = (wroteL ws L).set i true ∧ L'.length = (if (place L (i : Int)).isSome then L.length else L.length + 1) ∧ ∀ c ∈ L', c ∈ L ∨ c = ((i : Int), v) := by
  have hn := fun (j : Nat) => now_put ws (al R L) (sh0 ws) (i : Int) v (by simpa [sh0] using hi) (by omega) rfl hl j
  rw [he] at hn
  refine ⟨nowL_put hi fun j _ => hn j, ?_⟩
  have hil : (i : Int) < ws.length := by omega
  cases hp : place L (i : Int) with
  | some k =>
    rw [al_put_old hil hp] at he
    have hL : L.set k ((i : Int), v) = L' := by
      have := congrArg (fun z : Trn × Int × AS => z.2.2.writes) he
      exact this
    subst hL
    refine ⟨wroteL_put hi fun j => ?_, by simp, fun c hc => ?_⟩
    · rw [place_set hp]
      by_cases e : i = j
      · subst e; rw [hp]; simp
      · simp [e]
    · exact List.mem_or_eq_of_mem_set hc
  | none =>
    rw [al_put_new hil hp hl] at he
    have hL : L ++ [((i : Int), v)] = L' := by
      have := congrArg (fun z : Trn × Int × AS => z.2.2.writes) he
      exact this
    subst hL
    refine ⟨wroteL_put hi fun j => ?_, by simp, fun c hc => by simpa using hc⟩
    rw [place_snoc]
    by_cases e : i = j
    · subst e; rw [hp]; simp
    · cases place L (j : Int) <;> simp [e]
      omega
/-- the cells behind the commit -/
theorem nowL_stores (hw : ∀ c ∈ L, 0 ≤ c.1) (hn : (L.map (·.1)).Nodup) : stores ws L = nowL ws L := by
  apply List.ext_getElem (by rw [stores_len, nowL_len])
  intro i h1 h2
  have hi : i < ws.length := by rw [stores_len] at h1; exact h1
  rw [← wd_get h1, stores_at L ws hw hn i hi]
  simp [nowL]
end

/-! the commit, step by step -/
def c8 (R L : List (Int × Int)) (j : Nat) : AS := ⟨0, R, L, 8, 0, 0, 0, 0, j⟩
def c9 (R L : List (Int × Int)) : AS := ⟨0, R, L, 9, 0, 0, 0, 0, 0⟩
section
variable {ws : List Int} {R L : List (Int × Int)}
theorem al_end_no : endS (al R []) (sh0 ws) = (⟨4, 0, ⟨6, 0, 0, false⟩⟩, 0, overS, sh0 ws) := rfl
theorem al_end (hL : L ≠ []) : endS (al R L) (sh0 ws) = (⟨1, 0, ⟨5, 0, 0, false⟩⟩, 0, c8 R L 0, ⟨ws, 1⟩) := by
  unfold endS
  rw [if_neg (by simp [al]), if_neg (by exact hL)]
  rfl
theorem c8_step {j : Nat} (hj : j + 1 < L.length) : stepS (c8 R L j) ⟨stores ws (L.take j), 1⟩ = (going, 0, c8 R L (j + 1), ⟨stores ws (L.take (j + 1)), 1⟩) := by
  unfold stepS
  iterate 6 rw [if_neg (by simp [c8])]
  rw [if_pos (by simp [c8])]
  unfold storeS
  have hg : (c8 R L j).writes[(c8 R L j).at_.toNat]? = some (L[j]'(by omega)) := by
    show L[(j : Int).toNat]? = _
    rw [Int.toNat_natCast, List.getElem?_eq_getElem (by omega)]
  rw [hg]
  simp only
  rw [if_neg (by show ¬ (j : Int) + 1 = (L.length : Int); omega)]
  rw [List.take_add_one, List.getElem?_eq_getElem (by omega)]
  simp only [Option.toList_some, stores_snoc]
  rfl
theorem c8_last {j : Nat} (hj : j + 1 = L.length) : stepS (c8 R L j) ⟨stores ws (L.take j), 1⟩ = (going, 0, c9 R L, ⟨stores ws L, 1⟩) := by
  unfold stepS
  iterate 6 rw [if_neg (by simp [c8])]
  rw [if_pos (by simp [c8])]
  unfold storeS
  have hg : (c8 R L j).writes[(c8 R L j).at_.toNat]? = some (L[j]'(by omega)) := by
    show L[(j : Int).toNat]? = _
    rw [Int.toNat_natCast, List.getElem?_eq_getElem (by omega)]
  rw [hg]
  simp only
  rw [if_pos (by show (j : Int) + 1 = (L.length : Int); omega)]
  have ht : stores ws L = storeW (stores ws (L.take j)) (L[j]'(by omega)).1 (L[j]'(by omega)).2 := by
    have e : L = L.take j ++ [L[j]'(by omega)] := by
      have h1 := List.take_add_one (l := L) (i := j)
      rw [hj, List.take_length, List.getElem?_eq_getElem (by omega)] at h1
      simpa using h1
    conv => lhs; rw [e]
    rw [stores_snoc]
  rw [ht]
  rfl
theorem c9_step : stepS (c9 R L) ⟨ws, 1⟩ = (⟨4, 0, ⟨6, 0, 1, false⟩⟩, 0, overS, ⟨ws, 2⟩) := rfl
end
end Go.Proofs.Ythfeljongackcaa
set_option linter.unusedSimpArgs false
set_option linter.unusedVariables false
set_option maxRecDepth 100000
namespace Go.Proofs.Ythfeljongackcaa
open Go.RowKit
open Go.Maps
/-- one attempt, one turn's block; what is written is among O, or new since w0 -/
structure Sg (O : List Nat) (w0 : World) (tb : Nat) (T : Trn) (X : SX) (sh : Sh) (a : Nat) (s : AS) (F : List Nat) (W : World) : Prop where
  hL : LX W X sh a s F
  out : ∀ g ∈ own X a F, g ∈ O ∨ w0.heap.size ≤ g
  blk : Blk W tb T.cells 36
  ntb : tb ∉ own X a F
  tb0 : w0.heap.size ≤ tb
  U : Upd O w0 W
theorem own_next {X : SX} {a : Nat} {F F' : List Nat} {n : Nat} (hF : ∀ g ∈ F', g ∈ F ∨ n ≤ g) : ∀ g ∈ own X a F', g ∈ own X a F ∨ n ≤ g := fun g hg => by
  simp only [own, List.mem_cons, List.mem_append] at hg ⊢
  rcases hg with k | k | k
  · exact .inl (.inl k)
  · exact (hF g k).imp (fun k => .inr (.inl k)) id
  · exact .inl (.inr (.inr k))
section
variable {O : List Nat} {w0 W W' : World} {tb : Nat} {T : Trn} {X : SX} {sh sh' : Sh} {a : Nat} {s s' : AS} {F F' : List Nat}
theorem Sg.next (h : Sg O w0 tb T X sh a s F W) (hL : LX W' X sh' a s' F') (u : Upd (own X a F) W W') (hF : ∀ g ∈ F', g ∈ F ∨ W.heap.size ≤ g) : Sg O w0 tb T X sh' a s' F' W' := by
  have hs := h.U.size
  have ht := h.blk.lt
  have ho := own_next (X := X) (a := a) hF
  refine ⟨hL, fun g hg => ?_, h.blk.upd u h.ntb, fun hg => ?_, h.tb0, h.U.tr u (fun x hx => .inl hx) (fun x hx => h.out x hx)⟩
  · rcases ho g hg with k | k
    · exact h.out g k
    · right; omega
  · rcases ho _ hg with k | k
    · exact h.ntb k
    · omega
theorem Sg.shared (h : Sg O w0 tb T X sh a s F W) (hL : XAt W' X sh') (u : Upd X.foot W W') : Sg O w0 tb T X sh' a s F W' := by
  obtain ⟨acc, st, hX⟩ := hL
  obtain ⟨_, _, rv, wv, mv, k⟩ := h.hL
  have k2 := k.att.upd u k.out (fun g hg => (k.sep g hg).2.1)
  have hu : Upd (own X a F) W W' := u.mono (by simp [own]; exact fun x h => .inl (.inr (.inr h)))
  exact h.next ⟨acc, st, rv, wv, mv, k2, hX, fun g hg => ⟨Nat.lt_of_lt_of_le (k.sep g hg).1 u.size, (k.sep g hg).2⟩, k.wide⟩ hu (fun g hg => .inl hg)
theorem Sg.turn' (h : Sg O w0 tb T X sh a s F W) (T' : Trn) :
    ∃ W', W' = (((((((W.setCell ⟨tb, 0, none⟩ (.int .i64 T'.out)).setCell ⟨tb, 1, none⟩ (.int .u64 T'.word)).setCell ⟨tb, 2, none⟩ (.int .i64 0)).setCell ⟨tb, 3, none⟩ (.int .i64 T'.ev.kind)).setCell ⟨tb, 4, none⟩ (.int .u64 T'.ev.addr)).setCell ⟨tb, 5, none⟩ (.int .u64 T'.ev.word)).setCell ⟨tb, 6, none⟩ (.bool T'.ev.own)).setCell ⟨tb, 7, none⟩ (.int .i64 0) ∧ Sg O w0 tb T' X sh a s F W' :=
  ⟨_, rfl, h.hL.updb (at8 _ _ _ _ _ _ _ _) h.ntb, h.out, turn_set h.blk rfl T', h.ntb, h.tb0, (((((((h.U.setCell (.inr h.tb0) _).setCell (.inr h.tb0) _).setCell (.inr h.tb0) _).setCell (.inr h.tb0) _).setCell (.inr h.tb0) _).setCell (.inr h.tb0) _).setCell (.inr h.tb0) _).setCell (.inr h.tb0) _⟩
theorem Sg.first (hL : LX W X sh a s F) (u : Upd O w0 W) (hF : ∀ g ∈ F, g ∈ O ∨ w0.heap.size ≤ g) (ha : a ∈ O) (hX : ∀ g ∈ X.foot, g ∈ O) (T : Trn) : Sg O w0 W.heap.size T X sh a s F (W.alloc (.cells T.cells.toArray 36)) := by
  have ho : ∀ g ∈ own X a F, g ∈ O ∨ w0.heap.size ≤ g := fun g hg => by
    simp only [own, List.mem_cons, List.mem_append] at hg
    rcases hg with rfl | k | k
    · exact .inl ha
    · exact hF g k
    · exact .inl (hX g k)
  exact ⟨hL.upd0 ((Upd.refl [] _).alloc _), ho, Blk.new W _ _, fun h => Nat.lt_irrefl _ (hL.lt _ h), u.size, u.alloc _⟩
end

/-- alike words -/
theorem same_ints (w : World) (p q : Option Addr) (zs : List Int) (c d : Nat) (hx : SlI w .u64 p zs) (hy : SlI w .u64 q zs) (hn : zs.length ≤ 4611686018427387904) :
    Calls Try.prog 51 #[.slice p zs.length c, .slice q zs.length d] w fun e w' => e = .returned (.bool true) ∧ Upd [] w w' := by
  have HC := Lib.hid hx
  have HC' := Lib.hid hy
  clear hx hy
  refine calls_all fun K hK => ?_
  go_enter Try.func51, Try.ntmps51
  go_wp2_with fail
  go_loopw [5] (fun v5 wr => ∃ k : Nat, k ≤ zs.length ∧ v5 = .int .i64 k ∧ Upd [] w wr) (fun v5 _ => zs.length - (intOf v5).toNat)
  case atStart => exact ⟨0, by omega, rfl, Upd.refl _ _⟩
  case round =>
    obtain ⟨k, hk, rfl, hu⟩ := hrel
    have HU := Lib.hid hu
    clear hu
    by_cases hlt : k < zs.length
    · have hlt' : (k : Int) < (zs.length : Int) := by omega
      have hz : zs ≠ [] := fun e => by subst e; simp at hlt
      obtain ⟨b, o, rfl⟩ := HC.out.ne hz
      obtain ⟨b', o', rfl⟩ := HC'.out.ne hz
      have c0 := HC.out.cells b o rfl k hlt
      have d0 := HC'.out.cells b' o' rfl k hlt
      have hcell : ∀ (b' o' : Nat) (v : Value), w.cell? ⟨b', o', none⟩ = some v → wr.cell? ⟨b', o', none⟩ = some v := fun b' o' v h => (World.cell?_of_block (w := w) (HU.out.block b' (World.block_lt_of_cell? w _ h) (by simp))).trans h
      replace c0 := hcell _ _ _ c0
      replace d0 := hcell _ _ _ d0
      clear hcell hz
      have hxx : (wd zs k != wd zs k) = false := by simp
      go_wp2_with fail
      refine wp_region_eff (fun w' => w'.cell? ⟨b, o + k, none⟩ = some (.int .u64 (wd zs k)) ∧ w'.cell? ⟨b', o' + k, none⟩ = some (.int .u64 (wd zs k))) 9 (by kernel_rfl) (by kernel_rfl) ⟨c0, d0⟩ ?_
      repeat
        refine wpE_take (v := ?_) (by decide) rfl (by rfl) ?_ ?_
        rotate_left 1
        · ((intro w hSw; (try dsimp only at hSw); go_simp); try with_reducible rfl)
        try simp only [Act.put, List.setIfInBounds_toArray, List.set_cons_zero, List.set_cons_succ]
      refine wpE_end (NoPanic.normal ?_)
      have HU2 := Lib.hid HU.out.drew
      clear c0 d0
      generalize wr.drew = wr2 at HU2 ⊢
      go_wp2_with fail
      go_roundw
      case rel => exact ⟨k + 1, by omega, by go_num, HU2.out⟩
      case measure => simp [intOf]; omega
    · obtain rfl : k = zs.length := by omega
      go_wp2_with fail
      all_goals exact ⟨rfl, HU.out⟩
end Go.Proofs.Ythfeljongackcaa
set_option linter.unusedSimpArgs false
set_option linter.unusedVariables false
set_option maxRecDepth 100000
namespace Go.Proofs.Ythfeljongackcaa
open Go.RowKit
open Go.Maps

/-- the state, or the one that is none -/
def stG (o : Option One) : AS := (stO o).getD zeroAS
section
variable {w0 W W' : World} {X : SX} {Y : RX} {sh rsh sh' : Sh} {att ratt : Atts} {p : Nat} {hd : List Value}
theorem PH.len (h : PH w0 X sh att W) (i : Nat) : (stG (att i)).reads.length ≤ 1024 ∧ (stG (att i)).writes.length ≤ 1024 := by
  unfold stG stO
  cases hi : att i with
  | none => exact ⟨by simp [zeroAS], by simp [zeroAS]⟩
  | some t => obtain ⟨a, s, F⟩ := t; have hM := h.may i a s F hi; exact ⟨hM.lenR, hM.lenW⟩
def StOk (W : World) (s : AS) (e : Ending) (W' : World) : Prop := ∃ v1 v2, e = .returned (stateV s v1 v2) ∧ SlC W' v1 s.reads ∧ SlC W' v2 s.writes ∧ Upd [] W W'
theorem pstate (h : PH w0 X sh att W) (i : Nat) : Calls Try.prog 26 #[.pointer (ptrO (att i))] W (StOk W (stG (att i))) := by
  cases hi : att i with
  | none => exact (state_no (.inl rfl)).mono fun e w' ⟨he, hu⟩ => ⟨_, _, he, SlC.nil _, SlC.nil _, hu⟩
  | some t =>
    obtain ⟨a, s, F⟩ := t
    obtain ⟨acc, st, rv, wv, mv, hL⟩ := h.m.hL i a s F hi
    exact (state_live hL (h.may i a s F hi)).mono fun e w' ⟨v1, v2, he, TN⟩ => ⟨v1, v2, he, TN.rd.slc, TN.wr.slc, TN.u⟩
theorem rstate (h : RH w0 Y sh att W) (i : Nat) : Calls Try.prog 66 #[.pointer (ptrO (att i))] W (StOk W (stG (att i))) := by
  cases hi : att i with
  | none => exact (rstate_no W).mono fun e w' ⟨he, hu⟩ => ⟨_, _, he, SlC.nil _, SlC.nil _, hu⟩
  | some t =>
    obtain ⟨a, s, F⟩ := t
    obtain ⟨acc, rv, wv, hL⟩ := h.m.hL i a s F hi
    exact (rstate_code hL).mono fun e w' ⟨he, hu⟩ => ⟨rv, wv, he, hL.att.rd.slc.upd0 hu, hL.att.wr.slc.upd0 hu, hu⟩
theorem pphase (h : PH w0 X sh att W) (i : Nat) : Calls Try.prog 17 #[.pointer (ptrO (att i))] W fun e w' => e = .returned (.int .i64 (stG (att i)).phase) ∧ W = w' := by
  cases hi : att i with
  | none => exact phase_no (.inl rfl)
  | some t => obtain ⟨a, s, F⟩ := t; exact phase_x (h.m.hL i a s F hi)
theorem rphase (h : RH w0 Y sh att W) (i : Nat) : Calls Try.prog 67 #[.pointer (ptrO (att i))] W fun e w' => e = .returned (.int .i64 (stG (att i)).phase) ∧ W = w' := by
  cases hi : att i with
  | none => exact rphase_no W
  | some t => obtain ⟨a, s, F⟩ := t; obtain ⟨acc, rv, wv, hL⟩ := h.m.hL i a s F hi; exact rphase_code hL
theorem plocked (h : PH w0 X sh att W) (i : Nat) : Calls Try.prog 56 #[.pointer (ptrO (att i))] W fun e w' => e = .returned (.bool ((stG (att i)).phase == 8 || (stG (att i)).phase == 9)) ∧ W = w' := by
  cases hi : att i with
  | none => exact locked_no (.inl rfl)
  | some t => obtain ⟨a, s, F⟩ := t; exact locked_x (h.m.hL i a s F hi)
theorem rlocked (h : RH w0 Y sh att W) (i : Nat) : Calls Try.prog 68 #[.pointer (ptrO (att i))] W fun e w' => e = .returned (.bool ((stG (att i)).phase == 8 || (stG (att i)).phase == 9)) ∧ W = w' := by
  cases hi : att i with
  | none => exact rlocked_no W
  | some t => obtain ⟨a, s, F⟩ := t; obtain ⟨acc, rv, wv, hL⟩ := h.m.hL i a s F hi; exact rlocked_code hL
/-- what is shared has moved -/
theorem PH.shared (h : PH w0 X sh att W) (hX : XAt W' X sh') (u : Upd X.foot W W') : PH w0 X sh' att W' ∧ Moved (Foot X.foot att) (Foot X.foot att) W W' :=
  ⟨⟨⟨hX, fun j b t G hb => (h.m.hL j b t G hb).other u ((h.m.hL j b t G hb).apart) hX, h.m.ap, h.m.out, h.m.outX, h.m.U.tr u (by simp) (fun x hx => .inr (h.m.outX x hx))⟩, h.may⟩, ⟨_, fun g hg => .inl hg, u⟩, fun g hg => .inl hg⟩
theorem RH.shared (h : RH w0 Y sh att W) (hY : YAt W' Y sh') (u : Upd Y.foot W W') : RH w0 Y sh' att W' ∧ Moved (Foot Y.foot att) (Foot Y.foot att) W W' :=
  ⟨⟨⟨hY, fun j b t G hb => (h.m.hL j b t G hb).other u ((h.m.hL j b t G hb).apart) hY, h.m.ap, h.m.out, h.m.outX, h.m.U.tr u (by simp) (fun x hx => .inr (h.m.outX x hx))⟩, h.may⟩, ⟨_, fun g hg => .inl hg, u⟩, fun g hg => .inl hg⟩
theorem xwords (h : XAt W X sh) : Calls Try.prog 52 #[.pointer (some ⟨X.ra, 0, none⟩)] W (MadeInts W sh.row) := by
  obtain ⟨acc, st, h⟩ := h
  exact words_row h.row
end
/-- the play stands, as it was -/
def Still (w0 : World) (p : Nat) (X : SX) (Y : RX) (sh : Sh) (att ratt : Atts) (held : Bool) (tk : Int) (e : Ending) (W' : World) : Prop := e = .returned (.bool true) ∧ PS w0 p X Y sh att ratt held tk W'
set_option maxHeartbeats 2000000 in
theorem alike_code {w0 W : World} {p : Nat} {X : SX} {Y : RX} {sh : Sh} {att ratt : Atts} {held : Bool} {tk : Int} (h : PS w0 p X Y sh att ratt held tk W) (i : Nat) (hi : i < 3) :
    Calls Try.prog 28 #[.pointer (some ⟨p, 0, none⟩), .int .i64 i] W (Still w0 p X Y sh att ratt held tk) := by
  have hi3 : (i : Int) < 3 := by omega
  have hsm := h.same
  have htk := h.tkw
  have P1 := h.pl
  have c1 := P1.head.cell 1 rfl
  clear h
  refine calls_all fun K hK => ?_
  go_enter Try.func28, Try.ntmps28
  go_wp2_with fail
  refine (P1.m.m.x.clk).mono ?_
  rintro e W1 ⟨rfl, hX, u1⟩
  obtain ⟨m1, mv1⟩ := P1.m.shared hX u1
  have P2 := P1.prog m1 mv1
  clear P1 m1 mv1 hX u1 c1
  go_wp2_with fail
  obtain ⟨acc, hY⟩ := P2.r.m.x
  have ud := (Upd.refl [] W1).drew
  have SF := Lib.hid (show ∀ W', Upd [] W1 W' → W'.cell? ⟨p, 0, none⟩ = some (.pointer (some ⟨X.ra, 0, none⟩)) ∧ W'.cell? ⟨p, 2, none⟩ = some (.pointer (some ⟨Y.wb, 0, none⟩)) ∧ W'.cell? ⟨Y.wb, 0, none⟩ = some (.pointer (some ⟨Y.ra, 0, none⟩)) ∧ W'.cell? ⟨Y.wb, 1, none⟩ = some (.int .u64 sh.clock) from fun W' u =>
    ⟨(P2.head.upd u (by simp)).cell 0 rfl, (P2.head.upd u (by simp)).cell 2 rfl, (hY.wld.upd u (by simp)).cell 0 rfl, (hY.wld.upd u (by simp)).cell 1 rfl⟩)
  have hcc : (sh.clock != sh.clock) = false := by simp
  have hrow : sh.row.length ≤ 65536 := hY.row.len2
  refine wp_region_ord (fun w' => w'.cell? ⟨p, 0, none⟩ = some (.pointer (some ⟨X.ra, 0, none⟩)) ∧ w'.cell? ⟨p, 2, none⟩ = some (.pointer (some ⟨Y.wb, 0, none⟩)) ∧ w'.cell? ⟨Y.wb, 0, none⟩ = some (.pointer (some ⟨Y.ra, 0, none⟩)) ∧ w'.cell? ⟨Y.wb, 1, none⟩ = some (.int .u64 sh.clock)) [0, 1, 2, 3, 4, 5, 6, 7, 8, 9, 10, 11, 12, 13, 14, 15, 16, 17, 18, 20, 21, 22, 23, 24, 25, 26, 19, 27, 28, 29, 30] (by kernel_rfl) (by kernel_rfl) (SF.out _ ud) ?_
  generalize W1.drew = W2 at ud ⊢
  repeat
    first
      | (refine wpL_skip rfl (by rfl) ?_)
      | ((refine wpL_take (v := ?_) rfl rfl (by rfl) ?_ ?_); rotate_left 1; (· ((intro w hSw; (try dsimp only at hSw); go_simp); try with_reducible rfl)))
    try simp only [Act.put, List.setIfInBounds_toArray, List.set_cons_zero, List.set_cons_succ]
  refine wpL_eff rfl (by kernel_rfl) (by rfl) (fun K2 hK2 => ?_)
  go_simp
  refine (num07 _ _).mono ?_
  rintro e w' ⟨rfl, rfl⟩
  refine hK2.out _ _ (SF.out _ ud) ?_
  clear hK2 K2
  repeat
    first
      | (refine wpL_skip rfl (by rfl) ?_)
      | ((refine wpL_take (v := ?_) rfl rfl (by rfl) ?_ ?_); rotate_left 1; (· ((intro w hSw; (try dsimp only at hSw); go_simp); try with_reducible rfl)))
    try simp only [Act.put, List.setIfInBounds_toArray, List.set_cons_zero, List.set_cons_succ]
  refine wpL_eff rfl (by kernel_rfl) (by rfl) (fun K2 hK2 => ?_)
  go_simp
  refine (xwords (P2.free0 ud).m.m.x).mono ?_
  rintro e W3 ⟨g, sp, rfl, _, hB, u3⟩
  have u13 := ud.trans u3
  refine hK2.out _ _ (SF.out _ u13) ?_
  clear hK2 K2
  refine wpL_eff rfl (by kernel_rfl) (by rfl) (fun K2 hK2 => ?_)
  go_simp
  have hY3 := hY.upd u13 (by simp)
  refine (rwords_any hY3.row).mono ?_
  rintro e w' ⟨⟨rc, rfl⟩, rfl⟩
  refine hK2.out _ _ (SF.out _ u13) ?_
  clear hK2 K2
  refine wpL_eff rfl (by kernel_rfl) (by rfl) (fun K2 hK2 => ?_)
  go_simp
  refine (same_ints W3 _ _ sh.row _ _ (SlI.of_blk hB) hY3.row.sli (by omega)).mono ?_
  rintro e W4 ⟨rfl, u4⟩
  have u14 := u13.trans u4
  refine hK2.out _ _ (SF.out _ u14) ?_
  clear hK2 K2
  repeat
    first
      | (refine wpL_skip rfl (by rfl) ?_)
      | ((refine wpL_take (v := ?_) rfl rfl (by rfl) ?_ ?_); rotate_left 1; (· ((intro w hSw; (try dsimp only at hSw); go_simp); try with_reducible rfl)))
    try simp only [Act.put, List.setIfInBounds_toArray, List.set_cons_zero, List.set_cons_succ]
  refine wpO_end (NoPanic.normal ?_)
  have P4 := P2.free0 u14
  clear SF hcc hrow hY hY3 hB u13 u14 u3 u4 P2 ud
  go_wp2_with fail
  have hst : stG (ratt i) = stG (att i) := by unfold stG; rw [hsm i]
  have hlen := P4.m.len i
  have ud := (Upd.refl [] W4).drew
  have SF := Lib.hid (show ∀ W', Upd [] W4 W' → W'.cell? ⟨p, 3 + i, none⟩ = some (.pointer (ptrO (att i))) ∧ W'.cell? ⟨p, 6 + i, none⟩ = some (.pointer (ptrO (ratt i))) from fun W' u => ⟨(P4.head.upd u (by simp)).cell _ (head_att hi), (P4.head.upd u (by simp)).cell _ (head_ratt hi)⟩)
  have HP := Lib.hid P4
  have HSM := Lib.hid hsm
  clear P4 hsm
  refine wp_region_ord (fun w' => w'.cell? ⟨p, 3 + i, none⟩ = some (.pointer (ptrO (att i))) ∧ w'.cell? ⟨p, 6 + i, none⟩ = some (.pointer (ptrO (ratt i)))) [0, 1, 2, 3, 4, 5, 7, 8, 9, 10, 11, 12, 6, 13, 14, 15, 16, 17, 18, 19, 20, 21, 23, 24, 25, 26, 27, 28, 22, 29, 30, 31, 32, 33, 34, 35, 36, 37, 38, 40, 41, 42, 43, 44, 45, 39, 46, 47, 48, 49] (by kernel_rfl) (by kernel_rfl) (SF.out _ ud) ?_
  generalize W4.drew = W5 at ud ⊢
  repeat
    first
      | (refine wpL_skip rfl (by rfl) ?_)
      | ((refine wpL_take (v := ?_) rfl rfl (by rfl) ?_ ?_); rotate_left 1; (· ((intro w hSw; (try dsimp only at hSw); go_simp); try with_reducible rfl)))
    try simp only [Act.put, List.setIfInBounds_toArray, List.set_cons_zero, List.set_cons_succ]
  refine wpL_eff rfl (by kernel_rfl) (by rfl) (fun K2 hK2 => ?_)
  go_simp
  refine (pstate (HP.out.free0 ud).m i).mono ?_
  rintro e W6 ⟨v1, v2, rfl, s1, s2, u6⟩
  have u46 := ud.trans u6
  refine hK2.out _ _ (SF.out _ u46) ?_
  clear hK2 K2
  refine wpL_eff rfl (by kernel_rfl) (by rfl) (fun K2 hK2 => ?_)
  go_simp
  have hrs := rstate (HP.out.free0 u46).r i
  rw [hst] at hrs
  refine hrs.mono ?_
  rintro e W7 ⟨v3, v4, rfl, s3, s4, u7⟩
  have u47 := u46.trans u7
  refine hK2.out _ _ (SF.out _ u47) ?_
  clear hK2 K2 hrs
  refine wpL_eff rfl (by kernel_rfl) (by rfl) (fun K2 hK2 => ?_)
  go_simp
  refine (same_state W7 (stG (att i)) v1 v2 v3 v4 (s1.upd0 u7) (s2.upd0 u7) s3 s4 (by omega) (by omega)).mono ?_
  rintro e W8 ⟨rfl, u8⟩
  have u48 := u47.trans u8
  refine hK2.out _ _ (SF.out _ u48) ?_
  clear hK2 K2 s1 s2 s3 s4 u6 u7 u8 u46 u47 ud
  generalize hph : (stG (att i)).phase = ph at *
  have HPH := Lib.hid hph
  have HST := Lib.hid hst
  clear hph hst hlen
  have hpp : (ph == ph) = true := by simp
  have hpl := plocked (HP.out.free0 u48).m i
  have hrl := rlocked (HP.out.free0 u48).r i
  rw [HPH.out] at hpl
  rw [HST.out, HPH.out] at hrl
  generalize hlk : (ph == 8 || ph == 9) = lk at hpl hrl
  have hll : (lk == lk) = true := by simp
  have HPL := Lib.hid hpl
  have HRL := Lib.hid hrl
  clear hpl hrl hlk
  repeat
    first
      | (refine wpL_skip rfl (by rfl) ?_)
      | ((refine wpL_take (v := ?_) rfl rfl (by rfl) ?_ ?_); rotate_left 1; (· ((intro w hSw; (try dsimp only at hSw); go_simp); try with_reducible rfl)))
    try simp only [Act.put, List.setIfInBounds_toArray, List.set_cons_zero, List.set_cons_succ]
  refine wpL_eff rfl (by kernel_rfl) (by rfl) (fun K2 hK2 => ?_)
  go_simp
  have hq := pphase (HP.out.free0 u48).m i
  rw [HPH.out] at hq
  refine hq.mono ?_
  rintro e w' ⟨rfl, rfl⟩
  refine hK2.out _ _ (SF.out _ u48) ?_
  clear hK2 K2 hq
  refine wpL_eff rfl (by kernel_rfl) (by rfl) (fun K2 hK2 => ?_)
  go_simp
  have hq := rphase (HP.out.free0 u48).r i
  rw [HST.out, HPH.out] at hq
  refine hq.mono ?_
  rintro e w' ⟨rfl, rfl⟩
  refine hK2.out _ _ (SF.out _ u48) ?_
  clear hK2 K2 hq
  repeat
    first
      | (refine wpL_skip rfl (by rfl) ?_)
      | ((refine wpL_take (v := ?_) rfl rfl (by rfl) ?_ ?_); rotate_left 1; (· ((intro w hSw; (try dsimp only at hSw); go_simp); try with_reducible rfl)))
    try simp only [Act.put, List.setIfInBounds_toArray, List.set_cons_zero, List.set_cons_succ]
  refine wpL_eff rfl (by kernel_rfl) (by rfl) (fun K2 hK2 => ?_)
  go_simp
  refine HPL.out.mono ?_
  rintro e w' ⟨rfl, rfl⟩
  refine hK2.out _ _ (SF.out _ u48) ?_
  clear hK2 K2
  refine wpL_eff rfl (by kernel_rfl) (by rfl) (fun K2 hK2 => ?_)
  go_simp
  refine HRL.out.mono ?_
  rintro e w' ⟨rfl, rfl⟩
  refine hK2.out _ _ (SF.out _ u48) ?_
  clear hK2 K2
  repeat
    first
      | (refine wpL_skip rfl (by rfl) ?_)
      | ((refine wpL_take (v := ?_) rfl rfl (by rfl) ?_ ?_); rotate_left 1; (· ((intro w hSw; (try dsimp only at hSw); go_simp); try with_reducible rfl)))
    try simp only [Act.put, List.setIfInBounds_toArray, List.set_cons_zero, List.set_cons_succ]
  refine wpO_end (NoPanic.normal ?_)
  have HF := Lib.hid (HP.out.free0 u48)
  clear SF u48
  go_wp2_with fail
  exact ⟨rfl, HF.out, HSM.out, htk⟩
end Go.Proofs.Ythfeljongackcaa
set_option linter.unusedSimpArgs false
set_option linter.unusedVariables false
set_option maxRecDepth 100000
namespace Go.Proofs.Ythfeljongackcaa
open Go.RowKit
open Go.Maps

section
variable {w0 W W' : World} {X : SX} {Y : RX} {sh rsh sh' : Sh} {att ratt : Atts} {p : Nat} {hd : List Value}
theorem foot_upd1 {Z : List Nat} {i g : Nat} {o : Option One} (h : Foot Z (upd1 att i o) g) : Foot Z att g ∨ ∃ a s F, o = some (a, s, F) ∧ g ∈ a :: F := by
  rcases h with k | ⟨j, b, t, G, hb, k⟩
  · exact .inl (.inl k)
  · by_cases hj : j = i
    · subst hj; rw [upd1_same] at hb; exact .inr ⟨b, t, G, hb, k⟩
    · rw [upd1_other _ _ hj] at hb; exact .inl (.inr ⟨j, b, t, G, hb, k⟩)
theorem PH.set (h : PH w0 X sh att W) (i : Nat) {a : Nat} {s : AS} {F : List Nat} (hL : LX W' X sh' a s F) (u : Upd X.foot W W') (hn : ∀ g ∈ a :: F, W.heap.size ≤ g) (hM : May s) :
    PH w0 X sh' (upd1 att i (some (a, s, F))) W' ∧ Moved (Foot X.foot att) (Foot X.foot (upd1 att i (some (a, s, F)))) W W' := by
  refine ⟨⟨h.m.set i hL u hn (upd1_same _ _ _) (fun j hj => upd1_other _ _ hj), fun j b t G hb => ?_⟩, ⟨_, fun g hg => .inl hg, u⟩, fun g hg => ?_⟩
  · by_cases hj : j = i
    · subst hj; rw [upd1_same] at hb; cases hb; exact hM
    · rw [upd1_other _ _ hj] at hb; exact h.may j b t G hb
  · rcases foot_upd1 hg with k | ⟨b, t, G, e, k⟩
    · exact .inl k
    · cases e; exact .inr (hn g k)
theorem PH.clear (h : PH w0 X sh att W) (i : Nat) (hX : XAt W' X sh') (u : Upd X.foot W W') : PH w0 X sh' (upd1 att i none) W' ∧ Moved (Foot X.foot att) (Foot X.foot (upd1 att i none)) W W' := by
  refine ⟨⟨h.m.drop i hX u (upd1_same _ _ _) (fun j hj => upd1_other _ _ hj), fun j b t G hb => ?_⟩, ⟨_, fun g hg => .inl hg, u⟩, fun g hg => ?_⟩
  · by_cases hj : j = i
    · subst hj; rw [upd1_same] at hb; cases hb
    · rw [upd1_other _ _ hj] at hb; exact h.may j b t G hb
  · rcases foot_upd1 hg with k | ⟨b, t, G, e, k⟩
    · exact .inl k
    · cases e
theorem RH.set (h : RH w0 Y sh att W) (i : Nat) {a : Nat} {s : AS} {F : List Nat} (hL : RL W' Y sh' a s F) (u : Upd Y.foot W W') (hn : ∀ g ∈ a :: F, W.heap.size ≤ g) (hM : May s) :
    RH w0 Y sh' (upd1 att i (some (a, s, F))) W' ∧ Moved (Foot Y.foot att) (Foot Y.foot (upd1 att i (some (a, s, F)))) W W' := by
  refine ⟨⟨h.m.set i hL u hn (upd1_same _ _ _) (fun j hj => upd1_other _ _ hj), fun j b t G hb => ?_⟩, ⟨_, fun g hg => .inl hg, u⟩, fun g hg => ?_⟩
  · by_cases hj : j = i
    · subst hj; rw [upd1_same] at hb; cases hb; exact hM
    · rw [upd1_other _ _ hj] at hb; exact h.may j b t G hb
  · rcases foot_upd1 hg with k | ⟨b, t, G, e, k⟩
    · exact .inl k
    · cases e; exact .inr (hn g k)
theorem RH.clear (h : RH w0 Y sh att W) (i : Nat) (hY : YAt W' Y sh') (u : Upd Y.foot W W') : RH w0 Y sh' (upd1 att i none) W' ∧ Moved (Foot Y.foot att) (Foot Y.foot (upd1 att i none)) W W' := by
  refine ⟨⟨h.m.drop i hY u (upd1_same _ _ _) (fun j hj => upd1_other _ _ hj), fun j b t G hb => ?_⟩, ⟨_, fun g hg => .inl hg, u⟩, fun g hg => ?_⟩
  · by_cases hj : j = i
    · subst hj; rw [upd1_same] at hb; cases hb
    · rw [upd1_other _ _ hj] at hb; exact h.may j b t G hb
  · rcases foot_upd1 hg with k | ⟨b, t, G, e, k⟩
    · exact .inl k
    · cases e
theorem head_set_att {held : Bool} {tk : Int} {i : Nat} (hi : i < 3) (o : Option One) : (headP X Y att ratt held tk).set (3 + i) (.pointer (ptrO o)) = headP X Y (upd1 att i o) ratt held tk := by
  have : i = 0 ∨ i = 1 ∨ i = 2 := by omega
  rcases this with rfl | rfl | rfl <;> rfl
theorem head_set_ratt {held : Bool} {tk : Int} {i : Nat} (hi : i < 3) (o : Option One) : (headP X Y att ratt held tk).set (6 + i) (.pointer (ptrO o)) = headP X Y att (upd1 ratt i o) held tk := by
  have : i = 0 ∨ i = 1 ∨ i = 2 := by omega
  rcases this with rfl | rfl | rfl <;> rfl
theorem eql_attp (q : Option Addr) (w : World) : (binOp .eql 29 (.pointer q) (.pointer none)).run Try.prog w = .ok (.bool q.isNone) w := by cases q <;> kernel_rfl
theorem eql_rattp (q : Option Addr) (w : World) : (binOp .eql 73 (.pointer q) (.pointer none)).run Try.prog w = .ok (.bool q.isNone) w := by cases q <;> kernel_rfl
theorem none_eq {o o' : Option One} (h : stO o = stO o') : (ptrO o).isNone = (ptrO o').isNone := by
  cases o <;> cases o' <;> first | rfl | (simp [stO] at h)
/-- an attempt that takes place i, of the program -/
def PTake (w0 W : World) (X : SX) (sh : Sh) (att : Atts) (i : Nat) (s : Option AS) (o : Option One) (W' : World) : Prop := PH w0 X sh (upd1 att i o) W' ∧ Moved (Foot X.foot att) (Foot X.foot (upd1 att i o)) W W' ∧ stO o = s
def RTake (w0 W : World) (Y : RX) (sh : Sh) (att : Atts) (i : Nat) (s : Option AS) (o : Option One) (W' : World) : Prop := RH w0 Y sh (upd1 att i o) W' ∧ Moved (Foot Y.foot att) (Foot Y.foot (upd1 att i o)) W W' ∧ stO o = s
def begT (sh : Sh) : Trn := if sh.clock % 2 = 0 then ⟨6, 0, ⟨1, 0, sh.clock, false⟩⟩ else ⟨7, 0, evNone⟩
def begS (sh : Sh) : Option AS := if sh.clock % 2 = 0 then some (fresh sh.clock) else none
theorem pbegin (h : PH w0 X sh att W) (i : Nat) : Calls Try.prog 13 #[.pointer (some ⟨X.ra, 0, none⟩), .pointer (some ⟨X.ca, 0, none⟩)] W fun e W' => ∃ o, e = .returned (.tuple #[.pointer (ptrO o), (begT sh).val, .int .i64 0]) ∧ PTake w0 W X sh att i (begS sh) o W' := by
  by_cases hc : sh.clock % 2 = 0
  · refine (begin_x h.m.x hc).mono fun e w' ⟨a, F, he, hL, hu, ha, hF⟩ => ⟨some (a, fresh sh.clock, F), by rw [he, begT, if_pos hc]; rfl, ?_⟩
    obtain ⟨h1, h2⟩ := h.set i hL hu (fun g hg => by rcases List.mem_cons.1 hg with e | e; omega; exact hF g e) (may_fresh hc)
    exact ⟨h1, h2, by rw [begS, if_pos hc]; rfl⟩
  · have hc1 : sh.clock % 2 = 1 := by omega
    refine (begin_no h.m.x hc1).mono fun e w' ⟨he, hX, hu⟩ => ⟨none, by rw [he, begT, if_neg hc]; rfl, ?_⟩
    obtain ⟨h1, h2⟩ := h.clear i hX hu
    exact ⟨h1, h2, by rw [begS, if_neg hc]; rfl⟩
theorem rbegin (h : RH w0 Y sh att W) (i : Nat) : Calls Try.prog 93 #[.pointer (some ⟨Y.wb, 0, none⟩)] W fun e W' => ∃ o, e = .returned (.tuple #[.pointer (ptrO o), (begT sh).val]) ∧ RTake w0 W Y sh att i (begS sh) o W' := by
  obtain ⟨acc, hY⟩ := h.m.x
  by_cases hc : sh.clock % 2 = 0
  · refine (rbegin_even hY hc).mono fun e w' ⟨a, he, hL, hu, ha⟩ => ⟨some (a, fresh sh.clock, []), by rw [he, begT, if_pos hc]; rfl, ?_⟩
    obtain ⟨h1, h2⟩ := h.set i ⟨_, _, _, hL⟩ (hu.mono (by simp)) (fun g hg => by simp at hg; omega) (may_fresh hc)
    exact ⟨h1, h2, by rw [begS, if_pos hc]; rfl⟩
  · have hc1 : sh.clock % 2 = 1 := by omega
    refine (rbegin_odd hY hc1).mono fun e w' ⟨he, hY2, hu⟩ => ⟨none, by rw [he, begT, if_neg hc]; rfl, ?_⟩
    obtain ⟨h1, h2⟩ := h.clear i ⟨_, hY2⟩ (hu.mono (by simp))
    exact ⟨h1, h2, by rw [begS, if_neg hc]; rfl⟩
end
end Go.Proofs.Ythfeljongackcaa
set_option linter.unusedSimpArgs false
set_option linter.unusedVariables false
set_option maxRecDepth 100000
namespace Go.Proofs.Ythfeljongackcaa
open Go.RowKit
section
variable {lr : Nat} {P : Program} {ops : Array Oper} {Q : Exit → Act → World → Prop} {md : Region.Mode} {S : World → Prop}

def wpB (P : Program) (md : Region.Mode) (ops : Array Oper) (Q : Exit → Act → World → Prop) (S : World → Prop) : Nat → List Nat → Array Bool → Act → World → Prop
  | 0, _, L, a, w => Region.ready md ops L = [] ∧ Q .normal a w
  | n + 1, l, L, a, w =>
      (∃ i rest o v, l = i :: rest ∧ ops[i]? = some o ∧ ((Region.ready md ops L).contains i && Region.free md ops L i) = true ∧ YieldsIf P ops S o v a ∧ wpB P md ops Q S n rest (L.setIfInBounds i true) (a.put o.dst v) w) ∨
      (Region.ready md ops L ≠ [] ∧ ∀ j ∈ Region.ready md ops L, ∃ rest, wpOp P ops Q j (fun a' w' => S w' ∧ wpB P md ops Q S n rest (L.setIfInBounds j true) a' w') a w)

theorem wpAnyE_B (hsel : Region.noSelect ops = true) (hQ : ∀ c d (v : Value) a w, Q (.panic c) (a.put d v) w → Q (.panic c) a w) :
    ∀ (n : Nat) (l : List Nat) (L : Array Bool) (a : Act) (w : World), Shut md ops L → S w → wpB P md ops Q S n l L a w → wpAnyE P md ops Q S ops.size n L a w
  | 0, _, _, _, _, _, _, h => h
  | n + 1, l, L, a, w, inv, hS, h => by
    rcases h with ⟨i, rest, o, v, _, ho, hrf, hy, hK⟩ | ⟨hne, hK⟩
    · simp only [Bool.and_eq_true] at hrf
      have hr' : i ∈ Region.ready md ops L := by simpa using hrf.1
      have hi : i < ops.size := (Array.getElem?_eq_some_iff.1 ho).1
      exact wpAnyE_first ho (Region.noSelect_spec hsel) (fun c a w => hQ c _ _ a w) (fun j i h1 h2 h3 => absurd h3 (by omega)) hi n L a w inv (Region.free_spec ho hrf.2) hr' hy hS
        (wpAnyE_B hsel hQ n rest _ _ _ (inv.set hr') hS hK)
    · refine ⟨hne, fun j hj => ?_⟩
      obtain ⟨rest, hK⟩ := hK j hj
      exact wpOp_mono (fun a' w' h' => ⟨.inr h'.1, wpAnyE_B hsel hQ n rest _ _ _ (inv.set hj) h'.1 h'.2⟩) hK

theorem wpAny_B {l : List Nat} {a : Act} {w : World} (hQ : ∀ c d (v : Value) a w, Q (.panic c) (a.put d v) w → Q (.panic c) a w) (hsel : Region.noSelect ops = true) (hS : S w)
    (h : wpB P md ops Q S ops.size l (Array.replicate ops.size false) a w) : wpAny P md ops Q ops.size (Array.replicate ops.size false) a w := by
  have inv0 : Shut md ops (Array.replicate ops.size false) := ⟨by simp, fun j oj _ hl => (by rw [getD_replicate_false] at hl; cases hl)⟩
  exact wpAny_of_E _ _ _ _ (wpAnyE_B (P := P) hsel hQ _ l _ a w inv0 hS h)

theorem wp_region_br {id : Nat} {a : Act} {w : World} {l : List Oper} (S : World → Prop) (order : List Nat) (hm : P.follows .mixedOrders = true) (hsel : Region.noSelect l.toArray = true) (hS : S w.drew)
    (h : wpB P .any l.toArray (NoPanic Q) S l.toArray.size order (Array.replicate l.toArray.size false) a w.drew) : (Code.region id l.toArray true).wp P Q a w :=
  wp_region_noPanic (wp_region_any hm (wpAny_B (fun c d v a w h => h) hsel hS h))
theorem wpIn_region_br {n id : Nat} {a : Act} {w : World} {l : List Oper} (S : World → Prop) (order : List Nat) (hp : l.toArray.all plainOp = true) (hm : P.follows .mixedOrders = true) (hsel : Region.noSelect l.toArray = true) (hS : S w.drew)
    (h : wpB P .any l.toArray (OnlyN Q) S l.toArray.size order (Array.replicate l.toArray.size false) a w.drew) : (Code.region id l.toArray true).wpIn (Fence.wide.inRound lr) n P Q a w :=
  wpIn_region_any hm (wpAnyIn_of_wpAny hp _ _ _ _ (wpAny_B (fun c d v a w h => h) hsel hS h))

/-- the moves -/
theorem wpB_take {l : List Oper} {n i d : Nat} {o : Oper} {rest : List Nat} {v : Value} {L : Array Bool} {a : Act} {w : World} (ho : l[i]? = some o) (hd : o.dst = some d) (hr : ((Region.ready md l.toArray L).contains i && Region.free md l.toArray L i) = true)
    (hw : Region.wanted o (yielded l.toArray a.tmps) = true) (hv : ∀ w, S w → (execOp a.eval o).run P w = .ok (.value v) w)
    (h : wpB P md l.toArray Q S n rest (L.setIfInBounds i true) (a.put (some d) v) w) : wpB P md l.toArray Q S (n + 1) (i :: rest) L a w :=
  .inl ⟨i, rest, o, v, rfl, by simpa using ho, hr, .inl ⟨hw, hv⟩, by rw [hd]; exact h⟩
theorem wpB_skip {l : List Oper} {n i : Nat} {o : Oper} {rest : List Nat} {L : Array Bool} {a : Act} {w : World} (ho : l[i]? = some o) (hr : ((Region.ready md l.toArray L).contains i && Region.free md l.toArray L i) = true)
    (hw : Region.wanted o (yielded l.toArray a.tmps) = false)
    (h : wpB P md l.toArray Q S n rest (L.setIfInBounds i true) (a.put o.dst undef) w) : wpB P md l.toArray Q S (n + 1) (i :: rest) L a w :=
  .inl ⟨i, rest, o, undef, rfl, by simpa using ho, hr, .inr ⟨hw, rfl⟩, h⟩
theorem wpB_op {l : List Oper} {n i : Nat} {o : Oper} {rest : List Nat} {L : Array Bool} {a : Act} {w : World} (ho : l[i]? = some o) (hw : Region.wanted o (yielded l.toArray a.tmps) = true)
    (h : ∀ K : Act → World → Prop, Go.Shut (∀ a' w', S w' → wpB P md l.toArray Q S n rest (L.setIfInBounds i true) a' w' → K a' w') → Oper.wp P o a w K Q) :
    wpOp P l.toArray Q i (fun a' w' => S w' ∧ wpB P md l.toArray Q S n rest (L.setIfInBounds i true) a' w') a w := by
  have ho' : l.toArray[i]? = some o := by simpa using ho
  unfold wpOp
  simp only [ho', hw, if_true]
  exact .inl (h _ fun a' w' h1 h2 => ⟨h1, h2⟩)
/-- an effect that alone may come up -/
theorem wpB_eff {l : List Oper} {n i : Nat} {o : Oper} {rest : List Nat} {L : Array Bool} {a : Act} {w : World} (ho : l[i]? = some o) (hr : Region.ready md l.toArray L = [i]) (hw : Region.wanted o (yielded l.toArray a.tmps) = true)
    (h : ∀ K : Act → World → Prop, Go.Shut (∀ a' w', S w' → wpB P md l.toArray Q S n rest (L.setIfInBounds i true) a' w' → K a' w') → Oper.wp P o a w K Q) : wpB P md l.toArray Q S (n + 1) (i :: rest) L a w :=
  .inr ⟨by rw [hr]; simp, fun j hj => by
    rw [hr] at hj
    obtain rfl : j = i := by simpa using hj
    exact ⟨rest, wpB_op ho hw h⟩⟩
/-- two effects, either may come up first -/
theorem wpB_two {l : List Oper} {n i j : Nat} {o o2 : Oper} {rest : List Nat} (rest2 : List Nat) {L : Array Bool} {a : Act} {w : World} (hr : Region.ready md l.toArray L = [i, j]) (ho : l[i]? = some o) (ho2 : l[j]? = some o2)
    (hw : Region.wanted o (yielded l.toArray a.tmps) = true) (hw2 : Region.wanted o2 (yielded l.toArray a.tmps) = true)
    (h : ∀ K : Act → World → Prop, Go.Shut (∀ a' w', S w' → wpB P md l.toArray Q S n rest (L.setIfInBounds i true) a' w' → K a' w') → Oper.wp P o a w K Q)
    (h2 : ∀ K : Act → World → Prop, Go.Shut (∀ a' w', S w' → wpB P md l.toArray Q S n rest2 (L.setIfInBounds j true) a' w' → K a' w') → Oper.wp P o2 a w K Q) : wpB P md l.toArray Q S (n + 1) (i :: rest) L a w :=
  .inr ⟨by rw [hr]; simp, fun k hk => by
    rw [hr] at hk
    have hk : k = i ∨ k = j := by simpa using hk
    rcases hk with rfl | rfl
    · exact ⟨rest, wpB_op ho hw h⟩
    · exact ⟨rest2, wpB_op ho2 hw2 h2⟩⟩
theorem wpB_end {l : List Nat} {L : Array Bool} {a : Act} {w : World} (hr : Region.ready md ops L = []) (h : Q .normal a w) : wpB P md ops Q S 0 l L a w := ⟨hr, h⟩
end
end Go.Proofs.Ythfeljongackcaa
