/- Slices of the call's own (ownsRow) beside blocks known whole. No condition. -/
import Derived.Test.YtfldpejifpmapaaDoorBase
set_option linter.unusedSimpArgs false
set_option linter.unusedVariables false
set_option maxRecDepth 100000
namespace Go.Proofs.YtfldpejifpmapaaDoor
open Go.RowKit

theorem news_blk {w : World} {b : Nat} {vs : List Value} {t : TypeId} (h : Blk w b vs t) : ∀ j u, vs[j]? = some u → w.cell? ((⟨b, 0, none⟩ : Addr).add j) = some u := by
  intro j u hj
  rw [addr_add, Nat.zero_add]
  exact h.cell j hj

theorem news_new {W : World} (vs : List Value) (t : TypeId) {g : Nat} (hg : g = W.heap.size) : ∀ j u, vs[j]? = some u → (W.alloc (.cells vs.toArray t)).cell? ((⟨g, 0, none⟩ : Addr).add j) = some u := by
  subst hg; exact news_blk (Blk.new W vs t)

section
variable {w w' : World}

/-- a row of the call's own shares no block with a block of another element type -/
theorem own_ne_blk {base : Nat} {e t : TypeId} {size n g : Nat} {v : Value} {us vs : List Value} (h : w.ownsRow base e size v n us) (k : Blk w g vs t) (hne : e ≠ t) : g ∉ v.ownBlock.toList := by
  rcases h.2 with ⟨rfl, _⟩ | ⟨g', cap, cur, rfl, _, hh, _⟩
  · simp [Value.ownBlock]
  · simp only [Value.ownBlock, Option.toList_some, List.mem_singleton]
    rintro rfl
    unfold Blk at k
    rw [hh] at k
    simp at k
    exact hne k.2

theorem own_ne_own {base base' : Nat} {e t : TypeId} {size size' n n' : Nat} {v v' : Value} {us us' : List Value} (h : w.ownsRow base e size v n us) (k : w.ownsRow base' t size' v' n' us') (hne : e ≠ t) : ∀ g ∈ v.ownBlock.toList, v'.ownBlock ≠ some g := by
  intro g hg hk
  rcases k.2 with ⟨rfl, _⟩ | ⟨g', cap, cur, rfl, _, hh, _⟩
  · simp [Value.ownBlock] at hk
  · simp [Value.ownBlock] at hk
    subst hk
    exact own_ne_blk h (g := g') (t := t) (vs := cur.toList) (by unfold Blk; simpa using hh) hne hg

theorem own_upd {base : Nat} {e : TypeId} {size n : Nat} {v : Value} {us : List Value} {S : List Nat} (h : w.ownsRow base e size v n us) (u : Upd S w w') (hS : ∀ g ∈ S, v.ownBlock ≠ some g) : w'.ownsRow base e size v n us := by
  obtain ⟨h1, h2⟩ := h
  refine ⟨h1, ?_⟩
  rcases h2 with h2 | ⟨g, cap, cur, rfl, hb, hh, r⟩
  · exact .inl h2
  · refine .inr ⟨g, cap, cur, rfl, hb, ?_, r⟩
    rw [u.block g (by by_cases hg : g < w.heap.size; exact hg; rw [Array.getElem?_eq_none (by omega)] at hh; cases hh) (fun hg => hS g hg rfl)]
    exact hh

theorem own_blocks {base : Nat} {e : TypeId} {size n : Nat} {v : Value} {us : List Value} (h : w.ownsRow base e size v n us) : ∀ g ∈ v.ownBlock.toList, base ≤ g ∧ g < w.heap.size := by
  intro g hg
  exact h.lt g (by simpa using hg)

theorem Upd.own {w w' : World} {row : Option Nat} (h : w.grownBy w' row) : Upd row.toList w w' := Upd.of_grown h (fun k e => .inl (by simp [e]))

/-- the form of an own slice -/
theorem own_form {base : Nat} {e : TypeId} {size n : Nat} {v : Value} {us : List Value} (h : w.ownsRow base e size v n us) : ∃ p c, v = .slice p n c := by
  rcases h.2 with ⟨rfl, rfl⟩ | ⟨g, cap, cur, rfl, _⟩
  · exact ⟨none, 0, rfl⟩
  · exact ⟨_, _, rfl⟩
end

theorem own_some {w : World} {base : Nat} {e : TypeId} {size n : Nat} {v : Value} {us : List Value} (h : w.ownsRow base e size v n us) (hn : 0 < n) : ∃ g c, v = .slice (some ⟨g, 0, none⟩) n c := by
  rcases h.2 with ⟨rfl, rfl⟩ | ⟨g, cap, cur, rfl, _⟩
  · omega
  · exact ⟨_, _, rfl⟩

/-- an own row of one-cell elements as a block known whole -/
theorem own_open {w : World} {base : Nat} {e : TypeId} {n g c : Nat} {us : List Value} (h : w.ownsRow base e 1 (.slice (some ⟨g, 0, none⟩) n c) n us) :
    base ≤ g ∧ us.length = n ∧ ∃ spare : List Value, Blk w g (us ++ spare) e ∧ n + spare.length = c ∧ c ≤ maxLen := by
  obtain ⟨h1, h2⟩ := h
  rcases h2 with ⟨h2, _⟩ | ⟨g', cap, cur, hv, hb, hh, hn, hm, hs, ht⟩
  · cases h2
  · cases hv
    refine ⟨hb, by simpa using h1, cur.toList.drop n, ?_, ?_, hm⟩
    · rw [← ht, Nat.mul_one, List.take_append_drop]
      unfold Blk
      simpa using hh
    · simp; omega

end Go.Proofs.YtfldpejifpmapaaDoor
