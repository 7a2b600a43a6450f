/- take, joined: the state behind an event that can be. The conditions: the state's and the event's words are words, the number is small. -/
import Derived.Test.YtfldpejifpmapaaDoorETake2
import Derived.Test.YtfldpejifpmapaaDoorETake3
import Derived.Test.YtfldpejifpmapaaDoorETake4
import Derived.Test.YtfldpejifpmapaaDoorETake5
import Derived.Test.YtfldpejifpmapaaDoorETake6
set_option linter.unusedSimpArgs false
set_option linter.unusedVariables false
set_option maxRecDepth 100000
namespace Go.Proofs.YtfldpejifpmapaaDoor
open Go.RowKit
open Go.Maps
theorem take_code {w : World} {B lb n q : Nat} {S : LS} (hok : LSOk S q) (hq : q ≤ 1000000000000) (hn : n ≤ 1000000000000) (hL : LookAt w B lb n S) (e : Ev) (he : e.wide) (hw : wrongE S e = 0) :
    Calls Tryd.prog 68 #[.pointer (some ⟨lb, 0, none⟩), .int .i64 (q : Int), e.val] w (TakeOk w B lb n S q e) := by
  obtain ⟨C, tv, mv, hM⟩ := hL
  have hK := hM.k
  obtain ⟨hf, hT, _⟩ := wrong_ok hw
  obtain ⟨th, kd, ad, wd, own, er⟩ := e
  obtain ⟨h1, h2, _⟩ := hf
  dsimp only at h1 h2 hT
  obtain ⟨t, rfl⟩ : ∃ i : Nat, th = i := ⟨th.toNat, by omega⟩
  obtain ⟨k, rfl⟩ : ∃ k : Nat, kd = k := ⟨kd.toNat, by omega⟩
  rw [Int.toNat_natCast] at hT
  have ht : t < 8 := by omega
  have hk : 1 ≤ k ∧ k ≤ 12 := by omega
  have hh := hok.hows t
  have hs := turn_some (h := (S.ths t).how) (k := k) (by omega) (by omega) (by unfold turnT at hT; simpa using hT)
  rcases hs with ⟨h0, hc⟩ | ⟨h0, hc⟩ | ⟨h0, hc⟩
  · by_cases k1 : k = 1
    · exact take_b w B lb n t k q S ad wd er own C tv mv hok hq hK he ht hk hT k1 h0
    · exact take_0 w B lb n t k q S ad wd er own C tv mv hok hq hK he ht hk hT (by omega) h0
  · by_cases k2 : k = 2
    · cases ho : own with
      | true => subst ho; exact take_r1 w B lb n t k q S ad wd er true C tv mv hok hq hK he ht hk hT k2 h0 rfl
      | false => subst ho; exact take_r0 w B lb n t k q S ad wd er false C tv mv hok hq hK he ht hk hT k2 h0 rfl
    · by_cases k3 : k = 3
      · exact take_w w B lb n t k q S ad wd er own C tv mv hok hq hK he ht hk hT k3 h0 hn
      · by_cases k4 : k = 4
        · exact take_m w B lb n t k q S ad wd er own C tv mv hok hq hK he ht hk hT k4 h0
        · by_cases k5 : k = 5
          · exact take_l w B lb n t k q S ad wd er own C tv mv hok hq hK he ht hk hT k5 h0
          · exact take_e w B lb n t k q S ad wd er own C tv mv hok hq hK he ht hk hT (by omega) h0
  · exact take_c w B lb n t k q S ad wd er own C tv mv hok hq hK he ht hk hT hc h0
end Go.Proofs.YtfldpejifpmapaaDoor
