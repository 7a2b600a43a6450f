/- The document's small: is what the phase does not name 0? No condition. The document's May: what is refused early. The conditions are sizes. -/
import Derived.Test.YthfeljongackcaaM7p18
set_option linter.unusedSimpArgs false
set_option linter.unusedVariables false
set_option maxRecDepth 100000
namespace Go.Proofs.Ythfeljongackcaa
open Go.RowKit
open Go.Maps
def SmallP (s : AS) : Prop := (getsB s = false → s.addr = 0) ∧ (s.phase ≠ 3 → s.word = 0) ∧ (s.phase ≠ 5 → s.phase ≠ 6 → s.found = 0) ∧ (s.phase ≠ 5 → s.phase ≠ 8 → s.at_ = 0) ∧ (if validB s = true then s.thn = 2 ∨ s.thn = 7 else s.thn = 0)
def SmallOk (w : World) (s : AS) (e : Ending) (w' : World) : Prop := (∃ b : Bool, e = .returned (.bool b) ∧ (b = true ↔ SmallP s)) ∧ Upd [] w w'
theorem small_1 (s : AS) (rv wv : Value) (w : World) (h1 : SlC w rv s.reads) (h2 : SlC w wv s.writes) (hp : s.phase = 1) : Calls Try.prog 103 #[stateV s rv wv] w (SmallOk w s) := by
  obtain ⟨p, c, rfl, _⟩ := h1
  obtain ⟨q, d, rfl, _⟩ := h2
  obtain ⟨sn, rd, wl, ph, th, ad, wo, fo, at_⟩ := s
  dsimp only at hp
  subst hp
  simp only [stateV]
  obtain ⟨W, hW⟩ : ∃ W, w.alloc (.cells #[.int .u64 sn, .slice p rd.length c, .slice q wl.length d, .int .i64 1, .int .i64 th, .int .u64 ad, .int .u64 wo, .int .u64 fo, .int .i64 at_] 60) = W := ⟨_, rfl⟩
  have uW : Upd [] w W := by rw [← hW]; exact (Upd.refl [] _).alloc _
  have BW : Blk W w.heap.size [.int .u64 sn, .slice p rd.length c, .slice q wl.length d, .int .i64 1, .int .i64 th, .int .u64 ad, .int .u64 wo, .int .u64 fo, .int .i64 at_] 60 := by rw [← hW]; exact Blk.new w _ _
  have b3 := BW.cell 3 rfl
  have b4 := BW.cell 4 rfl
  have b5 := BW.cell 5 rfl
  have b6 := BW.cell 6 rfl
  have b7 := BW.cell 7 rfl
  have b8 := BW.cell 8 rfl
  clear BW
  refine calls_all fun K hK => ?_
  go_enter Try.func103, Try.ntmps103
  go_wp2
  all_goals
    refine ⟨⟨_, rfl, ?_⟩, uW⟩
    (try have ha := bne_iff_ne.1 (show (at_ != 0) = true by assumption))
    (try have ha := bne_eq_false_iff_eq.1 (show (at_ != 0) = false by assumption))
    (try have hw := bne_iff_ne.1 (show (wo != 0) = true by assumption))
    (try have hw := bne_eq_false_iff_eq.1 (show (wo != 0) = false by assumption))
    (try have hf := bne_iff_ne.1 (show (fo != 0) = true by assumption))
    (try have hf := bne_eq_false_iff_eq.1 (show (fo != 0) = false by assumption))
    (try have hd := bne_iff_ne.1 (show (ad != 0) = true by assumption))
    (try have hd := bne_eq_false_iff_eq.1 (show (ad != 0) = false by assumption))
    simp [SmallP, getsB, validB]
    try omega
theorem small_2 (s : AS) (rv wv : Value) (w : World) (h1 : SlC w rv s.reads) (h2 : SlC w wv s.writes) (hp : s.phase = 2) : Calls Try.prog 103 #[stateV s rv wv] w (SmallOk w s) := by
  obtain ⟨p, c, rfl, _⟩ := h1
  obtain ⟨q, d, rfl, _⟩ := h2
  obtain ⟨sn, rd, wl, ph, th, ad, wo, fo, at_⟩ := s
  dsimp only at hp
  subst hp
  simp only [stateV]
  obtain ⟨W, hW⟩ : ∃ W, w.alloc (.cells #[.int .u64 sn, .slice p rd.length c, .slice q wl.length d, .int .i64 2, .int .i64 th, .int .u64 ad, .int .u64 wo, .int .u64 fo, .int .i64 at_] 60) = W := ⟨_, rfl⟩
  have uW : Upd [] w W := by rw [← hW]; exact (Upd.refl [] _).alloc _
  have BW : Blk W w.heap.size [.int .u64 sn, .slice p rd.length c, .slice q wl.length d, .int .i64 2, .int .i64 th, .int .u64 ad, .int .u64 wo, .int .u64 fo, .int .i64 at_] 60 := by rw [← hW]; exact Blk.new w _ _
  have b3 := BW.cell 3 rfl
  have b4 := BW.cell 4 rfl
  have b5 := BW.cell 5 rfl
  have b6 := BW.cell 6 rfl
  have b7 := BW.cell 7 rfl
  have b8 := BW.cell 8 rfl
  clear BW
  refine calls_all fun K hK => ?_
  go_enter Try.func103, Try.ntmps103
  go_wp2
  all_goals
    refine ⟨⟨_, rfl, ?_⟩, uW⟩
    (try have ha := bne_iff_ne.1 (show (at_ != 0) = true by assumption))
    (try have ha := bne_eq_false_iff_eq.1 (show (at_ != 0) = false by assumption))
    (try have hw := bne_iff_ne.1 (show (wo != 0) = true by assumption))
    (try have hw := bne_eq_false_iff_eq.1 (show (wo != 0) = false by assumption))
    (try have hf := bne_iff_ne.1 (show (fo != 0) = true by assumption))
    (try have hf := bne_eq_false_iff_eq.1 (show (fo != 0) = false by assumption))
    (try have hd := bne_iff_ne.1 (show (ad != 0) = true by assumption))
    (try have hd := bne_eq_false_iff_eq.1 (show (ad != 0) = false by assumption))
    simp [SmallP, getsB, validB]
    try omega
theorem small_3 (s : AS) (rv wv : Value) (w : World) (h1 : SlC w rv s.reads) (h2 : SlC w wv s.writes) (hp : s.phase = 3) : Calls Try.prog 103 #[stateV s rv wv] w (SmallOk w s) := by
  obtain ⟨p, c, rfl, _⟩ := h1
  obtain ⟨q, d, rfl, _⟩ := h2
  obtain ⟨sn, rd, wl, ph, th, ad, wo, fo, at_⟩ := s
  dsimp only at hp
  subst hp
  simp only [stateV]
  obtain ⟨W, hW⟩ : ∃ W, w.alloc (.cells #[.int .u64 sn, .slice p rd.length c, .slice q wl.length d, .int .i64 3, .int .i64 th, .int .u64 ad, .int .u64 wo, .int .u64 fo, .int .i64 at_] 60) = W := ⟨_, rfl⟩
  have uW : Upd [] w W := by rw [← hW]; exact (Upd.refl [] _).alloc _
  have BW : Blk W w.heap.size [.int .u64 sn, .slice p rd.length c, .slice q wl.length d, .int .i64 3, .int .i64 th, .int .u64 ad, .int .u64 wo, .int .u64 fo, .int .i64 at_] 60 := by rw [← hW]; exact Blk.new w _ _
  have b3 := BW.cell 3 rfl
  have b4 := BW.cell 4 rfl
  have b5 := BW.cell 5 rfl
  have b6 := BW.cell 6 rfl
  have b7 := BW.cell 7 rfl
  have b8 := BW.cell 8 rfl
  clear BW
  refine calls_all fun K hK => ?_
  go_enter Try.func103, Try.ntmps103
  go_wp2
  all_goals
    refine ⟨⟨_, rfl, ?_⟩, uW⟩
    (try have ha := bne_iff_ne.1 (show (at_ != 0) = true by assumption))
    (try have ha := bne_eq_false_iff_eq.1 (show (at_ != 0) = false by assumption))
    (try have hw := bne_iff_ne.1 (show (wo != 0) = true by assumption))
    (try have hw := bne_eq_false_iff_eq.1 (show (wo != 0) = false by assumption))
    (try have hf := bne_iff_ne.1 (show (fo != 0) = true by assumption))
    (try have hf := bne_eq_false_iff_eq.1 (show (fo != 0) = false by assumption))
    (try have hd := bne_iff_ne.1 (show (ad != 0) = true by assumption))
    (try have hd := bne_eq_false_iff_eq.1 (show (ad != 0) = false by assumption))
    simp [SmallP, getsB, validB]
    try omega
theorem small_4 (s : AS) (rv wv : Value) (w : World) (h1 : SlC w rv s.reads) (h2 : SlC w wv s.writes) (hp : s.phase = 4) : Calls Try.prog 103 #[stateV s rv wv] w (SmallOk w s) := by
  obtain ⟨p, c, rfl, _⟩ := h1
  obtain ⟨q, d, rfl, _⟩ := h2
  obtain ⟨sn, rd, wl, ph, th, ad, wo, fo, at_⟩ := s
  dsimp only at hp
  subst hp
  simp only [stateV]
  obtain ⟨W, hW⟩ : ∃ W, w.alloc (.cells #[.int .u64 sn, .slice p rd.length c, .slice q wl.length d, .int .i64 4, .int .i64 th, .int .u64 ad, .int .u64 wo, .int .u64 fo, .int .i64 at_] 60) = W := ⟨_, rfl⟩
  have uW : Upd [] w W := by rw [← hW]; exact (Upd.refl [] _).alloc _
  have BW : Blk W w.heap.size [.int .u64 sn, .slice p rd.length c, .slice q wl.length d, .int .i64 4, .int .i64 th, .int .u64 ad, .int .u64 wo, .int .u64 fo, .int .i64 at_] 60 := by rw [← hW]; exact Blk.new w _ _
  have b3 := BW.cell 3 rfl
  have b4 := BW.cell 4 rfl
  have b5 := BW.cell 5 rfl
  have b6 := BW.cell 6 rfl
  have b7 := BW.cell 7 rfl
  have b8 := BW.cell 8 rfl
  clear BW
  refine calls_all fun K hK => ?_
  go_enter Try.func103, Try.ntmps103
  go_wp2
  all_goals
    refine ⟨⟨_, rfl, ?_⟩, uW⟩
    (try have ha := bne_iff_ne.1 (show (at_ != 0) = true by assumption))
    (try have ha := bne_eq_false_iff_eq.1 (show (at_ != 0) = false by assumption))
    (try have hw := bne_iff_ne.1 (show (wo != 0) = true by assumption))
    (try have hw := bne_eq_false_iff_eq.1 (show (wo != 0) = false by assumption))
    (try have hf := bne_iff_ne.1 (show (fo != 0) = true by assumption))
    (try have hf := bne_eq_false_iff_eq.1 (show (fo != 0) = false by assumption))
    (try have hd := bne_iff_ne.1 (show (ad != 0) = true by assumption))
    (try have hd := bne_eq_false_iff_eq.1 (show (ad != 0) = false by assumption))
    simp [SmallP, getsB, validB]
    try omega
theorem small_5 (s : AS) (rv wv : Value) (w : World) (h1 : SlC w rv s.reads) (h2 : SlC w wv s.writes) (hp : s.phase = 5) : Calls Try.prog 103 #[stateV s rv wv] w (SmallOk w s) := by
  obtain ⟨p, c, rfl, _⟩ := h1
  obtain ⟨q, d, rfl, _⟩ := h2
  obtain ⟨sn, rd, wl, ph, th, ad, wo, fo, at_⟩ := s
  dsimp only at hp
  subst hp
  simp only [stateV]
  obtain ⟨W, hW⟩ : ∃ W, w.alloc (.cells #[.int .u64 sn, .slice p rd.length c, .slice q wl.length d, .int .i64 5, .int .i64 th, .int .u64 ad, .int .u64 wo, .int .u64 fo, .int .i64 at_] 60) = W := ⟨_, rfl⟩
  have uW : Upd [] w W := by rw [← hW]; exact (Upd.refl [] _).alloc _
  have BW : Blk W w.heap.size [.int .u64 sn, .slice p rd.length c, .slice q wl.length d, .int .i64 5, .int .i64 th, .int .u64 ad, .int .u64 wo, .int .u64 fo, .int .i64 at_] 60 := by rw [← hW]; exact Blk.new w _ _
  have b3 := BW.cell 3 rfl
  have b4 := BW.cell 4 rfl
  have b5 := BW.cell 5 rfl
  have b6 := BW.cell 6 rfl
  have b7 := BW.cell 7 rfl
  have b8 := BW.cell 8 rfl
  clear BW
  refine calls_all fun K hK => ?_
  go_enter Try.func103, Try.ntmps103
  go_wp2
  all_goals
    refine ⟨⟨_, rfl, ?_⟩, uW⟩
    (try have ha := bne_iff_ne.1 (show (at_ != 0) = true by assumption))
    (try have ha := bne_eq_false_iff_eq.1 (show (at_ != 0) = false by assumption))
    (try have hw := bne_iff_ne.1 (show (wo != 0) = true by assumption))
    (try have hw := bne_eq_false_iff_eq.1 (show (wo != 0) = false by assumption))
    (try have hf := bne_iff_ne.1 (show (fo != 0) = true by assumption))
    (try have hf := bne_eq_false_iff_eq.1 (show (fo != 0) = false by assumption))
    (try have hd := bne_iff_ne.1 (show (ad != 0) = true by assumption))
    (try have hd := bne_eq_false_iff_eq.1 (show (ad != 0) = false by assumption))
    simp [SmallP, getsB, validB]
    try omega
theorem small_6 (s : AS) (rv wv : Value) (w : World) (h1 : SlC w rv s.reads) (h2 : SlC w wv s.writes) (hp : s.phase = 6) : Calls Try.prog 103 #[stateV s rv wv] w (SmallOk w s) := by
  obtain ⟨p, c, rfl, _⟩ := h1
  obtain ⟨q, d, rfl, _⟩ := h2
  obtain ⟨sn, rd, wl, ph, th, ad, wo, fo, at_⟩ := s
  dsimp only at hp
  subst hp
  simp only [stateV]
  obtain ⟨W, hW⟩ : ∃ W, w.alloc (.cells #[.int .u64 sn, .slice p rd.length c, .slice q wl.length d, .int .i64 6, .int .i64 th, .int .u64 ad, .int .u64 wo, .int .u64 fo, .int .i64 at_] 60) = W := ⟨_, rfl⟩
  have uW : Upd [] w W := by rw [← hW]; exact (Upd.refl [] _).alloc _
  have BW : Blk W w.heap.size [.int .u64 sn, .slice p rd.length c, .slice q wl.length d, .int .i64 6, .int .i64 th, .int .u64 ad, .int .u64 wo, .int .u64 fo, .int .i64 at_] 60 := by rw [← hW]; exact Blk.new w _ _
  have b3 := BW.cell 3 rfl
  have b4 := BW.cell 4 rfl
  have b5 := BW.cell 5 rfl
  have b6 := BW.cell 6 rfl
  have b7 := BW.cell 7 rfl
  have b8 := BW.cell 8 rfl
  clear BW
  refine calls_all fun K hK => ?_
  go_enter Try.func103, Try.ntmps103
  go_wp2
  all_goals
    refine ⟨⟨_, rfl, ?_⟩, uW⟩
    (try have ha := bne_iff_ne.1 (show (at_ != 0) = true by assumption))
    (try have ha := bne_eq_false_iff_eq.1 (show (at_ != 0) = false by assumption))
    (try have hw := bne_iff_ne.1 (show (wo != 0) = true by assumption))
    (try have hw := bne_eq_false_iff_eq.1 (show (wo != 0) = false by assumption))
    (try have hf := bne_iff_ne.1 (show (fo != 0) = true by assumption))
    (try have hf := bne_eq_false_iff_eq.1 (show (fo != 0) = false by assumption))
    (try have hd := bne_iff_ne.1 (show (ad != 0) = true by assumption))
    (try have hd := bne_eq_false_iff_eq.1 (show (ad != 0) = false by assumption))
    simp [SmallP, getsB, validB]
    try omega
theorem small_7 (s : AS) (rv wv : Value) (w : World) (h1 : SlC w rv s.reads) (h2 : SlC w wv s.writes) (hp : s.phase = 7) : Calls Try.prog 103 #[stateV s rv wv] w (SmallOk w s) := by
  obtain ⟨p, c, rfl, _⟩ := h1
  obtain ⟨q, d, rfl, _⟩ := h2
  obtain ⟨sn, rd, wl, ph, th, ad, wo, fo, at_⟩ := s
  dsimp only at hp
  subst hp
  simp only [stateV]
  obtain ⟨W, hW⟩ : ∃ W, w.alloc (.cells #[.int .u64 sn, .slice p rd.length c, .slice q wl.length d, .int .i64 7, .int .i64 th, .int .u64 ad, .int .u64 wo, .int .u64 fo, .int .i64 at_] 60) = W := ⟨_, rfl⟩
  have uW : Upd [] w W := by rw [← hW]; exact (Upd.refl [] _).alloc _
  have BW : Blk W w.heap.size [.int .u64 sn, .slice p rd.length c, .slice q wl.length d, .int .i64 7, .int .i64 th, .int .u64 ad, .int .u64 wo, .int .u64 fo, .int .i64 at_] 60 := by rw [← hW]; exact Blk.new w _ _
  have b3 := BW.cell 3 rfl
  have b4 := BW.cell 4 rfl
  have b5 := BW.cell 5 rfl
  have b6 := BW.cell 6 rfl
  have b7 := BW.cell 7 rfl
  have b8 := BW.cell 8 rfl
  clear BW
  refine calls_all fun K hK => ?_
  go_enter Try.func103, Try.ntmps103
  go_wp2
  all_goals
    refine ⟨⟨_, rfl, ?_⟩, uW⟩
    (try have ha := bne_iff_ne.1 (show (at_ != 0) = true by assumption))
    (try have ha := bne_eq_false_iff_eq.1 (show (at_ != 0) = false by assumption))
    (try have hw := bne_iff_ne.1 (show (wo != 0) = true by assumption))
    (try have hw := bne_eq_false_iff_eq.1 (show (wo != 0) = false by assumption))
    (try have hf := bne_iff_ne.1 (show (fo != 0) = true by assumption))
    (try have hf := bne_eq_false_iff_eq.1 (show (fo != 0) = false by assumption))
    (try have hd := bne_iff_ne.1 (show (ad != 0) = true by assumption))
    (try have hd := bne_eq_false_iff_eq.1 (show (ad != 0) = false by assumption))
    simp [SmallP, getsB, validB]
    try omega
theorem small_8 (s : AS) (rv wv : Value) (w : World) (h1 : SlC w rv s.reads) (h2 : SlC w wv s.writes) (hp : s.phase = 8) : Calls Try.prog 103 #[stateV s rv wv] w (SmallOk w s) := by
  obtain ⟨p, c, rfl, _⟩ := h1
  obtain ⟨q, d, rfl, _⟩ := h2
  obtain ⟨sn, rd, wl, ph, th, ad, wo, fo, at_⟩ := s
  dsimp only at hp
  subst hp
  simp only [stateV]
  obtain ⟨W, hW⟩ : ∃ W, w.alloc (.cells #[.int .u64 sn, .slice p rd.length c, .slice q wl.length d, .int .i64 8, .int .i64 th, .int .u64 ad, .int .u64 wo, .int .u64 fo, .int .i64 at_] 60) = W := ⟨_, rfl⟩
  have uW : Upd [] w W := by rw [← hW]; exact (Upd.refl [] _).alloc _
  have BW : Blk W w.heap.size [.int .u64 sn, .slice p rd.length c, .slice q wl.length d, .int .i64 8, .int .i64 th, .int .u64 ad, .int .u64 wo, .int .u64 fo, .int .i64 at_] 60 := by rw [← hW]; exact Blk.new w _ _
  have b3 := BW.cell 3 rfl
  have b4 := BW.cell 4 rfl
  have b5 := BW.cell 5 rfl
  have b6 := BW.cell 6 rfl
  have b7 := BW.cell 7 rfl
  have b8 := BW.cell 8 rfl
  clear BW
  refine calls_all fun K hK => ?_
  go_enter Try.func103, Try.ntmps103
  go_wp2
  all_goals
    refine ⟨⟨_, rfl, ?_⟩, uW⟩
    (try have ha := bne_iff_ne.1 (show (at_ != 0) = true by assumption))
    (try have ha := bne_eq_false_iff_eq.1 (show (at_ != 0) = false by assumption))
    (try have hw := bne_iff_ne.1 (show (wo != 0) = true by assumption))
    (try have hw := bne_eq_false_iff_eq.1 (show (wo != 0) = false by assumption))
    (try have hf := bne_iff_ne.1 (show (fo != 0) = true by assumption))
    (try have hf := bne_eq_false_iff_eq.1 (show (fo != 0) = false by assumption))
    (try have hd := bne_iff_ne.1 (show (ad != 0) = true by assumption))
    (try have hd := bne_eq_false_iff_eq.1 (show (ad != 0) = false by assumption))
    simp [SmallP, getsB, validB]
    try omega
theorem small_9 (s : AS) (rv wv : Value) (w : World) (h1 : SlC w rv s.reads) (h2 : SlC w wv s.writes) (hp : s.phase = 9) : Calls Try.prog 103 #[stateV s rv wv] w (SmallOk w s) := by
  obtain ⟨p, c, rfl, _⟩ := h1
  obtain ⟨q, d, rfl, _⟩ := h2
  obtain ⟨sn, rd, wl, ph, th, ad, wo, fo, at_⟩ := s
  dsimp only at hp
  subst hp
  simp only [stateV]
  obtain ⟨W, hW⟩ : ∃ W, w.alloc (.cells #[.int .u64 sn, .slice p rd.length c, .slice q wl.length d, .int .i64 9, .int .i64 th, .int .u64 ad, .int .u64 wo, .int .u64 fo, .int .i64 at_] 60) = W := ⟨_, rfl⟩
  have uW : Upd [] w W := by rw [← hW]; exact (Upd.refl [] _).alloc _
  have BW : Blk W w.heap.size [.int .u64 sn, .slice p rd.length c, .slice q wl.length d, .int .i64 9, .int .i64 th, .int .u64 ad, .int .u64 wo, .int .u64 fo, .int .i64 at_] 60 := by rw [← hW]; exact Blk.new w _ _
  have b3 := BW.cell 3 rfl
  have b4 := BW.cell 4 rfl
  have b5 := BW.cell 5 rfl
  have b6 := BW.cell 6 rfl
  have b7 := BW.cell 7 rfl
  have b8 := BW.cell 8 rfl
  clear BW
  refine calls_all fun K hK => ?_
  go_enter Try.func103, Try.ntmps103
  go_wp2
  all_goals
    refine ⟨⟨_, rfl, ?_⟩, uW⟩
    (try have ha := bne_iff_ne.1 (show (at_ != 0) = true by assumption))
    (try have ha := bne_eq_false_iff_eq.1 (show (at_ != 0) = false by assumption))
    (try have hw := bne_iff_ne.1 (show (wo != 0) = true by assumption))
    (try have hw := bne_eq_false_iff_eq.1 (show (wo != 0) = false by assumption))
    (try have hf := bne_iff_ne.1 (show (fo != 0) = true by assumption))
    (try have hf := bne_eq_false_iff_eq.1 (show (fo != 0) = false by assumption))
    (try have hd := bne_iff_ne.1 (show (ad != 0) = true by assumption))
    (try have hd := bne_eq_false_iff_eq.1 (show (ad != 0) = false by assumption))
    simp [SmallP, getsB, validB]
    try omega
theorem small_10 (s : AS) (rv wv : Value) (w : World) (h1 : SlC w rv s.reads) (h2 : SlC w wv s.writes) (hp : s.phase = 10) : Calls Try.prog 103 #[stateV s rv wv] w (SmallOk w s) := by
  obtain ⟨p, c, rfl, _⟩ := h1
  obtain ⟨q, d, rfl, _⟩ := h2
  obtain ⟨sn, rd, wl, ph, th, ad, wo, fo, at_⟩ := s
  dsimp only at hp
  subst hp
  simp only [stateV]
  obtain ⟨W, hW⟩ : ∃ W, w.alloc (.cells #[.int .u64 sn, .slice p rd.length c, .slice q wl.length d, .int .i64 10, .int .i64 th, .int .u64 ad, .int .u64 wo, .int .u64 fo, .int .i64 at_] 60) = W := ⟨_, rfl⟩
  have uW : Upd [] w W := by rw [← hW]; exact (Upd.refl [] _).alloc _
  have BW : Blk W w.heap.size [.int .u64 sn, .slice p rd.length c, .slice q wl.length d, .int .i64 10, .int .i64 th, .int .u64 ad, .int .u64 wo, .int .u64 fo, .int .i64 at_] 60 := by rw [← hW]; exact Blk.new w _ _
  have b3 := BW.cell 3 rfl
  have b4 := BW.cell 4 rfl
  have b5 := BW.cell 5 rfl
  have b6 := BW.cell 6 rfl
  have b7 := BW.cell 7 rfl
  have b8 := BW.cell 8 rfl
  clear BW
  refine calls_all fun K hK => ?_
  go_enter Try.func103, Try.ntmps103
  go_wp2
  all_goals
    refine ⟨⟨_, rfl, ?_⟩, uW⟩
    (try have ha := bne_iff_ne.1 (show (at_ != 0) = true by assumption))
    (try have ha := bne_eq_false_iff_eq.1 (show (at_ != 0) = false by assumption))
    (try have hw := bne_iff_ne.1 (show (wo != 0) = true by assumption))
    (try have hw := bne_eq_false_iff_eq.1 (show (wo != 0) = false by assumption))
    (try have hf := bne_iff_ne.1 (show (fo != 0) = true by assumption))
    (try have hf := bne_eq_false_iff_eq.1 (show (fo != 0) = false by assumption))
    (try have hd := bne_iff_ne.1 (show (ad != 0) = true by assumption))
    (try have hd := bne_eq_false_iff_eq.1 (show (ad != 0) = false by assumption))
    simp [SmallP, getsB, validB]
    try omega
theorem rsmall (s : AS) (rv wv : Value) (w : World) (h1 : SlC w rv s.reads) (h2 : SlC w wv s.writes) (hp : 1 ≤ s.phase ∧ s.phase ≤ 10) : Calls Try.prog 103 #[stateV s rv wv] w (SmallOk w s) := by
  have : s.phase = 1 ∨ s.phase = 2 ∨ s.phase = 3 ∨ s.phase = 4 ∨ s.phase = 5 ∨ s.phase = 6 ∨ s.phase = 7 ∨ s.phase = 8 ∨ s.phase = 9 ∨ s.phase = 10 := by omega
  rcases this with h | h | h | h | h | h | h | h | h | h
  · exact small_1 s rv wv w h1 h2 h
  · exact small_2 s rv wv w h1 h2 h
  · exact small_3 s rv wv w h1 h2 h
  · exact small_4 s rv wv w h1 h2 h
  · exact small_5 s rv wv w h1 h2 h
  · exact small_6 s rv wv w h1 h2 h
  · exact small_7 s rv wv w h1 h2 h
  · exact small_8 s rv wv w h1 h2 h
  · exact small_9 s rv wv w h1 h2 h
  · exact small_10 s rv wv w h1 h2 h
end Go.Proofs.Ythfeljongackcaa
set_option linter.unusedSimpArgs false
set_option linter.unusedVariables false
set_option maxRecDepth 100000
namespace Go.Proofs.Ythfeljongackcaa
open Go.RowKit
open Go.Maps
theorem SmallP.of_may {s : AS} (h : May s) : SmallP s := ⟨h.addr, h.word, h.found, h.at0, h.thn⟩
theorem rmay_ph (s : AS) (rv wv : Value) (w : World) (h1 : SlC w rv s.reads) (h2 : SlC w wv s.writes) (hp : s.phase < 1 ∨ 10 < s.phase) : Calls Try.prog 69 #[stateV s rv wv] w (MayOk w s) := by
  have hno : ¬ May s := fun h => by have := h.ph; omega
  refine calls_to (R := fun e w' => e = .returned (.bool false) ∧ Upd [] w w') ?_ (fun e w' ⟨he, hu⟩ => ⟨⟨false, he, by simp [hno]⟩, hu⟩)
  clear hno
  obtain ⟨p, c, rfl, _⟩ := h1
  obtain ⟨q, d, rfl, _⟩ := h2
  obtain ⟨sn, rd, wl, ph, th, ad, wo, fo, at_⟩ := s
  dsimp only at hp
  simp only [stateV]
  obtain ⟨W, hW⟩ : ∃ W, w.alloc (.cells #[.int .u64 sn, .slice p rd.length c, .slice q wl.length d, .int .i64 ph, .int .i64 th, .int .u64 ad, .int .u64 wo, .int .u64 fo, .int .i64 at_] 60) = W := ⟨_, rfl⟩
  have uW : Upd [] w W := by rw [← hW]; exact (Upd.refl [] _).alloc _
  have BW : Blk W w.heap.size [.int .u64 sn, .slice p rd.length c, .slice q wl.length d, .int .i64 ph, .int .i64 th, .int .u64 ad, .int .u64 wo, .int .u64 fo, .int .i64 at_] 60 := by rw [← hW]; exact Blk.new w _ _
  have b0 := (BW).cell 0 rfl
  have b1 := (BW).cell 1 rfl
  have b2 := (BW).cell 2 rfl
  have b3 := (BW).cell 3 rfl
  have b4 := (BW).cell 4 rfl
  have b5 := (BW).cell 5 rfl
  have b6 := (BW).cell 6 rfl
  have b7 := (BW).cell 7 rfl
  have b8 := (BW).cell 8 rfl
  clear BW
  by_cases hp1 : ph < 1
  · have d1 : decide (ph < 1) = true := by simpa using hp1
    refine calls_all fun K hK => ?_
    go_enter Try.func69, Try.ntmps69
    go_wp2
    all_goals exact ⟨rfl, uW⟩
  · have d1 : decide (ph < 1) = false := by simpa using hp1
    have d2 : decide (10 < ph) = true := by simp; omega
    refine calls_all fun K hK => ?_
    go_enter Try.func69, Try.ntmps69
    go_wp2
    all_goals exact ⟨rfl, uW⟩
set_option maxHeartbeats 1000000 in
theorem rmay_small (s : AS) (rv wv : Value) (w : World) (h1 : SlC w rv s.reads) (h2 : SlC w wv s.writes) (hW : Wide s) (hl1 : s.reads.length ≤ 4611686018427387903) (hl2 : s.writes.length ≤ 4611686018427387903) (hpr : 1 ≤ s.phase ∧ s.phase ≤ 10) (hsp : ¬ SmallP s) : Calls Try.prog 69 #[stateV s rv wv] w (MayOk w s) := by
  have hno : ¬ May s := fun h => hsp (SmallP.of_may h)
  refine calls_to (R := fun e w' => e = .returned (.bool false) ∧ Upd [] w w') ?_ (fun e w' ⟨he, hu⟩ => ⟨⟨false, he, by simp [hno]⟩, hu⟩)
  clear hno
  have HS := Lib.hid fun (W : World) (u : Upd [] w W) => rsmall s rv wv W (h1.upd0 u) (h2.upd0 u) hpr
  have HTw := Lib.hid fun (W : World) (u : Upd [] w W) => rtwice W wv s.writes (h2.upd0 u) (by omega)
  have HWr := Lib.hid fun (W : World) (u : Upd [] w W) => rwritten W wv s.writes s.addr (h2.upd0 u) (by omega)
  obtain ⟨p, c, rfl, _⟩ := h1
  obtain ⟨q, d, rfl, _⟩ := h2
  have HSP := Lib.hid hsp
  have hs0 := hW.snap
  have hf0 := hW.found
  clear hW hsp
  obtain ⟨sn, rd, wl, ph, th, ad, wo, fo, at_⟩ := s
  dsimp only at hpr hl1 hl2
  simp only [stateV] at HS ⊢
  have d1 : decide (ph < 1) = false := by simp; omega
  have d2 : decide (10 < ph) = false := by simp; omega
  obtain ⟨W, hW⟩ : ∃ W, w.alloc (.cells #[.int .u64 sn, .slice p rd.length c, .slice q wl.length d, .int .i64 ph, .int .i64 th, .int .u64 ad, .int .u64 wo, .int .u64 fo, .int .i64 at_] 60) = W := ⟨_, rfl⟩
  have uW : Upd [] w W := by rw [← hW]; exact (Upd.refl [] _).alloc _
  have BW : Blk W w.heap.size [.int .u64 sn, .slice p rd.length c, .slice q wl.length d, .int .i64 ph, .int .i64 th, .int .u64 ad, .int .u64 wo, .int .u64 fo, .int .i64 at_] 60 := by rw [← hW]; exact Blk.new w _ _
  have b0 := (BW).cell 0 rfl
  have b1 := (BW).cell 1 rfl
  have b2 := (BW).cell 2 rfl
  have b3 := (BW).cell 3 rfl
  have b4 := (BW).cell 4 rfl
  have b5 := (BW).cell 5 rfl
  have b6 := (BW).cell 6 rfl
  have b7 := (BW).cell 7 rfl
  have b8 := (BW).cell 8 rfl
  refine calls_all fun K hK => ?_
  go_enter Try.func69, Try.ntmps69
  go_wp2_with fail
  refine (HS.out W uW).mono ?_
  rintro e W2 ⟨⟨b, rfl, hb⟩, u2⟩
  obtain rfl : b = false := by first | exact hb.2 HSP.out | (cases b; rfl; exact absurd (hb.1 rfl) HSP.out)
  have U2 := uW.trans u2
  have B2 := BW.upd u2 (by simp)
  clear hb b0 b1 b2 b3 b4 b5 b6 b7 b8 hW
  have b0 := (B2).cell 0 rfl
  have b1 := (B2).cell 1 rfl
  have b2 := (B2).cell 2 rfl
  have b3 := (B2).cell 3 rfl
  have b4 := (B2).cell 4 rfl
  have b5 := (B2).cell 5 rfl
  have b6 := (B2).cell 6 rfl
  have b7 := (B2).cell 7 rfl
  have b8 := (B2).cell 8 rfl
  clear B2 u2 uW BW
  go_wp2_with fail
  all_goals exact ⟨rfl, U2⟩
set_option maxHeartbeats 2000000 in
theorem rmay_early (s : AS) (rv wv : Value) (w : World) (h1 : SlC w rv s.reads) (h2 : SlC w wv s.writes) (hW : Wide s) (hl1 : s.reads.length ≤ 4611686018427387903) (hl2 : s.writes.length ≤ 4611686018427387903) (hpr : 1 ≤ s.phase ∧ s.phase ≤ 10) (hsp : SmallP s) (h10 : s.phase ≠ 10) (hC : s.snap % 2 = 1 ∨ s.found % 2 = 1 ∨ 1024 < s.reads.length ∨ 1024 < s.writes.length ∨ ¬ (s.writes.map (·.1)).Nodup) : Calls Try.prog 69 #[stateV s rv wv] w (MayOk w s) := by
  have hno : ¬ May s := fun h => by
    have e1 := h.even
    have e2 := h.lenR
    have e3 := h.lenW
    have e4 := h.nodup
    rcases hC with k | k | k | k | k
    · omega
    · omega
    · omega
    · omega
    · exact k e4
  refine calls_to (R := fun e w' => e = .returned (.bool false) ∧ Upd [] w w') ?_ (fun e w' ⟨he, hu⟩ => ⟨⟨false, he, by simp [hno]⟩, hu⟩)
  clear hno
  have HS := Lib.hid fun (W : World) (u : Upd [] w W) => rsmall s rv wv W (h1.upd0 u) (h2.upd0 u) hpr
  have HTw := Lib.hid fun (W : World) (u : Upd [] w W) => rtwice W wv s.writes (h2.upd0 u) (by omega)
  have HWr := Lib.hid fun (W : World) (u : Upd [] w W) => rwritten W wv s.writes s.addr (h2.upd0 u) (by omega)
  obtain ⟨p, c, rfl, _⟩ := h1
  obtain ⟨q, d, rfl, _⟩ := h2
  have HSP := Lib.hid hsp
  have hs0 := hW.snap
  have hf0 := hW.found
  clear hW hsp
  obtain ⟨sn, rd, wl, ph, th, ad, wo, fo, at_⟩ := s
  dsimp only at hpr hl1 hl2 h10 hC hs0 hf0 HTw
  simp only [stateV] at HS ⊢
  have d1 : decide (ph < 1) = false := by simp; omega
  have d2 : decide (10 < ph) = false := by simp; omega
  have d3 : (ph == 10) = false := by simpa using h10
  obtain ⟨W, hW⟩ : ∃ W, w.alloc (.cells #[.int .u64 sn, .slice p rd.length c, .slice q wl.length d, .int .i64 ph, .int .i64 th, .int .u64 ad, .int .u64 wo, .int .u64 fo, .int .i64 at_] 60) = W := ⟨_, rfl⟩
  have uW : Upd [] w W := by rw [← hW]; exact (Upd.refl [] _).alloc _
  have BW : Blk W w.heap.size [.int .u64 sn, .slice p rd.length c, .slice q wl.length d, .int .i64 ph, .int .i64 th, .int .u64 ad, .int .u64 wo, .int .u64 fo, .int .i64 at_] 60 := by rw [← hW]; exact Blk.new w _ _
  have b0 := (BW).cell 0 rfl
  have b1 := (BW).cell 1 rfl
  have b2 := (BW).cell 2 rfl
  have b3 := (BW).cell 3 rfl
  have b4 := (BW).cell 4 rfl
  have b5 := (BW).cell 5 rfl
  have b6 := (BW).cell 6 rfl
  have b7 := (BW).cell 7 rfl
  have b8 := (BW).cell 8 rfl
  have HCC := Lib.hid hC
  clear hC h10
  by_cases c1 : sn % 2 = 1
  · have k1 : (sn % 2 == 1) = true := by simpa using c1
    clear c1
    refine calls_all fun K hK => ?_
    go_enter Try.func69, Try.ntmps69
    go_wp2_with fail
    refine (HS.out W uW).mono ?_
    rintro e W2 ⟨⟨b, rfl, hb⟩, u2⟩
    obtain rfl : b = true := by first | exact hb.2 HSP.out | (cases b; rfl; exact absurd (hb.1 rfl) HSP.out)
    have U2 := uW.trans u2
    have B2 := BW.upd u2 (by simp)
    clear hb b0 b1 b2 b3 b4 b5 b6 b7 b8 hW
    have b0 := (B2).cell 0 rfl
    have b1 := (B2).cell 1 rfl
    have b2 := (B2).cell 2 rfl
    have b3 := (B2).cell 3 rfl
    have b4 := (B2).cell 4 rfl
    have b5 := (B2).cell 5 rfl
    have b6 := (B2).cell 6 rfl
    have b7 := (B2).cell 7 rfl
    have b8 := (B2).cell 8 rfl
    clear B2 u2 uW BW
    go_wp2_with (go_at_call 104; refine (HTw.out _ U2).mono ?_; rintro e w' ⟨rfl, rfl⟩)
    all_goals exact ⟨rfl, U2⟩
  · have k1 : (sn % 2 == 1) = false := by simpa using c1
    by_cases c2 : fo % 2 = 1
    · have k2 : (fo % 2 == 1) = true := by simpa using c2
      clear c1 c2
      refine calls_all fun K hK => ?_
      go_enter Try.func69, Try.ntmps69
      go_wp2_with fail
      refine (HS.out W uW).mono ?_
      rintro e W2 ⟨⟨b, rfl, hb⟩, u2⟩
      obtain rfl : b = true := by first | exact hb.2 HSP.out | (cases b; rfl; exact absurd (hb.1 rfl) HSP.out)
      have U2 := uW.trans u2
      have B2 := BW.upd u2 (by simp)
      clear hb b0 b1 b2 b3 b4 b5 b6 b7 b8 hW
      have b0 := (B2).cell 0 rfl
      have b1 := (B2).cell 1 rfl
      have b2 := (B2).cell 2 rfl
      have b3 := (B2).cell 3 rfl
      have b4 := (B2).cell 4 rfl
      have b5 := (B2).cell 5 rfl
      have b6 := (B2).cell 6 rfl
      have b7 := (B2).cell 7 rfl
      have b8 := (B2).cell 8 rfl
      clear B2 u2 uW BW
      go_wp2_with (go_at_call 104; refine (HTw.out _ U2).mono ?_; rintro e w' ⟨rfl, rfl⟩)
      all_goals exact ⟨rfl, U2⟩
    · have k2 : (fo % 2 == 1) = false := by simpa using c2
      by_cases c3 : 1024 < rd.length
      · have k3 : decide ((1024 : Int) < (rd.length : Int)) = true := by simp; omega
        clear c1 c2
        refine calls_all fun K hK => ?_
        go_enter Try.func69, Try.ntmps69
        go_wp2_with fail
        refine (HS.out W uW).mono ?_
        rintro e W2 ⟨⟨b, rfl, hb⟩, u2⟩
        obtain rfl : b = true := by first | exact hb.2 HSP.out | (cases b; rfl; exact absurd (hb.1 rfl) HSP.out)
        have U2 := uW.trans u2
        have B2 := BW.upd u2 (by simp)
        clear hb b0 b1 b2 b3 b4 b5 b6 b7 b8 hW
        have b0 := (B2).cell 0 rfl
        have b1 := (B2).cell 1 rfl
        have b2 := (B2).cell 2 rfl
        have b3 := (B2).cell 3 rfl
        have b4 := (B2).cell 4 rfl
        have b5 := (B2).cell 5 rfl
        have b6 := (B2).cell 6 rfl
        have b7 := (B2).cell 7 rfl
        have b8 := (B2).cell 8 rfl
        clear B2 u2 uW BW
        go_wp2_with (go_at_call 104; refine (HTw.out _ U2).mono ?_; rintro e w' ⟨rfl, rfl⟩)
        all_goals exact ⟨rfl, U2⟩
      · have k3 : decide ((1024 : Int) < (rd.length : Int)) = false := by simp; omega
        by_cases c4 : 1024 < wl.length
        · have k4 : decide ((1024 : Int) < (wl.length : Int)) = true := by simp; omega
          clear c1 c2
          refine calls_all fun K hK => ?_
          go_enter Try.func69, Try.ntmps69
          go_wp2_with fail
          refine (HS.out W uW).mono ?_
          rintro e W2 ⟨⟨b, rfl, hb⟩, u2⟩
          obtain rfl : b = true := by first | exact hb.2 HSP.out | (cases b; rfl; exact absurd (hb.1 rfl) HSP.out)
          have U2 := uW.trans u2
          have B2 := BW.upd u2 (by simp)
          clear hb b0 b1 b2 b3 b4 b5 b6 b7 b8 hW
          have b0 := (B2).cell 0 rfl
          have b1 := (B2).cell 1 rfl
          have b2 := (B2).cell 2 rfl
          have b3 := (B2).cell 3 rfl
          have b4 := (B2).cell 4 rfl
          have b5 := (B2).cell 5 rfl
          have b6 := (B2).cell 6 rfl
          have b7 := (B2).cell 7 rfl
          have b8 := (B2).cell 8 rfl
          clear B2 u2 uW BW
          go_wp2_with (go_at_call 104; refine (HTw.out _ U2).mono ?_; rintro e w' ⟨rfl, rfl⟩)
          all_goals exact ⟨rfl, U2⟩
        · have k4 : decide ((1024 : Int) < (wl.length : Int)) = false := by simp; omega
          have c5 : ¬ (wl.map (·.1)).Nodup := by rcases HCC.out with k | k | k | k | k; exact absurd k c1; exact absurd k c2; exact absurd k c3; exact absurd k c4; exact k
          have HC5 := Lib.hid c5
          clear c1 c2 c5
          refine calls_all fun K hK => ?_
          go_enter Try.func69, Try.ntmps69
          go_wp2_with fail
          refine (HS.out W uW).mono ?_
          rintro e W2 ⟨⟨b, rfl, hb⟩, u2⟩
          obtain rfl : b = true := by first | exact hb.2 HSP.out | (cases b; rfl; exact absurd (hb.1 rfl) HSP.out)
          have U2 := uW.trans u2
          have B2 := BW.upd u2 (by simp)
          clear hb b0 b1 b2 b3 b4 b5 b6 b7 b8 hW
          have b0 := (B2).cell 0 rfl
          have b1 := (B2).cell 1 rfl
          have b2 := (B2).cell 2 rfl
          have b3 := (B2).cell 3 rfl
          have b4 := (B2).cell 4 rfl
          have b5 := (B2).cell 5 rfl
          have b6 := (B2).cell 6 rfl
          have b7 := (B2).cell 7 rfl
          have b8 := (B2).cell 8 rfl
          clear B2 u2 uW BW
          go_wp2_with fail
          refine (HTw.out _ U2).mono ?_
          rintro e w' ⟨⟨b, rfl, hb⟩, rfl⟩
          obtain rfl : b = true := hb.2 HC5.out
          clear hb
          go_wp2_with fail
          all_goals exact ⟨rfl, U2⟩
end Go.Proofs.Ythfeljongackcaa
