/- CodeReads' walk: of any bytes the instructions, or the place of the first one that is not there; what is read is written as these bytes. The conditions are sizes; the tables are laid. -/
import Derived.Test.YtjcnlfihjfcpoaaDoorCRRead
import Derived.Test.YtjcnlfihjfcpoaaDoorLBytes
set_option linter.unusedSimpArgs false
set_option linter.unusedVariables false
set_option maxRecDepth 100000
namespace Go.Proofs.YtjcnlfihjfcpoaaDoor
open Go.RowKit

/-- one Read's answer, both ways under one form -/
def Reads (f : FuncId) (l : List UInt8) (LL : List Ins) (M : Nat) (er : Value) : Prop := ∀ (w : World) (p : Option Addr) (c : Nat), SlB w p l → l.length ≤ c → Calls Tryd.prog f #[.slice p l.length c] w fun e w' => ∃ q cq, e = .returned (.tuple #[.slice q LL.length cq, .int .i64 (M : Int), er]) ∧ OwnI w' w.heap.size (.slice q LL.length cq) LL ∧ Upd [] w w'
theorem reads_of {f : FuncId} {l : List UInt8} {okv badv : Value} {X : List Ins × Nat × Bool} (H : ∀ w p c, SlB w p l → l.length ≤ c → Calls Tryd.prog f #[.slice p l.length c] w (readOk w okv badv X)) :
    Reads f l (if X.2.2 then X.1 else []) X.2.1 (if X.2.2 then okv else badv) := fun w p c h hc => (H w p c h hc).mono fun e w' h' => by
  rcases h' with ⟨hk, v, rfl, ho, hu⟩ | ⟨hk, rfl, hu⟩
  · rw [hk]
    obtain ⟨q, cq, rfl⟩ := own_form ho
    exact ⟨q, cq, rfl, ho, hu⟩
  · rw [hk]
    exact ⟨none, 0, rfl, World.ownsRow_nil _ _ _ _, hu⟩
theorem run_append_lit1 (t ty e : TypeId) (i : TypeInfo) (ht : Tryd.prog.underlying t = some (.slice e)) (hi : Tryd.prog.info? e = some i) (w : World) (a : Addr) (c : Nat) :
    (Builtin.append_ #[t, t] ty #[.slice (some a) 0 0, .slice none 0 c]).run Tryd.prog w = .ok (.slice (some a) 0 0) w := run_append_lit t ty e i ht hi w a none c
theorem bcells_snoc (l : List UInt8) (c : UInt8) (z : Int) (h : (c.toNat : Int) = z) : bcells l ++ [.int .u8 z] = bcells (l ++ [c]) := by simp [bcells, h]
theorem SlB.pre {w : World} {base g c : Nat} {l r : List UInt8} (h : OwnB w base (.slice (some ⟨g, 0, none⟩) (l ++ r).length c) (l ++ r)) : SlB w (some ⟨g, 0, none⟩) l := by
  have hs := SlB.of_own h
  refine ⟨fun _ => ⟨_, _, rfl⟩, fun b o e j hj => ?_⟩
  rw [hs.cells b o e j (by rw [List.length_append]; omega)]
  congr 3
  simp [List.getD, List.getElem?_append_left hj]
theorem SlB.src {w : World} {ad : Addr} {l : List UInt8} (h : SlB w (some ad) l) : ∀ j u, (bcells l)[j]? = some u → w.cell? (ad.add j) = some u := fun j u hu => by
  have hj : j < (bcells l).length := by
    rcases Nat.lt_or_ge j (bcells l).length with h | h
    · exact h
    · rw [List.getElem?_eq_none h] at hu; cases hu
  rw [bcells_len] at hj
  obtain ⟨b, o, e⟩ := h.ne (by rintro rfl; simp at hj)
  simp only [Option.some.injEq] at e
  subst e
  rw [addr_add, h.cells b o rfl j hj, ← hu]
  simp [bcells, hj, List.getD]

theorem conv_of {w : World} {p : Option Addr} {c : Nat} {l : List UInt8} (h : SlB w p l) : (convert 59 9 (.slice p l.length c)).run Tryd.prog w = .ok (.string ⟨l.toArray⟩) w := by
  cases p with
  | none =>
    have hl : l = [] := by
      cases l with
      | nil => rfl
      | cons a b => obtain ⟨_, _, e⟩ := h.ne (by simp); cases e
    subst hl
    rw [run_convert_bytes_string w 59 9 5 none _ _ Tryd.underlying59 Tryd.underlying5 Tryd.underlying9]
    simp [Conv.bytesToString]
    rfl
  | some ad =>
    have := run_convert_bytes_back (P := Tryd.prog) w 59 9 5 ad c l Tryd.underlying59 Tryd.underlying5 Tryd.underlying9 (fun j hj => by
      obtain ⟨b, o, e⟩ := h.ne (by rintro rfl; simp at hj)
      simp only [Option.some.injEq] at e
      subst e
      rw [addr_add, h.cells b o rfl j hj]
      simp [hj, List.getD])
    exact this


set_option maxHeartbeats 4000000 in
theorem codeReads_some (l : List UInt8) (LL : List Ins) (M : Nat) (er : Int) (okb : Bool) (ad : Addr) (cap : Nat) (w : World) (h : SlB w (some ad) l) (hc : l.length ≤ cap) (hn : l.length ≤ 1048576) (hLn : LL.length ≤ 1048576) (hP : Pre w) (hF : allFormed LL = true) (hw : words LL)
    (HR : Reads 31 l LL M (.int .i64 er)) (HS : Reads 32 l LL M (.bool okb)) (HE : (okb = true ∧ er = 0 ∧ bytesAll LL = l) ∨ (okb = false ∧ er = 180)) :
    Calls Tryd.prog 9 #[.slice (some ad) l.length cap] w fun e w' => e = .returned (.bool true) ∧ Upd [] w w' := by
  obtain ⟨i5, hi5, hz5, hs5, hy5⟩ := info_parts info_u8
  have o0 : (w.alloc (.cells #[] 5)).ownsRow w.heap.size 5 1 (.slice (some ⟨w.heap.size, 0, none⟩) 0 0) 0 [] := World.ownsRow_lit w #[] 0 (Nat.le_refl _) (by simp [maxLen]) (by simp)
  have u0 : Upd [] w (w.alloc (.cells #[] 5)) := (Upd.refl _ _).alloc _
  have hsrc := h.src
  have hlb : LL.length < 4611686018427387904 := by omega
  have HEE := Lib.hid HE
  clear HE
  refine calls_all fun K hK => ?_
  go_enter Tryd.func9, Tryd.ntmps9
  go_wp2_with (first | (at_builtin; refine wpList_append_own _ rfl (.tmp 12) (.tmp 13) 59 rfl w.heap.size 5 i5 (.int .u8 0) 1 1 Tryd.underlying59 hi5 hz5 hs5 hy5 rfl (by decide) _ _ _ rfl o0 ad l.length cap (bcells l) rfl (by rw [bcells_len, Nat.mul_one]) (fun j v hj => (World.cell?_alloc_old _ _ _ (Nat.ne_of_lt (World.block_lt_of_cell? _ _ (hsrc j v hj)))).trans (hsrc j v hj)) (bcells_one l) (by unfold maxLen; omega) (by omega) (by simp) ?_; intro v1 w1 ho1 hg1 _; rw [Nat.zero_add, List.nil_append] at ho1; have u1 : Upd [] w w1 := u0.tr (Upd.own hg1) (by simp) (fun g hg => .inr (own_blocks o0 g hg).1)) | (at_builtin; go_loud (refine wpList_append_own _ rfl (.tmp 14) (.tmp 15) 59 rfl w.heap.size 5 i5 (.int .u8 0) 1 1 Tryd.underlying59 hi5 hz5 hs5 hy5 rfl (by decide) _ _ _ rfl (ho1.alloc _) ⟨_, 0, none⟩ 1 1 [.int .u8 165] rfl rfl (news_new [.int .u8 165] 5 (by simp)) (by simp [Value.oneCell']) (by unfold maxLen; omega) (by omega) (by have := u1.size; simp; omega) ?_); intro v2 w2 ho2 hg2 _; go_loud (have U2 := Lib.hid ((u1.alloc (.cells #[.int .u8 165] 5)).tr (U := []) (Upd.own hg2) (by simp) (fun g hg => .inr (own_blocks ho1 g hg).1)); rw [bcells_snoc l 165 165 rfl] at ho2; obtain ⟨gx, cx, rfl⟩ := own_some ho2 (by omega); have OX : Hid (OwnB w2 w.heap.size (.slice (some ⟨gx, 0, none⟩) (l ++ [165]).length cx) (l ++ [165])) := Lib.hid (by unfold OwnB; simp only [List.length_append, List.length_cons, List.length_nil, Nat.zero_add]; exact ho2); have hlc0 : (l.length : Int) ≤ (cx : Int) := by (have := own_cap ho2; omega)); clear ho2 hg2 ho1 hg1 u1))
  -- x: .slice (some g) ((l).length + 1) c, OX: OwnB w2 w.heap.size x (l ++ [165]), U2 : Upd [] w w2
  have hcx := own_cap OX.out
  have hpre := SlB.pre OX.out
  rw [List.length_append] at hcx
  have hcx1 : (l).length + 1 ≤ cx := hcx
  have HPRE := Lib.hid hpre
  clear hpre hcx
  have hlc : ((l).length : Int) ≤ (cx : Int) := by omega
  have HR' := HR
  have HS' := HS
  clear HR HS
  go_wp2_with fail
  refine (HR' _ _ _ HPRE.out (by omega)).mono ?_
  rintro e w3 ⟨q3, c3, rfl, o3, u3⟩
  have O3 := Lib.hid o3
  have U3 := Lib.hid (U2.out.trans u3)
  have OX3 := Lib.hid (show OwnB w3 _ _ _ from own_upd OX.out u3 (by simp))
  clear o3 u3
  go_wp2_with fail
  refine (HS' _ _ _ (h.upd U3.out (by simp)) hc).mono ?_
  rintro e w4 ⟨q4, c4, rfl, o4, u4⟩
  have O4 := Lib.hid o4
  have U4 := Lib.hid (U3.out.trans u4)
  have OX4 := Lib.hid (show OwnB w4 _ _ _ from own_upd OX3.out u4 (by simp))
  have O34 := Lib.hid (show OwnI w4 _ _ _ from own_upd O3.out u4 (by simp))
  clear o4 u4 OX3 O3
  have hsb := h.upd U4.out (by simp)
  have HSB := Lib.hid hsb
  clear hsb
  go_wp2_with fail
  obtain ⟨T, hT, g, hg, hg2⟩ := fam [] w4
  have K1 : ∀ n, (convert 59 9 (.slice (some ⟨gx, 0, none⟩) (l).length cx)).run Tryd.prog (g n) = .ok (.string ⟨(l).toArray⟩) (g n) := fun n => by
    have := conv_sl (l).length cx (SlB.pre (show OwnB (g n) _ _ _ from own_upd OX4.out (hg n) (by simp))) (Nat.le_refl _)
    rwa [List.take_length] at this
  have K2 : ∀ n, (convert 59 9 (.slice (some ad) (l).length cap)).run Tryd.prog (g n) = .ok (.string ⟨(l).toArray⟩) (g n) := fun n => conv_of (HSB.out.upd (hg n) (by simp))
  have K3 : ∀ n, (g n).cell? ⟨gx, (l).length, none⟩ = some (.int .u8 165) := fun n => by
    have := (SlB.of_own (show OwnB (g n) _ _ _ from own_upd OX4.out (hg n) (by simp))).cells gx 0 rfl (l).length (by simp)
    rw [Nat.zero_add] at this
    rw [this]
    simp [List.getD]
  have hll : ((l) == (l)) = true := by simp
  have hne : ((M : Int) != (M : Int)) = false := by simp
  have hcq := own_cap O34.out
  have hLb : LL.length * 40 ≤ 140737488351232 := by omega
  rcases HEE.out with ⟨rfl, rfl, hba⟩ | ⟨rfl, rfl⟩
  all_goals
    refine wp_region_fam g (by kernel_rfl) (by kernel_rfl) (hg2 _ ((Upd.refl [] _).drew)) ?_
    repeat (go_big_quiet_step ((first | (go_at_call 27; exact Calls.fam_of0 hg hg2 (same_any LL q3 q4 c3 c4 _ hlb (OwnI.sl (show OwnI _ _ _ _ from own_upd O34.out (hg _) (by simp))) (OwnI.sl (show OwnI _ _ _ _ from own_upd O4.out (hg _) (by simp))))) | (go_at_call 20; exact Calls.fam_of0 hg hg2 ((num_any _ _).mono fun _ _ h9 => ⟨h9.1, by rw [h9.2]; exact Upd.refl _ _⟩)))))
    refine wpQuiet_nil ?_
    intro w5 hw5
    obtain ⟨n5, rfl⟩ := hw5
    have U5 := Lib.hid (U4.out.trans (hg n5))
    have O5 := Lib.hid (show OwnI (g n5) _ _ _ from own_upd O34.out (hg n5) (by simp))
    clear K1 K2 K3
    go_wp2_with fail
    refine (bytes_code LL q3 c3 _ (OwnI.sl O5.out) hw hcq hLb).mono ?_
    rintro e w6 (⟨_, v10, rfl, o6, u6⟩ | ⟨hbad, _⟩)
    rotate_left
    · rw [hF] at hbad; cases hbad
    have U6 := Lib.hid (U5.out.trans u6)
  · rw [hba] at o6
    have cv10 := conv_own (show OwnB _ _ _ _ from o6)
    have cvb := conv_of (c := cap) (h.upd U6.out (by simp))
    try simp only [List.length_nil] at cvb
    clear hba o6 u6
    go_wp2_with (first | (go_at_call 20; refine (num_any _ _).mono ?_; rintro e w' ⟨rfl, hw⟩; have hw2 := hw.symm; clear hw; subst hw2) | (go_at_call 16; refine (works _ (hP.upd U6.out)).mono ?_; rintro e w7 ⟨rfl, u7⟩))
    all_goals exact ⟨rfl, U6.out.trans u7⟩
  · clear o6 u6
    go_wp2_with (first | (go_at_call 20; refine (num_any _ _).mono ?_; rintro e w' ⟨rfl, hw⟩; have hw2 := hw.symm; clear hw; subst hw2) | (go_at_call 16; refine (works _ (hP.upd U6.out)).mono ?_; rintro e w7 ⟨rfl, u7⟩))
    all_goals exact ⟨rfl, U6.out.trans u7⟩

set_option maxHeartbeats 4000000 in
theorem codeReads_none (LL : List Ins) (M : Nat) (er : Int) (okb : Bool) (cap : Nat) (w : World) (l : List UInt8) (hl0 : l = []) (h : SlB w none l) (hc : l.length ≤ cap) (hLn : LL.length ≤ 1048576) (hP : Pre w) (hF : allFormed LL = true) (hw : words LL)
    (HR : Reads 31 l LL M (.int .i64 er)) (HS : Reads 32 l LL M (.bool okb)) (HE : (okb = true ∧ er = 0 ∧ bytesAll LL = l) ∨ (okb = false ∧ er = 180)) :
    Calls Tryd.prog 9 #[.slice none l.length cap] w fun e w' => e = .returned (.bool true) ∧ Upd [] w w' := by
  obtain ⟨i5, hi5, hz5, hs5, hy5⟩ := info_parts info_u8
  have o0 : (w.alloc (.cells #[] 5)).ownsRow w.heap.size 5 1 (.slice (some ⟨w.heap.size, 0, none⟩) 0 0) 0 [] := World.ownsRow_lit w #[] 0 (Nat.le_refl _) (by simp [maxLen]) (by simp)
  have u0 : Upd [] w (w.alloc (.cells #[] 5)) := (Upd.refl _ _).alloc _
  have hlb : LL.length < 4611686018427387904 := by omega
  have hr := run_append_lit1 59 59 5 i5 Tryd.underlying59 hi5
  have HEE := Lib.hid HE
  clear HE
  subst hl0
  refine calls_all fun K hK => ?_
  go_enter Tryd.func9, Tryd.ntmps9
  go_wp2_with (first | (at_builtin; refine wpList_append_eq rfl (.tmp 12) (.tmp 13) _ _ rfl _ _ _ rfl rfl (hr _ _ _) ?_) | (at_builtin; refine wpList_append_own _ rfl (.tmp 14) (.tmp 15) 59 rfl w.heap.size 5 i5 (.int .u8 0) 1 1 Tryd.underlying59 hi5 hz5 hs5 hy5 rfl (by decide) _ _ _ rfl (o0.alloc _) ⟨_, 0, none⟩ 1 1 [.int .u8 165] rfl rfl (news_new [.int .u8 165] 5 (by simp)) (by simp [Value.oneCell']) (by unfold maxLen; omega) (by omega) (by simp; omega) ?_; intro v2 w2 ho2 hg2 _; go_loud (have U2 := Lib.hid ((u0.alloc (.cells #[.int .u8 165] 5)).tr (U := []) (Upd.own hg2) (by simp) (fun g hg => .inr (own_blocks o0 g hg).1)); obtain ⟨gx, cx, rfl⟩ := own_some ho2 (by omega); have OX : Hid (OwnB w2 w.heap.size (.slice (some ⟨gx, 0, none⟩) (([] : List UInt8) ++ [165]).length cx) (([] : List UInt8) ++ [165])) := Lib.hid (by unfold OwnB; exact ho2); have hlc0 : (0 : Int) ≤ (cx : Int) := by omega); clear ho2 hg2 o0))
  -- x: .slice (some g) ((([] : List UInt8)).length + 1) c, OX: OwnB w2 w.heap.size x (([] : List UInt8) ++ [165]), U2 : Upd [] w w2
  have hcx := own_cap OX.out
  have hpre := SlB.pre OX.out
  rw [List.length_append] at hcx
  have hcx1 : (([] : List UInt8)).length + 1 ≤ cx := hcx
  have HPRE := Lib.hid hpre
  clear hpre hcx
  have hlc : ((([] : List UInt8)).length : Int) ≤ (cx : Int) := by omega
  have HR' := HR
  have HS' := HS
  clear HR HS
  go_wp2_with fail
  refine (HR' _ _ _ HPRE.out (by omega)).mono ?_
  rintro e w3 ⟨q3, c3, rfl, o3, u3⟩
  have O3 := Lib.hid o3
  have U3 := Lib.hid (U2.out.trans u3)
  have OX3 := Lib.hid (show OwnB w3 _ _ _ from own_upd OX.out u3 (by simp))
  clear o3 u3
  go_wp2_with fail
  refine (HS' _ _ _ (h.upd U3.out (by simp)) hc).mono ?_
  rintro e w4 ⟨q4, c4, rfl, o4, u4⟩
  have O4 := Lib.hid o4
  have U4 := Lib.hid (U3.out.trans u4)
  have OX4 := Lib.hid (show OwnB w4 _ _ _ from own_upd OX3.out u4 (by simp))
  have O34 := Lib.hid (show OwnI w4 _ _ _ from own_upd O3.out u4 (by simp))
  clear o4 u4 OX3 O3
  have hsb := h.upd U4.out (by simp)
  have HSB := Lib.hid hsb
  clear hsb
  go_wp2_with fail
  obtain ⟨T, hT, g, hg, hg2⟩ := fam [] w4
  have K1 : ∀ n, (convert 59 9 (.slice (some ⟨gx, 0, none⟩) (([] : List UInt8)).length cx)).run Tryd.prog (g n) = .ok (.string ⟨(([] : List UInt8)).toArray⟩) (g n) := fun n => by
    have := conv_sl (([] : List UInt8)).length cx (SlB.pre (show OwnB (g n) _ _ _ from own_upd OX4.out (hg n) (by simp))) (Nat.le_refl _)
    rwa [List.take_length] at this
  have K2 : ∀ n, (convert 59 9 (.slice none (([] : List UInt8)).length cap)).run Tryd.prog (g n) = .ok (.string ⟨(([] : List UInt8)).toArray⟩) (g n) := fun n => conv_of (HSB.out.upd (hg n) (by simp))
  have K3 : ∀ n, (g n).cell? ⟨gx, (([] : List UInt8)).length, none⟩ = some (.int .u8 165) := fun n => by
    have := (SlB.of_own (show OwnB (g n) _ _ _ from own_upd OX4.out (hg n) (by simp))).cells gx 0 rfl (([] : List UInt8)).length (by simp)
    rw [Nat.zero_add] at this
    rw [this]
    simp [List.getD]
  have hll : ((([] : List UInt8)) == (([] : List UInt8))) = true := by simp
  have hne : ((M : Int) != (M : Int)) = false := by simp
  simp only [List.length_nil] at K1 K2 K3
  have hcq := own_cap O34.out
  have hLb : LL.length * 40 ≤ 140737488351232 := by omega
  rcases HEE.out with ⟨rfl, rfl, hba⟩ | ⟨rfl, rfl⟩
  all_goals
    refine wp_region_fam g (by kernel_rfl) (by kernel_rfl) (hg2 _ ((Upd.refl [] _).drew)) ?_
    repeat (go_big_quiet_step ((first | (go_at_call 27; exact Calls.fam_of0 hg hg2 (same_any LL q3 q4 c3 c4 _ hlb (OwnI.sl (show OwnI _ _ _ _ from own_upd O34.out (hg _) (by simp))) (OwnI.sl (show OwnI _ _ _ _ from own_upd O4.out (hg _) (by simp))))) | (go_at_call 20; exact Calls.fam_of0 hg hg2 ((num_any _ _).mono fun _ _ h9 => ⟨h9.1, by rw [h9.2]; exact Upd.refl _ _⟩)))))
    refine wpQuiet_nil ?_
    intro w5 hw5
    obtain ⟨n5, rfl⟩ := hw5
    have U5 := Lib.hid (U4.out.trans (hg n5))
    have O5 := Lib.hid (show OwnI (g n5) _ _ _ from own_upd O34.out (hg n5) (by simp))
    clear K1 K2 K3
    go_wp2_with fail
    refine (bytes_code LL q3 c3 _ (OwnI.sl O5.out) hw hcq hLb).mono ?_
    rintro e w6 (⟨_, v10, rfl, o6, u6⟩ | ⟨hbad, _⟩)
    rotate_left
    · rw [hF] at hbad; cases hbad
    have U6 := Lib.hid (U5.out.trans u6)
  · rw [hba] at o6
    have cv10 := conv_own (show OwnB _ _ _ _ from o6)
    have cvb := conv_of (c := cap) (h.upd U6.out (by simp))
    try simp only [List.length_nil] at cvb
    clear hba o6 u6
    go_wp2_with (first | (go_at_call 20; refine (num_any _ _).mono ?_; rintro e w' ⟨rfl, hw⟩; have hw2 := hw.symm; clear hw; subst hw2) | (go_at_call 16; refine (works _ (hP.upd U6.out)).mono ?_; rintro e w7 ⟨rfl, u7⟩))
    all_goals exact ⟨rfl, U6.out.trans u7⟩
  · clear o6 u6
    go_wp2_with (first | (go_at_call 20; refine (num_any _ _).mono ?_; rintro e w' ⟨rfl, hw⟩; have hw2 := hw.symm; clear hw; subst hw2) | (go_at_call 16; refine (works _ (hP.upd U6.out)).mono ?_; rintro e w7 ⟨rfl, u7⟩))
    all_goals exact ⟨rfl, U6.out.trans u7⟩

theorem codeReads_walk (l : List UInt8) (p : Option Addr) (cap : Nat) (w : World) (h : SlB w p l) (hc : l.length ≤ cap) (hn : l.length ≤ 1048576) (hP : Pre w) :
    Calls Tryd.prog 9 #[.slice p l.length cap] w fun e w' => e = .returned (.bool true) ∧ Upd [] w w' := by
  obtain ⟨h1, h2, h3, h4, r, h5, h6⟩ := read_says l
  have hlen : (readL l).1.length ≤ l.length := by
    have := congrArg List.length h5
    rw [List.length_append, ← h3] at this
    omega
  have HR := reads_of (f := 31) (l := l) (okv := .int .i64 0) (badv := .int .i64 180) (X := readL l) fun w p c h hc => read_code l p c w h hc (by omega) (by omega)
  have HS := reads_of (f := 32) (l := l) (okv := .bool true) (badv := .bool false) (X := readL l) fun w p c h hc => rread_ref l p c w h hc (by omega) (by omega)
  have core : ∀ (LL : List Ins) (M : Nat) (er : Int) (okb : Bool), LL.length ≤ 1048576 → allFormed LL = true → words LL → Reads 31 l LL M (.int .i64 er) → Reads 32 l LL M (.bool okb) → ((okb = true ∧ er = 0 ∧ bytesAll LL = l) ∨ (okb = false ∧ er = 180)) →
      Calls Tryd.prog 9 #[.slice p l.length cap] w fun e w' => e = .returned (.bool true) ∧ Upd [] w w' := fun LL M er okb k1 k2 k3 k4 k5 k6 => by
    cases p with
    | none =>
      have hl : l = [] := by
        cases l with
        | nil => rfl
        | cons a b => obtain ⟨_, _, e⟩ := h.ne (by simp); cases e
      exact codeReads_none LL M er okb cap w l hl h hc k1 hP k2 k3 k4 k5 k6
    | some ad => exact codeReads_some l LL M er okb ad cap w h hc hn k1 hP k2 k3 k4 k5 k6
  cases hk : (readL l).2.2 with
  | true =>
    rw [hk] at HR HS
    simp only [if_true] at HR HS
    refine core (readL l).1 _ 0 true (by omega) h1 h2 HR HS (.inl ⟨rfl, rfl, ?_⟩)
    have := h6 hk
    subst this
    rw [List.append_nil] at h5
    exact h5.symm
  | false =>
    rw [hk] at HR HS
    simp only [Bool.false_eq_true, if_false] at HR HS
    exact core [] _ 180 false (by simp) rfl (fun _ h => by simp at h) HR HS (.inr ⟨rfl, rfl⟩)

/-- a slice of bytes that came in -/
theorem SlB.of_ints {w : World} {p : Option Addr} {zs : List Int} (h : SlI w .u8 p zs) (hb : ∀ n ∈ zs, (Lit.int .u8 n).wf = true) : ∃ l : List UInt8, l.length = zs.length ∧ SlB w p l := by
  refine ⟨zs.map fun z => UInt8.ofNat z.toNat, by simp, fun hne => h.ne (by rintro rfl; simp at hne), fun b o e j hj => ?_⟩
  rw [List.length_map] at hj
  rw [h.cells b o e j hj]
  have hz := hb zs[j] (List.getElem_mem hj)
  have hz2 : 0 ≤ zs[j] ∧ zs[j] ≤ 255 := by simpa [Lit.wf, IntKind.min, IntKind.max, IntKind.signed, IntKind.bits] using hz
  have h1 : (zs.map fun z => UInt8.ofNat z.toNat).getD j 0 = UInt8.ofNat zs[j].toNat := by simp [List.getD, hj]
  rw [h1, ofNat_toNat hz2.1 (by omega), wd_get hj]
end Go.Proofs.YtjcnlfihjfcpoaaDoor
