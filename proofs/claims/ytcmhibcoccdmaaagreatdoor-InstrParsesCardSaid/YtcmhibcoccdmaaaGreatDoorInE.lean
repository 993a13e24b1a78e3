/- Texts of numbers: tag, number; may a global be? -/
import Derived.Test.YtcmhibcoccdmaaaGreatDoorInD
import Derived.Test.YtcmhibcoccdmaaaGreatDoorBld
import Derived.Test.YtcmhibcoccdmaaaGreatDoorShelf
import Derived.Laws.IdiomStrings
import Derived.Lib.ItoaLen
import Derived.Lib.LaidTab
import Derived.Lib.AppendIntMem
import Derived.Lib.AtoiAllCases
namespace Go.Proofs.YtcmhibcoccdmaaaGreatDoor.P
open Go.RowKit Go.Shelf Go.Proofs.YtcmhibcoccdmaaaGreatDoorW.PrintWords Go.Proofs.YtcmhibcoccdmaaaGreatDoorW.PrintLast Go.Proofs.YtcmhibcoccdmaaaGreatDoor.Rw
set_option linter.unusedVariables false
set_option linter.unusedSimpArgs false
def isErrV (ev : Value) : Prop := ev = .nilIface ∨ ∃ te pe, ev = .iface te pe
/-- What the library asks of the variables: the tables of its numbers, its errors, the shortest search. -/
structure GT (w : World) : Prop where
  tab : Lib.TabIs Tryz.prog w "internal/strconv.uint64pow10" .u64 Lib.pow10Tab
  syn : ∃ ev, w.cell? ⟨2, 0, none⟩ = some ev ∧ isErrV ev
  rng : ∃ ev, w.cell? ⟨3, 0, none⟩ = some ev ∧ isErrV ev
  mx : ∃ m, w.cell? ⟨0, 0, none⟩ = some (.int .i64 m)
theorem cell_same {w w' : World} {b : Nat} (h : w'.heap[b]? = w.heap[b]?) : w'.cell? ⟨b, 0, none⟩ = w.cell? ⟨b, 0, none⟩ := by
  unfold World.cell?; simp only [h]
theorem cell_lt {w : World} {b : Nat} {v : Value} (h : w.cell? ⟨b, 0, none⟩ = some v) : b < w.heap.size := by
  unfold World.cell? at h
  rcases Nat.lt_or_ge b w.heap.size with h' | h'
  · exact h'
  · simp [Array.getElem?_eq_none h'] at h
theorem tab_below {w w' : World} (h : Lib.TabIs Tryz.prog w "internal/strconv.uint64pow10" .u64 Lib.pow10Tab) (hk : Below w.heap.size w w') : Lib.TabIs Tryz.prog w' "internal/strconv.uint64pow10" .u64 Lib.pow10Tab := by
  unfold Lib.TabIs World.var? at *
  have hg : Tryz.prog.globalNamed "internal/strconv.uint64pow10" = some 1 := by kernel_rfl
  rw [hg] at h ⊢
  simp only [Option.bind_some] at h ⊢
  have hl : 1 < w.heap.size := by
    rcases Nat.lt_or_ge 1 w.heap.size with h' | h'
    · exact h'
    · rw [Array.getElem?_eq_none h'] at h; cases h
  rw [hk.block 1 hl]
  exact h
theorem GT.below {w w' : World} (h : GT w) (hk : Below w.heap.size w w') : GT w' := by
  obtain ⟨h1, ⟨e2, h2, k2⟩, ⟨e3, h3, k3⟩, m, h4⟩ := h
  exact ⟨tab_below h1 hk, ⟨e2, (cell_same (hk.block _ (cell_lt h2))).trans h2, k2⟩, ⟨e3, (cell_same (hk.block _ (cell_lt h3))).trans h3, k3⟩, m, (cell_same (hk.block _ (cell_lt h4))).trans h4⟩
theorem itoa_calls (n : Int) (h0 : -9223372036854775808 ≤ n) (h1 : n ≤ 9223372036854775807) (w : World) (hT : GT w) : Calls Tryz.prog 34 #[.int .i64 n] w fun e w' => e = .returned (.string ⟨(Lib.itoa n).toArray⟩) ∧ Below w.heap.size w w' :=
  (Tryz.strconv_Itoa n h0 h1 w hT.tab).mono fun e w' ⟨h, nd, os, h2⟩ => ⟨h, by subst h2; exact Lib.below_grow _ _ (Nat.le_refl _) _ _⟩
/-- A numeral's number. -/
def numV (l : List UInt8) : Option Int := match Lib.atoiAll l with | .ok v => some v | _ => none
theorem numV_range {l : List UInt8} {v : Int} (h : numV l = some v) : -9223372036854775808 ≤ v ∧ v ≤ 9223372036854775807 := by
  unfold numV at h
  split at h
  · cases h
    rename_i h'
    exact Lib.atoiAll_bounds h'
  · cases h
theorem atoi_good (s : ByteArray) (hs : s.size ≤ 140737488351232) (v : Int) (h : numV s.data.toList = some v) (w : World) : Calls Tryz.prog 73 #[.string s] w fun e w' => e = .returned (.tuple #[.int .i64 v, .nilIface]) ∧ Below w.heap.size w w' := by
  unfold numV at h
  split at h
  · cases h
    rename_i h'
    refine (Tryz.strconv_Atoi_ok s (by omega) v h' w).mono ?_
    rintro e w' ⟨rfl, (rfl | ⟨t, rfl⟩)⟩
    · exact ⟨rfl, Below.refl _ _⟩
    · exact ⟨rfl, Lib.bytesWorld_below _ _ _⟩
  · cases h
theorem atoi_bad (s : ByteArray) (hs : s.size ≤ 140737488351232) (h : numV s.data.toList = none) (w : World) (hG : GT w) : Calls Tryz.prog 73 #[.string s] w fun e w' => (∃ x N, e = .returned (.tuple #[.int .i64 x, .iface 142 (.pointer (some ⟨N, 0, none⟩))])) ∧ Below w.heap.size w w' := by
  unfold numV at h
  cases h' : Lib.atoiAll s.data.toList with
  | ok v => rw [h'] at h; cases h
  | range =>
    obtain ⟨ev, hv, hev⟩ := hG.rng
    refine (Tryz.strconv_Atoi_range s (by omega) h' ev w hv hev).mono ?_
    rintro e w' ⟨N, rfl, _, _, hb⟩
    exact ⟨⟨_, N, rfl⟩, hb⟩
  | _ =>
    obtain ⟨ev, hv, hev⟩ := hG.syn
    refine (Tryz.strconv_Atoi_syntax s (by omega) h' ev w hv hev).mono ?_
    rintro e w' ⟨N, rfl, _, _, hb⟩
    exact ⟨⟨_, N, rfl⟩, hb⟩
/-- A number's text, a default's too. -/
def tagL (n : Int) : List UInt8 := if n = -1 then [95] else Lib.itoa n
set_option maxHeartbeats 4000000 in
set_option maxRecDepth 100000 in
theorem tag_calls (n : Int) (h0 : -9223372036854775808 ≤ n) (h1 : n ≤ 9223372036854775807) (w : World) (hT : GT w) : Calls Tryz.prog 69 #[.int .i64 n] w fun e w' => e = .returned (.string ⟨(tagL n).toArray⟩) ∧ Below w.heap.size w w' := by
  have HT := Lib.hid hT
  clear hT
  unfold tagL
  by_cases h : n = -1
  · rw [if_pos h]
    have hb : (n == -1) = true := beq_iff_eq.2 h
    clear h0 h1
    go_enter Tryz.func69, Tryz.ntmps69
    go_wp2_with fail
    go_ret
    exact ⟨rfl, Below.refl _ _⟩
  · rw [if_neg h]
    have hb : (n == -1) = false := beq_eq_false_iff_ne.2 h
    go_enter Tryz.func69, Tryz.ntmps69
    go_wp2_with fail
    refine (itoa_calls n h0 h1 w HT.out).mono ?_
    rintro e w1 ⟨rfl, hb1⟩
    have HB := Lib.hid hb1
    clear hb1
    go_wp2_with fail
    go_ret
    exact ⟨rfl, HB.out⟩
/-- The number that a text is the plain text of. -/
def numP (l : List UInt8) : Option Int := match numV l with | some v => if Lib.itoa v = l then some v else none | none => none
def NumR (l : List UInt8) (w : World) (e : Ending) (w' : World) : Prop := ∃ n, e = .returned (.tuple #[.int .i64 n, .bool (numP l).isSome]) ∧ (∀ v, numP l = some v → n = v) ∧ Below w.heap.size w w'
set_option maxHeartbeats 4000000 in
set_option maxRecDepth 100000 in
theorem number_calls (s : ByteArray) (hs : s.size ≤ 140737488351232) (w : World) (hT : GT w) : Calls Tryz.prog 50 #[.string s] w (NumR s.data.toList w) := by
  have HT := Lib.hid hT
  clear hT
  have hP : numP s.data.toList = match numV s.data.toList with | some v => if Lib.itoa v = s.data.toList then some v else none | none => none := rfl
  cases h : numV s.data.toList with
  | none =>
    rw [h] at hP
    have HP := Lib.hid hP
    have HV := Lib.hid h
    clear hP h
    go_enter Tryz.func50, Tryz.ntmps50
    go_wp2_with fail
    refine (atoi_bad s hs HV.out w HT.out).mono ?_
    rintro e w1 ⟨⟨x, N, rfl⟩, hb1⟩
    have HB := Lib.hid hb1
    clear hb1
    go_wp2_with fail
    go_ret2
    refine ⟨x, by rw [HP.out]; rfl, ?_, HB.out⟩
    rw [HP.out]; intro v hv; cases hv
  | some v =>
    rw [h] at hP
    have hr := numV_range h
    have HP := Lib.hid hP
    have HV := Lib.hid h
    clear hP h
    go_enter Tryz.func50, Tryz.ntmps50
    go_wp2_with fail
    refine (atoi_good s hs v HV.out w).mono ?_
    rintro e w1 ⟨rfl, hb1⟩
    have HB := Lib.hid hb1
    clear hb1
    go_wp2_with fail
    refine (itoa_calls v hr.1 hr.2 w1 (HT.out.below HB.out)).mono ?_
    rintro e w2 ⟨rfl, hb2⟩
    have HB2 := Lib.hid (bel2 HB.out hb2)
    clear hb2
    by_cases he : Lib.itoa v = s.data.toList
    · have hP2 := HP.out.trans (if_pos he)
      have HP2 := Lib.hid hP2
      have he' : ((Lib.itoa v) == s.data.toList) = true := beq_iff_eq.2 he
      have HE := Lib.hid he
      clear hP2 he
      go_wp2_with fail
      go_ret2
      refine ⟨v, by rw [HP2.out]; simp [HE.out, ByteArray.toList_eq], ?_, HB2.out⟩
      rw [HP2.out]; intro u hu; cases hu; rfl
    · have hP2 := HP.out.trans (if_neg he)
      have HP2 := Lib.hid hP2
      have HE := Lib.hid he
      clear hP2 he
      go_wp2_with fail
      go_ret2
      refine ⟨v, by rw [HP2.out]; simp [ByteArray.toList_eq]; exact HE.out, ?_, HB2.out⟩
      rw [HP2.out]; intro u hu; cases hu
def globB (name : ByteArray) (ar en : Int) : Bool := decide (0 ≤ ar ∧ ar ≤ 255) && (decide (0 ≤ en ∧ en ≤ 65536) && (!(name.toList == []) && !decide (0 ≤ Lib.indexByte name.data.toList 10)))
set_option maxHeartbeats 4000000 in
set_option maxRecDepth 100000 in
theorem globB_calls (name : ByteArray) (ar en : Int) (w : World) : Calls Tryz.prog 29 #[.agg #[.string name, .int .i64 ar, .int .i64 en]] w fun e w' => e = .returned (.bool (globB name ar en)) ∧ Below w.heap.size w w' := by
  have hP : globB name ar en = (decide (0 ≤ ar ∧ ar ≤ 255) && (decide (0 ≤ en ∧ en ≤ 65536) && (!(name.toList == []) && !decide (0 ≤ Lib.indexByte name.data.toList 10)))) := rfl
  have HP := Lib.hid hP
  clear hP
  go_enter Tryz.func29, Tryz.ntmps29
  go_wp2_with fail
  have hbx := heap_new w (.cells #[.string name, .int .i64 ar, .int .i64 en] 52)
  have hB1 := (Below.refl _ w).alloc (Nat.le_refl _) (.cells #[.string name, .int .i64 ar, .int .i64 en] 52)
  generalize w.alloc (.cells #[.string name, .int .i64 ar, .int .i64 en] 52) = w1 at hbx hB1 ⊢
  refine (within_calls 0 ar 255 w1).mono ?_
  rintro e w2 ⟨rfl, hb2⟩
  have HX2 := Lib.hid ((hb2.block w.heap.size (Array.getElem?_eq_some_iff.1 hbx).1).trans hbx)
  have HB2 := Lib.hid (bel2 hB1 hb2)
  clear hb2 hbx hB1
  have x0 := cell_in HX2.out 0
  have x1 := cell_in HX2.out 1
  have x2 := cell_in HX2.out 2
  rcases Bool.eq_false_or_eq_true (decide (0 ≤ ar ∧ ar ≤ 255)) with d1 | d1
  all_goals (rw [d1] at HP ⊢)
  · go_wp2_with fail
    refine (within_calls 0 en 65536 w2).mono ?_
    rintro e w3 ⟨rfl, hb3⟩
    have HX3 := Lib.hid ((hb3.block w.heap.size (Array.getElem?_eq_some_iff.1 HX2.out).1).trans HX2.out)
    have HB3 := Lib.hid (bel2 HB2.out hb3)
    clear hb3 x0 x1 x2
    have x0 := cell_in HX3.out 0
    have x1 := cell_in HX3.out 1
    have x2 := cell_in HX3.out 2
    rcases Bool.eq_false_or_eq_true (decide (0 ≤ en ∧ en ≤ 65536)) with d2 | d2
    all_goals (rw [d2] at HP ⊢)
    · rcases Bool.eq_false_or_eq_true (name.toList == []) with d3 | d3
      all_goals (rw [d3] at HP)
      · go_wp2_with fail
        go_ret
        exact ⟨by rw [HP.out]; rfl, HB3.out⟩
      · go_wp2_with fail
        refine (Tryz.strings_Contains_one name 10 w3).mono ?_
        rintro e w4 ⟨rfl, rfl⟩
        rcases Bool.eq_false_or_eq_true (decide (0 ≤ Lib.indexByte name.data.toList 10)) with d4 | d4
        all_goals (rw [d4] at HP ⊢)
        all_goals (
          go_wp2_with fail
          go_ret
          exact ⟨by rw [HP.out]; rfl, HB3.out⟩)
    · go_wp2_with fail
      go_ret
      exact ⟨by rw [HP.out]; rfl, HB3.out⟩
  · go_wp2_with fail
    go_ret
    exact ⟨by rw [HP.out]; rfl, HB2.out⟩
end Go.Proofs.YtcmhibcoccdmaaaGreatDoor.P
