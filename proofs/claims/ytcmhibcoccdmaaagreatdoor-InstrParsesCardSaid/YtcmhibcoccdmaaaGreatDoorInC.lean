/- Instructions: may one be? What it reads and leaves. -/
import Derived.Test.YtcmhibcoccdmaaaGreatDoorInB
namespace Go.Proofs.YtcmhibcoccdmaaaGreatDoor.P
open Go.RowKit Go.Proofs.YtcmhibcoccdmaaaGreatDoorW.PrintWords Go.Proofs.YtcmhibcoccdmaaaGreatDoorW.PrintLast Go.Proofs.YtcmhibcoccdmaaaGreatDoor.Rw
set_option linter.unusedVariables false
set_option linter.unusedSimpArgs false
set_option maxHeartbeats 4000000 in
set_option maxRecDepth 100000 in
/-- No such form. -/
theorem form_no (op a b : Int) (A : Option Addr) (n c : Nat) (w : World) (h : op < 0 ∨ 17 ≤ op) : Calls Tryz.prog 42 #[.agg #[.int .i64 op, .int .i64 a, .int .i64 b, .slice A n c]] w fun e w' => e = .returned (.tuple #[.agg #[.string ⟨#[]⟩, .int .i64 0, .int .i64 0, .int .i64 0, .int .i64 0, .int .i64 0, .int .i64 0, .int .i64 0], .bool false]) ∧ Below w.heap.size w w' := by
  obtain ⟨hz, hs⟩ := zero_of_info infoA
  go_enter Tryz.func42, Tryz.ntmps42
  go_wp2_with fail
  refine (forms_calls _).mono ?_
  rintro e w2 ⟨rfl, hb2⟩
  have hbx := (hb2.block w.heap.size (by simp; omega)).trans (new2_a w _ _)
  have hby := (hb2.block (w.heap.size + 1) (by simp)).trans (new2_b w _ _)
  have hB2 : Below w.heap.size w w2 := by
    have ha := ((Below.refl _ w).alloc (Nat.le_refl _) (.cells #[.int .i64 op, .int .i64 a, .int .i64 b, .slice A n c] 46)).alloc (by simp) (.cells #[.string ⟨#[]⟩, .int .i64 0, .int .i64 0, .int .i64 0, .int .i64 0, .int .i64 0, .int .i64 0, .int .i64 0] 93)
    exact ha.trans (hb2.mono ha.size)
  have hx0 := fun o => cell_allocN o (cell_in hbx 0)
  have hyo := (heap_old w2 (.cells formsA 101) (w.heap.size + 1) (Array.getElem?_eq_some_iff.1 hby).1).trans hby
  have y0 := cell_in hyo 0
  have y1 := cell_in hyo 1
  have y2 := cell_in hyo 2
  have y3 := cell_in hyo 3
  have y4 := cell_in hyo 4
  have y5 := cell_in hyo 5
  have y6 := cell_in hyo 6
  have y7 := cell_in hyo 7
  have z0 := blk_frozen hyo 0
  have z1 := blk_frozen hyo 1
  have z2 := blk_frozen hyo 2
  have z3 := blk_frozen hyo 3
  have z4 := blk_frozen hyo 4
  have z5 := blk_frozen hyo 5
  have z6 := blk_frozen hyo 6
  have z7 := blk_frozen hyo 7
  have HBX := Lib.hid hbx
  have HYO := Lib.hid hyo
  have HB2 := Lib.hid hB2
  clear hb2 hbx hby hB2 hyo hs
  have hsp : (decide (op < 0) = true) ∨ (decide (op < 0) = false ∧ decide (17 ≤ op) = true) := by
    rcases Classical.em (op < 0) with h1 | h1
    · exact .inl (decide_eq_true h1)
    · exact .inr ⟨decide_eq_false h1, decide_eq_true (by omega)⟩
  clear h
  rcases hsp with s1 | ⟨s1, s2⟩
  all_goals go_wp2_with (first | (refine wpList_store_row rfl _ _ _ rfl w2.heap.size formsA rfl rfl 101 zeroA (heap_alloc_last _ _) sizeA (by kernel_rfl) oneA ?_; rw [World.setRow_alloc_new]))
  all_goals (
    have hbr := heap_set8 HYO.out (.string ⟨#[]⟩) (.int .i64 0) (.int .i64 0) (.int .i64 0) (.int .i64 0) (.int .i64 0) (.int .i64 0) (.int .i64 0)
    have hgr := grown_set8 (w2.alloc (.cells formsA 101)) (w.heap.size + 1) (.string ⟨#[]⟩) (.int .i64 0) (.int .i64 0) (.int .i64 0) (.int .i64 0) (.int .i64 0) (.int .i64 0) (.int .i64 0)
    have hB3 := below_grown (HB2.out.trans ((Below.refl _ w2).alloc HB2.out.size (.cells formsA 101))) hgr (by omega)
    clear y0 y1 y2 y3 y4 y5 y6 y7 z0 z1 z2 z3 z4 z5 z6 z7 hgr hx0
    generalize (((((((((w2.alloc (.cells formsA 101)).setCell _ _).setCell _ _).setCell _ _).setCell _ _).setCell _ _).setCell _ _).setCell _ _).setCell _ _) = W4 at hbr hB3 ⊢
    have q0 := cell_in hbr 0
    have q1 := cell_in hbr 1
    have q2 := cell_in hbr 2
    have q3 := cell_in hbr 3
    have q4 := cell_in hbr 4
    have q5 := cell_in hbr 5
    have q6 := cell_in hbr 6
    have q7 := cell_in hbr 7
    exact bodyPost_ret (v := .tuple #[.agg #[.string ⟨#[]⟩, .int .i64 0, .int .i64 0, .int .i64 0, .int .i64 0, .int .i64 0, .int .i64 0, .int .i64 0], .bool false]) (by simp [results, Tryz.results42, go_sem, q0, q1, q2, q3, q4, q5, q6, q7]) rfl ⟨rfl, hB3⟩)
/-- An instruction. -/
structure Ins where
  (op a b : Int) (tb : List (Int × Int))
def RightI (x : Ins) : Bool :=
  if 0 ≤ x.op ∧ x.op < 17 then
    let f := fmAt x.op.toNat
    !(decide (f.nums < 2) && (x.b != 0) || decide (f.nums < 1) && (x.a != 0) || decide (f.nums ≥ 0) && decide (0 < x.tb.length)) &&
      (if f.nums < 0 then pairsB x.op x.tb else (x.op == 0) || (decide (f.nums = 0) || (decide (f.least ≤ x.a ∧ x.a ≤ f.most) && decide (0 ≤ x.b ∧ x.b ≤ 255))))
  else false
theorem nums_fin : ∀ i : Fin 17, (fmAt i.val).nums = -1 ∨ (fmAt i.val).nums = 0 ∨ (fmAt i.val).nums = 1 ∨ (fmAt i.val).nums = 2 := by decide +kernel
set_option maxHeartbeats 16000000 in
set_option maxRecDepth 100000 in
theorem rightI_calls (x : Ins) (A : Option Addr) (c : Nat) (w : World) (hc : x.tb.length ≤ c) (hC : kP.C w A x.tb.length x.tb) :
    Calls Tryz.prog 18 #[.agg #[.int .i64 x.op, .int .i64 x.a, .int .i64 x.b, .slice A x.tb.length c]] w fun e w' => e = .returned (.bool (RightI x)) ∧ Below w.heap.size w w' := by
  have HC := Lib.hid hC
  have hmax : x.tb.length ≤ 9223372036854775807 := hC.2.1
  clear hC
  by_cases hop : 0 ≤ x.op ∧ x.op < 17
  · have hR : RightI x = (!(decide ((fmAt x.op.toNat).nums < 2) && (x.b != 0) || decide ((fmAt x.op.toNat).nums < 1) && (x.a != 0) || decide ((fmAt x.op.toNat).nums ≥ 0) && decide (0 < x.tb.length)) &&
      (if (fmAt x.op.toNat).nums < 0 then pairsB x.op x.tb else (x.op == 0) || (decide ((fmAt x.op.toNat).nums = 0) || (decide ((fmAt x.op.toNat).least ≤ x.a ∧ x.a ≤ (fmAt x.op.toNat).most) && decide (0 ≤ x.b ∧ x.b ≤ 255))))) := if_pos hop
    have HR := Lib.hid hR
    have HOP := Lib.hid hop
    clear hR hop
    go_enter Tryz.func18, Tryz.ntmps18
    go_wp2_with fail
    refine (form_calls x.op x.a x.b A x.tb.length c _ HOP.out.1 HOP.out.2).mono ?_
    rintro e w2 ⟨rfl, hb2⟩
    generalize hfm : fmAt x.op.toNat = fm at HR ⊢
    have hbx := (hb2.block w.heap.size (by simp)).trans (heap_new w (.cells #[.int .i64 x.op, .int .i64 x.a, .int .i64 x.b, .slice A x.tb.length c] 46))
    have hB2 : Below w.heap.size w w2 := by
      have ha := (Below.refl _ w).alloc (Nat.le_refl _) (.cells #[.int .i64 x.op, .int .i64 x.a, .int .i64 x.b, .slice A x.tb.length c] 46)
      exact ha.trans (hb2.mono ha.size)
    clear hb2
    go_upto_block 0 with (fail)
    have hn : fm.nums = -1 ∨ fm.nums = 0 ∨ fm.nums = 1 ∨ fm.nums = 2 := by rw [← hfm]; exact nums_fin ⟨x.op.toNat, by have := HOP.out; omega⟩
    have hf3 := heap_new w2 (.cells #[.string fm.word, .int .i64 fm.nums, .int .i64 fm.least, .int .i64 fm.most, .int .i64 fm.reads, .int .i64 fm.readsA, .int .i64 fm.leaves, .int .i64 fm.leavesA] 93)
    have hx3 := (heap_old w2 (.cells #[.string fm.word, .int .i64 fm.nums, .int .i64 fm.least, .int .i64 fm.most, .int .i64 fm.reads, .int .i64 fm.readsA, .int .i64 fm.leaves, .int .i64 fm.leavesA] 93) w.heap.size (Array.getElem?_eq_some_iff.1 hbx).1).trans hbx
    have hB3 := hB2.alloc hB2.size (.cells #[.string fm.word, .int .i64 fm.nums, .int .i64 fm.least, .int .i64 fm.most, .int .i64 fm.reads, .int .i64 fm.readsA, .int .i64 fm.leaves, .int .i64 fm.leavesA] 93)
    generalize w2.alloc (.cells #[.string fm.word, .int .i64 fm.nums, .int .i64 fm.least, .int .i64 fm.most, .int .i64 fm.reads, .int .i64 fm.readsA, .int .i64 fm.leaves, .int .i64 fm.leavesA] 93) = w3 at hf3 hx3 hB3 ⊢
    generalize w2.heap.size = q at hf3 ⊢
    have HX3 := Lib.hid hx3
    have HF3 := Lib.hid hf3
    have HB3 := Lib.hid hB3
    clear hbx hB2 hfm
    have x0 := cell_in HX3.out 0
    have x1 := cell_in HX3.out 1
    have x2 := cell_in HX3.out 2
    have x3 := cell_in HX3.out 3
    have f1 := cell_in HF3.out 1
    have f2 := cell_in HF3.out 2
    have f3 := cell_in HF3.out 3
    clear hx3 hf3 hB3
    have HN := Lib.hid hn
    obtain ⟨fw, fn, fl, fm_, fr, fra, fle, flea⟩ := fm
    simp only at f1 f2 f3 HR hn HN
    rcases hn with rfl | rfl | rfl | rfl
    all_goals (rcases Bool.eq_false_or_eq_true (x.b != 0) with bb | bb)
    all_goals (rcases Bool.eq_false_or_eq_true (x.a != 0) with ab | ab)
    all_goals (rcases Bool.eq_false_or_eq_true (decide (0 < x.tb.length)) with tb | tb)
    all_goals (rcases Bool.eq_false_or_eq_true (x.op == 0) with ob | ob)
    all_goals (rw [bb, ab, tb] at HR; try rw [ob] at HR)
    all_goals go_wp2_with fail
    all_goals first
      | (go_ret; exact ⟨by rw [HR.out]; simp, HB3.out⟩)
      | (refine (pairs_calls x.op x.a x.b A x.tb c w3 hc (Kd.C_below HC.out HB3.out)).mono ?_
         rintro e w4 ⟨rfl, hb4⟩
         have HB4 := Lib.hid (bel2 HB3.out hb4)
         clear hb4
         go_wp2_with fail
         go_ret
         exact ⟨by rw [HR.out]; simp, HB4.out⟩)
      | (refine (within_calls fl x.a fm_ w3).mono ?_
         rintro e w4 ⟨rfl, hb4⟩
         have HB4 := Lib.hid (bel2 HB3.out hb4)
         have HX4 := Lib.hid ((hb4.block w.heap.size (Array.getElem?_eq_some_iff.1 HX3.out).1).trans HX3.out)
         clear hb4 x0 x1 x2 x3 f1 f2 f3
         have x2 := cell_in HX4.out 2
         rcases Bool.eq_false_or_eq_true (decide (fl ≤ x.a ∧ x.a ≤ fm_)) with d1 | d1
         all_goals (rw [d1] at HR ⊢)
         · go_wp2_with fail
           refine (within_calls 0 x.b 255 w4).mono ?_
           rintro e w5 ⟨rfl, hb5⟩
           have HB5 := Lib.hid (bel2 HB4.out hb5)
           clear hb5
           go_wp2_with fail
           go_ret
           exact ⟨by rw [HR.out]; simp, HB5.out⟩
         · go_wp2_with fail
           go_ret
           exact ⟨by rw [HR.out]; simp, HB4.out⟩)
  · have hR : RightI x = false := if_neg hop
    go_enter Tryz.func18, Tryz.ntmps18
    go_wp2_with fail
    refine (form_no x.op x.a x.b A x.tb.length c _ (by omega)).mono ?_
    rintro e w2 ⟨rfl, hb2⟩
    have hB2 : Below w.heap.size w w2 := by
      have ha := (Below.refl _ w).alloc (Nat.le_refl _) (.cells #[.int .i64 x.op, .int .i64 x.a, .int .i64 x.b, .slice A x.tb.length c] 46)
      exact ha.trans (hb2.mono ha.size)
    clear hb2 hop
    go_wp2_with fail
    go_ret
    exact ⟨by rw [hR]; rfl, hB2.alloc hB2.size _⟩
end Go.Proofs.YtcmhibcoccdmaaaGreatDoor.P
