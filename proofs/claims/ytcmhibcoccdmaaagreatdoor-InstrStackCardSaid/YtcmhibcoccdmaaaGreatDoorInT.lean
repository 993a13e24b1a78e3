/- InstrStack: what an instruction looks at, and what is left: in plain words; the walk. -/
import Derived.Test.YtcmhibcoccdmaaaGreatDoorInS
namespace Go.Proofs.YtcmhibcoccdmaaaGreatDoor.P
open Go.RowKit Go.Shelf Go.Proofs.YtcmhibcoccdmaaaGreatDoorW.PrintWords Go.Proofs.YtcmhibcoccdmaaaGreatDoorW.PrintLast Go.Proofs.YtcmhibcoccdmaaaGreatDoor.Rw
set_option linter.unusedVariables false
set_option linter.unusedSimpArgs false
theorem form_fin : ∀ i : Fin 17, ((fmAt i.val).reads = 0 ∨ (fmAt i.val).reads = 1 ∨ (fmAt i.val).reads = 2) ∧ ((fmAt i.val).readsA = 0 ∨ (fmAt i.val).readsA = 1) ∧ ((fmAt i.val).leavesA = 0 ∨ ((fmAt i.val).leavesA = 1 ∧ (fmAt i.val).readsA = 0) ∨ ((fmAt i.val).leavesA = -1 ∧ (fmAt i.val).readsA = 1)) ∧
    (-1 ≤ (fmAt i.val).leaves ∧ (fmAt i.val).leaves ≤ 1 ∧ 0 ≤ (fmAt i.val).reads + (fmAt i.val).leaves) ∧ (i.val = 0 → (fmAt i.val).readsA = 0 ∧ (fmAt i.val).leavesA = 0 ∧ (fmAt i.val).nums = 1) ∧ ((fmAt i.val).nums ≤ 2) ∧ (0 ≤ (fmAt i.val).least) ∧ ((fmAt i.val).most ≤ 65536) := by decide +kernel
theorem wrap_id {n : Int} (h0 : -9223372036854775808 ≤ n) (h1 : n ≤ 9223372036854775807) : wrap64 n = n := by
  unfold wrap64
  omega
/-- The numbers of a right instruction that count are few. -/
theorem right_nums {x : Ins} (h : RightI x = true) : (x.op.toNat = 0 ∨ (0 ≤ x.a ∧ x.a ≤ 65536)) ∧ 0 ≤ x.b ∧ x.b ≤ 255 := by
  obtain ⟨h0, hb, ha, _⟩ := right_parts h
  obtain ⟨i, hi⟩ := fin_of h0
  obtain ⟨_, _, _, _, f5, f6, f7, f8⟩ := form_fin i
  rw [← hi] at f5 f6 f7 f8
  unfold RightI at h
  rw [if_pos h0] at h
  simp only [Bool.and_eq_true] at h
  have h2 := h.2
  by_cases hz : x.op.toNat = 0
  · have hn := (f5 hz).2.2
    rw [hb (by omega)]
    exact ⟨.inl hz, by decide, by decide⟩
  · split at h2
    · next hneg =>
      rw [ha (by omega), hb (by omega)]
      exact ⟨.inr ⟨by decide, by decide⟩, by decide, by decide⟩
    · have hop : ¬ x.op = 0 := by omega
      simp only [Bool.or_eq_true, beq_iff_eq, hop, false_or, decide_eq_true_eq, Bool.and_eq_true] at h2
      rcases h2 with h2 | ⟨h2, h3⟩
      · rw [ha (by omega), hb (by omega)]
        exact ⟨.inr ⟨by decide, by decide⟩, by decide, by decide⟩
      · exact ⟨.inr ⟨by omega, by omega⟩, h3.1, h3.2⟩
theorem stack_law (x : Ins) : (0 ≤ readsI x ∧ readsI x ≤ 100000) ∧ (0 ≤ readsI x + leavesI x ∧ readsI x + leavesI x ≤ 200000) ∧ (RightI x = true ∨ (RightI x = false ∧ readsI x = 0 ∧ leavesI x = 0)) := by
  by_cases h : RightI x = true
  · refine ⟨?_, ?_, .inl h⟩
    all_goals
      obtain ⟨hA, hb0, hb1⟩ := right_nums h
      obtain ⟨h0, _, _, _⟩ := right_parts h
      obtain ⟨i, hi⟩ := fin_of h0
      obtain ⟨f1, f2, f3, f4, f5, _, _, _⟩ := form_fin i
      rw [← hi] at f1 f2 f3 f4 f5
      unfold readsI
      try unfold leavesI
      rw [if_pos h]
      try rw [if_pos h]
      generalize (fmAt x.op.toNat).reads = r at *
      generalize (fmAt x.op.toNat).readsA = ra at *
      generalize (fmAt x.op.toNat).leaves = l at *
      generalize (fmAt x.op.toNat).leavesA = la at *
      generalize x.a = a at *
      generalize x.b = b at *
      rcases hA with hz | hA
      · obtain ⟨rfl, rfl, _⟩ := f5 hz
        simp only [Int.zero_mul]
        simp (disch := omega) only [wrap_id]
        omega
      · rcases f2 with rfl | rfl <;> rcases f3 with rfl | ⟨rfl, f3⟩ | ⟨rfl, f3⟩
        all_goals simp only [Int.zero_mul, Int.one_mul, Int.neg_mul] at *
        all_goals simp (disch := omega) only [wrap_id]
        all_goals omega
  · have hf : RightI x = false := Bool.eq_false_iff.2 h
    unfold readsI leavesI
    rw [if_neg h, if_neg h]
    exact ⟨⟨by decide, by decide⟩, ⟨by decide, by decide⟩, .inr ⟨hf, rfl, rfl⟩⟩
set_option maxHeartbeats 2000000 in
set_option maxRecDepth 100000 in
theorem stack_calls (x : Ins) (A : Option Addr) (c : Nat) (w : World) (hA : A = none → c = 0) (hC : kP.C w A x.tb.length x.tb) (hT : GT w) :
    Calls Tryz.prog 5 #[.agg #[.int .i64 x.op, .int .i64 x.a, .int .i64 x.b, .slice A x.tb.length c]] w fun e w' => e = .returned (.bool true) ∧ Below w.heap.size w w' := by
  have hmax : x.tb.length ≤ 9223372036854775807 := hC.2.1
  have HC := Lib.hid hC; have HA := Lib.hid hA; have HT := Lib.hid hT
  obtain ⟨⟨l1, l2⟩, ⟨l3, l4⟩, l5⟩ := stack_law x
  have HL5 := Lib.hid l5
  clear hC hA hT l5
  go_enter Tryz.func5, Tryz.ntmps5
  by_cases hl : (300 : Int) < (x.tb.length : Int)
  · go_wp2_with fail
    have hB := (Below.refl _ w).alloc (Nat.le_refl _) (.cells #[.int .i64 x.op, .int .i64 x.a, .int .i64 x.b, .slice A x.tb.length c] 45)
    refine (knows_calls _ (HT.out.below hB)).mono ?_
    rintro e w1 ⟨rfl, hb1⟩
    have HB := Lib.hid (bel2 hB hb1)
    clear hB hb1
    go_wp2_with fail
    go_ret
    exact ⟨rfl, HB.out⟩
  · go_wp2_with fail
    have hB := (Below.refl _ w).alloc (Nat.le_refl _) (.cells #[.int .i64 x.op, .int .i64 x.a, .int .i64 x.b, .slice A x.tb.length c] 45)
    refine (ownInstr_calls x A c _ HA.out (Kd.C_below HC.out hB) (by omega)).mono ?_
    rintro e w1 ⟨A1, c1, rfl, hc1, hF1, hb1⟩
    have HB := Lib.hid (bel2 hB hb1)
    have HC1 := Lib.hid hF1.now
    clear hB hb1 hF1
    go_upto_region 4 with (fail)
    have hy := heap_new w1 (.cells #[.int .i64 x.op, .int .i64 x.a, .int .i64 x.b, .slice A1 x.tb.length c1] 46)
    have HB2 := Lib.hid (HB.out.alloc HB.out.size (.cells #[.int .i64 x.op, .int .i64 x.a, .int .i64 x.b, .slice A1 x.tb.length c1] 46))
    have HC2 := Lib.hid (Kd.C_alloc HC1.out (.cells #[.int .i64 x.op, .int .i64 x.a, .int .i64 x.b, .slice A1 x.tb.length c1] 46))
    clear HB HC1
    generalize w1.alloc (.cells #[.int .i64 x.op, .int .i64 x.a, .int .i64 x.b, .slice A1 x.tb.length c1] 46) = w2 at hy HB2 HC2 ⊢
    generalize w1.heap.size = y at hy ⊢
    have HY := Lib.hid hy
    clear hy
    have y0 := cell_in HY.out 0
    have y1 := cell_in HY.out 1
    have y2 := cell_in HY.out 2
    have y3 := cell_in HY.out 3
    go_wp2_with fail
    refine (reads_calls x A1 c1 w2 hc1 HC2.out).mono ?_
    rintro e w3 ⟨rfl, hb3⟩
    have HY3 := Lib.hid ((hb3.block _ (lt_heap HY.out)).trans HY.out)
    have HB3 := Lib.hid (bel2 HB2.out hb3)
    have HC3 := Lib.hid (Kd.C_below HC2.out hb3)
    clear HY HB2 HC2 hb3 y0 y1 y2 y3
    have y0 := cell_in HY3.out 0
    have y1 := cell_in HY3.out 1
    have y2 := cell_in HY3.out 2
    have y3 := cell_in HY3.out 3
    go_wp2_with fail
    refine (leaves_calls x A1 c1 w3 hc1 HC3.out).mono ?_
    rintro e w4 ⟨rfl, hb4⟩
    have HY4 := Lib.hid ((hb4.block _ (lt_heap HY3.out)).trans HY3.out)
    have HB4 := Lib.hid (bel2 HB3.out hb4)
    have HC4 := Lib.hid (Kd.C_below HC3.out hb4)
    clear HY3 HB3 HC3 hb4 y0 y1 y2 y3
    have y0 := cell_in HY4.out 0
    have y1 := cell_in HY4.out 1
    have y2 := cell_in HY4.out 2
    have y3 := cell_in HY4.out 3
    have hcall := rightI_calls x A1 c1 w4 hc1 HC4.out
    generalize readsI x = rr at *
    generalize leavesI x = ll at *
    have g1 : decide ((0 : Int) ≤ rr) = true := decide_eq_true l1
    have g2 : decide ((0 : Int) ≤ rr + ll) = true := decide_eq_true l3
    have HCL := Lib.hid hcall
    clear hcall
    rcases HL5.out with h5 | ⟨h5, rfl, rfl⟩
    · rw [h5] at HCL
      clear h5 HL5
      go_wp2_with fail
      refine HCL.out.mono ?_
      rintro e w5 ⟨rfl, hb5⟩
      have HB5 := Lib.hid (bel2 HB4.out hb5)
      clear hb5 y0 y1 y2 y3 HCL
      go_wp2_with fail
      refine (knows_calls _ (HT.out.below HB5.out)).mono ?_
      rintro e w6 ⟨rfl, hb6⟩
      have HB6 := Lib.hid (bel2 HB5.out hb6)
      clear hb6
      go_wp2_with fail
      go_ret
      exact ⟨rfl, HB6.out⟩
    · rw [h5] at HCL
      clear h5 HL5
      go_wp2_with fail
      refine HCL.out.mono ?_
      rintro e w5 ⟨rfl, hb5⟩
      have HB5 := Lib.hid (bel2 HB4.out hb5)
      clear hb5 y0 y1 y2 y3 HCL
      go_wp2_with fail
      refine (knows_calls _ (HT.out.below HB5.out)).mono ?_
      rintro e w6 ⟨rfl, hb6⟩
      have HB6 := Lib.hid (bel2 HB5.out hb6)
      clear hb6
      go_wp2_with fail
      go_ret
      exact ⟨rfl, HB6.out⟩
end Go.Proofs.YtcmhibcoccdmaaaGreatDoor.P
