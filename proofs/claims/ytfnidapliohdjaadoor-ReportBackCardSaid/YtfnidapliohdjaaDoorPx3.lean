-- written by a program of this session's (wip/tools/extprint.py) over the kit's print
import Derived.Test.YtfnidapliohdjaaDoorPx0
import Derived.Test.YtfnidapliohdjaaDoorPx1
import Derived.Test.YtfnidapliohdjaaDoorPx5
import Derived.Test.YtfnidapliohdjaaDoorFault
namespace Go.Proofs.YtfnidapliohdjaaDoor.P
open Go.Proofs.YtfnidapliohdjaaDoor
open Go.RowKit Go.Proofs.YtfnidapliohdjaaDoorW.PrintWords Go.Proofs.YtfnidapliohdjaaDoorW.PrintLast Go.Proofs.YtfnidapliohdjaaDoorW.PrintMore
attribute [local go_sem] max2_int min2_int max_two min_two max_three min_three max_four min_four   -- for this text's walks alone
set_option linter.unusedVariables false
set_option linter.unusedSimpArgs false

/-! ### hammocklaw28_ReportBack: function 4 -/
mutual
def hammocklaw28_ReportBack.j0 : Nat → ByteArray → Int → Int → Bool → Option (Bool)
  | 0, _, _, _, _ => none
  | k + 1, x0, x1, x2, x23 => if x23 = true then ((hammocklaw28_knows.f).bind fun t148 => (some t148)) else (if (wrap64 ((x0.size : Int) + 1)) = 0 then (none) else ((report_Fault.f x0 (Int.tmod (wrap64 ((wrap64 ((Int.tmod x1 (wrap64 ((x0.size : Int) + 1))) + (x0.size : Int))) + 1)) (wrap64 ((x0.size : Int) + 1))) x2).bind fun t149 => ((glyph_Place.f k x0 (Int.tmod (wrap64 ((wrap64 ((Int.tmod x1 (wrap64 ((x0.size : Int) + 1))) + (x0.size : Int))) + 1)) (wrap64 ((x0.size : Int) + 1)))).bind fun bt150 => ((report_Where.f t149).bind fun bt152 => (hammocklaw28_ReportBack.l0 k t149 bt150.1 bt150.2 bt152.1 bt152.2.1 bt152.2.2 0 0 (-1) 0)))))
def hammocklaw28_ReportBack.l0 : Nat → ByteArray → Int → Int → Int → Int → Bool → Int → Int → Int → Int → Option (Bool)
  | 0, _, _, _, _, _, _, _, _, _, _ => none
  | k + 1, x7, x8, x9, x10, x11, x12, x13, x14, x15, x16 => if x16 < (x7.size : Int) then (if 0 ≤ x16 then (if (bt x7 x16) = 10 then (if (wrap64 (x13 + 1)) = 2 then (if (bt x7 x16) = 94 then (hammocklaw28_ReportBack.l0 k x7 x8 x9 x10 x11 x12 (wrap64 (x13 + 1)) (wrap64 (x16 + 1)) x16 (wrap64 (x16 + 1))) else (hammocklaw28_ReportBack.l0 k x7 x8 x9 x10 x11 x12 (wrap64 (x13 + 1)) (wrap64 (x16 + 1)) x15 (wrap64 (x16 + 1)))) else (hammocklaw28_ReportBack.l0 k x7 x8 x9 x10 x11 x12 (wrap64 (x13 + 1)) x14 x15 (wrap64 (x16 + 1)))) else (if x13 = 2 then (if (bt x7 x16) = 94 then (hammocklaw28_ReportBack.l0 k x7 x8 x9 x10 x11 x12 x13 x14 x16 (wrap64 (x16 + 1))) else (hammocklaw28_ReportBack.l0 k x7 x8 x9 x10 x11 x12 x13 x14 x15 (wrap64 (x16 + 1)))) else (hammocklaw28_ReportBack.l0 k x7 x8 x9 x10 x11 x12 x13 x14 x15 (wrap64 (x16 + 1))))) else (none)) else (if x12 = true then (if x10 = x8 then (if x11 = x9 then (if x13 = 3 then (if 0 ≤ (wrap64 ((x7.size : Int) - 1)) then (if (wrap64 ((x7.size : Int) - 1)) < (x7.size : Int) then (if (bt x7 (wrap64 ((x7.size : Int) - 1))) = 10 then (if x15 = (wrap64 ((x7.size : Int) - 2)) then (if (wrap64 (x15 - x14)) = (wrap64 (x9 - 1)) then ((hammocklaw28_knows.f).bind fun t155 => (some t155)) else (some false)) else (some false)) else (some false)) else (none)) else (none)) else (some false)) else (some false)) else (some false)) else (some false))
end
def hammocklaw28_ReportBack.f (k : Nat) (a0 : ByteArray) (a1 : Int) (a2 : Int) : Option (Bool) := if (a0.size : Int) > 2000 then (hammocklaw28_ReportBack.j0 k a0 a1 a2 true) else (hammocklaw28_ReportBack.j0 k a0 a1 a2 (a2 == 0))
theorem hammocklaw28_ReportBack.mono_l : ∀ k, (∀ y0 y1 y2 y3, LeO (hammocklaw28_ReportBack.j0 k y0 y1 y2 y3) (hammocklaw28_ReportBack.j0 (k + 1) y0 y1 y2 y3)) ∧ (∀ y0 y1 y2 y3 y4 y5 y6 y7 y8 y9, LeO (hammocklaw28_ReportBack.l0 k y0 y1 y2 y3 y4 y5 y6 y7 y8 y9) (hammocklaw28_ReportBack.l0 (k + 1) y0 y1 y2 y3 y4 y5 y6 y7 y8 y9))
  | 0 => ⟨fun _ _ _ _ r h => by simp [hammocklaw28_ReportBack.j0] at h, fun _ _ _ _ _ _ _ _ _ _ r h => by simp [hammocklaw28_ReportBack.l0] at h⟩
  | k + 1 => by
    obtain ⟨ih0, ih1⟩ := hammocklaw28_ReportBack.mono_l k
    refine ⟨?_, ?_⟩
    · intro y0 y1 y2 y3
      unfold hammocklaw28_ReportBack.j0
      repeat' first
      | (with_reducible exact ih0 _ _ _ _)
      | (with_reducible exact ih1 _ _ _ _ _ _ _ _ _ _)
      | (with_reducible exact glyph_Place.mono _ _ _)
      | (with_reducible exact LeO.refl _)
      | (with_reducible exact LeO.none _)
      | (with_reducible refine LeO.ite ?_ ?_)
      | (with_reducible refine LeO.bind ?_ (fun _ => ?_))
      | exact ih0 _ _ _ _
      | exact ih1 _ _ _ _ _ _ _ _ _ _
      | exact glyph_Place.mono _ _ _
      | exact LeO.none _
      | refine LeO.ite ?_ ?_
      | refine LeO.bind ?_ (fun _ => ?_)
    · intro y0 y1 y2 y3 y4 y5 y6 y7 y8 y9
      unfold hammocklaw28_ReportBack.l0
      repeat' first
      | (with_reducible exact ih0 _ _ _ _)
      | (with_reducible exact ih1 _ _ _ _ _ _ _ _ _ _)
      | (with_reducible exact glyph_Place.mono _ _ _)
      | (with_reducible exact LeO.refl _)
      | (with_reducible exact LeO.none _)
      | (with_reducible refine LeO.ite ?_ ?_)
      | (with_reducible refine LeO.bind ?_ (fun _ => ?_))
      | exact ih0 _ _ _ _
      | exact ih1 _ _ _ _ _ _ _ _ _ _
      | exact glyph_Place.mono _ _ _
      | exact LeO.none _
      | refine LeO.ite ?_ ?_
      | refine LeO.bind ?_ (fun _ => ?_)
theorem hammocklaw28_ReportBack.mono : ∀ a0 a1 a2 k, LeO (hammocklaw28_ReportBack.f k a0 a1 a2) (hammocklaw28_ReportBack.f (k + 1) a0 a1 a2) := by
  intro a0 a1 a2 k
  obtain ⟨ih0, ih1⟩ := hammocklaw28_ReportBack.mono_l k
  unfold hammocklaw28_ReportBack.f
  repeat' first
      | (with_reducible exact ih0 _ _ _ _)
      | (with_reducible exact ih1 _ _ _ _ _ _ _ _ _ _)
      | (with_reducible exact glyph_Place.mono _ _ _)
      | (with_reducible exact LeO.refl _)
      | (with_reducible exact LeO.none _)
      | (with_reducible refine LeO.ite ?_ ?_)
      | (with_reducible refine LeO.bind ?_ (fun _ => ?_))
      | exact ih0 _ _ _ _
      | exact ih1 _ _ _ _ _ _ _ _ _ _
      | exact glyph_Place.mono _ _ _
      | exact LeO.none _
      | refine LeO.ite ?_ ?_
      | refine LeO.bind ?_ (fun _ => ?_)
set_option maxHeartbeats 8000000 in
set_option maxRecDepth 100000 in
theorem hammocklaw28_ReportBack.calls (k : Nat) (a0 : ByteArray) (a1 : Int) (a2 : Int) (r : Bool) (w : World) (h : hammocklaw28_ReportBack.f k a0 a1 a2 = some r) (hG : Hid (GT w)) :
    Calls Tryd.prog 4 #[.string a0, .int .i64 a1, .int .i64 a2] w fun e w' => e = .returned (.bool r) ∧ Below w.heap.size w w' := by
  have hu29 := Tryd.underlying29
  have HB := Aside0.mk (Below.refl w.heap.size w)
  have H : (if (a0.size : Int) > 2000 then (hammocklaw28_ReportBack.j0 k a0 a1 a2 true) else (hammocklaw28_ReportBack.j0 k a0 a1 a2 (a2 == 0))) = some r := h
  clear h
  have HC4 := Aside0.mk H
  clear H
  go_enter Tryd.func4, Tryd.ntmps4
  go_upto_region 1 with (fail)
  go_cut [23] (fun v23 wc => ∃ (kq : Nat) (x23_3 : Bool), v23 = .bool x23_3 ∧ Aside0 (hammocklaw28_ReportBack.j0 kq a0 a1 a2 x23_3 = some r) ∧ Aside0 (kq ≤ k) ∧ Aside0 (Below w.heap.size w wc))
  case first =>
    have H := HC4.out
    clear HC4
    by_cases c5 : (a0.size : Int) > 2000
    · rw [if_pos c5] at H
      have c5b0 : decide (2000 < (a0.size : Int)) = true := decide_eq_true c5
      have c5b1 : decide (2000 < a0.size) = true := decide_eq_true (by omega)
      clear c5
      (first | rw [c5b0] | (simp only [i64_w, i32_w]; rw [c5b0]) | skip)
      have H' := Aside0.mk H
      clear H
      go_wp2
      go_meet
      case rel => exact ⟨_, (true), (by first | rfl | (simp; done) | (simp [*]; done)), H', ⟨by first | omega | exact Nat.le_refl _⟩, ⟨by repeat (first | (with_reducible first | exact HB.out | apply below_alloc | apply pw_below_drewN | apply below_drew1) | exact HB.out)⟩⟩
    · rw [if_neg c5] at H
      have c5b0 : decide (2000 < (a0.size : Int)) = false := decide_eq_false c5
      have c5b1 : decide (2000 < a0.size) = false := decide_eq_false (by omega)
      clear c5
      (first | rw [c5b0] | (simp only [i64_w, i32_w]; rw [c5b0]) | skip)
      have H' := Aside0.mk H
      clear H
      go_wp2
      go_meet
      case rel => exact ⟨_, ((a2 == 0)), (by first | rfl | (simp; done) | (simp [*]; done)), H', ⟨by first | omega | exact Nat.le_refl _⟩, ⟨by repeat (first | (with_reducible first | exact HB.out | apply below_alloc | apply pw_below_drewN | apply below_drew1) | exact HB.out)⟩⟩
  case rest =>
    clear HC4
    try clear p2
    try clear c4
    try clear c5
    try clear c5b0
    try clear c5b1
    obtain ⟨kq, x23_3, rfl, HA, HJ3, HB⟩ := hcut
    cases kq with
    | zero => exact absurd HA.out (by simp [hammocklaw28_ReportBack.j0])
    | succ kj3 =>
      have H := HA.out
      clear HA
      simp only [hammocklaw28_ReportBack.j0] at H
      by_cases c6 : x23_3 = true
      · subst c6
        have H1 : ((hammocklaw28_knows.f).bind fun t148 => (some t148)) = some r := by rw [if_pos rfl] at H; exact H
        clear H
        have H := H1
        clear H1
        replace H := Option.bind_eq_some_iff.mp H
        obtain ⟨t148, A70, H⟩ := H
        replace H : (some t148) = some r := H
        have A7 := Aside0.mk A70
        clear A70
        obtain rfl := Option.some.inj H
        go_wp2_with (first | ((with_reducible refine gate_callee (f := 5) rfl ?_); refine goesL_ (some 24) rfl rfl Tryd.func5 (by kernel_rfl) rfl #[] rfl (by (try simp only [List.map_toArray, List.map_cons, List.map_nil]); first | done | rfl | (simp only [List.length_drop, List.length_take]; rfl)) ?_; (with_reducible refine (hammocklaw28_knows.calls  t148 _ A7.out (Lib.hid (GT.below hG.out (by repeat (first | (with_reducible first | exact HB.out | apply below_alloc | apply pw_below_drewN | apply below_drew1) | exact HB.out))))).mono ?_); rintro e w8 ⟨rfl, hb⟩; refine ⟨_, rfl, ?_⟩; have n0_ := Aside0.mk (below_step (by repeat (first | (with_reducible first | exact HB.out | apply below_alloc | apply pw_below_drewN | apply below_drew1) | exact HB.out)) hb); clear HB; have HB := n0_; clear n0_; (try clear hb); (try clear hb2); (try clear hk); (try clear hi)))
        go_ret
        exact ⟨by first | rfl | (simp [errW_none, errW_some] <;> rfl) | (simp [*, errW_none, errW_some] <;> rfl), by repeat (first | (with_reducible first | exact HB.out | apply below_alloc | apply pw_below_drewN | apply below_drew1) | exact HB.out)⟩
      · replace c6 := Bool.eq_false_iff.mpr c6
        subst c6
        have H1 : (if (wrap64 ((a0.size : Int) + 1)) = 0 then (none) else ((report_Fault.f a0 (Int.tmod (wrap64 ((wrap64 ((Int.tmod a1 (wrap64 ((a0.size : Int) + 1))) + (a0.size : Int))) + 1)) (wrap64 ((a0.size : Int) + 1))) a2).bind fun t149 => ((glyph_Place.f kj3 a0 (Int.tmod (wrap64 ((wrap64 ((Int.tmod a1 (wrap64 ((a0.size : Int) + 1))) + (a0.size : Int))) + 1)) (wrap64 ((a0.size : Int) + 1)))).bind fun bt150 => ((report_Where.f t149).bind fun bt152 => (hammocklaw28_ReportBack.l0 kj3 t149 bt150.1 bt150.2 bt152.1 bt152.2.1 bt152.2.2 0 0 (-1) 0))))) = some r := by rw [if_neg (show ¬ (false = true) by decide)] at H; exact H
        clear H
        have H := H1
        clear H1
        by_cases c9 : (wrap64 ((a0.size : Int) + 1)) = 0
        · rw [if_pos c9] at H
          exact absurd H (by simp)
        · rw [if_neg c9] at H
          have c9b0 : ((wrap64 ((a0.size : Int) + 1)) == 0) = false := beq_eq_false_iff_ne.mpr c9
          have c9b1 : ((wrap64 ((a0.size : Int) + 1)) != 0) = true := bne_iff_ne.mpr c9
          replace H := Option.bind_eq_some_iff.mp H
          obtain ⟨t149, A100, H⟩ := H
          replace H : ((glyph_Place.f kj3 a0 (Int.tmod (wrap64 ((wrap64 ((Int.tmod a1 (wrap64 ((a0.size : Int) + 1))) + (a0.size : Int))) + 1)) (wrap64 ((a0.size : Int) + 1)))).bind fun bt150 => ((report_Where.f t149).bind fun bt152 => (hammocklaw28_ReportBack.l0 kj3 t149 bt150.1 bt150.2 bt152.1 bt152.2.1 bt152.2.2 0 0 (-1) 0))) = some r := H
          have A10 := Aside0.mk A100
          clear A100
          replace H := Option.bind_eq_some_iff.mp H
          obtain ⟨⟨t150, t151⟩, A110, H⟩ := H
          replace H : ((report_Where.f t149).bind fun bt152 => (hammocklaw28_ReportBack.l0 kj3 t149 t150 t151 bt152.1 bt152.2.1 bt152.2.2 0 0 (-1) 0)) = some r := H
          have A11 := Aside0.mk A110
          clear A110
          replace H := Option.bind_eq_some_iff.mp H
          obtain ⟨⟨t152, t153, t154⟩, A120, H⟩ := H
          replace H : (hammocklaw28_ReportBack.l0 kj3 t149 t150 t151 t152 t153 t154 0 0 (-1) 0) = some r := H
          have A12 := Aside0.mk A120
          clear A120
          have H' := Aside0.mk H
          clear H
          go_wp2_with (first | ((with_reducible refine gate_callee (f := 8) rfl ?_); refine goesL_ (some 42) rfl rfl Tryd.func8 (by kernel_rfl) rfl #[.string a0, .agg #[.int .i64 (Int.tmod (wrap64 ((wrap64 ((Int.tmod a1 (wrap64 ((a0.size : Int) + 1))) + (a0.size : Int))) + 1)) (wrap64 ((a0.size : Int) + 1))), .int .i64 a2]] rfl (by (try simp only [List.map_toArray, List.map_cons, List.map_nil]); first | done | rfl | (simp only [List.length_drop, List.length_take]; rfl)) ?_; (with_reducible refine (report_Fault.calls a0 (Int.tmod (wrap64 ((wrap64 ((Int.tmod a1 (wrap64 ((a0.size : Int) + 1))) + (a0.size : Int))) + 1)) (wrap64 ((a0.size : Int) + 1))) a2 t149 _ A10.out (Lib.hid (GT.below hG.out (by repeat (first | (with_reducible first | exact HB.out | apply below_alloc | apply pw_below_drewN | apply below_drew1) | exact HB.out))))).mono ?_); rintro e w13 ⟨rfl, hb⟩; refine ⟨_, rfl, ?_⟩; have n0_ := Aside0.mk (below_step (by repeat (first | (with_reducible first | exact HB.out | apply below_alloc | apply pw_below_drewN | apply below_drew1) | exact HB.out)) hb); clear HB; have HB := n0_; clear n0_; (try clear hb); (try clear hb2); (try clear hk); (try clear hi)) | ((with_reducible refine gate_callee (f := 9) rfl ?_); refine goesL_ (some 46) rfl rfl Tryd.func9 (by kernel_rfl) rfl #[.string a0, .int .i64 (Int.tmod (wrap64 ((wrap64 ((Int.tmod a1 (wrap64 ((a0.size : Int) + 1))) + (a0.size : Int))) + 1)) (wrap64 ((a0.size : Int) + 1)))] rfl (by (try simp only [List.map_toArray, List.map_cons, List.map_nil]); first | done | rfl | (simp only [List.length_drop, List.length_take]; rfl)) ?_; (with_reducible refine (glyph_Place.calls kj3 a0 (Int.tmod (wrap64 ((wrap64 ((Int.tmod a1 (wrap64 ((a0.size : Int) + 1))) + (a0.size : Int))) + 1)) (wrap64 ((a0.size : Int) + 1))) t150 t151 _ A11.out).mono ?_); rintro e w' ⟨rfl, ⟨nd, rfl⟩⟩; refine ⟨_, rfl, ?_⟩) | ((with_reducible refine gate_callee (f := 6) rfl ?_); refine goesL_ (some 51) rfl rfl Tryd.func6 (by kernel_rfl) rfl #[.string t149] rfl (by (try simp only [List.map_toArray, List.map_cons, List.map_nil]); first | done | rfl | (simp only [List.length_drop, List.length_take]; rfl)) ?_; (with_reducible refine (report_Where.calls t149 t152 t153 t154 _ A12.out (Lib.hid (GT.below hG.out (by repeat (first | (with_reducible first | exact HB.out | apply below_alloc | apply pw_below_drewN | apply below_drew1) | exact HB.out))))).mono ?_); rintro e w14 ⟨rfl, hb⟩; refine ⟨_, rfl, ?_⟩; have n0_ := Aside0.mk (below_step (by repeat (first | (with_reducible first | exact HB.out | apply below_alloc | apply pw_below_drewN | apply below_drew1) | exact HB.out)) hb); clear HB; have HB := n0_; clear n0_; (try clear hb); (try clear hb2); (try clear hk); (try clear hi)))
          go_loopg [13, 14, 15, 16] kj3 (fun kq v13 v14 v15 v16 w' => ∃ (x13_2 : Int) (x14_2 : Int) (x15_2 : Int) (x16_2 : Int), v13 = .int .i64 x13_2 ∧ v14 = .int .i64 x14_2 ∧ v15 = .int .i64 x15_2 ∧ v16 = .int .i64 x16_2 ∧ Aside0 (hammocklaw28_ReportBack.l0 kq t149 t150 t151 t152 t153 t154 x13_2 x14_2 x15_2 x16_2 = some r) ∧ Aside0 (kq ≤ kj3) ∧ Aside0 (Below w.heap.size w w'))
          case atStart => exact ⟨(0), (0), ((-1)), (0), (by first | rfl | (simp; done) | (simp [*]; done)), (by first | rfl | (simp; done) | (simp [*]; done)), (by first | rfl | (simp; done) | (simp [*]; done)), (by first | rfl | (simp; done) | (simp [*]; done)), H', ⟨Nat.le_refl _⟩, ⟨by repeat (first | (with_reducible first | exact HB.out | apply below_alloc | apply pw_below_drewN | apply below_drew1) | exact HB.out)⟩⟩
          case round =>
            clear H'
            try clear p2
            try clear c4
            try clear c5
            try clear c5b0
            try clear c5b1
            try clear c6
            try clear p6
            try clear c8
            try clear c9
            try clear c9b0
            try clear c9b1
            try clear p2
            obtain ⟨x13_2, x14_2, x15_2, x16_2, rfl, rfl, rfl, rfl, HA, HK2, HB⟩ := hrel
            cases gk with
            | zero => exact absurd HA.out (by simp [hammocklaw28_ReportBack.l0])
            | succ k2 =>
              have H := HA.out
              clear HA
              simp only [hammocklaw28_ReportBack.l0] at H
              by_cases c15 : x16_2 < (t149.size : Int)
              · rw [if_pos c15] at H
                have c15b0 : decide (x16_2 < (t149.size : Int)) = true := decide_eq_true c15
                clear c15
                by_cases c16 : 0 ≤ x16_2
                · rw [if_pos c16] at H
                  have c16b0 : decide (0 ≤ x16_2) = true := decide_eq_true c16
                  clear c16
                  by_cases c18 : (bt t149 x16_2) = 10
                  · rw [if_pos c18] at H
                    have c18b0 : ((bt t149 x16_2) == 10) = true := beq_iff_eq.mpr c18
                    have c18b1 : ((bt t149 x16_2) != 10) = false := bne_eq_false_iff_eq.mpr c18
                    clear c18
                    by_cases c19 : (wrap64 (x13_2 + 1)) = 2
                    · rw [if_pos c19] at H
                      have c19b0 : ((wrap64 (x13_2 + 1)) == 2) = true := beq_iff_eq.mpr c19
                      have c19b1 : ((wrap64 (x13_2 + 1)) != 2) = false := bne_eq_false_iff_eq.mpr c19
                      clear c19
                      by_cases c21 : (bt t149 x16_2) = 94
                      · rw [if_pos c21] at H
                        have c21b0 : ((bt t149 x16_2) == 94) = true := beq_iff_eq.mpr c21
                        have c21b1 : ((bt t149 x16_2) != 94) = false := bne_eq_false_iff_eq.mpr c21
                        clear c21
                        have H' := Aside0.mk H
                        clear H
                        have p17 : 0 ≤ (x16_2 : Int) := of_decide_eq_true (by first | (with_reducible assumption) | assumption)
                        have q17 : x16_2 < (t149.size : Int) := of_decide_eq_true (by first | (with_reducible assumption) | assumption)
                        have hx17 := bt_at t149 x16_2
                        replace p17 := eq_true p17
                        replace q17 := eq_true q17
                        have p20 : 0 ≤ (x16_2 : Int) := of_decide_eq_true (by first | (with_reducible assumption) | assumption)
                        have q20 : x16_2 < (t149.size : Int) := of_decide_eq_true (by first | (with_reducible assumption) | assumption)
                        have hx20 := bt_at t149 x16_2
                        replace p20 := eq_true p20
                        replace q20 := eq_true q20
                        go_wp2
                        go_roundg k2
                        case measure => have := HJ3.out; have := HK2.out; omega
                        case rel => exact ⟨(wrap64 (x13_2 + 1)), (wrap64 (x16_2 + 1)), (x16_2), (wrap64 (x16_2 + 1)), (by first | rfl | (simp; done) | (simp [*]; done)), (by first | rfl | (simp; done) | (simp [*]; done)), (by first | rfl | (simp; done) | (simp [*]; done)), (by first | rfl | (simp; done) | (simp [*]; done)), H', ⟨by have := HJ3.out; have := HK2.out; omega⟩, ⟨by repeat (first | (with_reducible first | exact HB.out | apply below_alloc | apply pw_below_drewN | apply below_drew1) | exact HB.out)⟩⟩
                      · rw [if_neg c21] at H
                        have c21b0 : ((bt t149 x16_2) == 94) = false := beq_eq_false_iff_ne.mpr c21
                        have c21b1 : ((bt t149 x16_2) != 94) = true := bne_iff_ne.mpr c21
                        have H' := Aside0.mk H
                        clear H
                        have p17 : 0 ≤ (x16_2 : Int) := of_decide_eq_true (by first | (with_reducible assumption) | assumption)
                        have q17 : x16_2 < (t149.size : Int) := of_decide_eq_true (by first | (with_reducible assumption) | assumption)
                        have hx17 := bt_at t149 x16_2
                        replace p17 := eq_true p17
                        replace q17 := eq_true q17
                        have p20 : 0 ≤ (x16_2 : Int) := of_decide_eq_true (by first | (with_reducible assumption) | assumption)
                        have q20 : x16_2 < (t149.size : Int) := of_decide_eq_true (by first | (with_reducible assumption) | assumption)
                        have hx20 := bt_at t149 x16_2
                        replace p20 := eq_true p20
                        replace q20 := eq_true q20
                        go_wp2
                        go_roundg k2
                        case measure => have := HJ3.out; have := HK2.out; omega
                        case rel => exact ⟨(wrap64 (x13_2 + 1)), (wrap64 (x16_2 + 1)), (x15_2), (wrap64 (x16_2 + 1)), (by first | rfl | (simp; done) | (simp [*]; done)), (by first | rfl | (simp; done) | (simp [*]; done)), (by first | rfl | (simp; done) | (simp [*]; done)), (by first | rfl | (simp; done) | (simp [*]; done)), H', ⟨by have := HJ3.out; have := HK2.out; omega⟩, ⟨by repeat (first | (with_reducible first | exact HB.out | apply below_alloc | apply pw_below_drewN | apply below_drew1) | exact HB.out)⟩⟩
                    · rw [if_neg c19] at H
                      have c19b0 : ((wrap64 (x13_2 + 1)) == 2) = false := beq_eq_false_iff_ne.mpr c19
                      have c19b1 : ((wrap64 (x13_2 + 1)) != 2) = true := bne_iff_ne.mpr c19
                      have H' := Aside0.mk H
                      clear H
                      have p17 : 0 ≤ (x16_2 : Int) := of_decide_eq_true (by first | (with_reducible assumption) | assumption)
                      have q17 : x16_2 < (t149.size : Int) := of_decide_eq_true (by first | (with_reducible assumption) | assumption)
                      have hx17 := bt_at t149 x16_2
                      replace p17 := eq_true p17
                      replace q17 := eq_true q17
                      go_wp2
                      go_roundg k2
                      case measure => have := HJ3.out; have := HK2.out; omega
                      case rel => exact ⟨(wrap64 (x13_2 + 1)), (x14_2), (x15_2), (wrap64 (x16_2 + 1)), (by first | rfl | (simp; done) | (simp [*]; done)), (by first | rfl | (simp; done) | (simp [*]; done)), (by first | rfl | (simp; done) | (simp [*]; done)), (by first | rfl | (simp; done) | (simp [*]; done)), H', ⟨by have := HJ3.out; have := HK2.out; omega⟩, ⟨by repeat (first | (with_reducible first | exact HB.out | apply below_alloc | apply pw_below_drewN | apply below_drew1) | exact HB.out)⟩⟩
                  · rw [if_neg c18] at H
                    have c18b0 : ((bt t149 x16_2) == 10) = false := beq_eq_false_iff_ne.mpr c18
                    have c18b1 : ((bt t149 x16_2) != 10) = true := bne_iff_ne.mpr c18
                    by_cases c22 : x13_2 = 2
                    · rw [if_pos c22] at H
                      have c22b0 : (x13_2 == 2) = true := beq_iff_eq.mpr c22
                      have c22b1 : (x13_2 != 2) = false := bne_eq_false_iff_eq.mpr c22
                      clear c22
                      by_cases c24 : (bt t149 x16_2) = 94
                      · rw [if_pos c24] at H
                        have c24b0 : ((bt t149 x16_2) == 94) = true := beq_iff_eq.mpr c24
                        have c24b1 : ((bt t149 x16_2) != 94) = false := bne_eq_false_iff_eq.mpr c24
                        clear c24
                        have H' := Aside0.mk H
                        clear H
                        have p17 : 0 ≤ (x16_2 : Int) := of_decide_eq_true (by first | (with_reducible assumption) | assumption)
                        have q17 : x16_2 < (t149.size : Int) := of_decide_eq_true (by first | (with_reducible assumption) | assumption)
                        have hx17 := bt_at t149 x16_2
                        replace p17 := eq_true p17
                        replace q17 := eq_true q17
                        have p23 : 0 ≤ (x16_2 : Int) := of_decide_eq_true (by first | (with_reducible assumption) | assumption)
                        have q23 : x16_2 < (t149.size : Int) := of_decide_eq_true (by first | (with_reducible assumption) | assumption)
                        have hx23 := bt_at t149 x16_2
                        replace p23 := eq_true p23
                        replace q23 := eq_true q23
                        go_wp2
                        go_roundg k2
                        case measure => have := HJ3.out; have := HK2.out; omega
                        case rel => exact ⟨(x13_2), (x14_2), (x16_2), (wrap64 (x16_2 + 1)), (by first | rfl | (simp; done) | (simp [*]; done)), (by first | rfl | (simp; done) | (simp [*]; done)), (by first | rfl | (simp; done) | (simp [*]; done)), (by first | rfl | (simp; done) | (simp [*]; done)), H', ⟨by have := HJ3.out; have := HK2.out; omega⟩, ⟨by repeat (first | (with_reducible first | exact HB.out | apply below_alloc | apply pw_below_drewN | apply below_drew1) | exact HB.out)⟩⟩
                      · rw [if_neg c24] at H
                        have c24b0 : ((bt t149 x16_2) == 94) = false := beq_eq_false_iff_ne.mpr c24
                        have c24b1 : ((bt t149 x16_2) != 94) = true := bne_iff_ne.mpr c24
                        have H' := Aside0.mk H
                        clear H
                        have p17 : 0 ≤ (x16_2 : Int) := of_decide_eq_true (by first | (with_reducible assumption) | assumption)
                        have q17 : x16_2 < (t149.size : Int) := of_decide_eq_true (by first | (with_reducible assumption) | assumption)
                        have hx17 := bt_at t149 x16_2
                        replace p17 := eq_true p17
                        replace q17 := eq_true q17
                        have p23 : 0 ≤ (x16_2 : Int) := of_decide_eq_true (by first | (with_reducible assumption) | assumption)
                        have q23 : x16_2 < (t149.size : Int) := of_decide_eq_true (by first | (with_reducible assumption) | assumption)
                        have hx23 := bt_at t149 x16_2
                        replace p23 := eq_true p23
                        replace q23 := eq_true q23
                        go_wp2
                        go_roundg k2
                        case measure => have := HJ3.out; have := HK2.out; omega
                        case rel => exact ⟨(x13_2), (x14_2), (x15_2), (wrap64 (x16_2 + 1)), (by first | rfl | (simp; done) | (simp [*]; done)), (by first | rfl | (simp; done) | (simp [*]; done)), (by first | rfl | (simp; done) | (simp [*]; done)), (by first | rfl | (simp; done) | (simp [*]; done)), H', ⟨by have := HJ3.out; have := HK2.out; omega⟩, ⟨by repeat (first | (with_reducible first | exact HB.out | apply below_alloc | apply pw_below_drewN | apply below_drew1) | exact HB.out)⟩⟩
                    · rw [if_neg c22] at H
                      have c22b0 : (x13_2 == 2) = false := beq_eq_false_iff_ne.mpr c22
                      have c22b1 : (x13_2 != 2) = true := bne_iff_ne.mpr c22
                      have H' := Aside0.mk H
                      clear H
                      have p17 : 0 ≤ (x16_2 : Int) := of_decide_eq_true (by first | (with_reducible assumption) | assumption)
                      have q17 : x16_2 < (t149.size : Int) := of_decide_eq_true (by first | (with_reducible assumption) | assumption)
                      have hx17 := bt_at t149 x16_2
                      replace p17 := eq_true p17
                      replace q17 := eq_true q17
                      go_wp2
                      go_roundg k2
                      case measure => have := HJ3.out; have := HK2.out; omega
                      case rel => exact ⟨(x13_2), (x14_2), (x15_2), (wrap64 (x16_2 + 1)), (by first | rfl | (simp; done) | (simp [*]; done)), (by first | rfl | (simp; done) | (simp [*]; done)), (by first | rfl | (simp; done) | (simp [*]; done)), (by first | rfl | (simp; done) | (simp [*]; done)), H', ⟨by have := HJ3.out; have := HK2.out; omega⟩, ⟨by repeat (first | (with_reducible first | exact HB.out | apply below_alloc | apply pw_below_drewN | apply below_drew1) | exact HB.out)⟩⟩
                · rw [if_neg c16] at H
                  exact absurd H (by simp)
              · rw [if_neg c15] at H
                have c15b0 : decide (x16_2 < (t149.size : Int)) = false := decide_eq_false c15
                clear c15
                by_cases c25 : t154 = true
                · subst c25
                  have H1 : (if t152 = t150 then (if t153 = t151 then (if x13_2 = 3 then (if 0 ≤ (wrap64 ((t149.size : Int) - 1)) then (if (wrap64 ((t149.size : Int) - 1)) < (t149.size : Int) then (if (bt t149 (wrap64 ((t149.size : Int) - 1))) = 10 then (if x15_2 = (wrap64 ((t149.size : Int) - 2)) then (if (wrap64 (x15_2 - x14_2)) = (wrap64 (t151 - 1)) then ((hammocklaw28_knows.f).bind fun t155 => (some t155)) else (some false)) else (some false)) else (some false)) else (none)) else (none)) else (some false)) else (some false)) else (some false)) = some r := by rw [if_pos rfl] at H; exact H
                  clear H
                  have H := H1
                  clear H1
                  by_cases c26 : t152 = t150
                  · rw [if_pos c26] at H
                    have c26b0 : (t152 == t150) = true := beq_iff_eq.mpr c26
                    have c26b1 : (t152 != t150) = false := bne_eq_false_iff_eq.mpr c26
                    clear c26
                    by_cases c27 : t153 = t151
                    · rw [if_pos c27] at H
                      have c27b0 : (t153 == t151) = true := beq_iff_eq.mpr c27
                      have c27b1 : (t153 != t151) = false := bne_eq_false_iff_eq.mpr c27
                      clear c27
                      by_cases c28 : x13_2 = 3
                      · rw [if_pos c28] at H
                        have c28b0 : (x13_2 == 3) = true := beq_iff_eq.mpr c28
                        have c28b1 : (x13_2 != 3) = false := bne_eq_false_iff_eq.mpr c28
                        clear c28
                        obtain ⟨ji29, hji29⟩ : ∃ j_ : Int, (wrap64 ((t149.size : Int) - 1)) = j_ := ⟨_, rfl⟩
                        replace H : (if 0 ≤ (ji29) then (if (ji29) < (t149.size : Int) then (if (bt t149 (ji29)) = 10 then (if x15_2 = (wrap64 ((t149.size : Int) - 2)) then (if (wrap64 (x15_2 - x14_2)) = (wrap64 (t151 - 1)) then ((hammocklaw28_knows.f).bind fun t155 => (some t155)) else (some false)) else (some false)) else (some false)) else (none)) else (none)) = some r := by first | (rw [hji29] at H; exact H) | (simp only [hji29] at H ⊢; exact H)
                        have hji29w : (IntKind.i64.wrap ((t149.size : Int) - 1)) = ji29 := (i64_w _).trans hji29
                        by_cases c30 : 0 ≤ (ji29)
                        · rw [if_pos c30] at H
                          have c30b0 : decide (0 ≤ (ji29)) = true := decide_eq_true c30
                          clear c30
                          by_cases c31 : (ji29) < (t149.size : Int)
                          · rw [if_pos c31] at H
                            have c31b0 : decide ((ji29) < (t149.size : Int)) = true := decide_eq_true c31
                            clear c31
                            by_cases c33 : (bt t149 (ji29)) = 10
                            · rw [if_pos c33] at H
                              have c33b0 : ((bt t149 (ji29)) == 10) = true := beq_iff_eq.mpr c33
                              have c33b1 : ((bt t149 (ji29)) != 10) = false := bne_eq_false_iff_eq.mpr c33
                              clear c33
                              by_cases c34 : x15_2 = (wrap64 ((t149.size : Int) - 2))
                              · rw [if_pos c34] at H
                                have c34b0 : (x15_2 == (wrap64 ((t149.size : Int) - 2))) = true := beq_iff_eq.mpr c34
                                have c34b1 : (x15_2 != (wrap64 ((t149.size : Int) - 2))) = false := bne_eq_false_iff_eq.mpr c34
                                clear c34
                                by_cases c35 : (wrap64 (x15_2 - x14_2)) = (wrap64 (t151 - 1))
                                · rw [if_pos c35] at H
                                  have c35b0 : ((wrap64 (x15_2 - x14_2)) == (wrap64 (t151 - 1))) = true := beq_iff_eq.mpr c35
                                  have c35b1 : ((wrap64 (x15_2 - x14_2)) != (wrap64 (t151 - 1))) = false := bne_eq_false_iff_eq.mpr c35
                                  clear c35
                                  replace H := Option.bind_eq_some_iff.mp H
                                  obtain ⟨t155, A360, H⟩ := H
                                  replace H : (some t155) = some r := H
                                  have A36 := Aside0.mk A360
                                  clear A360
                                  obtain rfl := Option.some.inj H
                                  have p32 : 0 ≤ ((ji29) : Int) := of_decide_eq_true (by first | (with_reducible assumption) | assumption)
                                  have q32 : (ji29) < (t149.size : Int) := of_decide_eq_true (by first | (with_reducible assumption) | assumption)
                                  have hx32 := bt_at t149 (ji29)
                                  replace p32 := eq_true p32
                                  replace q32 := eq_true q32
                                  go_wp2_with (first | (go_at_call 5; (with_reducible refine (hammocklaw28_knows.calls  t155 _ A36.out (Lib.hid (GT.below hG.out (by repeat (first | (with_reducible first | exact HB.out | apply below_alloc | apply pw_below_drewN | apply below_drew1) | exact HB.out))))).mono ?_); rintro e w37 ⟨rfl, hb⟩; have n0_ := Aside0.mk (below_step (by repeat (first | (with_reducible first | exact HB.out | apply below_alloc | apply pw_below_drewN | apply below_drew1) | exact HB.out)) hb); clear HB; have HB := n0_; clear n0_; (try clear hb); (try clear hb2); (try clear hk); (try clear hi)))
                                  go_ret
                                  exact ⟨by first | rfl | (simp [errW_none, errW_some] <;> rfl) | (simp only [← hji29]; first | rfl | (simp [errW_none, errW_some] <;> rfl)) | (simp [*, errW_none, errW_some] <;> rfl), by repeat (first | (with_reducible first | exact HB.out | apply below_alloc | apply pw_below_drewN | apply below_drew1) | exact HB.out)⟩
                                · rw [if_neg c35] at H
                                  have c35b0 : ((wrap64 (x15_2 - x14_2)) == (wrap64 (t151 - 1))) = false := beq_eq_false_iff_ne.mpr c35
                                  have c35b1 : ((wrap64 (x15_2 - x14_2)) != (wrap64 (t151 - 1))) = true := bne_iff_ne.mpr c35
                                  obtain rfl := Option.some.inj H
                                  have p32 : 0 ≤ ((ji29) : Int) := of_decide_eq_true (by first | (with_reducible assumption) | assumption)
                                  have q32 : (ji29) < (t149.size : Int) := of_decide_eq_true (by first | (with_reducible assumption) | assumption)
                                  have hx32 := bt_at t149 (ji29)
                                  replace p32 := eq_true p32
                                  replace q32 := eq_true q32
                                  go_wp2
                                  go_ret
                                  exact ⟨by first | rfl | (simp [errW_none, errW_some] <;> rfl) | (simp only [← hji29]; first | rfl | (simp [errW_none, errW_some] <;> rfl)) | (simp [*, errW_none, errW_some] <;> rfl), by repeat (first | (with_reducible first | exact HB.out | apply below_alloc | apply pw_below_drewN | apply below_drew1) | exact HB.out)⟩
                              · rw [if_neg c34] at H
                                have c34b0 : (x15_2 == (wrap64 ((t149.size : Int) - 2))) = false := beq_eq_false_iff_ne.mpr c34
                                have c34b1 : (x15_2 != (wrap64 ((t149.size : Int) - 2))) = true := bne_iff_ne.mpr c34
                                obtain rfl := Option.some.inj H
                                have p32 : 0 ≤ ((ji29) : Int) := of_decide_eq_true (by first | (with_reducible assumption) | assumption)
                                have q32 : (ji29) < (t149.size : Int) := of_decide_eq_true (by first | (with_reducible assumption) | assumption)
                                have hx32 := bt_at t149 (ji29)
                                replace p32 := eq_true p32
                                replace q32 := eq_true q32
                                go_wp2
                                go_ret
                                exact ⟨by first | rfl | (simp [errW_none, errW_some] <;> rfl) | (simp only [← hji29]; first | rfl | (simp [errW_none, errW_some] <;> rfl)) | (simp [*, errW_none, errW_some] <;> rfl), by repeat (first | (with_reducible first | exact HB.out | apply below_alloc | apply pw_below_drewN | apply below_drew1) | exact HB.out)⟩
                            · rw [if_neg c33] at H
                              have c33b0 : ((bt t149 (ji29)) == 10) = false := beq_eq_false_iff_ne.mpr c33
                              have c33b1 : ((bt t149 (ji29)) != 10) = true := bne_iff_ne.mpr c33
                              obtain rfl := Option.some.inj H
                              have p32 : 0 ≤ ((ji29) : Int) := of_decide_eq_true (by first | (with_reducible assumption) | assumption)
                              have q32 : (ji29) < (t149.size : Int) := of_decide_eq_true (by first | (with_reducible assumption) | assumption)
                              have hx32 := bt_at t149 (ji29)
                              replace p32 := eq_true p32
                              replace q32 := eq_true q32
                              go_wp2
                              go_ret
                              exact ⟨by first | rfl | (simp [errW_none, errW_some] <;> rfl) | (simp only [← hji29]; first | rfl | (simp [errW_none, errW_some] <;> rfl)) | (simp [*, errW_none, errW_some] <;> rfl), by repeat (first | (with_reducible first | exact HB.out | apply below_alloc | apply pw_below_drewN | apply below_drew1) | exact HB.out)⟩
                          · rw [if_neg c31] at H
                            exact absurd H (by simp)
                        · rw [if_neg c30] at H
                          exact absurd H (by simp)
                      · rw [if_neg c28] at H
                        have c28b0 : (x13_2 == 3) = false := beq_eq_false_iff_ne.mpr c28
                        have c28b1 : (x13_2 != 3) = true := bne_iff_ne.mpr c28
                        obtain rfl := Option.some.inj H
                        go_wp2
                        go_ret
                        exact ⟨by first | rfl | (simp [errW_none, errW_some] <;> rfl) | (simp [*, errW_none, errW_some] <;> rfl), by repeat (first | (with_reducible first | exact HB.out | apply below_alloc | apply pw_below_drewN | apply below_drew1) | exact HB.out)⟩
                    · rw [if_neg c27] at H
                      have c27b0 : (t153 == t151) = false := beq_eq_false_iff_ne.mpr c27
                      have c27b1 : (t153 != t151) = true := bne_iff_ne.mpr c27
                      obtain rfl := Option.some.inj H
                      go_wp2
                      go_ret
                      exact ⟨by first | rfl | (simp [errW_none, errW_some] <;> rfl) | (simp [*, errW_none, errW_some] <;> rfl), by repeat (first | (with_reducible first | exact HB.out | apply below_alloc | apply pw_below_drewN | apply below_drew1) | exact HB.out)⟩
                  · rw [if_neg c26] at H
                    have c26b0 : (t152 == t150) = false := beq_eq_false_iff_ne.mpr c26
                    have c26b1 : (t152 != t150) = true := bne_iff_ne.mpr c26
                    obtain rfl := Option.some.inj H
                    go_wp2
                    go_ret
                    exact ⟨by first | rfl | (simp [errW_none, errW_some] <;> rfl) | (simp [*, errW_none, errW_some] <;> rfl), by repeat (first | (with_reducible first | exact HB.out | apply below_alloc | apply pw_below_drewN | apply below_drew1) | exact HB.out)⟩
                · replace c25 := Bool.eq_false_iff.mpr c25
                  subst c25
                  have H1 : (some false) = some r := by rw [if_neg (show ¬ (false = true) by decide)] at H; exact H
                  clear H
                  have H := H1
                  clear H1
                  obtain rfl := Option.some.inj H
                  go_wp2
                  go_ret
                  exact ⟨by first | rfl | (simp [errW_none, errW_some] <;> rfl) | (simp [*, errW_none, errW_some] <;> rfl), by repeat (first | (with_reducible first | exact HB.out | apply below_alloc | apply pw_below_drewN | apply below_drew1) | exact HB.out)⟩

/-- THE ONE PURE STATEMENT of hammocklaw28_ReportBack: yours. -/
def hammocklaw28_ReportBack.Pure : Prop := ∀ (a0 : ByteArray) (a1 : Int) (a2 : Int), a0.size ≤ 140737488351232 → (Lit.int .i64 a1).wf = true → (Lit.int .i64 a2).wf = true → ∃ k, hammocklaw28_ReportBack.f k a0 a1 a2 = some true
theorem hammocklaw28_ReportBack.walk (P : hammocklaw28_ReportBack.Pure) (a0 : ByteArray) (a1 : Int) (a2 : Int) (w : World) (w0 : a0.size ≤ 140737488351232) (w1 : (Lit.int .i64 a1).wf = true) (w2 : (Lit.int .i64 a2).wf = true) (hG : Hid (GT w)) :
    Calls Tryd.prog 4 #[.string a0, .int .i64 a1, .int .i64 a2] w fun e w' => e = .returned (.bool true) ∧ Below w.heap.size w w' := by
  obtain ⟨k, h⟩ := P a0 a1 a2 w0 w1 w2
  refine (hammocklaw28_ReportBack.calls k a0 a1 a2 true w h hG).mono ?_
  rintro e w' ⟨rfl, hd⟩
  exact ⟨rfl, hd⟩

end Go.Proofs.YtfnidapliohdjaaDoor.P
