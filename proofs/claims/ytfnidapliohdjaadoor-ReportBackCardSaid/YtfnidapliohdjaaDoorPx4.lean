-- written by a program of this session's (wip/tools/extprint.py) over the kit's print
import Derived.Test.YtfnidapliohdjaaDoorPx0
namespace Go.Proofs.YtfnidapliohdjaaDoor.P
open Go.RowKit Go.Proofs.YtfnidapliohdjaaDoorW.PrintWords Go.Proofs.YtfnidapliohdjaaDoorW.PrintLast Go.Proofs.YtfnidapliohdjaaDoorW.PrintMore
attribute [local go_sem] max2_int min2_int max_two min_two max_three min_three max_four min_four   -- for this text's walks alone
set_option linter.unusedVariables false
set_option linter.unusedSimpArgs false

/-! ### glyph_Class: function 24 -/
mutual
def glyph_Class.j0 : Nat → Int → Int → Bool → Option (Int)
  | 0, _, _, _ => none
  | k + 1, x0, x3, x4 => if x4 = true then (some 1) else (if x3 = 95 then (some 3) else (if x3 = 43 then (glyph_Class.j1 k x0 x3 (x3 == 43)) else (if x3 = 45 then (glyph_Class.j1 k x0 x3 (x3 == 45)) else (if x3 = 42 then (glyph_Class.j1 k x0 x3 (x3 == 42)) else (if x3 = 47 then (glyph_Class.j1 k x0 x3 (x3 == 47)) else (if x3 = 37 then (glyph_Class.j1 k x0 x3 (x3 == 37)) else (if x3 = 61 then (glyph_Class.j1 k x0 x3 (x3 == 61)) else (if x3 = 60 then (glyph_Class.j1 k x0 x3 (x3 == 60)) else (if x3 = 62 then (glyph_Class.j1 k x0 x3 (x3 == 62)) else (if x3 = 124 then (glyph_Class.j1 k x0 x3 (x3 == 124)) else (if x3 = 38 then (glyph_Class.j1 k x0 x3 (x3 == 38)) else (if x3 = 58 then (glyph_Class.j1 k x0 x3 (x3 == 58)) else (if x3 = 46 then (glyph_Class.j1 k x0 x3 (x3 == 46)) else (if x3 = 92 then (glyph_Class.j1 k x0 x3 (x3 == 92)) else (glyph_Class.j1 k x0 x3 (x3 == 33))))))))))))))))
def glyph_Class.j1 : Nat → Int → Int → Bool → Option (Int)
  | 0, _, _, _ => none
  | k + 1, x0, x3, x11 => if x11 = true then (some 5) else (if x3 = 40 then (glyph_Class.j2 k x0 x3 (x3 == 40)) else (if x3 = 41 then (glyph_Class.j2 k x0 x3 (x3 == 41)) else (if x3 = 91 then (glyph_Class.j2 k x0 x3 (x3 == 91)) else (if x3 = 93 then (glyph_Class.j2 k x0 x3 (x3 == 93)) else (if x3 = 123 then (glyph_Class.j2 k x0 x3 (x3 == 123)) else (if x3 = 125 then (glyph_Class.j2 k x0 x3 (x3 == 125)) else (if x3 = 44 then (glyph_Class.j2 k x0 x3 (x3 == 44)) else (glyph_Class.j2 k x0 x3 (x3 == 59)))))))))
def glyph_Class.j2 : Nat → Int → Int → Bool → Option (Int)
  | 0, _, _, _ => none
  | k + 1, x0, x3, x26 => if x26 = true then (some 6) else (if x3 = 39 then (some 7) else (if x3 = 34 then (some 7) else (if 48 ≤ x0 then (glyph_Class.j3 k x0 (decide (x0 ≤ 57))) else (glyph_Class.j3 k x0 false))))
def glyph_Class.j3 : Nat → Int → Bool → Option (Int)
  | 0, _, _ => none
  | k + 1, x0, x38 => if x38 = true then (some 2) else (if 97 ≤ x0 then (glyph_Class.j4 k x0 (decide (x0 ≤ 122))) else (glyph_Class.j4 k x0 false))
def glyph_Class.j4 : Nat → Int → Bool → Option (Int)
  | 0, _, _ => none
  | k + 1, x0, x45 => if x45 = true then (some 3) else (if 65 ≤ x0 then (if x0 ≤ 90 then (some 4) else (some 0)) else (some 0))
end
def glyph_Class.f (k : Nat) (a0 : Int) : Option (Int) := if a0 = 32 then (glyph_Class.j0 k a0 a0 (a0 == 32)) else (if a0 = 9 then (glyph_Class.j0 k a0 a0 (a0 == 9)) else (if a0 = 10 then (glyph_Class.j0 k a0 a0 (a0 == 10)) else (glyph_Class.j0 k a0 a0 (a0 == 13))))
theorem glyph_Class.mono_l : ∀ k, (∀ y0 y1 y2, LeO (glyph_Class.j0 k y0 y1 y2) (glyph_Class.j0 (k + 1) y0 y1 y2)) ∧ (∀ y0 y1 y2, LeO (glyph_Class.j1 k y0 y1 y2) (glyph_Class.j1 (k + 1) y0 y1 y2)) ∧ (∀ y0 y1 y2, LeO (glyph_Class.j2 k y0 y1 y2) (glyph_Class.j2 (k + 1) y0 y1 y2)) ∧ (∀ y0 y1, LeO (glyph_Class.j3 k y0 y1) (glyph_Class.j3 (k + 1) y0 y1)) ∧ (∀ y0 y1, LeO (glyph_Class.j4 k y0 y1) (glyph_Class.j4 (k + 1) y0 y1))
  | 0 => ⟨fun _ _ _ r h => by simp [glyph_Class.j0] at h, fun _ _ _ r h => by simp [glyph_Class.j1] at h, fun _ _ _ r h => by simp [glyph_Class.j2] at h, fun _ _ r h => by simp [glyph_Class.j3] at h, fun _ _ r h => by simp [glyph_Class.j4] at h⟩
  | k + 1 => by
    obtain ⟨ih0, ih1, ih2, ih3, ih4⟩ := glyph_Class.mono_l k
    refine ⟨?_, ?_, ?_, ?_, ?_⟩
    · intro y0 y1 y2
      unfold glyph_Class.j0
      repeat' first
      | (with_reducible exact ih0 _ _ _)
      | (with_reducible exact ih1 _ _ _)
      | (with_reducible exact ih2 _ _ _)
      | (with_reducible exact ih3 _ _)
      | (with_reducible exact ih4 _ _)
      | (with_reducible exact LeO.refl _)
      | (with_reducible exact LeO.none _)
      | (with_reducible refine LeO.ite ?_ ?_)
      | (with_reducible refine LeO.bind ?_ (fun _ => ?_))
      | exact ih0 _ _ _
      | exact ih1 _ _ _
      | exact ih2 _ _ _
      | exact ih3 _ _
      | exact ih4 _ _
      | exact LeO.none _
      | refine LeO.ite ?_ ?_
      | refine LeO.bind ?_ (fun _ => ?_)
    · intro y0 y1 y2
      unfold glyph_Class.j1
      repeat' first
      | (with_reducible exact ih0 _ _ _)
      | (with_reducible exact ih1 _ _ _)
      | (with_reducible exact ih2 _ _ _)
      | (with_reducible exact ih3 _ _)
      | (with_reducible exact ih4 _ _)
      | (with_reducible exact LeO.refl _)
      | (with_reducible exact LeO.none _)
      | (with_reducible refine LeO.ite ?_ ?_)
      | (with_reducible refine LeO.bind ?_ (fun _ => ?_))
      | exact ih0 _ _ _
      | exact ih1 _ _ _
      | exact ih2 _ _ _
      | exact ih3 _ _
      | exact ih4 _ _
      | exact LeO.none _
      | refine LeO.ite ?_ ?_
      | refine LeO.bind ?_ (fun _ => ?_)
    · intro y0 y1 y2
      unfold glyph_Class.j2
      repeat' first
      | (with_reducible exact ih0 _ _ _)
      | (with_reducible exact ih1 _ _ _)
      | (with_reducible exact ih2 _ _ _)
      | (with_reducible exact ih3 _ _)
      | (with_reducible exact ih4 _ _)
      | (with_reducible exact LeO.refl _)
      | (with_reducible exact LeO.none _)
      | (with_reducible refine LeO.ite ?_ ?_)
      | (with_reducible refine LeO.bind ?_ (fun _ => ?_))
      | exact ih0 _ _ _
      | exact ih1 _ _ _
      | exact ih2 _ _ _
      | exact ih3 _ _
      | exact ih4 _ _
      | exact LeO.none _
      | refine LeO.ite ?_ ?_
      | refine LeO.bind ?_ (fun _ => ?_)
    · intro y0 y1
      unfold glyph_Class.j3
      repeat' first
      | (with_reducible exact ih0 _ _ _)
      | (with_reducible exact ih1 _ _ _)
      | (with_reducible exact ih2 _ _ _)
      | (with_reducible exact ih3 _ _)
      | (with_reducible exact ih4 _ _)
      | (with_reducible exact LeO.refl _)
      | (with_reducible exact LeO.none _)
      | (with_reducible refine LeO.ite ?_ ?_)
      | (with_reducible refine LeO.bind ?_ (fun _ => ?_))
      | exact ih0 _ _ _
      | exact ih1 _ _ _
      | exact ih2 _ _ _
      | exact ih3 _ _
      | exact ih4 _ _
      | exact LeO.none _
      | refine LeO.ite ?_ ?_
      | refine LeO.bind ?_ (fun _ => ?_)
    · intro y0 y1
      unfold glyph_Class.j4
      repeat' first
      | (with_reducible exact ih0 _ _ _)
      | (with_reducible exact ih1 _ _ _)
      | (with_reducible exact ih2 _ _ _)
      | (with_reducible exact ih3 _ _)
      | (with_reducible exact ih4 _ _)
      | (with_reducible exact LeO.refl _)
      | (with_reducible exact LeO.none _)
      | (with_reducible refine LeO.ite ?_ ?_)
      | (with_reducible refine LeO.bind ?_ (fun _ => ?_))
      | exact ih0 _ _ _
      | exact ih1 _ _ _
      | exact ih2 _ _ _
      | exact ih3 _ _
      | exact ih4 _ _
      | exact LeO.none _
      | refine LeO.ite ?_ ?_
      | refine LeO.bind ?_ (fun _ => ?_)
theorem glyph_Class.mono : ∀ a0 k, LeO (glyph_Class.f k a0) (glyph_Class.f (k + 1) a0) := by
  intro a0 k
  obtain ⟨ih0, ih1, ih2, ih3, ih4⟩ := glyph_Class.mono_l k
  unfold glyph_Class.f
  repeat' first
      | (with_reducible exact ih0 _ _ _)
      | (with_reducible exact ih1 _ _ _)
      | (with_reducible exact ih2 _ _ _)
      | (with_reducible exact ih3 _ _)
      | (with_reducible exact ih4 _ _)
      | (with_reducible exact LeO.refl _)
      | (with_reducible exact LeO.none _)
      | (with_reducible refine LeO.ite ?_ ?_)
      | (with_reducible refine LeO.bind ?_ (fun _ => ?_))
      | exact ih0 _ _ _
      | exact ih1 _ _ _
      | exact ih2 _ _ _
      | exact ih3 _ _
      | exact ih4 _ _
      | exact LeO.none _
      | refine LeO.ite ?_ ?_
      | refine LeO.bind ?_ (fun _ => ?_)
set_option maxHeartbeats 8000000 in
set_option maxRecDepth 100000 in
theorem glyph_Class.calls (k : Nat) (a0 : Int) (r : Int) (w : World) (h : glyph_Class.f k a0 = some r) :
    Calls Tryd.prog 24 #[.int .u8 a0] w fun e w' => e = .returned (.int .i64 r) ∧ Drawn0 w w' := by
  have H : (if a0 = 32 then (glyph_Class.j0 k a0 a0 (a0 == 32)) else (if a0 = 9 then (glyph_Class.j0 k a0 a0 (a0 == 9)) else (if a0 = 10 then (glyph_Class.j0 k a0 a0 (a0 == 10)) else (glyph_Class.j0 k a0 a0 (a0 == 13))))) = some r := h
  clear h
  have HC2 := Aside0.mk H
  clear H
  go_enter Tryd.func24, Tryd.ntmps24
  go_upto_if 4 with (fail)
  go_cut [4] (fun v4 wc => ∃ (kq : Nat) (x4_1 : Bool), v4 = .bool x4_1 ∧ Aside0 (glyph_Class.j0 kq a0 a0 x4_1 = some r) ∧ Aside0 (kq ≤ k) ∧ Drawn0 w wc)
  case first =>
    have H := HC2.out
    clear HC2
    by_cases c3 : a0 = 32
    · rw [if_pos c3] at H
      have c3b0 : (a0 == 32) = true := beq_iff_eq.mpr c3
      have c3b1 : (a0 != 32) = false := bne_eq_false_iff_eq.mpr c3
      clear c3
      (first | rw [c3b0] | (simp only [i64_w, i32_w]; rw [c3b0]) | skip)
      have H' := Aside0.mk H
      clear H
      go_wp2
      go_meet
      case rel => exact ⟨_, ((a0 == 32)), (by first | rfl | (simp; done) | (simp [*]; done)), H', ⟨by first | omega | exact Nat.le_refl _⟩, by repeat (first | exact Drawn0.refl _ | apply Drawn0.step)⟩
    · rw [if_neg c3] at H
      have c3b0 : (a0 == 32) = false := beq_eq_false_iff_ne.mpr c3
      have c3b1 : (a0 != 32) = true := bne_iff_ne.mpr c3
      (first | rw [c3b0] | (simp only [i64_w, i32_w]; rw [c3b0]) | skip)
      by_cases c4 : a0 = 9
      · rw [if_pos c4] at H
        have c4b0 : (a0 == 9) = true := beq_iff_eq.mpr c4
        have c4b1 : (a0 != 9) = false := bne_eq_false_iff_eq.mpr c4
        clear c4
        have H' := Aside0.mk H
        clear H
        go_wp2
        go_meet
        case rel => exact ⟨_, ((a0 == 9)), (by first | rfl | (simp; done) | (simp [*]; done)), H', ⟨by first | omega | exact Nat.le_refl _⟩, by repeat (first | exact Drawn0.refl _ | apply Drawn0.step)⟩
      · rw [if_neg c4] at H
        have c4b0 : (a0 == 9) = false := beq_eq_false_iff_ne.mpr c4
        have c4b1 : (a0 != 9) = true := bne_iff_ne.mpr c4
        by_cases c5 : a0 = 10
        · rw [if_pos c5] at H
          have c5b0 : (a0 == 10) = true := beq_iff_eq.mpr c5
          have c5b1 : (a0 != 10) = false := bne_eq_false_iff_eq.mpr c5
          clear c5
          have H' := Aside0.mk H
          clear H
          go_wp2
          go_meet
          case rel => exact ⟨_, ((a0 == 10)), (by first | rfl | (simp; done) | (simp [*]; done)), H', ⟨by first | omega | exact Nat.le_refl _⟩, by repeat (first | exact Drawn0.refl _ | apply Drawn0.step)⟩
        · rw [if_neg c5] at H
          have c5b0 : (a0 == 10) = false := beq_eq_false_iff_ne.mpr c5
          have c5b1 : (a0 != 10) = true := bne_iff_ne.mpr c5
          have H' := Aside0.mk H
          clear H
          go_wp2
          go_meet
          case rel => exact ⟨_, ((a0 == 13)), (by first | rfl | (simp; done) | (simp [*]; done)), H', ⟨by first | omega | exact Nat.le_refl _⟩, by repeat (first | exact Drawn0.refl _ | apply Drawn0.step)⟩
  case rest =>
    clear HC2
    try clear c2
    try clear p2
    try clear c3
    try clear c3b0
    try clear c3b1
    try clear c4
    try clear c4b0
    try clear c4b1
    try clear c5
    try clear c5b0
    try clear c5b1
    obtain ⟨kq, x4_1, rfl, HA, HJ1, ⟨mc1, rfl⟩⟩ := hcut
    cases kq with
    | zero => exact absurd HA.out (by simp [glyph_Class.j0])
    | succ kj1 =>
      have H := HA.out
      clear HA
      simp only [glyph_Class.j0] at H
      by_cases c6 : x4_1 = true
      · subst c6
        have H1 : (some 1) = some r := by rw [if_pos rfl] at H; exact H
        clear H
        have H := H1
        clear H1
        obtain rfl := Option.some.inj H
        go_wp2
        go_ret
        exact ⟨by first | rfl | (simp; done) | (simp [*]; done), by repeat (first | exact Drawn0.refl _ | apply Drawn0.step)⟩
      · replace c6 := Bool.eq_false_iff.mpr c6
        subst c6
        have H1 : (if a0 = 95 then (some 3) else (if a0 = 43 then (glyph_Class.j1 kj1 a0 a0 (a0 == 43)) else (if a0 = 45 then (glyph_Class.j1 kj1 a0 a0 (a0 == 45)) else (if a0 = 42 then (glyph_Class.j1 kj1 a0 a0 (a0 == 42)) else (if a0 = 47 then (glyph_Class.j1 kj1 a0 a0 (a0 == 47)) else (if a0 = 37 then (glyph_Class.j1 kj1 a0 a0 (a0 == 37)) else (if a0 = 61 then (glyph_Class.j1 kj1 a0 a0 (a0 == 61)) else (if a0 = 60 then (glyph_Class.j1 kj1 a0 a0 (a0 == 60)) else (if a0 = 62 then (glyph_Class.j1 kj1 a0 a0 (a0 == 62)) else (if a0 = 124 then (glyph_Class.j1 kj1 a0 a0 (a0 == 124)) else (if a0 = 38 then (glyph_Class.j1 kj1 a0 a0 (a0 == 38)) else (if a0 = 58 then (glyph_Class.j1 kj1 a0 a0 (a0 == 58)) else (if a0 = 46 then (glyph_Class.j1 kj1 a0 a0 (a0 == 46)) else (if a0 = 92 then (glyph_Class.j1 kj1 a0 a0 (a0 == 92)) else (glyph_Class.j1 kj1 a0 a0 (a0 == 33)))))))))))))))) = some r := by rw [if_neg (show ¬ (false = true) by decide)] at H; exact H
        clear H
        have H := H1
        clear H1
        by_cases c7 : a0 = 95
        · rw [if_pos c7] at H
          have c7b0 : (a0 == 95) = true := beq_iff_eq.mpr c7
          have c7b1 : (a0 != 95) = false := bne_eq_false_iff_eq.mpr c7
          clear c7
          obtain rfl := Option.some.inj H
          go_wp2
          go_ret
          exact ⟨by first | rfl | (simp; done) | (simp [*]; done), by repeat (first | exact Drawn0.refl _ | apply Drawn0.step)⟩
        · rw [if_neg c7] at H
          have c7b0 : (a0 == 95) = false := beq_eq_false_iff_ne.mpr c7
          have c7b1 : (a0 != 95) = true := bne_iff_ne.mpr c7
          have HC8 := Aside0.mk H
          clear H
          go_upto_if 11 with (fail)
          go_cut [11] (fun v11 wc => ∃ (kq : Nat) (x11_7 : Bool), v11 = .bool x11_7 ∧ Aside0 (glyph_Class.j1 kq a0 a0 x11_7 = some r) ∧ Aside0 (kq ≤ kj1) ∧ Drawn0 w wc)
          case first =>
            have H := HC8.out
            clear HC8
            by_cases c9 : a0 = 43
            · rw [if_pos c9] at H
              have c9b0 : (a0 == 43) = true := beq_iff_eq.mpr c9
              have c9b1 : (a0 != 43) = false := bne_eq_false_iff_eq.mpr c9
              clear c9
              (first | rw [c9b0] | (simp only [i64_w, i32_w]; rw [c9b0]) | skip)
              have H' := Aside0.mk H
              clear H
              go_wp2
              go_meet
              case rel => exact ⟨_, ((a0 == 43)), (by first | rfl | (simp; done) | (simp [*]; done)), H', ⟨by have := HJ1.out; first | omega | exact Nat.le_refl _⟩, by repeat (first | exact Drawn0.refl _ | apply Drawn0.step)⟩
            · rw [if_neg c9] at H
              have c9b0 : (a0 == 43) = false := beq_eq_false_iff_ne.mpr c9
              have c9b1 : (a0 != 43) = true := bne_iff_ne.mpr c9
              (first | rw [c9b0] | (simp only [i64_w, i32_w]; rw [c9b0]) | skip)
              by_cases c10 : a0 = 45
              · rw [if_pos c10] at H
                have c10b0 : (a0 == 45) = true := beq_iff_eq.mpr c10
                have c10b1 : (a0 != 45) = false := bne_eq_false_iff_eq.mpr c10
                clear c10
                have H' := Aside0.mk H
                clear H
                go_wp2
                go_meet
                case rel => exact ⟨_, ((a0 == 45)), (by first | rfl | (simp; done) | (simp [*]; done)), H', ⟨by have := HJ1.out; first | omega | exact Nat.le_refl _⟩, by repeat (first | exact Drawn0.refl _ | apply Drawn0.step)⟩
              · rw [if_neg c10] at H
                have c10b0 : (a0 == 45) = false := beq_eq_false_iff_ne.mpr c10
                have c10b1 : (a0 != 45) = true := bne_iff_ne.mpr c10
                by_cases c11 : a0 = 42
                · rw [if_pos c11] at H
                  have c11b0 : (a0 == 42) = true := beq_iff_eq.mpr c11
                  have c11b1 : (a0 != 42) = false := bne_eq_false_iff_eq.mpr c11
                  clear c11
                  have H' := Aside0.mk H
                  clear H
                  go_wp2
                  go_meet
                  case rel => exact ⟨_, ((a0 == 42)), (by first | rfl | (simp; done) | (simp [*]; done)), H', ⟨by have := HJ1.out; first | omega | exact Nat.le_refl _⟩, by repeat (first | exact Drawn0.refl _ | apply Drawn0.step)⟩
                · rw [if_neg c11] at H
                  have c11b0 : (a0 == 42) = false := beq_eq_false_iff_ne.mpr c11
                  have c11b1 : (a0 != 42) = true := bne_iff_ne.mpr c11
                  by_cases c12 : a0 = 47
                  · rw [if_pos c12] at H
                    have c12b0 : (a0 == 47) = true := beq_iff_eq.mpr c12
                    have c12b1 : (a0 != 47) = false := bne_eq_false_iff_eq.mpr c12
                    clear c12
                    have H' := Aside0.mk H
                    clear H
                    go_wp2
                    go_meet
                    case rel => exact ⟨_, ((a0 == 47)), (by first | rfl | (simp; done) | (simp [*]; done)), H', ⟨by have := HJ1.out; first | omega | exact Nat.le_refl _⟩, by repeat (first | exact Drawn0.refl _ | apply Drawn0.step)⟩
                  · rw [if_neg c12] at H
                    have c12b0 : (a0 == 47) = false := beq_eq_false_iff_ne.mpr c12
                    have c12b1 : (a0 != 47) = true := bne_iff_ne.mpr c12
                    by_cases c13 : a0 = 37
                    · rw [if_pos c13] at H
                      have c13b0 : (a0 == 37) = true := beq_iff_eq.mpr c13
                      have c13b1 : (a0 != 37) = false := bne_eq_false_iff_eq.mpr c13
                      clear c13
                      have H' := Aside0.mk H
                      clear H
                      go_wp2
                      go_meet
                      case rel => exact ⟨_, ((a0 == 37)), (by first | rfl | (simp; done) | (simp [*]; done)), H', ⟨by have := HJ1.out; first | omega | exact Nat.le_refl _⟩, by repeat (first | exact Drawn0.refl _ | apply Drawn0.step)⟩
                    · rw [if_neg c13] at H
                      have c13b0 : (a0 == 37) = false := beq_eq_false_iff_ne.mpr c13
                      have c13b1 : (a0 != 37) = true := bne_iff_ne.mpr c13
                      by_cases c14 : a0 = 61
                      · rw [if_pos c14] at H
                        have c14b0 : (a0 == 61) = true := beq_iff_eq.mpr c14
                        have c14b1 : (a0 != 61) = false := bne_eq_false_iff_eq.mpr c14
                        clear c14
                        have H' := Aside0.mk H
                        clear H
                        go_wp2
                        go_meet
                        case rel => exact ⟨_, ((a0 == 61)), (by first | rfl | (simp; done) | (simp [*]; done)), H', ⟨by have := HJ1.out; first | omega | exact Nat.le_refl _⟩, by repeat (first | exact Drawn0.refl _ | apply Drawn0.step)⟩
                      · rw [if_neg c14] at H
                        have c14b0 : (a0 == 61) = false := beq_eq_false_iff_ne.mpr c14
                        have c14b1 : (a0 != 61) = true := bne_iff_ne.mpr c14
                        by_cases c15 : a0 = 60
                        · rw [if_pos c15] at H
                          have c15b0 : (a0 == 60) = true := beq_iff_eq.mpr c15
                          have c15b1 : (a0 != 60) = false := bne_eq_false_iff_eq.mpr c15
                          clear c15
                          have H' := Aside0.mk H
                          clear H
                          go_wp2
                          go_meet
                          case rel => exact ⟨_, ((a0 == 60)), (by first | rfl | (simp; done) | (simp [*]; done)), H', ⟨by have := HJ1.out; first | omega | exact Nat.le_refl _⟩, by repeat (first | exact Drawn0.refl _ | apply Drawn0.step)⟩
                        · rw [if_neg c15] at H
                          have c15b0 : (a0 == 60) = false := beq_eq_false_iff_ne.mpr c15
                          have c15b1 : (a0 != 60) = true := bne_iff_ne.mpr c15
                          by_cases c16 : a0 = 62
                          · rw [if_pos c16] at H
                            have c16b0 : (a0 == 62) = true := beq_iff_eq.mpr c16
                            have c16b1 : (a0 != 62) = false := bne_eq_false_iff_eq.mpr c16
                            clear c16
                            have H' := Aside0.mk H
                            clear H
                            go_wp2
                            go_meet
                            case rel => exact ⟨_, ((a0 == 62)), (by first | rfl | (simp; done) | (simp [*]; done)), H', ⟨by have := HJ1.out; first | omega | exact Nat.le_refl _⟩, by repeat (first | exact Drawn0.refl _ | apply Drawn0.step)⟩
                          · rw [if_neg c16] at H
                            have c16b0 : (a0 == 62) = false := beq_eq_false_iff_ne.mpr c16
                            have c16b1 : (a0 != 62) = true := bne_iff_ne.mpr c16
                            by_cases c17 : a0 = 124
                            · rw [if_pos c17] at H
                              have c17b0 : (a0 == 124) = true := beq_iff_eq.mpr c17
                              have c17b1 : (a0 != 124) = false := bne_eq_false_iff_eq.mpr c17
                              clear c17
                              have H' := Aside0.mk H
                              clear H
                              go_wp2
                              go_meet
                              case rel => exact ⟨_, ((a0 == 124)), (by first | rfl | (simp; done) | (simp [*]; done)), H', ⟨by have := HJ1.out; first | omega | exact Nat.le_refl _⟩, by repeat (first | exact Drawn0.refl _ | apply Drawn0.step)⟩
                            · rw [if_neg c17] at H
                              have c17b0 : (a0 == 124) = false := beq_eq_false_iff_ne.mpr c17
                              have c17b1 : (a0 != 124) = true := bne_iff_ne.mpr c17
                              by_cases c18 : a0 = 38
                              · rw [if_pos c18] at H
                                have c18b0 : (a0 == 38) = true := beq_iff_eq.mpr c18
                                have c18b1 : (a0 != 38) = false := bne_eq_false_iff_eq.mpr c18
                                clear c18
                                have H' := Aside0.mk H
                                clear H
                                go_wp2
                                go_meet
                                case rel => exact ⟨_, ((a0 == 38)), (by first | rfl | (simp; done) | (simp [*]; done)), H', ⟨by have := HJ1.out; first | omega | exact Nat.le_refl _⟩, by repeat (first | exact Drawn0.refl _ | apply Drawn0.step)⟩
                              · rw [if_neg c18] at H
                                have c18b0 : (a0 == 38) = false := beq_eq_false_iff_ne.mpr c18
                                have c18b1 : (a0 != 38) = true := bne_iff_ne.mpr c18
                                by_cases c19 : a0 = 58
                                · rw [if_pos c19] at H
                                  have c19b0 : (a0 == 58) = true := beq_iff_eq.mpr c19
                                  have c19b1 : (a0 != 58) = false := bne_eq_false_iff_eq.mpr c19
                                  clear c19
                                  have H' := Aside0.mk H
                                  clear H
                                  go_wp2
                                  go_meet
                                  case rel => exact ⟨_, ((a0 == 58)), (by first | rfl | (simp; done) | (simp [*]; done)), H', ⟨by have := HJ1.out; first | omega | exact Nat.le_refl _⟩, by repeat (first | exact Drawn0.refl _ | apply Drawn0.step)⟩
                                · rw [if_neg c19] at H
                                  have c19b0 : (a0 == 58) = false := beq_eq_false_iff_ne.mpr c19
                                  have c19b1 : (a0 != 58) = true := bne_iff_ne.mpr c19
                                  by_cases c20 : a0 = 46
                                  · rw [if_pos c20] at H
                                    have c20b0 : (a0 == 46) = true := beq_iff_eq.mpr c20
                                    have c20b1 : (a0 != 46) = false := bne_eq_false_iff_eq.mpr c20
                                    clear c20
                                    have H' := Aside0.mk H
                                    clear H
                                    go_wp2
                                    go_meet
                                    case rel => exact ⟨_, ((a0 == 46)), (by first | rfl | (simp; done) | (simp [*]; done)), H', ⟨by have := HJ1.out; first | omega | exact Nat.le_refl _⟩, by repeat (first | exact Drawn0.refl _ | apply Drawn0.step)⟩
                                  · rw [if_neg c20] at H
                                    have c20b0 : (a0 == 46) = false := beq_eq_false_iff_ne.mpr c20
                                    have c20b1 : (a0 != 46) = true := bne_iff_ne.mpr c20
                                    by_cases c21 : a0 = 92
                                    · rw [if_pos c21] at H
                                      have c21b0 : (a0 == 92) = true := beq_iff_eq.mpr c21
                                      have c21b1 : (a0 != 92) = false := bne_eq_false_iff_eq.mpr c21
                                      clear c21
                                      have H' := Aside0.mk H
                                      clear H
                                      go_wp2
                                      go_meet
                                      case rel => exact ⟨_, ((a0 == 92)), (by first | rfl | (simp; done) | (simp [*]; done)), H', ⟨by have := HJ1.out; first | omega | exact Nat.le_refl _⟩, by repeat (first | exact Drawn0.refl _ | apply Drawn0.step)⟩
                                    · rw [if_neg c21] at H
                                      have c21b0 : (a0 == 92) = false := beq_eq_false_iff_ne.mpr c21
                                      have c21b1 : (a0 != 92) = true := bne_iff_ne.mpr c21
                                      have H' := Aside0.mk H
                                      clear H
                                      go_wp2
                                      go_meet
                                      case rel => exact ⟨_, ((a0 == 33)), (by first | rfl | (simp; done) | (simp [*]; done)), H', ⟨by have := HJ1.out; first | omega | exact Nat.le_refl _⟩, by repeat (first | exact Drawn0.refl _ | apply Drawn0.step)⟩
          case rest =>
            clear HC8
            try clear c1
            try clear c2
            try clear p2
            try clear c3
            try clear c3b0
            try clear c3b1
            try clear c4
            try clear c4b0
            try clear c4b1
            try clear c5
            try clear c5b0
            try clear c5b1
            try clear c6
            try clear c7
            try clear c7b0
            try clear c7b1
            try clear c9
            try clear c9b0
            try clear c9b1
            try clear c10
            try clear c10b0
            try clear c10b1
            try clear c11
            try clear c11b0
            try clear c11b1
            try clear c12
            try clear c12b0
            try clear c12b1
            try clear c13
            try clear c13b0
            try clear c13b1
            try clear c14
            try clear c14b0
            try clear c14b1
            try clear c15
            try clear c15b0
            try clear c15b1
            try clear c16
            try clear c16b0
            try clear c16b1
            try clear c17
            try clear c17b0
            try clear c17b1
            try clear c18
            try clear c18b0
            try clear c18b1
            try clear c19
            try clear c19b0
            try clear c19b1
            try clear c20
            try clear c20b0
            try clear c20b1
            try clear c21
            try clear c21b0
            try clear c21b1
            try clear p2
            obtain ⟨kq, x11_7, rfl, HA, HJ7, ⟨mc7, rfl⟩⟩ := hcut
            cases kq with
            | zero => exact absurd HA.out (by simp [glyph_Class.j1])
            | succ kj7 =>
              have H := HA.out
              clear HA
              simp only [glyph_Class.j1] at H
              by_cases c22 : x11_7 = true
              · subst c22
                have H1 : (some 5) = some r := by rw [if_pos rfl] at H; exact H
                clear H
                have H := H1
                clear H1
                obtain rfl := Option.some.inj H
                go_wp2
                go_ret
                exact ⟨by first | rfl | (simp; done) | (simp [*]; done), by repeat (first | exact Drawn0.refl _ | apply Drawn0.step)⟩
              · replace c22 := Bool.eq_false_iff.mpr c22
                subst c22
                have H1 : (if a0 = 40 then (glyph_Class.j2 kj7 a0 a0 (a0 == 40)) else (if a0 = 41 then (glyph_Class.j2 kj7 a0 a0 (a0 == 41)) else (if a0 = 91 then (glyph_Class.j2 kj7 a0 a0 (a0 == 91)) else (if a0 = 93 then (glyph_Class.j2 kj7 a0 a0 (a0 == 93)) else (if a0 = 123 then (glyph_Class.j2 kj7 a0 a0 (a0 == 123)) else (if a0 = 125 then (glyph_Class.j2 kj7 a0 a0 (a0 == 125)) else (if a0 = 44 then (glyph_Class.j2 kj7 a0 a0 (a0 == 44)) else (glyph_Class.j2 kj7 a0 a0 (a0 == 59))))))))) = some r := by rw [if_neg (show ¬ (false = true) by decide)] at H; exact H
                clear H
                have H := H1
                clear H1
                have HC23 := Aside0.mk H
                clear H
                go_upto_if 26 with (fail)
                go_cut [26] (fun v26 wc => ∃ (kq : Nat) (x26_22 : Bool), v26 = .bool x26_22 ∧ Aside0 (glyph_Class.j2 kq a0 a0 x26_22 = some r) ∧ Aside0 (kq ≤ kj7) ∧ Drawn0 w wc)
                case first =>
                  have H := HC23.out
                  clear HC23
                  by_cases c24 : a0 = 40
                  · rw [if_pos c24] at H
                    have c24b0 : (a0 == 40) = true := beq_iff_eq.mpr c24
                    have c24b1 : (a0 != 40) = false := bne_eq_false_iff_eq.mpr c24
                    clear c24
                    (first | rw [c24b0] | (simp only [i64_w, i32_w]; rw [c24b0]) | skip)
                    have H' := Aside0.mk H
                    clear H
                    go_wp2
                    go_meet
                    case rel => exact ⟨_, ((a0 == 40)), (by first | rfl | (simp; done) | (simp [*]; done)), H', ⟨by have := HJ1.out; have := HJ7.out; first | omega | exact Nat.le_refl _⟩, by repeat (first | exact Drawn0.refl _ | apply Drawn0.step)⟩
                  · rw [if_neg c24] at H
                    have c24b0 : (a0 == 40) = false := beq_eq_false_iff_ne.mpr c24
                    have c24b1 : (a0 != 40) = true := bne_iff_ne.mpr c24
                    (first | rw [c24b0] | (simp only [i64_w, i32_w]; rw [c24b0]) | skip)
                    by_cases c25 : a0 = 41
                    · rw [if_pos c25] at H
                      have c25b0 : (a0 == 41) = true := beq_iff_eq.mpr c25
                      have c25b1 : (a0 != 41) = false := bne_eq_false_iff_eq.mpr c25
                      clear c25
                      have H' := Aside0.mk H
                      clear H
                      go_wp2
                      go_meet
                      case rel => exact ⟨_, ((a0 == 41)), (by first | rfl | (simp; done) | (simp [*]; done)), H', ⟨by have := HJ1.out; have := HJ7.out; first | omega | exact Nat.le_refl _⟩, by repeat (first | exact Drawn0.refl _ | apply Drawn0.step)⟩
                    · rw [if_neg c25] at H
                      have c25b0 : (a0 == 41) = false := beq_eq_false_iff_ne.mpr c25
                      have c25b1 : (a0 != 41) = true := bne_iff_ne.mpr c25
                      by_cases c26 : a0 = 91
                      · rw [if_pos c26] at H
                        have c26b0 : (a0 == 91) = true := beq_iff_eq.mpr c26
                        have c26b1 : (a0 != 91) = false := bne_eq_false_iff_eq.mpr c26
                        clear c26
                        have H' := Aside0.mk H
                        clear H
                        go_wp2
                        go_meet
                        case rel => exact ⟨_, ((a0 == 91)), (by first | rfl | (simp; done) | (simp [*]; done)), H', ⟨by have := HJ1.out; have := HJ7.out; first | omega | exact Nat.le_refl _⟩, by repeat (first | exact Drawn0.refl _ | apply Drawn0.step)⟩
                      · rw [if_neg c26] at H
                        have c26b0 : (a0 == 91) = false := beq_eq_false_iff_ne.mpr c26
                        have c26b1 : (a0 != 91) = true := bne_iff_ne.mpr c26
                        by_cases c27 : a0 = 93
                        · rw [if_pos c27] at H
                          have c27b0 : (a0 == 93) = true := beq_iff_eq.mpr c27
                          have c27b1 : (a0 != 93) = false := bne_eq_false_iff_eq.mpr c27
                          clear c27
                          have H' := Aside0.mk H
                          clear H
                          go_wp2
                          go_meet
                          case rel => exact ⟨_, ((a0 == 93)), (by first | rfl | (simp; done) | (simp [*]; done)), H', ⟨by have := HJ1.out; have := HJ7.out; first | omega | exact Nat.le_refl _⟩, by repeat (first | exact Drawn0.refl _ | apply Drawn0.step)⟩
                        · rw [if_neg c27] at H
                          have c27b0 : (a0 == 93) = false := beq_eq_false_iff_ne.mpr c27
                          have c27b1 : (a0 != 93) = true := bne_iff_ne.mpr c27
                          by_cases c28 : a0 = 123
                          · rw [if_pos c28] at H
                            have c28b0 : (a0 == 123) = true := beq_iff_eq.mpr c28
                            have c28b1 : (a0 != 123) = false := bne_eq_false_iff_eq.mpr c28
                            clear c28
                            have H' := Aside0.mk H
                            clear H
                            go_wp2
                            go_meet
                            case rel => exact ⟨_, ((a0 == 123)), (by first | rfl | (simp; done) | (simp [*]; done)), H', ⟨by have := HJ1.out; have := HJ7.out; first | omega | exact Nat.le_refl _⟩, by repeat (first | exact Drawn0.refl _ | apply Drawn0.step)⟩
                          · rw [if_neg c28] at H
                            have c28b0 : (a0 == 123) = false := beq_eq_false_iff_ne.mpr c28
                            have c28b1 : (a0 != 123) = true := bne_iff_ne.mpr c28
                            by_cases c29 : a0 = 125
                            · rw [if_pos c29] at H
                              have c29b0 : (a0 == 125) = true := beq_iff_eq.mpr c29
                              have c29b1 : (a0 != 125) = false := bne_eq_false_iff_eq.mpr c29
                              clear c29
                              have H' := Aside0.mk H
                              clear H
                              go_wp2
                              go_meet
                              case rel => exact ⟨_, ((a0 == 125)), (by first | rfl | (simp; done) | (simp [*]; done)), H', ⟨by have := HJ1.out; have := HJ7.out; first | omega | exact Nat.le_refl _⟩, by repeat (first | exact Drawn0.refl _ | apply Drawn0.step)⟩
                            · rw [if_neg c29] at H
                              have c29b0 : (a0 == 125) = false := beq_eq_false_iff_ne.mpr c29
                              have c29b1 : (a0 != 125) = true := bne_iff_ne.mpr c29
                              by_cases c30 : a0 = 44
                              · rw [if_pos c30] at H
                                have c30b0 : (a0 == 44) = true := beq_iff_eq.mpr c30
                                have c30b1 : (a0 != 44) = false := bne_eq_false_iff_eq.mpr c30
                                clear c30
                                have H' := Aside0.mk H
                                clear H
                                go_wp2
                                go_meet
                                case rel => exact ⟨_, ((a0 == 44)), (by first | rfl | (simp; done) | (simp [*]; done)), H', ⟨by have := HJ1.out; have := HJ7.out; first | omega | exact Nat.le_refl _⟩, by repeat (first | exact Drawn0.refl _ | apply Drawn0.step)⟩
                              · rw [if_neg c30] at H
                                have c30b0 : (a0 == 44) = false := beq_eq_false_iff_ne.mpr c30
                                have c30b1 : (a0 != 44) = true := bne_iff_ne.mpr c30
                                have H' := Aside0.mk H
                                clear H
                                go_wp2
                                go_meet
                                case rel => exact ⟨_, ((a0 == 59)), (by first | rfl | (simp; done) | (simp [*]; done)), H', ⟨by have := HJ1.out; have := HJ7.out; first | omega | exact Nat.le_refl _⟩, by repeat (first | exact Drawn0.refl _ | apply Drawn0.step)⟩
                case rest =>
                  clear HC23
                  try clear c1
                  try clear c2
                  try clear p2
                  try clear c3
                  try clear c3b0
                  try clear c3b1
                  try clear c4
                  try clear c4b0
                  try clear c4b1
                  try clear c5
                  try clear c5b0
                  try clear c5b1
                  try clear c6
                  try clear c7
                  try clear c7b0
                  try clear c7b1
                  try clear c9
                  try clear c9b0
                  try clear c9b1
                  try clear c10
                  try clear c10b0
                  try clear c10b1
                  try clear c11
                  try clear c11b0
                  try clear c11b1
                  try clear c12
                  try clear c12b0
                  try clear c12b1
                  try clear c13
                  try clear c13b0
                  try clear c13b1
                  try clear c14
                  try clear c14b0
                  try clear c14b1
                  try clear c15
                  try clear c15b0
                  try clear c15b1
                  try clear c16
                  try clear c16b0
                  try clear c16b1
                  try clear c17
                  try clear c17b0
                  try clear c17b1
                  try clear c18
                  try clear c18b0
                  try clear c18b1
                  try clear c19
                  try clear c19b0
                  try clear c19b1
                  try clear c20
                  try clear c20b0
                  try clear c20b1
                  try clear c21
                  try clear c21b0
                  try clear c21b1
                  try clear c22
                  try clear c24
                  try clear c24b0
                  try clear c24b1
                  try clear c25
                  try clear c25b0
                  try clear c25b1
                  try clear c26
                  try clear c26b0
                  try clear c26b1
                  try clear c27
                  try clear c27b0
                  try clear c27b1
                  try clear c28
                  try clear c28b0
                  try clear c28b1
                  try clear c29
                  try clear c29b0
                  try clear c29b1
                  try clear c30
                  try clear c30b0
                  try clear c30b1
                  try clear p2
                  obtain ⟨kq, x26_22, rfl, HA, HJ22, ⟨mc22, rfl⟩⟩ := hcut
                  cases kq with
                  | zero => exact absurd HA.out (by simp [glyph_Class.j2])
                  | succ kj22 =>
                    have H := HA.out
                    clear HA
                    simp only [glyph_Class.j2] at H
                    by_cases c31 : x26_22 = true
                    · subst c31
                      have H1 : (some 6) = some r := by rw [if_pos rfl] at H; exact H
                      clear H
                      have H := H1
                      clear H1
                      obtain rfl := Option.some.inj H
                      go_wp2
                      go_ret
                      exact ⟨by first | rfl | (simp; done) | (simp [*]; done), by repeat (first | exact Drawn0.refl _ | apply Drawn0.step)⟩
                    · replace c31 := Bool.eq_false_iff.mpr c31
                      subst c31
                      have H1 : (if a0 = 39 then (some 7) else (if a0 = 34 then (some 7) else (if 48 ≤ a0 then (glyph_Class.j3 kj22 a0 (decide (a0 ≤ 57))) else (glyph_Class.j3 kj22 a0 false)))) = some r := by rw [if_neg (show ¬ (false = true) by decide)] at H; exact H
                      clear H
                      have H := H1
                      clear H1
                      by_cases c32 : a0 = 39
                      · rw [if_pos c32] at H
                        have c32b0 : (a0 == 39) = true := beq_iff_eq.mpr c32
                        have c32b1 : (a0 != 39) = false := bne_eq_false_iff_eq.mpr c32
                        clear c32
                        obtain rfl := Option.some.inj H
                        go_wp2
                        go_ret
                        exact ⟨by first | rfl | (simp; done) | (simp [*]; done), by repeat (first | exact Drawn0.refl _ | apply Drawn0.step)⟩
                      · rw [if_neg c32] at H
                        have c32b0 : (a0 == 39) = false := beq_eq_false_iff_ne.mpr c32
                        have c32b1 : (a0 != 39) = true := bne_iff_ne.mpr c32
                        by_cases c33 : a0 = 34
                        · rw [if_pos c33] at H
                          have c33b0 : (a0 == 34) = true := beq_iff_eq.mpr c33
                          have c33b1 : (a0 != 34) = false := bne_eq_false_iff_eq.mpr c33
                          clear c33
                          obtain rfl := Option.some.inj H
                          go_wp2
                          go_ret
                          exact ⟨by first | rfl | (simp; done) | (simp [*]; done), by repeat (first | exact Drawn0.refl _ | apply Drawn0.step)⟩
                        · rw [if_neg c33] at H
                          have c33b0 : (a0 == 34) = false := beq_eq_false_iff_ne.mpr c33
                          have c33b1 : (a0 != 34) = true := bne_iff_ne.mpr c33
                          have HC34 := Aside0.mk H
                          clear H
                          go_upto_region 36 with (fail)
                          go_cut [38] (fun v38 wc => ∃ (kq : Nat) (x38_33 : Bool), v38 = .bool x38_33 ∧ Aside0 (glyph_Class.j3 kq a0 x38_33 = some r) ∧ Aside0 (kq ≤ kj22) ∧ Drawn0 w wc)
                          case first =>
                            have H := HC34.out
                            clear HC34
                            by_cases c35 : 48 ≤ a0
                            · rw [if_pos c35] at H
                              have c35b0 : decide (48 ≤ a0) = true := decide_eq_true c35
                              clear c35
                              (first | rw [c35b0] | (simp only [i64_w, i32_w]; rw [c35b0]) | skip)
                              have H' := Aside0.mk H
                              clear H
                              go_wp2
                              go_meet
                              case rel => exact ⟨_, (decide (a0 ≤ 57)), (by first | rfl | (simp; done) | (simp [*]; done)), H', ⟨by have := HJ1.out; have := HJ7.out; have := HJ22.out; first | omega | exact Nat.le_refl _⟩, by repeat (first | exact Drawn0.refl _ | apply Drawn0.step)⟩
                            · rw [if_neg c35] at H
                              have c35b0 : decide (48 ≤ a0) = false := decide_eq_false c35
                              clear c35
                              (first | rw [c35b0] | (simp only [i64_w, i32_w]; rw [c35b0]) | skip)
                              have H' := Aside0.mk H
                              clear H
                              go_wp2
                              go_meet
                              case rel => exact ⟨_, (false), (by first | rfl | (simp; done) | (simp [*]; done)), H', ⟨by have := HJ1.out; have := HJ7.out; have := HJ22.out; first | omega | exact Nat.le_refl _⟩, by repeat (first | exact Drawn0.refl _ | apply Drawn0.step)⟩
                          case rest =>
                            clear HC34
                            try clear c1
                            try clear c2
                            try clear p2
                            try clear c3
                            try clear c3b0
                            try clear c3b1
                            try clear c4
                            try clear c4b0
                            try clear c4b1
                            try clear c5
                            try clear c5b0
                            try clear c5b1
                            try clear c6
                            try clear c7
                            try clear c7b0
                            try clear c7b1
                            try clear c9
                            try clear c9b0
                            try clear c9b1
                            try clear c10
                            try clear c10b0
                            try clear c10b1
                            try clear c11
                            try clear c11b0
                            try clear c11b1
                            try clear c12
                            try clear c12b0
                            try clear c12b1
                            try clear c13
                            try clear c13b0
                            try clear c13b1
                            try clear c14
                            try clear c14b0
                            try clear c14b1
                            try clear c15
                            try clear c15b0
                            try clear c15b1
                            try clear c16
                            try clear c16b0
                            try clear c16b1
                            try clear c17
                            try clear c17b0
                            try clear c17b1
                            try clear c18
                            try clear c18b0
                            try clear c18b1
                            try clear c19
                            try clear c19b0
                            try clear c19b1
                            try clear c20
                            try clear c20b0
                            try clear c20b1
                            try clear c21
                            try clear c21b0
                            try clear c21b1
                            try clear c22
                            try clear c24
                            try clear c24b0
                            try clear c24b1
                            try clear c25
                            try clear c25b0
                            try clear c25b1
                            try clear c26
                            try clear c26b0
                            try clear c26b1
                            try clear c27
                            try clear c27b0
                            try clear c27b1
                            try clear c28
                            try clear c28b0
                            try clear c28b1
                            try clear c29
                            try clear c29b0
                            try clear c29b1
                            try clear c30
                            try clear c30b0
                            try clear c30b1
                            try clear c31
                            try clear c32
                            try clear c32b0
                            try clear c32b1
                            try clear c33
                            try clear c33b0
                            try clear c33b1
                            try clear c35
                            try clear c35b0
                            try clear p2
                            obtain ⟨kq, x38_33, rfl, HA, HJ33, ⟨mc33, rfl⟩⟩ := hcut
                            cases kq with
                            | zero => exact absurd HA.out (by simp [glyph_Class.j3])
                            | succ kj33 =>
                              have H := HA.out
                              clear HA
                              simp only [glyph_Class.j3] at H
                              by_cases c36 : x38_33 = true
                              · subst c36
                                have H1 : (some 2) = some r := by rw [if_pos rfl] at H; exact H
                                clear H
                                have H := H1
                                clear H1
                                obtain rfl := Option.some.inj H
                                go_wp2
                                go_ret
                                exact ⟨by first | rfl | (simp; done) | (simp [*]; done), by repeat (first | exact Drawn0.refl _ | apply Drawn0.step)⟩
                              · replace c36 := Bool.eq_false_iff.mpr c36
                                subst c36
                                have H1 : (if 97 ≤ a0 then (glyph_Class.j4 kj33 a0 (decide (a0 ≤ 122))) else (glyph_Class.j4 kj33 a0 false)) = some r := by rw [if_neg (show ¬ (false = true) by decide)] at H; exact H
                                clear H
                                have H := H1
                                clear H1
                                have HC37 := Aside0.mk H
                                clear H
                                go_upto_region 38 with (fail)
                                go_cut [45] (fun v45 wc => ∃ (kq : Nat) (x45_36 : Bool), v45 = .bool x45_36 ∧ Aside0 (glyph_Class.j4 kq a0 x45_36 = some r) ∧ Aside0 (kq ≤ kj33) ∧ Drawn0 w wc)
                                case first =>
                                  have H := HC37.out
                                  clear HC37
                                  by_cases c38 : 97 ≤ a0
                                  · rw [if_pos c38] at H
                                    have c38b0 : decide (97 ≤ a0) = true := decide_eq_true c38
                                    clear c38
                                    (first | rw [c38b0] | (simp only [i64_w, i32_w]; rw [c38b0]) | skip)
                                    have H' := Aside0.mk H
                                    clear H
                                    go_wp2
                                    go_meet
                                    case rel => exact ⟨_, (decide (a0 ≤ 122)), (by first | rfl | (simp; done) | (simp [*]; done)), H', ⟨by have := HJ1.out; have := HJ7.out; have := HJ22.out; have := HJ33.out; first | omega | exact Nat.le_refl _⟩, by repeat (first | exact Drawn0.refl _ | apply Drawn0.step)⟩
                                  · rw [if_neg c38] at H
                                    have c38b0 : decide (97 ≤ a0) = false := decide_eq_false c38
                                    clear c38
                                    (first | rw [c38b0] | (simp only [i64_w, i32_w]; rw [c38b0]) | skip)
                                    have H' := Aside0.mk H
                                    clear H
                                    go_wp2
                                    go_meet
                                    case rel => exact ⟨_, (false), (by first | rfl | (simp; done) | (simp [*]; done)), H', ⟨by have := HJ1.out; have := HJ7.out; have := HJ22.out; have := HJ33.out; first | omega | exact Nat.le_refl _⟩, by repeat (first | exact Drawn0.refl _ | apply Drawn0.step)⟩
                                case rest =>
                                  clear HC37
                                  try clear c1
                                  try clear c2
                                  try clear p2
                                  try clear c3
                                  try clear c3b0
                                  try clear c3b1
                                  try clear c4
                                  try clear c4b0
                                  try clear c4b1
                                  try clear c5
                                  try clear c5b0
                                  try clear c5b1
                                  try clear c6
                                  try clear c7
                                  try clear c7b0
                                  try clear c7b1
                                  try clear c9
                                  try clear c9b0
                                  try clear c9b1
                                  try clear c10
                                  try clear c10b0
                                  try clear c10b1
                                  try clear c11
                                  try clear c11b0
                                  try clear c11b1
                                  try clear c12
                                  try clear c12b0
                                  try clear c12b1
                                  try clear c13
                                  try clear c13b0
                                  try clear c13b1
                                  try clear c14
                                  try clear c14b0
                                  try clear c14b1
                                  try clear c15
                                  try clear c15b0
                                  try clear c15b1
                                  try clear c16
                                  try clear c16b0
                                  try clear c16b1
                                  try clear c17
                                  try clear c17b0
                                  try clear c17b1
                                  try clear c18
                                  try clear c18b0
                                  try clear c18b1
                                  try clear c19
                                  try clear c19b0
                                  try clear c19b1
                                  try clear c20
                                  try clear c20b0
                                  try clear c20b1
                                  try clear c21
                                  try clear c21b0
                                  try clear c21b1
                                  try clear c22
                                  try clear c24
                                  try clear c24b0
                                  try clear c24b1
                                  try clear c25
                                  try clear c25b0
                                  try clear c25b1
                                  try clear c26
                                  try clear c26b0
                                  try clear c26b1
                                  try clear c27
                                  try clear c27b0
                                  try clear c27b1
                                  try clear c28
                                  try clear c28b0
                                  try clear c28b1
                                  try clear c29
                                  try clear c29b0
                                  try clear c29b1
                                  try clear c30
                                  try clear c30b0
                                  try clear c30b1
                                  try clear c31
                                  try clear c32
                                  try clear c32b0
                                  try clear c32b1
                                  try clear c33
                                  try clear c33b0
                                  try clear c33b1
                                  try clear c35
                                  try clear c35b0
                                  try clear c36
                                  try clear c38
                                  try clear c38b0
                                  try clear p2
                                  obtain ⟨kq, x45_36, rfl, HA, HJ36, ⟨mc36, rfl⟩⟩ := hcut
                                  cases kq with
                                  | zero => exact absurd HA.out (by simp [glyph_Class.j4])
                                  | succ kj36 =>
                                    have H := HA.out
                                    clear HA
                                    simp only [glyph_Class.j4] at H
                                    by_cases c39 : x45_36 = true
                                    · subst c39
                                      have H1 : (some 3) = some r := by rw [if_pos rfl] at H; exact H
                                      clear H
                                      have H := H1
                                      clear H1
                                      obtain rfl := Option.some.inj H
                                      go_wp2
                                      go_ret
                                      exact ⟨by first | rfl | (simp; done) | (simp [*]; done), by repeat (first | exact Drawn0.refl _ | apply Drawn0.step)⟩
                                    · replace c39 := Bool.eq_false_iff.mpr c39
                                      subst c39
                                      have H1 : (if 65 ≤ a0 then (if a0 ≤ 90 then (some 4) else (some 0)) else (some 0)) = some r := by rw [if_neg (show ¬ (false = true) by decide)] at H; exact H
                                      clear H
                                      have H := H1
                                      clear H1
                                      by_cases c40 : 65 ≤ a0
                                      · rw [if_pos c40] at H
                                        have c40b0 : decide (65 ≤ a0) = true := decide_eq_true c40
                                        clear c40
                                        by_cases c41 : a0 ≤ 90
                                        · rw [if_pos c41] at H
                                          have c41b0 : decide (a0 ≤ 90) = true := decide_eq_true c41
                                          clear c41
                                          obtain rfl := Option.some.inj H
                                          go_wp2
                                          go_ret
                                          exact ⟨by first | rfl | (simp; done) | (simp [*]; done), by repeat (first | exact Drawn0.refl _ | apply Drawn0.step)⟩
                                        · rw [if_neg c41] at H
                                          have c41b0 : decide (a0 ≤ 90) = false := decide_eq_false c41
                                          clear c41
                                          obtain rfl := Option.some.inj H
                                          go_wp2
                                          go_ret
                                          exact ⟨by first | rfl | (simp; done) | (simp [*]; done), by repeat (first | exact Drawn0.refl _ | apply Drawn0.step)⟩
                                      · rw [if_neg c40] at H
                                        have c40b0 : decide (65 ≤ a0) = false := decide_eq_false c40
                                        clear c40
                                        obtain rfl := Option.some.inj H
                                        go_wp2
                                        go_ret
                                        exact ⟨by first | rfl | (simp; done) | (simp [*]; done), by repeat (first | exact Drawn0.refl _ | apply Drawn0.step)⟩

end Go.Proofs.YtfnidapliohdjaaDoor.P
