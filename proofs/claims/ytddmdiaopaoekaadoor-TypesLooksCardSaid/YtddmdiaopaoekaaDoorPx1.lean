-- written by a program of this session's (wip/tools/extprint.py) over the kit's print
import Derived.Test.YtddmdiaopaoekaaDoorPx0
import Derived.Test.YtddmdiaopaoekaaDoorSq
namespace Go.Proofs.YtddmdiaopaoekaaDoor.P
open Go.RowKit Go.Proofs.YtddmdiaopaoekaaDoorW.PrintWords Go.Proofs.YtddmdiaopaoekaaDoorW.PrintLast Go.Proofs.YtddmdiaopaoekaaDoorW.PrintMore
attribute [local go_sem] max2_int min2_int max_two min_two max_three min_three max_four min_four   -- for this text's walks alone
set_option linter.unusedVariables false
set_option linter.unusedSimpArgs false

mutual
def hammocklaw09_few.l0 : Nat → List (S24) → Int → Int → Option (Int)
 | 0, _, _, _ => none
 | k + 1, x0, x1, x5 => if x5 < (x0.length : Int) then (if x1 ≥ 0 then (if 0 ≤ x5 then ((hammocklaw09_few.f k ((rd_T24 x0 x5).f3) (wrap64 ((wrap64 (x1 - 1)) - (wrap64 ((((rd_T24 x0 x5).f2).size : Int) / 60))))).bind fun t103 => (hammocklaw09_few.l0 k x0 t103 (wrap64 (x5 + 1)))) else (none)) else (some x1)) else (some x1)
def hammocklaw09_few.f : Nat → List (S24) → Int → Option (Int)
 | 0, _, _ => none
 | k + 1, l0, a1 => hammocklaw09_few.l0 k l0 a1 0
end
theorem hammocklaw09_few.mono_l : ∀ k, (∀ y0 y1, LeO (hammocklaw09_few.f k y0 y1) (hammocklaw09_few.f (k + 1) y0 y1)) ∧ (∀ y0 y1 y2, LeO (hammocklaw09_few.l0 k y0 y1 y2) (hammocklaw09_few.l0 (k + 1) y0 y1 y2))
 | 0 => ⟨fun _ _ r h => by simp [hammocklaw09_few.f] at h, fun _ _ _ r h => by simp [hammocklaw09_few.l0] at h⟩
 | k + 1 => by
  obtain ⟨ih0, ih1⟩ := hammocklaw09_few.mono_l k
  refine ⟨?_, ?_⟩
  ·intro y0 y1
   unfold hammocklaw09_few.f
   repeat' first
   | (with_reducible exact ih0 _ _)
   | (with_reducible exact ih1 _ _ _)
   | (with_reducible exact LeO.refl _)
   | (with_reducible exact LeO.none _)
   | (with_reducible refine LeO.ite ?_ ?_)
   | (with_reducible refine LeO.bind ?_ (fun _ => ?_))
  ·intro y0 y1 y2
   unfold hammocklaw09_few.l0
   repeat' first
   | (with_reducible exact ih0 _ _)
   | (with_reducible exact ih1 _ _ _)
   | (with_reducible exact LeO.refl _)
   | (with_reducible exact LeO.none _)
   | (with_reducible refine LeO.ite ?_ ?_)
   | (with_reducible refine LeO.bind ?_ (fun _ => ?_))
def hammocklaw09_few.T4 : Bool × List (List Nat × List Nat) := (true, [([], []), ([], []), ([0, 1], [0, 1]), ([2], [2]), ([3], [3]), ([], []), ([5], [5]), ([], []), ([], []), ([7, 8], [7, 8]), ([9], [9]), ([10], [10]), ([11], [11]), ([12], [12]), ([6, 13], [6, 13]), ([4, 14], [4, 14]), ([15, 15, 0, 1, 2, 3, 4, 5, 6, 7, 8, 9, 10, 11, 12, 13, 14, 15], [5, 15])])
def hammocklaw09_few.B4 : List Nat := [0, 0, 3, 7, 15, 0, 32, 0, 0, 384, 896, 1920, 3968, 8064, 16352, 32767, 65535]
theorem hammocklaw09_few.tab4 : rtab .any (opsOf Tryd.f41 4) = hammocklaw09_few.T4 := by kernel_rfl
theorem hammocklaw09_few.bits4 : waitsOk hammocklaw09_few.T4.2 hammocklaw09_few.B4 = true := by kernel_rfl
set_option maxHeartbeats 8000000 in
set_option maxRecDepth 100000 in
theorem hammocklaw09_few.calls (k : Nat) : ∀ (A0 : Option Addr) (c0 : Nat) (l0 : List (S24)) (a1 : Int) (r : Int) (w : World) (hr0 : Kd.C k24 w A0 l0.length l0) (hc0 : l0.length ≤ c0) (h : hammocklaw09_few.f k l0 a1 = some r),
  Calls Tryd.prog 41 #[.slice A0 l0.length c0, .int .i64 a1] w fun e w' => e = .returned (.int .i64 r) ∧ Below w.heap.size w w' := by
 induction k using Nat.strongRecOn with
 | _ k ih =>
 intro A0 c0 l0 a1 r w hr0 hc0 h
 cases k with
 | zero => exact absurd h (by simp [hammocklaw09_few.f])
 | succ k =>
 simp only [hammocklaw09_few.f] at h
 have HR0 := zG hr0
 have HC0 := zG hc0
 clear hr0 hc0
 have HB := zG (Below.refl w.heap.size w)
 have H : (hammocklaw09_few.l0 k l0 a1 0) = some r := h
 clear h
 have H' := zG H
 clear H
 go_enter Tryd.func41, Tryd.ntmps41
 go_wp2
 go_loopg [1, 5] k (fun kq v1 v5 w' => ∃ (x1_1 : Int) (x5_1 : Int), v1 = .int .i64 x1_1 ∧ v5 = .int .i64 x5_1 ∧ Aside0 (hammocklaw09_few.l0 kq l0 x1_1 x5_1 = some r) ∧ Aside0 (kq ≤ k) ∧ Aside0 (Below w.heap.size w w'))
 case atStart => exact ⟨(a1), (0), (by first | rfl | (simp; done) | (simp [*]; done)), (by first | rfl | (simp; done) | (simp [*]; done)), H', ⟨Nat.le_refl _⟩, ⟨HB.out⟩⟩
 case round =>
  clear H'
  try clear p2
  obtain ⟨x1_1, x5_1, rfl, rfl, HA, HK1, HB⟩ := hrel
  cases gk with
  | zero => exact absurd HA.out (by simp [hammocklaw09_few.l0])
  | succ k1 =>
   have H := HA.out
   clear HA
   simp only [hammocklaw09_few.l0] at H
   by_cases c3 : x5_1 < (l0.length : Int)
   ·rw [if_pos c3] at H
    have c3b0 : decide (x5_1 < (l0.length : Int)) = true := zU c3
    clear c3
    by_cases c4 : x1_1 ≥ 0
    ·rw [if_pos c4] at H
     have c4b0 : decide (0 ≤ x1_1) = true := zU c4
     clear c4
     by_cases c5 : 0 ≤ x5_1
     ·rw [if_pos c5] at H
      have c5b0 : decide (0 ≤ x5_1) = true := zU c5
      clear c5
      replace H := zT H
      obtain ⟨t103, A60, H⟩ := H
      replace H : (hammocklaw09_few.l0 k1 l0 t103 (wrap64 (x5_1 + 1))) = some r := H
      have A6 := zG A60
      clear A60
      have H' := zG H
      clear H
      try go_wp2
      have n0_ := zG (zC HB.out)
      clear HB
      have HB := n0_
      clear n0_
      have p101 : 0 ≤ (x5_1 : Int) := zAA (by assumption)
      have q101 : x5_1 < (l0.length : Int) := zAA (by assumption)
      obtain ⟨ad101, A101_3, c101_3, e101, hx101_0, hx101_1, hx101_2, hx101_3, hl101_3, hi101_3⟩ := at_T24 HR0.out x5_1 p101 q101
      have hw101_3 := hx101_3
      have hw101_2 := hx101_2
      have hw101_1 := hx101_1
      have hw101_0 := hx101_0
      cases e101
      replace hx101_0 := (HB.out.cell (zS w _ hx101_0)).trans hx101_0
      replace hx101_1 := (HB.out.cell (zS w _ hx101_1)).trans hx101_1
      replace hx101_2 := (HB.out.cell (zS w _ hx101_2)).trans hx101_2
      replace hx101_3 := (HB.out.cell (zS w _ hx101_3)).trans hx101_3
      have HR101_3 := zG hi101_3
      have HC101_3 := zG hl101_3
      clear hi101_3 hl101_3
      replace p101 := eq_true p101
      replace q101 := eq_true q101
      have p102 : 0 ≤ (x5_1 : Int) := zAA (by assumption)
      have q102 : x5_1 < (l0.length : Int) := zAA (by assumption)
      obtain ⟨ad102, A102_3, c102_3, e102, hx102_0, hx102_1, hx102_2, hx102_3, hl102_3, hi102_3⟩ := at_T24 HR0.out x5_1 p102 q102
      have hw102_3 := hx102_3
      have hw102_2 := hx102_2
      have hw102_1 := hx102_1
      have hw102_0 := hx102_0
      obtain rfl : ad101 = ad102 := (by injection e102)
      replace hx102_0 := (HB.out.cell (zS w _ hx102_0)).trans hx102_0
      replace hx102_1 := (HB.out.cell (zS w _ hx102_1)).trans hx102_1
      replace hx102_2 := (HB.out.cell (zS w _ hx102_2)).trans hx102_2
      replace hx102_3 := (HB.out.cell (zS w _ hx102_3)).trans hx102_3
      have HR102_3 := zG hi102_3
      have HC102_3 := zG hl102_3
      clear hi102_3 hl102_3
      replace p102 := eq_true p102
      replace q102 := eq_true q102
      have ea_ := Option.some.inj (hx101_3.symm.trans hx102_3)
      injection ea_ with ea_ en_ ec_
      subst ea_
      subst ec_
      clear en_
      refine start_ (n := 17) (S := fun w' => w'.cell? (ad101.add ((x5_1).toNat * 4)) = some (.int .i64 ((rd_T24 l0 x5_1).f0)) ∧ w'.cell? ⟨(ad101.add ((x5_1).toNat * 4)).block, (ad101.add ((x5_1).toNat * 4)).off + 1, none⟩ = some (.int .i64 ((rd_T24 l0 x5_1).f1)) ∧ w'.cell? ⟨(ad101.add ((x5_1).toNat * 4)).block, (ad101.add ((x5_1).toNat * 4)).off + 2, none⟩ = some (.string ((rd_T24 l0 x5_1).f2)) ∧ w'.cell? ⟨(ad101.add ((x5_1).toNat * 4)).block, (ad101.add ((x5_1).toNat * 4)).off + 3, none⟩ = some (.slice A101_3 ((rd_T24 l0 x5_1).f3).length c101_3) ∧ w'.cell? (ad101.add ((x5_1).toNat * 4)) = some (.int .i64 ((rd_T24 l0 x5_1).f0)) ∧ w'.cell? ⟨(ad101.add ((x5_1).toNat * 4)).block, (ad101.add ((x5_1).toNat * 4)).off + 1, none⟩ = some (.int .i64 ((rd_T24 l0 x5_1).f1)) ∧ w'.cell? ⟨(ad101.add ((x5_1).toNat * 4)).block, (ad101.add ((x5_1).toNat * 4)).off + 2, none⟩ = some (.string ((rd_T24 l0 x5_1).f2)) ∧ w'.cell? ⟨(ad101.add ((x5_1).toNat * 4)).block, (ad101.add ((x5_1).toNat * 4)).off + 3, none⟩ = some (.slice A101_3 ((rd_T24 l0 x5_1).f3).length c101_3)) (ds := []) #[false, false, false, false, false, false, false, false, false, false, false, false, false, false, false, false, false] (by kernel_rfl) rfl rfl ⟨((HB.out.cell (zS w _ hw101_0)).trans hw101_0), ((HB.out.cell (zS w _ hw101_1)).trans hw101_1), ((HB.out.cell (zS w _ hw101_2)).trans hw101_2), ((HB.out.cell (zS w _ hw101_3)).trans hw101_3), ((HB.out.cell (zS w _ hw102_0)).trans hw102_0), ((HB.out.cell (zS w _ hw102_1)).trans hw102_1), ((HB.out.cell (zS w _ hw102_2)).trans hw102_2), ((HB.out.cell (zS w _ hw102_3)).trans hw102_3)⟩ (fun hHeld => ?_); refine with_tabW hammocklaw09_few.tab4 hammocklaw09_few.bits4 (fun HT_ HW_ => ?_)
      generalize wr.drew = w7 at HB HR101_3 HR102_3 hx101_0 hx101_1 hx101_2 hx101_3 hx102_0 hx102_1 hx102_2 hx102_3 hHeld ⊢
      refine pure_ (i := 0) (N := some 16) (v := ?_) (a' := ?_) (zBM 17 1) rfl rfl (any_of HT_.out (by kernel_rfl)) (fun _ _ _ h => h) (Or.inl ⟨by rfl, ?_⟩) ?_ ?_
      rotate_left
      ·intro w'
       go_simp
       with_reducible rfl
      rotate_left
      ·simp only [Act.put, zO, zP, zR, i64_w, i32_w]
       rfl
      refine pure_ (i := 1) (N := some 17) (v := ?_) (a' := ?_) (zBM 17 3) rfl rfl (any_of HT_.out (by kernel_rfl)) (fun _ _ _ h => h) (Or.inl ⟨by rfl, ?_⟩) ?_ ?_
      rotate_left
      ·intro w'
       go_simp
       with_reducible rfl
      rotate_left
      ·simp only [Act.put, zO, zP, zR, i64_w, i32_w]
       rfl
      refine pure_ (i := 2) (N := some 18) (v := ?_) (a' := ?_) (zBM 17 7) rfl rfl (any_of HT_.out (by kernel_rfl)) (fun _ _ _ h => h) (Or.inl ⟨by rfl, ?_⟩) ?_ ?_
      rotate_left
      ·intro w'
       go_simp
       with_reducible rfl
      rotate_left
      ·simp only [Act.put, zO, zP, zR, i64_w, i32_w]
       rfl
      refine pure_ (i := 3) (N := some 19) (v := ?_) (a' := ?_) (zBM 17 15) rfl rfl (any_of HT_.out (by kernel_rfl)) (fun _ _ _ h => h) (Or.inl ⟨by rfl, ?_⟩) ?_ ?_
      rotate_left
      ·intro w'
       go_simp
       with_reducible rfl
      rotate_left
      ·simp only [Act.put, zO, zP, zR, i64_w, i32_w]
       rfl
      refine pure_ (i := 5) (N := some 21) (v := ?_) (a' := ?_) (zBM 17 47) rfl rfl (any_of HT_.out (by kernel_rfl)) (fun _ _ _ h => h) (Or.inl ⟨by rfl, ?_⟩) ?_ ?_
      rotate_left
      ·intro w'
       go_simp
       with_reducible rfl
      rotate_left
      ·simp only [Act.put, zO, zP, zR, i64_w, i32_w]
       rfl
      refine pure_ (i := 6) (N := some 22) (v := ?_) (a' := ?_) (zBM 17 111) rfl rfl (any_of HT_.out (by kernel_rfl)) (fun _ _ _ h => h) (Or.inl ⟨by rfl, ?_⟩) ?_ ?_
      rotate_left
      ·intro w'
       go_simp
       with_reducible rfl
      rotate_left
      ·simp only [Act.put, zO, zP, zR, i64_w, i32_w]
       rfl
      refine pure_ (i := 7) (N := some 23) (v := ?_) (a' := ?_) (zBM 17 239) rfl rfl (any_of HT_.out (by kernel_rfl)) (fun _ _ _ h => h) (Or.inl ⟨by rfl, ?_⟩) ?_ ?_
      rotate_left
      ·intro w'
       go_simp
       with_reducible rfl
      rotate_left
      ·simp only [Act.put, zO, zP, zR, i64_w, i32_w]
       rfl
      refine pure_ (i := 8) (N := some 24) (v := ?_) (a' := ?_) (zBM 17 495) rfl rfl (any_of HT_.out (by kernel_rfl)) (fun _ _ _ h => h) (Or.inl ⟨by rfl, ?_⟩) ?_ ?_
      rotate_left
      ·intro w'
       go_simp
       with_reducible rfl
      rotate_left
      ·simp only [Act.put, zO, zP, zR, i64_w, i32_w]
       rfl
      refine pure_ (i := 9) (N := some 25) (v := ?_) (a' := ?_) (zBM 17 1007) rfl rfl (any_of HT_.out (by kernel_rfl)) (fun _ _ _ h => h) (Or.inl ⟨by rfl, ?_⟩) ?_ ?_
      rotate_left
      ·intro w'
       go_simp
       with_reducible rfl
      rotate_left
      ·simp only [Act.put, zO, zP, zR, i64_w, i32_w]
       rfl
      refine pure_ (i := 10) (N := some 26) (v := ?_) (a' := ?_) (zBM 17 2031) rfl rfl (any_of HT_.out (by kernel_rfl)) (fun _ _ _ h => h) (Or.inl ⟨by rfl, ?_⟩) ?_ ?_
      rotate_left
      ·intro w'
       go_simp
       with_reducible rfl
      rotate_left
      ·simp only [Act.put, zO, zP, zR, i64_w, i32_w]
       rfl
      refine take_ (i := 4) (N := some 20) (v := ?_) (a' := ?_) (zBM 17 2047) rfl rfl (take_ofW HT_.out HW_.out (by kernel_rfl)) (fun _ _ _ h => h) (Or.inl ⟨by rfl, ?_⟩) hHeld ?_ ?_
      rotate_left
      ·rintro w' ⟨s0, s1, s2, s3, s4, s5, s6, s7⟩
       go_simp
       with_reducible rfl
      rotate_left
      ·simp only [Act.put, zO, zP, zR, i64_w, i32_w]
       rfl
      refine take_ (i := 11) (N := some 27) (v := ?_) (a' := ?_) (zBM 17 4095) rfl rfl (take_ofW HT_.out HW_.out (by kernel_rfl)) (fun _ _ _ h => h) (Or.inl ⟨by rfl, ?_⟩) hHeld ?_ ?_
      rotate_left
      ·rintro w' ⟨s0, s1, s2, s3, s4, s5, s6, s7⟩
       go_simp
       with_reducible rfl
      rotate_left
      ·simp only [Act.put, zO, zP, zR, i64_w, i32_w]
       rfl
      refine pure_ (i := 12) (N := some 28) (v := ?_) (a' := ?_) (zBM 17 8191) rfl rfl (any_of HT_.out (by kernel_rfl)) (fun _ _ _ h => h) (Or.inl ⟨by rfl, ?_⟩) ?_ ?_
      rotate_left
      ·intro w'
       go_simp
       with_reducible rfl
      rotate_left
      ·simp only [Act.put, zO, zP, zR, i64_w, i32_w]
       rfl
      refine pure_ (i := 13) (N := some 29) (v := ?_) (a' := ?_) (zBM 17 16383) rfl rfl (any_of HT_.out (by kernel_rfl)) (fun _ _ _ h => h) (Or.inl ⟨by rfl, ?_⟩) ?_ ?_
      rotate_left
      ·intro w'
       go_simp
       with_reducible rfl
      rotate_left
      ·simp only [Act.put, zO, zP, zR, i64_w, i32_w]
       rfl
      refine pure_ (i := 14) (N := some 30) (v := ?_) (a' := ?_) (zBM 17 32767) rfl rfl (any_of HT_.out (by kernel_rfl)) (fun _ _ _ h => h) (Or.inl ⟨by rfl, ?_⟩) ?_ ?_
      rotate_left
      ·intro w'
       go_simp
       with_reducible rfl
      rotate_left
      ·simp only [Act.put, zO, zP, zR, i64_w, i32_w]
       rfl
      refine one_ (i := 15) (N := some 31) (zBM 17 65535) rfl rfl (one_of HT_.out (by kernel_rfl)) (by decide) (fun K hK => ?_)
      refine goes_ Tryd.func41 (by kernel_rfl) rfl #[.slice A101_3 ((rd_T24 l0 x5_1).f3).length c101_3, .int .i64 (wrap64 ((wrap64 (x1_1 - 1)) - (wrap64 ((((rd_T24 l0 x5_1).f2).size : Int) / 60))))] (by rfl) rfl rfl (by (try simp only [List.map_toArray, List.map_cons, List.map_nil]); first | done | rfl | (simp only [List.length_drop, List.length_take]; rfl)) ?_
      with_reducible refine (ih k1 (by have := HK1.out; omega) _ _ ((rd_T24 l0 x5_1).f3) (wrap64 ((wrap64 (x1_1 - 1)) - (wrap64 ((((rd_T24 l0 x5_1).f2).size : Int) / 60)))) t103 _ ?side1 ?side2 A6.out).mono ?_
      (case side1 => exact zAC HR101_3.out HB.out)
      (case side2 => exact HC101_3.out)
      rintro e w8 ⟨rfl, hb⟩
      refine ⟨_, rfl, ?_⟩
      have n0_ := zG (zE HB.out hb)
      clear HB
      have HB := n0_
      clear n0_
      (try clear hb)
      (try clear hb2)
      (try clear hk)
      (try clear hi)
      refine hK.out _ _ ⟨((HB.out.cell (zS w _ hw101_0)).trans hw101_0), ((HB.out.cell (zS w _ hw101_1)).trans hw101_1), ((HB.out.cell (zS w _ hw101_2)).trans hw101_2), ((HB.out.cell (zS w _ hw101_3)).trans hw101_3), ((HB.out.cell (zS w _ hw102_0)).trans hw102_0), ((HB.out.cell (zS w _ hw102_1)).trans hw102_1), ((HB.out.cell (zS w _ hw102_2)).trans hw102_2), ((HB.out.cell (zS w _ hw102_3)).trans hw102_3)⟩ (fun hHeld => ?_)
      clear hK K
      refine norm_ (a' := ?_) ?_ ?_
      rotate_left
      ·show Act.put _ (some 31) _ = _
       simp only [Act.put, zO, zP, zR, i64_w, i32_w]
       rfl
      refine pure_ (i := 16) (N := some 1) (v := ?_) (a' := ?_) (zBM 17 131071) rfl rfl (any_of HT_.out (by kernel_rfl)) (fun _ _ _ h => h) (Or.inl ⟨by rfl, ?_⟩) ?_ ?_
      rotate_left
      ·intro w'
       go_simp
       with_reducible rfl
      rotate_left
      ·simp only [Act.put, zO, zP, zR, i64_w, i32_w]
       rfl
      refine done_ (done_of HT_.out (by kernel_rfl)) ?_
      try go_wp2
      go_roundg k1
      case measure => have := HK1.out; omega
      case rel => exact ⟨(t103), (wrap64 (x5_1 + 1)), (by first | rfl | (simp; done) | (simp [*]; done)), (by first | rfl | (simp; done) | (simp [*]; done)), H', ⟨by have := HK1.out; omega⟩, ⟨HB.out⟩⟩
     ·rw [if_neg c5] at H
      exact absurd H (by simp)
    ·rw [if_neg c4] at H
     have c4b0 : decide (0 ≤ x1_1) = false := zV c4
     clear c4
     obtain rfl := Option.some.inj H
     go_wp2
     go_ret
     exact ⟨rfl, HB.out⟩
   ·rw [if_neg c3] at H
    have c3b0 : decide (x5_1 < (l0.length : Int)) = false := zV c3
    clear c3
    obtain rfl := Option.some.inj H
    go_wp2
    go_ret
    exact ⟨rfl, HB.out⟩

def hammocklaw09_Light.f (k : Nat) (l0 : List (S24)) : Option (Bool) := (hammocklaw09_few.f k l0 400).bind fun t104 => (some (decide (t104 ≥ 0)))
set_option maxHeartbeats 8000000 in
set_option maxRecDepth 100000 in
theorem hammocklaw09_Light.calls (k : Nat) (A0 : Option Addr) (c0 : Nat) (l0 : List (S24)) (r : Bool) (w : World) (hr0 : Kd.C k24 w A0 l0.length l0) (hc0 : l0.length ≤ c0) (h : hammocklaw09_Light.f k l0 = some r) :
  Calls Tryd.prog 8 #[.slice A0 l0.length c0] w fun e w' => e = .returned (.bool r) ∧ Below w.heap.size w w' := by
 have HR0 := zG hr0
 have HC0 := zG hc0
 clear hr0 hc0
 have HB := zG (Below.refl w.heap.size w)
 have H : ((hammocklaw09_few.f k l0 400).bind fun t104 => (some (decide (t104 ≥ 0)))) = some r := h
 clear h
 replace H := zT H
 obtain ⟨t104, A20, H⟩ := H
 replace H : (some (decide (t104 ≥ 0))) = some r := H
 have A2 := zG A20
 clear A20
 obtain rfl := Option.some.inj H
 go_enter Tryd.func8, Tryd.ntmps8
 go_wp2_with (first | ((with_reducible refine gate_callee (f := 41) rfl ?_); refine goesL_ (some 4) rfl rfl Tryd.func41 (by kernel_rfl) rfl #[.slice A0 l0.length c0, .int .i64 400] rfl (by (try simp only [List.map_toArray, List.map_cons, List.map_nil]); first | done | rfl | (simp only [List.length_drop, List.length_take]; rfl)) ?_; (with_reducible refine (hammocklaw09_few.calls k _ _ l0 400 t104 _ ?side1 ?side2 A2.out).mono ?_); (case side1 => repeat (first | exact HR0.out | (with_reducible refine zAE ?_ _) | (with_reducible refine zAF ?_ _) | (with_reducible refine zAG ?_))); (case side2 => exact HC0.out); rintro e w3 ⟨rfl, hb⟩; refine ⟨_, rfl, ?_⟩; have n0_ := zG (zE (by repeat (first | (with_reducible first | exact HB.out | apply zA | apply zB | apply zC) | exact HB.out)) hb); clear HB; have HB := n0_; clear n0_; (try clear hb); (try clear hb2); (try clear hk); (try clear hi)))
 go_ret
 exact ⟨rfl, HB.out⟩

def types_Type_fits.f (a0_0 : Int) (a0_1 : Int) (a0_2 : ByteArray) (l0_3 : List (S31)) : Option (Bool) := if a0_0 = 1 then (if a0_1 ≥ 0 then (if a0_2.toList = ([] : List UInt8) then (some ((l0_3.length : Int) == 0)) else (some false)) else (some false)) else (if a0_0 = 2 then (if a0_1 = 0 then (if a0_2.toList = ([] : List UInt8) then (some false) else (some (decide ((l0_3.length : Int) ≤ 16)))) else (some false)) else (if a0_0 = 3 then (if a0_1 = 0 then (if a0_2.toList = ([] : List UInt8) then (some ((l0_3.length : Int) == 2)) else (some false)) else (some false)) else (some false)))
set_option maxHeartbeats 8000000 in
set_option maxRecDepth 100000 in
theorem types_Type_fits.calls (a0_0 : Int) (a0_1 : Int) (a0_2 : ByteArray) (A0_3 : Option Addr) (c0_3 : Nat) (l0_3 : List (S31)) (r : Bool) (w : World) (hr0_3 : Kd.C k31 w A0_3 l0_3.length l0_3) (hc0_3 : l0_3.length ≤ c0_3) (h : types_Type_fits.f a0_0 a0_1 a0_2 l0_3 = some r) :
  Calls Tryd.prog 72 #[.agg #[.int .i64 a0_0, .int .i64 a0_1, .string a0_2, .slice A0_3 l0_3.length c0_3]] w fun e w' => e = .returned (.bool r) ∧ Below w.heap.size w w' := by
 have hu31 := Tryd.underlying31
 have HR0_3 := zG hr0_3
 have HC0_3 := zG hc0_3
 clear hr0_3 hc0_3
 have HB := zG (Below.refl w.heap.size w)
 have H : (if a0_0 = 1 then (if a0_1 ≥ 0 then (if a0_2.toList = ([] : List UInt8) then (some ((l0_3.length : Int) == 0)) else (some false)) else (some false)) else (if a0_0 = 2 then (if a0_1 = 0 then (if a0_2.toList = ([] : List UInt8) then (some false) else (some (decide ((l0_3.length : Int) ≤ 16)))) else (some false)) else (if a0_0 = 3 then (if a0_1 = 0 then (if a0_2.toList = ([] : List UInt8) then (some ((l0_3.length : Int) == 2)) else (some false)) else (some false)) else (some false)))) = some r := h
 clear h
 by_cases c2 : a0_0 = 1
 ·rw [if_pos c2] at H
  have c2b0 : (a0_0 == 1) = true := zW c2
  have c2b1 : (a0_0 != 1) = false := zX c2
  clear c2
  by_cases c3 : a0_1 ≥ 0
  ·rw [if_pos c3] at H
   have c3b0 : decide (0 ≤ a0_1) = true := zU c3
   clear c3
   by_cases c4 : a0_2.toList = ([] : List UInt8)
   ·rw [if_pos c4] at H
    have c4b0 : (a0_2.toList == ([] : List UInt8)) = true := zW c4
    have c4b1 : (a0_2.toList != ([] : List UInt8)) = false := zX c4
    clear c4
    obtain rfl := Option.some.inj H
    go_enter Tryd.func72, Tryd.ntmps72
    go_wp2_with (first | ((with_reducible refine gate_dst (N := 1) rfl ?_); (try (refine gate_guard (by rfl) ?_; dsimp only)); refine box_event ?hg (N := 1) ?hd (cs := #[.int .i64 a0_0, .int .i64 a0_1, .string a0_2, .slice A0_3 l0_3.length c0_3]) (t := 31) ?hr ?_; (case hd => rfl); (case hg => rfl); (case hr => first | (go_simp; done) | (go_simp; rfl)); intro gb105 hg w5 hbox hb; have n0_ := zG (zE HB.out hb); have n1_ := zG (hbox); have n2_ := zG ((by rw [hg]; exact (zF HB.out) : w.heap.size ≤ gb105)); have n3_ := n2_; clear HB; have HB := n0_; have BK105 := n1_; have GW105 := n2_; have GE105 := n3_; clear n0_ n1_ n2_ n3_; clear hb hbox hg; obtain ⟨hcz6_0, hcz6_1, hcz6_2, hcz6_3⟩ := zN BK105.out; have hfz6_0 := zM BK105.out 0; have hfz6_1 := zM BK105.out 1; have hfz6_2 := zM BK105.out 2; have hfz6_3 := zM BK105.out 3))
    go_ret
    exact ⟨rfl, HB.out⟩
   ·rw [if_neg c4] at H
    have c4b0 : (a0_2.toList == ([] : List UInt8)) = false := zY c4
    have c4b1 : (a0_2.toList != ([] : List UInt8)) = true := zZ c4
    obtain rfl := Option.some.inj H
    go_enter Tryd.func72, Tryd.ntmps72
    go_wp2_with (first | ((with_reducible refine gate_dst (N := 1) rfl ?_); (try (refine gate_guard (by rfl) ?_; dsimp only)); refine box_event ?hg (N := 1) ?hd (cs := #[.int .i64 a0_0, .int .i64 a0_1, .string a0_2, .slice A0_3 l0_3.length c0_3]) (t := 31) ?hr ?_; (case hd => rfl); (case hg => rfl); (case hr => first | (go_simp; done) | (go_simp; rfl)); intro gb105 hg w7 hbox hb; have n0_ := zG (zE HB.out hb); have n1_ := zG (hbox); have n2_ := zG ((by rw [hg]; exact (zF HB.out) : w.heap.size ≤ gb105)); have n3_ := n2_; clear HB; have HB := n0_; have BK105 := n1_; have GW105 := n2_; have GE105 := n3_; clear n0_ n1_ n2_ n3_; clear hb hbox hg; obtain ⟨hcz8_0, hcz8_1, hcz8_2, hcz8_3⟩ := zN BK105.out; have hfz8_0 := zM BK105.out 0; have hfz8_1 := zM BK105.out 1; have hfz8_2 := zM BK105.out 2; have hfz8_3 := zM BK105.out 3))
    go_ret
    exact ⟨rfl, HB.out⟩
  ·rw [if_neg c3] at H
   have c3b0 : decide (0 ≤ a0_1) = false := zV c3
   clear c3
   obtain rfl := Option.some.inj H
   go_enter Tryd.func72, Tryd.ntmps72
   go_wp2_with (first | ((with_reducible refine gate_dst (N := 1) rfl ?_); (try (refine gate_guard (by rfl) ?_; dsimp only)); refine box_event ?hg (N := 1) ?hd (cs := #[.int .i64 a0_0, .int .i64 a0_1, .string a0_2, .slice A0_3 l0_3.length c0_3]) (t := 31) ?hr ?_; (case hd => rfl); (case hg => rfl); (case hr => first | (go_simp; done) | (go_simp; rfl)); intro gb105 hg w9 hbox hb; have n0_ := zG (zE HB.out hb); have n1_ := zG (hbox); have n2_ := zG ((by rw [hg]; exact (zF HB.out) : w.heap.size ≤ gb105)); have n3_ := n2_; clear HB; have HB := n0_; have BK105 := n1_; have GW105 := n2_; have GE105 := n3_; clear n0_ n1_ n2_ n3_; clear hb hbox hg; obtain ⟨hcz10_0, hcz10_1, hcz10_2, hcz10_3⟩ := zN BK105.out; have hfz10_0 := zM BK105.out 0; have hfz10_1 := zM BK105.out 1; have hfz10_2 := zM BK105.out 2; have hfz10_3 := zM BK105.out 3))
   go_ret
   exact ⟨rfl, HB.out⟩
 ·rw [if_neg c2] at H
  have c2b0 : (a0_0 == 1) = false := zY c2
  have c2b1 : (a0_0 != 1) = true := zZ c2
  by_cases c11 : a0_0 = 2
  ·rw [if_pos c11] at H
   have c11b0 : (a0_0 == 2) = true := zW c11
   have c11b1 : (a0_0 != 2) = false := zX c11
   clear c11
   by_cases c12 : a0_1 = 0
   ·rw [if_pos c12] at H
    have c12b0 : (a0_1 == 0) = true := zW c12
    have c12b1 : (a0_1 != 0) = false := zX c12
    clear c12
    by_cases c13 : a0_2.toList = ([] : List UInt8)
    ·rw [if_pos c13] at H
     have c13b0 : (a0_2.toList == ([] : List UInt8)) = true := zW c13
     have c13b1 : (a0_2.toList != ([] : List UInt8)) = false := zX c13
     clear c13
     obtain rfl := Option.some.inj H
     go_enter Tryd.func72, Tryd.ntmps72
     go_wp2_with (first | ((with_reducible refine gate_dst (N := 1) rfl ?_); (try (refine gate_guard (by rfl) ?_; dsimp only)); refine box_event ?hg (N := 1) ?hd (cs := #[.int .i64 a0_0, .int .i64 a0_1, .string a0_2, .slice A0_3 l0_3.length c0_3]) (t := 31) ?hr ?_; (case hd => rfl); (case hg => rfl); (case hr => first | (go_simp; done) | (go_simp; rfl)); intro gb105 hg w14 hbox hb; have n0_ := zG (zE HB.out hb); have n1_ := zG (hbox); have n2_ := zG ((by rw [hg]; exact (zF HB.out) : w.heap.size ≤ gb105)); have n3_ := n2_; clear HB; have HB := n0_; have BK105 := n1_; have GW105 := n2_; have GE105 := n3_; clear n0_ n1_ n2_ n3_; clear hb hbox hg; obtain ⟨hcz15_0, hcz15_1, hcz15_2, hcz15_3⟩ := zN BK105.out; have hfz15_0 := zM BK105.out 0; have hfz15_1 := zM BK105.out 1; have hfz15_2 := zM BK105.out 2; have hfz15_3 := zM BK105.out 3))
     go_ret
     exact ⟨rfl, HB.out⟩
    ·rw [if_neg c13] at H
     have c13b0 : (a0_2.toList == ([] : List UInt8)) = false := zY c13
     have c13b1 : (a0_2.toList != ([] : List UInt8)) = true := zZ c13
     obtain rfl := Option.some.inj H
     go_enter Tryd.func72, Tryd.ntmps72
     go_wp2_with (first | ((with_reducible refine gate_dst (N := 1) rfl ?_); (try (refine gate_guard (by rfl) ?_; dsimp only)); refine box_event ?hg (N := 1) ?hd (cs := #[.int .i64 a0_0, .int .i64 a0_1, .string a0_2, .slice A0_3 l0_3.length c0_3]) (t := 31) ?hr ?_; (case hd => rfl); (case hg => rfl); (case hr => first | (go_simp; done) | (go_simp; rfl)); intro gb105 hg w16 hbox hb; have n0_ := zG (zE HB.out hb); have n1_ := zG (hbox); have n2_ := zG ((by rw [hg]; exact (zF HB.out) : w.heap.size ≤ gb105)); have n3_ := n2_; clear HB; have HB := n0_; have BK105 := n1_; have GW105 := n2_; have GE105 := n3_; clear n0_ n1_ n2_ n3_; clear hb hbox hg; obtain ⟨hcz17_0, hcz17_1, hcz17_2, hcz17_3⟩ := zN BK105.out; have hfz17_0 := zM BK105.out 0; have hfz17_1 := zM BK105.out 1; have hfz17_2 := zM BK105.out 2; have hfz17_3 := zM BK105.out 3))
     go_ret
     exact ⟨rfl, HB.out⟩
   ·rw [if_neg c12] at H
    have c12b0 : (a0_1 == 0) = false := zY c12
    have c12b1 : (a0_1 != 0) = true := zZ c12
    obtain rfl := Option.some.inj H
    go_enter Tryd.func72, Tryd.ntmps72
    go_wp2_with (first | ((with_reducible refine gate_dst (N := 1) rfl ?_); (try (refine gate_guard (by rfl) ?_; dsimp only)); refine box_event ?hg (N := 1) ?hd (cs := #[.int .i64 a0_0, .int .i64 a0_1, .string a0_2, .slice A0_3 l0_3.length c0_3]) (t := 31) ?hr ?_; (case hd => rfl); (case hg => rfl); (case hr => first | (go_simp; done) | (go_simp; rfl)); intro gb105 hg w18 hbox hb; have n0_ := zG (zE HB.out hb); have n1_ := zG (hbox); have n2_ := zG ((by rw [hg]; exact (zF HB.out) : w.heap.size ≤ gb105)); have n3_ := n2_; clear HB; have HB := n0_; have BK105 := n1_; have GW105 := n2_; have GE105 := n3_; clear n0_ n1_ n2_ n3_; clear hb hbox hg; obtain ⟨hcz19_0, hcz19_1, hcz19_2, hcz19_3⟩ := zN BK105.out; have hfz19_0 := zM BK105.out 0; have hfz19_1 := zM BK105.out 1; have hfz19_2 := zM BK105.out 2; have hfz19_3 := zM BK105.out 3))
    go_ret
    exact ⟨rfl, HB.out⟩
  ·rw [if_neg c11] at H
   have c11b0 : (a0_0 == 2) = false := zY c11
   have c11b1 : (a0_0 != 2) = true := zZ c11
   by_cases c20 : a0_0 = 3
   ·rw [if_pos c20] at H
    have c20b0 : (a0_0 == 3) = true := zW c20
    have c20b1 : (a0_0 != 3) = false := zX c20
    clear c20
    by_cases c21 : a0_1 = 0
    ·rw [if_pos c21] at H
     have c21b0 : (a0_1 == 0) = true := zW c21
     have c21b1 : (a0_1 != 0) = false := zX c21
     clear c21
     by_cases c22 : a0_2.toList = ([] : List UInt8)
     ·rw [if_pos c22] at H
      have c22b0 : (a0_2.toList == ([] : List UInt8)) = true := zW c22
      have c22b1 : (a0_2.toList != ([] : List UInt8)) = false := zX c22
      clear c22
      obtain rfl := Option.some.inj H
      go_enter Tryd.func72, Tryd.ntmps72
      go_wp2_with (first | ((with_reducible refine gate_dst (N := 1) rfl ?_); (try (refine gate_guard (by rfl) ?_; dsimp only)); refine box_event ?hg (N := 1) ?hd (cs := #[.int .i64 a0_0, .int .i64 a0_1, .string a0_2, .slice A0_3 l0_3.length c0_3]) (t := 31) ?hr ?_; (case hd => rfl); (case hg => rfl); (case hr => first | (go_simp; done) | (go_simp; rfl)); intro gb105 hg w23 hbox hb; have n0_ := zG (zE HB.out hb); have n1_ := zG (hbox); have n2_ := zG ((by rw [hg]; exact (zF HB.out) : w.heap.size ≤ gb105)); have n3_ := n2_; clear HB; have HB := n0_; have BK105 := n1_; have GW105 := n2_; have GE105 := n3_; clear n0_ n1_ n2_ n3_; clear hb hbox hg; obtain ⟨hcz24_0, hcz24_1, hcz24_2, hcz24_3⟩ := zN BK105.out; have hfz24_0 := zM BK105.out 0; have hfz24_1 := zM BK105.out 1; have hfz24_2 := zM BK105.out 2; have hfz24_3 := zM BK105.out 3))
      go_ret
      exact ⟨rfl, HB.out⟩
     ·rw [if_neg c22] at H
      have c22b0 : (a0_2.toList == ([] : List UInt8)) = false := zY c22
      have c22b1 : (a0_2.toList != ([] : List UInt8)) = true := zZ c22
      obtain rfl := Option.some.inj H
      go_enter Tryd.func72, Tryd.ntmps72
      go_wp2_with (first | ((with_reducible refine gate_dst (N := 1) rfl ?_); (try (refine gate_guard (by rfl) ?_; dsimp only)); refine box_event ?hg (N := 1) ?hd (cs := #[.int .i64 a0_0, .int .i64 a0_1, .string a0_2, .slice A0_3 l0_3.length c0_3]) (t := 31) ?hr ?_; (case hd => rfl); (case hg => rfl); (case hr => first | (go_simp; done) | (go_simp; rfl)); intro gb105 hg w25 hbox hb; have n0_ := zG (zE HB.out hb); have n1_ := zG (hbox); have n2_ := zG ((by rw [hg]; exact (zF HB.out) : w.heap.size ≤ gb105)); have n3_ := n2_; clear HB; have HB := n0_; have BK105 := n1_; have GW105 := n2_; have GE105 := n3_; clear n0_ n1_ n2_ n3_; clear hb hbox hg; obtain ⟨hcz26_0, hcz26_1, hcz26_2, hcz26_3⟩ := zN BK105.out; have hfz26_0 := zM BK105.out 0; have hfz26_1 := zM BK105.out 1; have hfz26_2 := zM BK105.out 2; have hfz26_3 := zM BK105.out 3))
      go_ret
      exact ⟨rfl, HB.out⟩
    ·rw [if_neg c21] at H
     have c21b0 : (a0_1 == 0) = false := zY c21
     have c21b1 : (a0_1 != 0) = true := zZ c21
     obtain rfl := Option.some.inj H
     go_enter Tryd.func72, Tryd.ntmps72
     go_wp2_with (first | ((with_reducible refine gate_dst (N := 1) rfl ?_); (try (refine gate_guard (by rfl) ?_; dsimp only)); refine box_event ?hg (N := 1) ?hd (cs := #[.int .i64 a0_0, .int .i64 a0_1, .string a0_2, .slice A0_3 l0_3.length c0_3]) (t := 31) ?hr ?_; (case hd => rfl); (case hg => rfl); (case hr => first | (go_simp; done) | (go_simp; rfl)); intro gb105 hg w27 hbox hb; have n0_ := zG (zE HB.out hb); have n1_ := zG (hbox); have n2_ := zG ((by rw [hg]; exact (zF HB.out) : w.heap.size ≤ gb105)); have n3_ := n2_; clear HB; have HB := n0_; have BK105 := n1_; have GW105 := n2_; have GE105 := n3_; clear n0_ n1_ n2_ n3_; clear hb hbox hg; obtain ⟨hcz28_0, hcz28_1, hcz28_2, hcz28_3⟩ := zN BK105.out; have hfz28_0 := zM BK105.out 0; have hfz28_1 := zM BK105.out 1; have hfz28_2 := zM BK105.out 2; have hfz28_3 := zM BK105.out 3))
     go_ret
     exact ⟨rfl, HB.out⟩
   ·rw [if_neg c20] at H
    have c20b0 : (a0_0 == 3) = false := zY c20
    have c20b1 : (a0_0 != 3) = true := zZ c20
    obtain rfl := Option.some.inj H
    go_enter Tryd.func72, Tryd.ntmps72
    go_wp2_with (first | ((with_reducible refine gate_dst (N := 1) rfl ?_); (try (refine gate_guard (by rfl) ?_; dsimp only)); refine box_event ?hg (N := 1) ?hd (cs := #[.int .i64 a0_0, .int .i64 a0_1, .string a0_2, .slice A0_3 l0_3.length c0_3]) (t := 31) ?hr ?_; (case hd => rfl); (case hg => rfl); (case hr => first | (go_simp; done) | (go_simp; rfl)); intro gb105 hg w29 hbox hb; have n0_ := zG (zE HB.out hb); have n1_ := zG (hbox); have n2_ := zG ((by rw [hg]; exact (zF HB.out) : w.heap.size ≤ gb105)); have n3_ := n2_; clear HB; have HB := n0_; have BK105 := n1_; have GW105 := n2_; have GE105 := n3_; clear n0_ n1_ n2_ n3_; clear hb hbox hg; obtain ⟨hcz30_0, hcz30_1, hcz30_2, hcz30_3⟩ := zN BK105.out; have hfz30_0 := zM BK105.out 0; have hfz30_1 := zM BK105.out 1; have hfz30_2 := zM BK105.out 2; have hfz30_3 := zM BK105.out 3))
    go_ret
    exact ⟨rfl, HB.out⟩

-- NOT PRINTED: function 82 (types_Type_82)

-- NOT PRINTED: function 73 (types_Type_73)

-- NOT PRINTED: function 54 (types_right)

-- NOT PRINTED: function 21 (types_Right)

def types_Var.f (a0 : Int) : Option (Int × Int × ByteArray × (List (S31))) := some (1, a0, (⟨#[]⟩ : ByteArray), ([] : List (S31)))
-- NOT PRINTED: function 42 (types_Type_vars)

-- NOT PRINTED: function 55 (types_Type_55)

-- NOT PRINTED: function 23 (types_Same)

-- NOT PRINTED: function 43 (types_match)

-- NOT PRINTED: function 44 (types_Type_change)

-- NOT PRINTED: function 10 (types_Match)

-- NOT PRINTED: function 48 (types_Scheme_closed)

-- NOT PRINTED: function 15 (types_More)

-- NOT PRINTED: function 22 (types_Vars)

-- NOT PRINTED: function 18 (types_Scheme1)

-- NOT PRINTED: function 76 (types_Type_76)

-- NOT PRINTED: function 57 (types_clone)

-- NOT PRINTED: function 26 (types_Fun)

-- NOT PRINTED: function 28 (types_Con)

def types_Type_list.f (a0_0 : Int) (a0_1 : Int) (a0_2 : ByteArray) (l0_3 : List (S31)) : Option (Bool) := if a0_2.toList = ([91, 93] : List UInt8) then (some ((l0_3.length : Int) == 1)) else (some false)
set_option maxHeartbeats 8000000 in
set_option maxRecDepth 100000 in
theorem types_Type_list.calls (a0_0 : Int) (a0_1 : Int) (a0_2 : ByteArray) (A0_3 : Option Addr) (c0_3 : Nat) (l0_3 : List (S31)) (r : Bool) (w : World) (hr0_3 : Kd.C k31 w A0_3 l0_3.length l0_3) (hc0_3 : l0_3.length ≤ c0_3) (h : types_Type_list.f a0_0 a0_1 a0_2 l0_3 = some r) :
  Calls Tryd.prog 77 #[.agg #[.int .i64 a0_0, .int .i64 a0_1, .string a0_2, .slice A0_3 l0_3.length c0_3]] w fun e w' => e = .returned (.bool r) ∧ Below w.heap.size w w' := by
 have hu31 := Tryd.underlying31
 have HR0_3 := zG hr0_3
 have HC0_3 := zG hc0_3
 clear hr0_3 hc0_3
 have HB := zG (Below.refl w.heap.size w)
 have H : (if a0_2.toList = ([91, 93] : List UInt8) then (some ((l0_3.length : Int) == 1)) else (some false)) = some r := h
 clear h
 by_cases c2 : a0_2.toList = ([91, 93] : List UInt8)
 ·rw [if_pos c2] at H
  have c2b0 : (a0_2.toList == ([91, 93] : List UInt8)) = true := zW c2
  have c2b1 : (a0_2.toList != ([91, 93] : List UInt8)) = false := zX c2
  clear c2
  obtain rfl := Option.some.inj H
  go_enter Tryd.func77, Tryd.ntmps77
  go_wp2_with (first | ((with_reducible refine gate_dst (N := 1) rfl ?_); (try (refine gate_guard (by rfl) ?_; dsimp only)); refine box_event ?hg (N := 1) ?hd (cs := #[.int .i64 a0_0, .int .i64 a0_1, .string a0_2, .slice A0_3 l0_3.length c0_3]) (t := 31) ?hr ?_; (case hd => rfl); (case hg => rfl); (case hr => first | (go_simp; done) | (go_simp; rfl)); intro gb124 hg w3 hbox hb; have n0_ := zG (zE HB.out hb); have n1_ := zG (hbox); have n2_ := zG ((by rw [hg]; exact (zF HB.out) : w.heap.size ≤ gb124)); have n3_ := n2_; clear HB; have HB := n0_; have BK124 := n1_; have GW124 := n2_; have GE124 := n3_; clear n0_ n1_ n2_ n3_; clear hb hbox hg; obtain ⟨hcz4_0, hcz4_1, hcz4_2, hcz4_3⟩ := zN BK124.out; have hfz4_0 := zM BK124.out 0; have hfz4_1 := zM BK124.out 1; have hfz4_2 := zM BK124.out 2; have hfz4_3 := zM BK124.out 3))
  go_ret
  exact ⟨rfl, HB.out⟩
 ·rw [if_neg c2] at H
  have c2b0 : (a0_2.toList == ([91, 93] : List UInt8)) = false := zY c2
  have c2b1 : (a0_2.toList != ([91, 93] : List UInt8)) = true := zZ c2
  obtain rfl := Option.some.inj H
  go_enter Tryd.func77, Tryd.ntmps77
  go_wp2_with (first | ((with_reducible refine gate_dst (N := 1) rfl ?_); (try (refine gate_guard (by rfl) ?_; dsimp only)); refine box_event ?hg (N := 1) ?hd (cs := #[.int .i64 a0_0, .int .i64 a0_1, .string a0_2, .slice A0_3 l0_3.length c0_3]) (t := 31) ?hr ?_; (case hd => rfl); (case hg => rfl); (case hr => first | (go_simp; done) | (go_simp; rfl)); intro gb124 hg w5 hbox hb; have n0_ := zG (zE HB.out hb); have n1_ := zG (hbox); have n2_ := zG ((by rw [hg]; exact (zF HB.out) : w.heap.size ≤ gb124)); have n3_ := n2_; clear HB; have HB := n0_; have BK124 := n1_; have GW124 := n2_; have GE124 := n3_; clear n0_ n1_ n2_ n3_; clear hb hbox hg; obtain ⟨hcz6_0, hcz6_1, hcz6_2, hcz6_3⟩ := zN BK124.out; have hfz6_0 := zM BK124.out 0; have hfz6_1 := zM BK124.out 1; have hfz6_2 := zM BK124.out 2; have hfz6_3 := zM BK124.out 3))
  go_ret
  exact ⟨rfl, HB.out⟩

-- NOT PRINTED: function 87 (abi_NoEscape)

-- NOT PRINTED: function 83 (strings_Builder_copyCheck)

-- NOT PRINTED: function 78 (strings_Builder_WriteString)

-- NOT PRINTED: function 90 (strconv_small)

-- NOT PRINTED: function 94 (strconv_log10Pow2)

-- NOT PRINTED: function 95 (bits_Len64)

-- NOT PRINTED: function 96 (strconv_bool2_int)

-- NOT PRINTED: function 91 (strconv_numDigits)

-- NOT PRINTED: function 92 (strconv_formatBase10)

-- NOT PRINTED: function 97 (strconv_isPowerOfTwo)

-- NOT PRINTED: function 99 (bits_TrailingZeros32)

-- NOT PRINTED: function 100 (bits_TrailingZeros64)

-- NOT PRINTED: function 98 (bits_TrailingZeros)

-- NOT PRINTED: function 93 (strconv_formatBits)

-- NOT PRINTED: function 89 (strconv_FormatInt)

-- NOT PRINTED: function 88 (strconv_Itoa_88)

-- NOT PRINTED: function 84 (strconv_Itoa_84)

-- NOT PRINTED: function 79 (types_letter)

-- NOT PRINTED: function 60 (types_Type_show)

-- NOT PRINTED: function 61 (strings_Builder_String)

-- NOT PRINTED: function 34 (types_Print)

-- NOT PRINTED: function 9 (hammocklaw09_knows)

end Go.Proofs.YtddmdiaopaoekaaDoor.P
