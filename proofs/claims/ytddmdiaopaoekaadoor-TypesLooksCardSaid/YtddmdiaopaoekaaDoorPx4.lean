-- written by a program of this session's (wip/tools/extprint.py) over the kit's print
import Derived.Test.YtddmdiaopaoekaaDoorPx0
import Derived.Test.YtddmdiaopaoekaaDoorSq
namespace Go.Proofs.YtddmdiaopaoekaaDoor.P
open Go.RowKit Go.Proofs.YtddmdiaopaoekaaDoorW.PrintWords Go.Proofs.YtddmdiaopaoekaaDoorW.PrintLast Go.Proofs.YtddmdiaopaoekaaDoorW.PrintMore
attribute [local go_sem] max2_int min2_int max_two min_two max_three min_three max_four min_four   -- for this text's walks alone
set_option linter.unusedVariables false
set_option linter.unusedSimpArgs false

mutual
def hammockref09_Same.j0 : Nat → Bool → Int → Int → ByteArray → List (S24) → Int → Int → ByteArray → List (S24) → Option (Bool)
 | 0, _, _, _, _, _, _, _, _, _ => none
 | k + 1, x33, x205000, x205001, x205002, x205003, x206000, x206001, x206002, x206003 => if x33 = true then (some false) else (hammockref09_Same.l0 k 0 x205000 x205001 x205002 x205003 x206000 x206001 x206002 x206003)
def hammockref09_Same.l0 : Nat → Int → Int → Int → ByteArray → List (S24) → Int → Int → ByteArray → List (S24) → Option (Bool)
 | 0, _, _, _, _, _, _, _, _, _ => none
 | k + 1, x5, x205000, x205001, x205002, x205003, x206000, x206001, x206002, x206003 => if x5 < (x205003.length : Int) then (if 0 ≤ x5 then (if x5 < (x206003.length : Int) then ((hammockref09_Same.f k ((rd_T24 x205003 x5).f0) ((rd_T24 x205003 x5).f1) ((rd_T24 x205003 x5).f2) ((rd_T24 x205003 x5).f3) ((rd_T24 x206003 x5).f0) ((rd_T24 x206003 x5).f1) ((rd_T24 x206003 x5).f2) ((rd_T24 x206003 x5).f3)).bind fun t208 => (if t208 = true then (hammockref09_Same.l0 k (wrap64 (x5 + 1)) x205000 x205001 x205002 x205003 x206000 x206001 x206002 x206003) else (some false))) else (none)) else (none)) else (some true)
def hammockref09_Same.f : Nat → Int → Int → ByteArray → List (S24) → Int → Int → ByteArray → List (S24) → Option (Bool)
 | 0, _, _, _, _, _, _, _, _ => none
 | k + 1, a0_0, a0_1, a0_2, l0_3, a1_0, a1_1, a1_2, l1_3 => if a0_0 = a1_0 then (if a0_1 = a1_1 then (if a0_2.toList = a1_2.toList then (hammockref09_Same.j0 k ((l0_3.length : Int) != (l1_3.length : Int)) a0_0 a0_1 a0_2 l0_3 a1_0 a1_1 a1_2 l1_3) else (hammockref09_Same.j0 k true a0_0 a0_1 a0_2 l0_3 a1_0 a1_1 a1_2 l1_3)) else (hammockref09_Same.j0 k true a0_0 a0_1 a0_2 l0_3 a1_0 a1_1 a1_2 l1_3)) else (hammockref09_Same.j0 k true a0_0 a0_1 a0_2 l0_3 a1_0 a1_1 a1_2 l1_3)
end
theorem hammockref09_Same.mono_l : ∀ k, (∀ y0 y1 y2 y3 y4 y5 y6 y7, LeO (hammockref09_Same.f k y0 y1 y2 y3 y4 y5 y6 y7) (hammockref09_Same.f (k + 1) y0 y1 y2 y3 y4 y5 y6 y7)) ∧ (∀ y0 y1 y2 y3 y4 y5 y6 y7 y8, LeO (hammockref09_Same.j0 k y0 y1 y2 y3 y4 y5 y6 y7 y8) (hammockref09_Same.j0 (k + 1) y0 y1 y2 y3 y4 y5 y6 y7 y8)) ∧ (∀ y0 y1 y2 y3 y4 y5 y6 y7 y8, LeO (hammockref09_Same.l0 k y0 y1 y2 y3 y4 y5 y6 y7 y8) (hammockref09_Same.l0 (k + 1) y0 y1 y2 y3 y4 y5 y6 y7 y8))
 | 0 => ⟨fun _ _ _ _ _ _ _ _ r h => by simp [hammockref09_Same.f] at h, fun _ _ _ _ _ _ _ _ _ r h => by simp [hammockref09_Same.j0] at h, fun _ _ _ _ _ _ _ _ _ r h => by simp [hammockref09_Same.l0] at h⟩
 | k + 1 => by
  obtain ⟨ih0, ih1, ih2⟩ := hammockref09_Same.mono_l k
  refine ⟨?_, ?_, ?_⟩
  ·intro y0 y1 y2 y3 y4 y5 y6 y7
   unfold hammockref09_Same.f
   repeat' first
   | (with_reducible exact ih0 _ _ _ _ _ _ _ _)
   | (with_reducible exact ih1 _ _ _ _ _ _ _ _ _)
   | (with_reducible exact ih2 _ _ _ _ _ _ _ _ _)
   | (with_reducible exact LeO.refl _)
   | (with_reducible exact LeO.none _)
   | (with_reducible refine LeO.ite ?_ ?_)
   | (with_reducible refine LeO.bind ?_ (fun _ => ?_))
  ·intro y0 y1 y2 y3 y4 y5 y6 y7 y8
   unfold hammockref09_Same.j0
   repeat' first
   | (with_reducible exact ih0 _ _ _ _ _ _ _ _)
   | (with_reducible exact ih1 _ _ _ _ _ _ _ _ _)
   | (with_reducible exact ih2 _ _ _ _ _ _ _ _ _)
   | (with_reducible exact LeO.refl _)
   | (with_reducible exact LeO.none _)
   | (with_reducible refine LeO.ite ?_ ?_)
   | (with_reducible refine LeO.bind ?_ (fun _ => ?_))
  ·intro y0 y1 y2 y3 y4 y5 y6 y7 y8
   unfold hammockref09_Same.l0
   repeat' first
   | (with_reducible exact ih0 _ _ _ _ _ _ _ _)
   | (with_reducible exact ih1 _ _ _ _ _ _ _ _ _)
   | (with_reducible exact ih2 _ _ _ _ _ _ _ _ _)
   | (with_reducible exact LeO.refl _)
   | (with_reducible exact LeO.none _)
   | (with_reducible refine LeO.ite ?_ ?_)
   | (with_reducible refine LeO.bind ?_ (fun _ => ?_))
def hammockref09_Same.T6 : Bool × List (List Nat × List Nat) := (true, [([], []), ([0], [0]), ([], []), ([1, 2], [1, 2]), ([3], [3]), ([], []), ([5], [5]), ([], []), ([6, 7], [6, 7]), ([8], [8]), ([4, 9], [4, 9]), ([10], [10])])
def hammockref09_Same.B6 : List Nat := [0, 1, 0, 7, 15, 0, 32, 0, 224, 480, 1023, 2047]
theorem hammockref09_Same.tab6 : rtab .any (opsOf Tryd.f13 6) = hammockref09_Same.T6 := by kernel_rfl
theorem hammockref09_Same.bits6 : waitsOk hammockref09_Same.T6.2 hammockref09_Same.B6 = true := by kernel_rfl
set_option maxHeartbeats 8000000 in
set_option maxRecDepth 100000 in
theorem hammockref09_Same.calls (k : Nat) : ∀ (a0_0 : Int) (a0_1 : Int) (a0_2 : ByteArray) (A0_3 : Option Addr) (c0_3 : Nat) (l0_3 : List (S24)) (a1_0 : Int) (a1_1 : Int) (a1_2 : ByteArray) (A1_3 : Option Addr) (c1_3 : Nat) (l1_3 : List (S24)) (r : Bool) (w : World) (hr0_3 : Kd.C k24 w A0_3 l0_3.length l0_3) (hc0_3 : l0_3.length ≤ c0_3) (hr1_3 : Kd.C k24 w A1_3 l1_3.length l1_3) (hc1_3 : l1_3.length ≤ c1_3) (h : hammockref09_Same.f k a0_0 a0_1 a0_2 l0_3 a1_0 a1_1 a1_2 l1_3 = some r),
  Calls Tryd.prog 13 #[.agg #[.int .i64 a0_0, .int .i64 a0_1, .string a0_2, .slice A0_3 l0_3.length c0_3], .agg #[.int .i64 a1_0, .int .i64 a1_1, .string a1_2, .slice A1_3 l1_3.length c1_3]] w fun e w' => e = .returned (.bool r) ∧ Below w.heap.size w w' := by
 induction k using Nat.strongRecOn with
 | _ k ih =>
 intro a0_0 a0_1 a0_2 A0_3 c0_3 l0_3 a1_0 a1_1 a1_2 A1_3 c1_3 l1_3 r w hr0_3 hc0_3 hr1_3 hc1_3 h
 cases k with
 | zero => exact absurd h (by simp [hammockref09_Same.f])
 | succ k =>
 simp only [hammockref09_Same.f] at h
 have hu24 := Tryd.underlying24
 have HR0_3 := zG hr0_3
 have HC0_3 := zG hc0_3
 clear hr0_3 hc0_3
 have HR1_3 := zG hr1_3
 have HC1_3 := zG hc1_3
 clear hr1_3 hc1_3
 have HB := zG (Below.refl w.heap.size w)
 have H : (if a0_0 = a1_0 then (if a0_1 = a1_1 then (if a0_2.toList = a1_2.toList then (hammockref09_Same.j0 k ((l0_3.length : Int) != (l1_3.length : Int)) a0_0 a0_1 a0_2 l0_3 a1_0 a1_1 a1_2 l1_3) else (hammockref09_Same.j0 k true a0_0 a0_1 a0_2 l0_3 a1_0 a1_1 a1_2 l1_3)) else (hammockref09_Same.j0 k true a0_0 a0_1 a0_2 l0_3 a1_0 a1_1 a1_2 l1_3)) else (hammockref09_Same.j0 k true a0_0 a0_1 a0_2 l0_3 a1_0 a1_1 a1_2 l1_3)) = some r := h
 clear h
 have HC3 := zG H
 clear H
 go_enter Tryd.func13, Tryd.ntmps13
 go_upto_region 1 with (first | ((with_reducible refine gate_dst (N := 2) rfl ?_); (try (refine gate_guard (by rfl) ?_; dsimp only)); refine box_event ?hg (N := 2) ?hd (cs := #[.int .i64 a0_0, .int .i64 a0_1, .string a0_2, .slice A0_3 l0_3.length c0_3]) (t := 24) ?hr ?_; (case hd => rfl); (case hg => rfl); (case hr => first | (go_simp; done) | (go_simp; rfl)); intro gb204 hg w4 hbox hb; have n0_ := zG (zE HB.out hb); have n1_ := zG (hbox); have n2_ := zG ((by rw [hg]; exact (zF HB.out) : w.heap.size ≤ gb204)); have n3_ := n2_; clear HB; have HB := n0_; have BK204 := n1_; have GW204 := n2_; have GE204 := n3_; clear n0_ n1_ n2_ n3_; clear hb hbox hg) | ((with_reducible refine gate_dst (N := 3) rfl ?_); (try (refine gate_guard (by rfl) ?_; dsimp only)); refine box_event ?hg (N := 3) ?hd (cs := #[.int .i64 a1_0, .int .i64 a1_1, .string a1_2, .slice A1_3 l1_3.length c1_3]) (t := 24) ?hr ?_; (case hd => rfl); (case hg => rfl); (case hr => first | (go_simp; done) | (go_simp; rfl)); intro gb205 hg w5 hbox hb; have n0_ := zG (zK (g := gb204) BK204.out hb); have n1_ := zG (zE HB.out hb); have n2_ := zG (hbox); have n3_ := zG ((by rw [hg]; exact (zF HB.out) : w.heap.size ≤ gb205)); have n4_ := n3_; have n5_ := zG ((by rw [hg]; exact Nat.ne_of_lt (zAD (g := gb204) BK204.out) : gb204 ≠ gb205)); have n6_ := zG ((by rw [hg]; exact Nat.ne_of_gt (zAD (g := gb204) BK204.out) : gb205 ≠ gb204)); clear BK204; clear HB; have BK204 := n0_; have HB := n1_; have BK205 := n2_; have GW205 := n3_; have GE205 := n4_; have NB204_205 := n5_; have NB205_204 := n6_; clear n0_ n1_ n2_ n3_ n4_ n5_ n6_; clear hb hbox hg))
 (try simp only [Act.put, zO, zP, zR])
 go_cut [33] (fun v33 wc => ∃ (kq : Nat) (x33_2 : Bool), v33 = .bool x33_2 ∧ Aside0 (hammockref09_Same.j0 kq x33_2 a0_0 a0_1 a0_2 l0_3 a1_0 a1_1 a1_2 l1_3 = some r) ∧ Aside0 (kq ≤ k) ∧ Aside0 (wc.heap[gb204]? = some (.cells #[.int .i64 a0_0, .int .i64 a0_1, .string a0_2, (.slice A0_3 l0_3.length c0_3)] 24 (0, 0))) ∧ Aside0 (wc.heap[gb205]? = some (.cells #[.int .i64 a1_0, .int .i64 a1_1, .string a1_2, (.slice A1_3 l1_3.length c1_3)] 24 (0, 0))) ∧ Aside0 (Below w.heap.size w wc))
 case first =>
  have H := HC3.out
  clear HC3
  by_cases c6 : a0_0 = a1_0
  ·rw [if_pos c6] at H
   have c6b0 : (a0_0 == a1_0) = true := zW c6
   have c6b1 : (a0_0 != a1_0) = false := zX c6
   clear c6
   (first | rw [c6b0] | (simp only [i64_w, i32_w]; rw [c6b0]) | skip)
   by_cases c7 : a0_1 = a1_1
   ·rw [if_pos c7] at H
    have c7b0 : (a0_1 == a1_1) = true := zW c7
    have c7b1 : (a0_1 != a1_1) = false := zX c7
    clear c7
    by_cases c8 : a0_2.toList = a1_2.toList
    ·rw [if_pos c8] at H
     have c8b0 : (a0_2.toList == a1_2.toList) = true := zW c8
     have c8b1 : (a0_2.toList != a1_2.toList) = false := zX c8
     clear c8
     have H' := zG H
     clear H
     have hnb9 := NB204_205.out
     have hnc9 := NB205_204.out
     obtain ⟨hcz10_0, hcz10_1, hcz10_2, hcz10_3, hfz10_0, hfz10_1, hfz10_2, hfz10_3⟩ := zQ BK204.out
     obtain ⟨hcz11_0, hcz11_1, hcz11_2, hcz11_3, hfz11_0, hfz11_1, hfz11_2, hfz11_3⟩ := zQ BK205.out
     go_wp2
     go_meet
     case rel => exact ⟨_, (((l0_3.length : Int) != (l1_3.length : Int))), (by first | rfl | (simp; done) | (simp [*]; done)), H', ⟨by first | omega | exact Nat.le_refl _⟩, ⟨BK204.out⟩, ⟨BK205.out⟩, ⟨HB.out⟩⟩
    ·rw [if_neg c8] at H
     have c8b0 : (a0_2.toList == a1_2.toList) = false := zY c8
     have c8b1 : (a0_2.toList != a1_2.toList) = true := zZ c8
     have H' := zG H
     clear H
     have hnb12 := NB204_205.out
     have hnc12 := NB205_204.out
     obtain ⟨hcz13_0, hcz13_1, hcz13_2, hcz13_3, hfz13_0, hfz13_1, hfz13_2, hfz13_3⟩ := zQ BK204.out
     obtain ⟨hcz14_0, hcz14_1, hcz14_2, hcz14_3, hfz14_0, hfz14_1, hfz14_2, hfz14_3⟩ := zQ BK205.out
     go_wp2
     go_meet
     case rel => exact ⟨_, (true), (by first | rfl | (simp; done) | (simp [*]; done)), H', ⟨by first | omega | exact Nat.le_refl _⟩, ⟨BK204.out⟩, ⟨BK205.out⟩, ⟨HB.out⟩⟩
   ·rw [if_neg c7] at H
    have c7b0 : (a0_1 == a1_1) = false := zY c7
    have c7b1 : (a0_1 != a1_1) = true := zZ c7
    have H' := zG H
    clear H
    have hnb15 := NB204_205.out
    have hnc15 := NB205_204.out
    obtain ⟨hcz16_0, hcz16_1, hcz16_2, hcz16_3, hfz16_0, hfz16_1, hfz16_2, hfz16_3⟩ := zQ BK204.out
    obtain ⟨hcz17_0, hcz17_1, hcz17_2, hcz17_3, hfz17_0, hfz17_1, hfz17_2, hfz17_3⟩ := zQ BK205.out
    go_wp2
    go_meet
    case rel => exact ⟨_, (true), (by first | rfl | (simp; done) | (simp [*]; done)), H', ⟨by first | omega | exact Nat.le_refl _⟩, ⟨BK204.out⟩, ⟨BK205.out⟩, ⟨HB.out⟩⟩
  ·rw [if_neg c6] at H
   have c6b0 : (a0_0 == a1_0) = false := zY c6
   have c6b1 : (a0_0 != a1_0) = true := zZ c6
   (first | rw [c6b0] | (simp only [i64_w, i32_w]; rw [c6b0]) | skip)
   have H' := zG H
   clear H
   have hnb18 := NB204_205.out
   have hnc18 := NB205_204.out
   obtain ⟨hcz19_0, hcz19_1, hcz19_2, hcz19_3, hfz19_0, hfz19_1, hfz19_2, hfz19_3⟩ := zQ BK204.out
   obtain ⟨hcz20_0, hcz20_1, hcz20_2, hcz20_3, hfz20_0, hfz20_1, hfz20_2, hfz20_3⟩ := zQ BK205.out
   go_wp2
   go_meet
   case rel => exact ⟨_, (true), (by first | rfl | (simp; done) | (simp [*]; done)), H', ⟨by first | omega | exact Nat.le_refl _⟩, ⟨BK204.out⟩, ⟨BK205.out⟩, ⟨HB.out⟩⟩
 case rest =>
  clear HC3
  try clear c1
  try clear p2
  try clear c6
  try clear c6b0
  try clear c6b1
  try clear c7
  try clear c7b0
  try clear c7b1
  try clear c8
  try clear c8b0
  try clear c8b1
  try clear c9
  try clear c12
  try clear c13
  try clear c15
  try clear c18
  try clear hcz10_0
  try clear hcz10_1
  try clear hcz10_2
  try clear hcz10_3
  try clear hcz11_0
  try clear hcz11_1
  try clear hcz11_2
  try clear hcz11_3
  try clear hcz13_0
  try clear hcz13_1
  try clear hcz13_2
  try clear hcz13_3
  try clear hcz14_0
  try clear hcz14_1
  try clear hcz14_2
  try clear hcz14_3
  try clear hcz16_0
  try clear hcz16_1
  try clear hcz16_2
  try clear hcz16_3
  try clear hcz17_0
  try clear hcz17_1
  try clear hcz17_2
  try clear hcz17_3
  try clear hcz19_0
  try clear hcz19_1
  try clear hcz19_2
  try clear hcz19_3
  try clear hcz20_0
  try clear hcz20_1
  try clear hcz20_2
  try clear hcz20_3
  try clear hfz10_0
  try clear hfz10_1
  try clear hfz10_2
  try clear hfz10_3
  try clear hfz11_0
  try clear hfz11_1
  try clear hfz11_2
  try clear hfz11_3
  try clear hfz13_0
  try clear hfz13_1
  try clear hfz13_2
  try clear hfz13_3
  try clear hfz14_0
  try clear hfz14_1
  try clear hfz14_2
  try clear hfz14_3
  try clear hfz16_0
  try clear hfz16_1
  try clear hfz16_2
  try clear hfz16_3
  try clear hfz17_0
  try clear hfz17_1
  try clear hfz17_2
  try clear hfz17_3
  try clear hfz19_0
  try clear hfz19_1
  try clear hfz19_2
  try clear hfz19_3
  try clear hfz20_0
  try clear hfz20_1
  try clear hfz20_2
  try clear hfz20_3
  obtain ⟨kq, x33_2, rfl, HA, HJ2, BK204, BK205, HB⟩ := hcut
  cases kq with
  | zero => exact absurd HA.out (by simp [hammockref09_Same.j0])
  | succ kj2 =>
   have H := HA.out
   clear HA
   simp only [hammockref09_Same.j0] at H
   by_cases c21 : x33_2 = true
   ·subst c21
    have H1 : (some false) = some r := by rw [if_pos rfl] at H; exact H
    clear H
    have H := H1
    clear H1
    obtain rfl := Option.some.inj H
    go_wp2
    go_ret
    exact ⟨rfl, HB.out⟩
   ·replace c21 := zAB c21
    subst c21
    have H1 : (hammockref09_Same.l0 kj2 0 a0_0 a0_1 a0_2 l0_3 a1_0 a1_1 a1_2 l1_3) = some r := by rw [if_neg (show ¬ (false = true) by decide)] at H; exact H
    clear H
    have H := H1
    clear H1
    have H' := zG H
    clear H
    go_wp2
    go_loopg [5] kj2 (fun kq v5 w' => ∃ (x5_2 : Int), v5 = .int .i64 x5_2 ∧ Aside0 (hammockref09_Same.l0 kq x5_2 a0_0 a0_1 a0_2 l0_3 a1_0 a1_1 a1_2 l1_3 = some r) ∧ Aside0 (kq ≤ kj2) ∧ Aside0 (w'.heap[gb204]? = some (.cells #[.int .i64 a0_0, .int .i64 a0_1, .string a0_2, (.slice A0_3 l0_3.length c0_3)] 24 (0, 0))) ∧ Aside0 (w'.heap[gb205]? = some (.cells #[.int .i64 a1_0, .int .i64 a1_1, .string a1_2, (.slice A1_3 l1_3.length c1_3)] 24 (0, 0))) ∧ Aside0 (Below w.heap.size w w'))
    case atStart => exact ⟨(0), (by first | rfl | (simp; done) | (simp [*]; done)), H', ⟨Nat.le_refl _⟩, ⟨BK204.out⟩, ⟨BK205.out⟩, ⟨HB.out⟩⟩
    case round =>
     clear H'
     try clear c1
     try clear c2
     try clear p2
     try clear c6
     try clear c6b0
     try clear c6b1
     try clear c7
     try clear c7b0
     try clear c7b1
     try clear c8
     try clear c8b0
     try clear c8b1
     try clear c9
     try clear c12
     try clear c13
     try clear c15
     try clear c18
     try clear c21
     try clear hcz10_0
     try clear hcz10_1
     try clear hcz10_2
     try clear hcz10_3
     try clear hcz11_0
     try clear hcz11_1
     try clear hcz11_2
     try clear hcz11_3
     try clear hcz13_0
     try clear hcz13_1
     try clear hcz13_2
     try clear hcz13_3
     try clear hcz14_0
     try clear hcz14_1
     try clear hcz14_2
     try clear hcz14_3
     try clear hcz16_0
     try clear hcz16_1
     try clear hcz16_2
     try clear hcz16_3
     try clear hcz17_0
     try clear hcz17_1
     try clear hcz17_2
     try clear hcz17_3
     try clear hcz19_0
     try clear hcz19_1
     try clear hcz19_2
     try clear hcz19_3
     try clear hcz20_0
     try clear hcz20_1
     try clear hcz20_2
     try clear hcz20_3
     try clear hfz10_0
     try clear hfz10_1
     try clear hfz10_2
     try clear hfz10_3
     try clear hfz11_0
     try clear hfz11_1
     try clear hfz11_2
     try clear hfz11_3
     try clear hfz13_0
     try clear hfz13_1
     try clear hfz13_2
     try clear hfz13_3
     try clear hfz14_0
     try clear hfz14_1
     try clear hfz14_2
     try clear hfz14_3
     try clear hfz16_0
     try clear hfz16_1
     try clear hfz16_2
     try clear hfz16_3
     try clear hfz17_0
     try clear hfz17_1
     try clear hfz17_2
     try clear hfz17_3
     try clear hfz19_0
     try clear hfz19_1
     try clear hfz19_2
     try clear hfz19_3
     try clear hfz20_0
     try clear hfz20_1
     try clear hfz20_2
     try clear hfz20_3
     try clear p2
     obtain ⟨x5_2, rfl, HA, HK2, BK204, BK205, HB⟩ := hrel
     cases gk with
     | zero => exact absurd HA.out (by simp [hammockref09_Same.l0])
     | succ k2 =>
      have H := HA.out
      clear HA
      simp only [hammockref09_Same.l0] at H
      by_cases c22 : x5_2 < (l0_3.length : Int)
      ·rw [if_pos c22] at H
       have c22b0 : decide (x5_2 < (l0_3.length : Int)) = true := zU c22
       clear c22
       by_cases c23 : 0 ≤ x5_2
       ·rw [if_pos c23] at H
        have c23b0 : decide (0 ≤ x5_2) = true := zU c23
        clear c23
        by_cases c24 : x5_2 < (l1_3.length : Int)
        ·rw [if_pos c24] at H
         have c24b0 : decide (x5_2 < (l1_3.length : Int)) = true := zU c24
         clear c24
         replace H := zT H
         obtain ⟨t208, A250, H⟩ := H
         replace H : (if t208 = true then (hammockref09_Same.l0 k2 (wrap64 (x5_2 + 1)) a0_0 a0_1 a0_2 l0_3 a1_0 a1_1 a1_2 l1_3) else (some false)) = some r := H
         have A25 := zG A250
         clear A250
         by_cases c26 : t208 = true
         ·subst c26
          have H1 : (hammockref09_Same.l0 k2 (wrap64 (x5_2 + 1)) a0_0 a0_1 a0_2 l0_3 a1_0 a1_1 a1_2 l1_3) = some r := by rw [if_pos rfl] at H; exact H
          clear H
          have H := H1
          clear H1
          have H' := zG H
          clear H
          have hnb27 := NB204_205.out
          have hnc27 := NB205_204.out
          obtain ⟨hcz28_0, hcz28_1, hcz28_2, hcz28_3, hfz28_0, hfz28_1, hfz28_2, hfz28_3⟩ := zQ BK204.out
          try go_wp2
          have n0_ := zG (zI BK204.out)
          have n1_ := zG (zI BK205.out)
          have n2_ := zG (zC HB.out)
          clear BK204
          clear BK205
          clear HB
          have BK204 := n0_
          have BK205 := n1_
          have HB := n2_
          clear n0_ n1_ n2_
          have p206 : 0 ≤ (x5_2 : Int) := zAA (by assumption)
          have q206 : x5_2 < (l0_3.length : Int) := zAA (by assumption)
          obtain ⟨ad206, A206_3, c206_3, e206, hx206_0, hx206_1, hx206_2, hx206_3, hl206_3, hi206_3⟩ := at_T24 HR0_3.out x5_2 p206 q206
          have hw206_3 := hx206_3
          have hw206_2 := hx206_2
          have hw206_1 := hx206_1
          have hw206_0 := hx206_0
          cases e206
          replace hx206_0 := (HB.out.cell (zS w _ hx206_0)).trans hx206_0
          replace hx206_1 := (HB.out.cell (zS w _ hx206_1)).trans hx206_1
          replace hx206_2 := (HB.out.cell (zS w _ hx206_2)).trans hx206_2
          replace hx206_3 := (HB.out.cell (zS w _ hx206_3)).trans hx206_3
          have HR206_3 := zG hi206_3
          have HC206_3 := zG hl206_3
          clear hi206_3 hl206_3
          replace p206 := eq_true p206
          replace q206 := eq_true q206
          have p207 : 0 ≤ (x5_2 : Int) := zAA (by assumption)
          have q207 : x5_2 < (l1_3.length : Int) := zAA (by assumption)
          obtain ⟨ad207, A207_3, c207_3, e207, hx207_0, hx207_1, hx207_2, hx207_3, hl207_3, hi207_3⟩ := at_T24 HR1_3.out x5_2 p207 q207
          have hw207_3 := hx207_3
          have hw207_2 := hx207_2
          have hw207_1 := hx207_1
          have hw207_0 := hx207_0
          cases e207
          replace hx207_0 := (HB.out.cell (zS w _ hx207_0)).trans hx207_0
          replace hx207_1 := (HB.out.cell (zS w _ hx207_1)).trans hx207_1
          replace hx207_2 := (HB.out.cell (zS w _ hx207_2)).trans hx207_2
          replace hx207_3 := (HB.out.cell (zS w _ hx207_3)).trans hx207_3
          have HR207_3 := zG hi207_3
          have HC207_3 := zG hl207_3
          clear hi207_3 hl207_3
          replace p207 := eq_true p207
          replace q207 := eq_true q207
          refine start_ (n := 12) (S := fun w' => w'.cell? ⟨gb204, 0, none⟩ = some (.int .i64 a0_0) ∧ w'.cell? ⟨gb204, 1, none⟩ = some (.int .i64 a0_1) ∧ w'.cell? ⟨gb204, 2, none⟩ = some (.string a0_2) ∧ w'.cell? ⟨gb204, 3, none⟩ = some (.slice (some ad206) l0_3.length c0_3) ∧ w'.cell? ⟨gb205, 0, none⟩ = some (.int .i64 a1_0) ∧ w'.cell? ⟨gb205, 1, none⟩ = some (.int .i64 a1_1) ∧ w'.cell? ⟨gb205, 2, none⟩ = some (.string a1_2) ∧ w'.cell? ⟨gb205, 3, none⟩ = some (.slice (some ad207) l1_3.length c1_3) ∧ w'.cell? (ad206.add ((x5_2).toNat * 4)) = some (.int .i64 ((rd_T24 l0_3 x5_2).f0)) ∧ w'.cell? ⟨(ad206.add ((x5_2).toNat * 4)).block, (ad206.add ((x5_2).toNat * 4)).off + 1, none⟩ = some (.int .i64 ((rd_T24 l0_3 x5_2).f1)) ∧ w'.cell? ⟨(ad206.add ((x5_2).toNat * 4)).block, (ad206.add ((x5_2).toNat * 4)).off + 2, none⟩ = some (.string ((rd_T24 l0_3 x5_2).f2)) ∧ w'.cell? ⟨(ad206.add ((x5_2).toNat * 4)).block, (ad206.add ((x5_2).toNat * 4)).off + 3, none⟩ = some (.slice A206_3 ((rd_T24 l0_3 x5_2).f3).length c206_3) ∧ w'.cell? (ad207.add ((x5_2).toNat * 4)) = some (.int .i64 ((rd_T24 l1_3 x5_2).f0)) ∧ w'.cell? ⟨(ad207.add ((x5_2).toNat * 4)).block, (ad207.add ((x5_2).toNat * 4)).off + 1, none⟩ = some (.int .i64 ((rd_T24 l1_3 x5_2).f1)) ∧ w'.cell? ⟨(ad207.add ((x5_2).toNat * 4)).block, (ad207.add ((x5_2).toNat * 4)).off + 2, none⟩ = some (.string ((rd_T24 l1_3 x5_2).f2)) ∧ w'.cell? ⟨(ad207.add ((x5_2).toNat * 4)).block, (ad207.add ((x5_2).toNat * 4)).off + 3, none⟩ = some (.slice A207_3 ((rd_T24 l1_3 x5_2).f3).length c207_3)) (ds := []) #[false, false, false, false, false, false, false, false, false, false, false, false] (by kernel_rfl) rfl rfl ⟨zL BK204.out 0, zL BK204.out 1, zL BK204.out 2, zL BK204.out 3, zL BK205.out 0, zL BK205.out 1, zL BK205.out 2, zL BK205.out 3, ((HB.out.cell (zS w _ hw206_0)).trans hw206_0), ((HB.out.cell (zS w _ hw206_1)).trans hw206_1), ((HB.out.cell (zS w _ hw206_2)).trans hw206_2), ((HB.out.cell (zS w _ hw206_3)).trans hw206_3), ((HB.out.cell (zS w _ hw207_0)).trans hw207_0), ((HB.out.cell (zS w _ hw207_1)).trans hw207_1), ((HB.out.cell (zS w _ hw207_2)).trans hw207_2), ((HB.out.cell (zS w _ hw207_3)).trans hw207_3)⟩ (fun hHeld => ?_); refine with_tabW hammockref09_Same.tab6 hammockref09_Same.bits6 (fun HT_ HW_ => ?_)
          generalize wr.drew = w29 at BK204 BK205 HB HR206_3 HR207_3 hx206_0 hx206_1 hx206_2 hx206_3 hx207_0 hx207_1 hx207_2 hx207_3 hHeld ⊢
          refine pure_ (i := 0) (N := some 41) (v := ?_) (a' := ?_) (zBM 12 1) rfl rfl (any_of HT_.out (by kernel_rfl)) (fun _ _ _ h => h) (Or.inl ⟨by rfl, ?_⟩) ?_ ?_
          rotate_left
          ·intro w'
           go_simp
           with_reducible rfl
          rotate_left
          ·simp only [Act.put, zO, zP, zR, i64_w, i32_w]
           rfl
          refine pure_ (i := 2) (N := some 43) (v := ?_) (a' := ?_) (zBM 12 5) rfl rfl (any_of HT_.out (by kernel_rfl)) (fun _ _ _ h => h) (Or.inl ⟨by rfl, ?_⟩) ?_ ?_
          rotate_left
          ·intro w'
           go_simp
           with_reducible rfl
          rotate_left
          ·simp only [Act.put, zO, zP, zR, i64_w, i32_w]
           rfl
          refine pure_ (i := 5) (N := some 46) (v := ?_) (a' := ?_) (zBM 12 37) rfl rfl (any_of HT_.out (by kernel_rfl)) (fun _ _ _ h => h) (Or.inl ⟨by rfl, ?_⟩) ?_ ?_
          rotate_left
          ·intro w'
           go_simp
           with_reducible rfl
          rotate_left
          ·simp only [Act.put, zO, zP, zR, i64_w, i32_w]
           rfl
          refine pure_ (i := 7) (N := some 48) (v := ?_) (a' := ?_) (zBM 12 165) rfl rfl (any_of HT_.out (by kernel_rfl)) (fun _ _ _ h => h) (Or.inl ⟨by rfl, ?_⟩) ?_ ?_
          rotate_left
          ·intro w'
           go_simp
           with_reducible rfl
          rotate_left
          ·simp only [Act.put, zO, zP, zR, i64_w, i32_w]
           rfl
          refine take_ (i := 1) (N := some 42) (v := ?_) (a' := ?_) (zBM 12 167) rfl rfl (take_ofW HT_.out HW_.out (by kernel_rfl)) (fun _ _ _ h => h) (Or.inl ⟨by rfl, ?_⟩) hHeld ?_ ?_
          rotate_left
          ·rintro w' ⟨s0, s1, s2, s3, s4, s5, s6, s7, s8, s9, s10, s11, s12, s13, s14, s15⟩
           go_simp
           with_reducible rfl
          rotate_left
          ·simp only [Act.put, zO, zP, zR, i64_w, i32_w]
           rfl
          refine pure_ (i := 3) (N := some 44) (v := ?_) (a' := ?_) (zBM 12 175) rfl rfl (any_of HT_.out (by kernel_rfl)) (fun _ _ _ h => h) (Or.inl ⟨by rfl, ?_⟩) ?_ ?_
          rotate_left
          ·intro w'
           go_simp
           with_reducible rfl
          rotate_left
          ·simp only [Act.put, zO, zP, zR, i64_w, i32_w]
           rfl
          refine take_ (i := 4) (N := some 45) (v := ?_) (a' := ?_) (zBM 12 191) rfl rfl (take_ofW HT_.out HW_.out (by kernel_rfl)) (fun _ _ _ h => h) (Or.inl ⟨by rfl, ?_⟩) hHeld ?_ ?_
          rotate_left
          ·rintro w' ⟨s0, s1, s2, s3, s4, s5, s6, s7, s8, s9, s10, s11, s12, s13, s14, s15⟩
           go_simp
           with_reducible rfl
          rotate_left
          ·simp only [Act.put, zO, zP, zR, i64_w, i32_w]
           rfl
          refine take_ (i := 6) (N := some 47) (v := ?_) (a' := ?_) (zBM 12 255) rfl rfl (take_ofW HT_.out HW_.out (by kernel_rfl)) (fun _ _ _ h => h) (Or.inl ⟨by rfl, ?_⟩) hHeld ?_ ?_
          rotate_left
          ·rintro w' ⟨s0, s1, s2, s3, s4, s5, s6, s7, s8, s9, s10, s11, s12, s13, s14, s15⟩
           go_simp
           with_reducible rfl
          rotate_left
          ·simp only [Act.put, zO, zP, zR, i64_w, i32_w]
           rfl
          refine pure_ (i := 8) (N := some 49) (v := ?_) (a' := ?_) (zBM 12 511) rfl rfl (any_of HT_.out (by kernel_rfl)) (fun _ _ _ h => h) (Or.inl ⟨by rfl, ?_⟩) ?_ ?_
          rotate_left
          ·intro w'
           go_simp
           with_reducible rfl
          rotate_left
          ·simp only [Act.put, zO, zP, zR, i64_w, i32_w]
           rfl
          refine take_ (i := 9) (N := some 50) (v := ?_) (a' := ?_) (zBM 12 1023) rfl rfl (take_ofW HT_.out HW_.out (by kernel_rfl)) (fun _ _ _ h => h) (Or.inl ⟨by rfl, ?_⟩) hHeld ?_ ?_
          rotate_left
          ·rintro w' ⟨s0, s1, s2, s3, s4, s5, s6, s7, s8, s9, s10, s11, s12, s13, s14, s15⟩
           go_simp
           with_reducible rfl
          rotate_left
          ·simp only [Act.put, zO, zP, zR, i64_w, i32_w]
           rfl
          refine one_ (i := 10) (N := some 51) (zBM 12 2047) rfl rfl (one_of HT_.out (by kernel_rfl)) (by decide) (fun K hK => ?_)
          refine goes_ Tryd.func13 (by kernel_rfl) rfl #[.agg #[.int .i64 ((rd_T24 l0_3 x5_2).f0), .int .i64 ((rd_T24 l0_3 x5_2).f1), .string ((rd_T24 l0_3 x5_2).f2), .slice A206_3 ((rd_T24 l0_3 x5_2).f3).length c206_3], .agg #[.int .i64 ((rd_T24 l1_3 x5_2).f0), .int .i64 ((rd_T24 l1_3 x5_2).f1), .string ((rd_T24 l1_3 x5_2).f2), .slice A207_3 ((rd_T24 l1_3 x5_2).f3).length c207_3]] (by rfl) rfl rfl (by (try simp only [List.map_toArray, List.map_cons, List.map_nil]); first | done | rfl | (simp only [List.length_drop, List.length_take]; rfl)) ?_
          with_reducible refine (ih k2 (by have := HJ2.out; have := HK2.out; omega) ((rd_T24 l0_3 x5_2).f0) ((rd_T24 l0_3 x5_2).f1) ((rd_T24 l0_3 x5_2).f2) _ _ ((rd_T24 l0_3 x5_2).f3) ((rd_T24 l1_3 x5_2).f0) ((rd_T24 l1_3 x5_2).f1) ((rd_T24 l1_3 x5_2).f2) _ _ ((rd_T24 l1_3 x5_2).f3) true _ ?side1 ?side2 ?side3 ?side4 A25.out).mono ?_
          (case side1 => exact zAC HR206_3.out HB.out)
          (case side2 => exact HC206_3.out)
          (case side3 => exact zAC HR207_3.out HB.out)
          (case side4 => exact HC207_3.out)
          rintro e w30 ⟨rfl, hb⟩
          refine ⟨_, rfl, ?_⟩
          have n0_ := zG (zK (g := gb204) BK204.out hb)
          have n1_ := zG (zK (g := gb205) BK205.out hb)
          have n2_ := zG (zE HB.out hb)
          clear BK204
          clear BK205
          clear HB
          have BK204 := n0_
          have BK205 := n1_
          have HB := n2_
          clear n0_ n1_ n2_
          (try clear hb)
          (try clear hb2)
          (try clear hk)
          (try clear hi)
          refine hK.out _ _ ⟨zL BK204.out 0, zL BK204.out 1, zL BK204.out 2, zL BK204.out 3, zL BK205.out 0, zL BK205.out 1, zL BK205.out 2, zL BK205.out 3, ((HB.out.cell (zS w _ hw206_0)).trans hw206_0), ((HB.out.cell (zS w _ hw206_1)).trans hw206_1), ((HB.out.cell (zS w _ hw206_2)).trans hw206_2), ((HB.out.cell (zS w _ hw206_3)).trans hw206_3), ((HB.out.cell (zS w _ hw207_0)).trans hw207_0), ((HB.out.cell (zS w _ hw207_1)).trans hw207_1), ((HB.out.cell (zS w _ hw207_2)).trans hw207_2), ((HB.out.cell (zS w _ hw207_3)).trans hw207_3)⟩ (fun hHeld => ?_)
          clear hK K
          refine norm_ (a' := ?_) ?_ ?_
          rotate_left
          ·show Act.put _ (some 51) _ = _
           simp only [Act.put, zO, zP, zR, i64_w, i32_w]
           rfl
          refine pure_ (i := 11) (N := some 52) (v := ?_) (a' := ?_) (zBM 12 4095) rfl rfl (any_of HT_.out (by kernel_rfl)) (fun _ _ _ h => h) (Or.inl ⟨by rfl, ?_⟩) ?_ ?_
          rotate_left
          ·intro w'
           go_simp
           with_reducible rfl
          rotate_left
          ·simp only [Act.put, zO, zP, zR, i64_w, i32_w]
           rfl
          refine done_ (done_of HT_.out (by kernel_rfl)) ?_
          try go_wp2
          go_roundg k2
          case measure => have := HJ2.out; have := HK2.out; omega
          case rel => exact ⟨(wrap64 (x5_2 + 1)), (by first | rfl | (simp; done) | (simp [*]; done)), H', ⟨by have := HJ2.out; have := HK2.out; omega⟩, ⟨BK204.out⟩, ⟨BK205.out⟩, ⟨HB.out⟩⟩
         ·replace c26 := zAB c26
          subst c26
          have H1 : (some false) = some r := by rw [if_neg (show ¬ (false = true) by decide)] at H; exact H
          clear H
          have H := H1
          clear H1
          obtain rfl := Option.some.inj H
          have hnb31 := NB204_205.out
          have hnc31 := NB205_204.out
          obtain ⟨hcz32_0, hcz32_1, hcz32_2, hcz32_3, hfz32_0, hfz32_1, hfz32_2, hfz32_3⟩ := zQ BK204.out
          try go_wp2
          have n0_ := zG (zI BK204.out)
          have n1_ := zG (zI BK205.out)
          have n2_ := zG (zC HB.out)
          clear BK204
          clear BK205
          clear HB
          have BK204 := n0_
          have BK205 := n1_
          have HB := n2_
          clear n0_ n1_ n2_
          have p206 : 0 ≤ (x5_2 : Int) := zAA (by assumption)
          have q206 : x5_2 < (l0_3.length : Int) := zAA (by assumption)
          obtain ⟨ad206, A206_3, c206_3, e206, hx206_0, hx206_1, hx206_2, hx206_3, hl206_3, hi206_3⟩ := at_T24 HR0_3.out x5_2 p206 q206
          have hw206_3 := hx206_3
          have hw206_2 := hx206_2
          have hw206_1 := hx206_1
          have hw206_0 := hx206_0
          cases e206
          replace hx206_0 := (HB.out.cell (zS w _ hx206_0)).trans hx206_0
          replace hx206_1 := (HB.out.cell (zS w _ hx206_1)).trans hx206_1
          replace hx206_2 := (HB.out.cell (zS w _ hx206_2)).trans hx206_2
          replace hx206_3 := (HB.out.cell (zS w _ hx206_3)).trans hx206_3
          have HR206_3 := zG hi206_3
          have HC206_3 := zG hl206_3
          clear hi206_3 hl206_3
          replace p206 := eq_true p206
          replace q206 := eq_true q206
          have p207 : 0 ≤ (x5_2 : Int) := zAA (by assumption)
          have q207 : x5_2 < (l1_3.length : Int) := zAA (by assumption)
          obtain ⟨ad207, A207_3, c207_3, e207, hx207_0, hx207_1, hx207_2, hx207_3, hl207_3, hi207_3⟩ := at_T24 HR1_3.out x5_2 p207 q207
          have hw207_3 := hx207_3
          have hw207_2 := hx207_2
          have hw207_1 := hx207_1
          have hw207_0 := hx207_0
          cases e207
          replace hx207_0 := (HB.out.cell (zS w _ hx207_0)).trans hx207_0
          replace hx207_1 := (HB.out.cell (zS w _ hx207_1)).trans hx207_1
          replace hx207_2 := (HB.out.cell (zS w _ hx207_2)).trans hx207_2
          replace hx207_3 := (HB.out.cell (zS w _ hx207_3)).trans hx207_3
          have HR207_3 := zG hi207_3
          have HC207_3 := zG hl207_3
          clear hi207_3 hl207_3
          replace p207 := eq_true p207
          replace q207 := eq_true q207
          refine start_ (n := 12) (S := fun w' => w'.cell? ⟨gb204, 0, none⟩ = some (.int .i64 a0_0) ∧ w'.cell? ⟨gb204, 1, none⟩ = some (.int .i64 a0_1) ∧ w'.cell? ⟨gb204, 2, none⟩ = some (.string a0_2) ∧ w'.cell? ⟨gb204, 3, none⟩ = some (.slice (some ad206) l0_3.length c0_3) ∧ w'.cell? ⟨gb205, 0, none⟩ = some (.int .i64 a1_0) ∧ w'.cell? ⟨gb205, 1, none⟩ = some (.int .i64 a1_1) ∧ w'.cell? ⟨gb205, 2, none⟩ = some (.string a1_2) ∧ w'.cell? ⟨gb205, 3, none⟩ = some (.slice (some ad207) l1_3.length c1_3) ∧ w'.cell? (ad206.add ((x5_2).toNat * 4)) = some (.int .i64 ((rd_T24 l0_3 x5_2).f0)) ∧ w'.cell? ⟨(ad206.add ((x5_2).toNat * 4)).block, (ad206.add ((x5_2).toNat * 4)).off + 1, none⟩ = some (.int .i64 ((rd_T24 l0_3 x5_2).f1)) ∧ w'.cell? ⟨(ad206.add ((x5_2).toNat * 4)).block, (ad206.add ((x5_2).toNat * 4)).off + 2, none⟩ = some (.string ((rd_T24 l0_3 x5_2).f2)) ∧ w'.cell? ⟨(ad206.add ((x5_2).toNat * 4)).block, (ad206.add ((x5_2).toNat * 4)).off + 3, none⟩ = some (.slice A206_3 ((rd_T24 l0_3 x5_2).f3).length c206_3) ∧ w'.cell? (ad207.add ((x5_2).toNat * 4)) = some (.int .i64 ((rd_T24 l1_3 x5_2).f0)) ∧ w'.cell? ⟨(ad207.add ((x5_2).toNat * 4)).block, (ad207.add ((x5_2).toNat * 4)).off + 1, none⟩ = some (.int .i64 ((rd_T24 l1_3 x5_2).f1)) ∧ w'.cell? ⟨(ad207.add ((x5_2).toNat * 4)).block, (ad207.add ((x5_2).toNat * 4)).off + 2, none⟩ = some (.string ((rd_T24 l1_3 x5_2).f2)) ∧ w'.cell? ⟨(ad207.add ((x5_2).toNat * 4)).block, (ad207.add ((x5_2).toNat * 4)).off + 3, none⟩ = some (.slice A207_3 ((rd_T24 l1_3 x5_2).f3).length c207_3)) (ds := []) #[false, false, false, false, false, false, false, false, false, false, false, false] (by kernel_rfl) rfl rfl ⟨zL BK204.out 0, zL BK204.out 1, zL BK204.out 2, zL BK204.out 3, zL BK205.out 0, zL BK205.out 1, zL BK205.out 2, zL BK205.out 3, ((HB.out.cell (zS w _ hw206_0)).trans hw206_0), ((HB.out.cell (zS w _ hw206_1)).trans hw206_1), ((HB.out.cell (zS w _ hw206_2)).trans hw206_2), ((HB.out.cell (zS w _ hw206_3)).trans hw206_3), ((HB.out.cell (zS w _ hw207_0)).trans hw207_0), ((HB.out.cell (zS w _ hw207_1)).trans hw207_1), ((HB.out.cell (zS w _ hw207_2)).trans hw207_2), ((HB.out.cell (zS w _ hw207_3)).trans hw207_3)⟩ (fun hHeld => ?_); refine with_tabW hammockref09_Same.tab6 hammockref09_Same.bits6 (fun HT_ HW_ => ?_)
          generalize wr.drew = w33 at BK204 BK205 HB HR206_3 HR207_3 hx206_0 hx206_1 hx206_2 hx206_3 hx207_0 hx207_1 hx207_2 hx207_3 hHeld ⊢
          refine pure_ (i := 0) (N := some 41) (v := ?_) (a' := ?_) (zBM 12 1) rfl rfl (any_of HT_.out (by kernel_rfl)) (fun _ _ _ h => h) (Or.inl ⟨by rfl, ?_⟩) ?_ ?_
          rotate_left
          ·intro w'
           go_simp
           with_reducible rfl
          rotate_left
          ·simp only [Act.put, zO, zP, zR, i64_w, i32_w]
           rfl
          refine pure_ (i := 2) (N := some 43) (v := ?_) (a' := ?_) (zBM 12 5) rfl rfl (any_of HT_.out (by kernel_rfl)) (fun _ _ _ h => h) (Or.inl ⟨by rfl, ?_⟩) ?_ ?_
          rotate_left
          ·intro w'
           go_simp
           with_reducible rfl
          rotate_left
          ·simp only [Act.put, zO, zP, zR, i64_w, i32_w]
           rfl
          refine pure_ (i := 5) (N := some 46) (v := ?_) (a' := ?_) (zBM 12 37) rfl rfl (any_of HT_.out (by kernel_rfl)) (fun _ _ _ h => h) (Or.inl ⟨by rfl, ?_⟩) ?_ ?_
          rotate_left
          ·intro w'
           go_simp
           with_reducible rfl
          rotate_left
          ·simp only [Act.put, zO, zP, zR, i64_w, i32_w]
           rfl
          refine pure_ (i := 7) (N := some 48) (v := ?_) (a' := ?_) (zBM 12 165) rfl rfl (any_of HT_.out (by kernel_rfl)) (fun _ _ _ h => h) (Or.inl ⟨by rfl, ?_⟩) ?_ ?_
          rotate_left
          ·intro w'
           go_simp
           with_reducible rfl
          rotate_left
          ·simp only [Act.put, zO, zP, zR, i64_w, i32_w]
           rfl
          refine take_ (i := 1) (N := some 42) (v := ?_) (a' := ?_) (zBM 12 167) rfl rfl (take_ofW HT_.out HW_.out (by kernel_rfl)) (fun _ _ _ h => h) (Or.inl ⟨by rfl, ?_⟩) hHeld ?_ ?_
          rotate_left
          ·rintro w' ⟨s0, s1, s2, s3, s4, s5, s6, s7, s8, s9, s10, s11, s12, s13, s14, s15⟩
           go_simp
           with_reducible rfl
          rotate_left
          ·simp only [Act.put, zO, zP, zR, i64_w, i32_w]
           rfl
          refine pure_ (i := 3) (N := some 44) (v := ?_) (a' := ?_) (zBM 12 175) rfl rfl (any_of HT_.out (by kernel_rfl)) (fun _ _ _ h => h) (Or.inl ⟨by rfl, ?_⟩) ?_ ?_
          rotate_left
          ·intro w'
           go_simp
           with_reducible rfl
          rotate_left
          ·simp only [Act.put, zO, zP, zR, i64_w, i32_w]
           rfl
          refine take_ (i := 4) (N := some 45) (v := ?_) (a' := ?_) (zBM 12 191) rfl rfl (take_ofW HT_.out HW_.out (by kernel_rfl)) (fun _ _ _ h => h) (Or.inl ⟨by rfl, ?_⟩) hHeld ?_ ?_
          rotate_left
          ·rintro w' ⟨s0, s1, s2, s3, s4, s5, s6, s7, s8, s9, s10, s11, s12, s13, s14, s15⟩
           go_simp
           with_reducible rfl
          rotate_left
          ·simp only [Act.put, zO, zP, zR, i64_w, i32_w]
           rfl
          refine take_ (i := 6) (N := some 47) (v := ?_) (a' := ?_) (zBM 12 255) rfl rfl (take_ofW HT_.out HW_.out (by kernel_rfl)) (fun _ _ _ h => h) (Or.inl ⟨by rfl, ?_⟩) hHeld ?_ ?_
          rotate_left
          ·rintro w' ⟨s0, s1, s2, s3, s4, s5, s6, s7, s8, s9, s10, s11, s12, s13, s14, s15⟩
           go_simp
           with_reducible rfl
          rotate_left
          ·simp only [Act.put, zO, zP, zR, i64_w, i32_w]
           rfl
          refine pure_ (i := 8) (N := some 49) (v := ?_) (a' := ?_) (zBM 12 511) rfl rfl (any_of HT_.out (by kernel_rfl)) (fun _ _ _ h => h) (Or.inl ⟨by rfl, ?_⟩) ?_ ?_
          rotate_left
          ·intro w'
           go_simp
           with_reducible rfl
          rotate_left
          ·simp only [Act.put, zO, zP, zR, i64_w, i32_w]
           rfl
          refine take_ (i := 9) (N := some 50) (v := ?_) (a' := ?_) (zBM 12 1023) rfl rfl (take_ofW HT_.out HW_.out (by kernel_rfl)) (fun _ _ _ h => h) (Or.inl ⟨by rfl, ?_⟩) hHeld ?_ ?_
          rotate_left
          ·rintro w' ⟨s0, s1, s2, s3, s4, s5, s6, s7, s8, s9, s10, s11, s12, s13, s14, s15⟩
           go_simp
           with_reducible rfl
          rotate_left
          ·simp only [Act.put, zO, zP, zR, i64_w, i32_w]
           rfl
          refine one_ (i := 10) (N := some 51) (zBM 12 2047) rfl rfl (one_of HT_.out (by kernel_rfl)) (by decide) (fun K hK => ?_)
          refine goes_ Tryd.func13 (by kernel_rfl) rfl #[.agg #[.int .i64 ((rd_T24 l0_3 x5_2).f0), .int .i64 ((rd_T24 l0_3 x5_2).f1), .string ((rd_T24 l0_3 x5_2).f2), .slice A206_3 ((rd_T24 l0_3 x5_2).f3).length c206_3], .agg #[.int .i64 ((rd_T24 l1_3 x5_2).f0), .int .i64 ((rd_T24 l1_3 x5_2).f1), .string ((rd_T24 l1_3 x5_2).f2), .slice A207_3 ((rd_T24 l1_3 x5_2).f3).length c207_3]] (by rfl) rfl rfl (by (try simp only [List.map_toArray, List.map_cons, List.map_nil]); first | done | rfl | (simp only [List.length_drop, List.length_take]; rfl)) ?_
          with_reducible refine (ih k2 (by have := HJ2.out; have := HK2.out; omega) ((rd_T24 l0_3 x5_2).f0) ((rd_T24 l0_3 x5_2).f1) ((rd_T24 l0_3 x5_2).f2) _ _ ((rd_T24 l0_3 x5_2).f3) ((rd_T24 l1_3 x5_2).f0) ((rd_T24 l1_3 x5_2).f1) ((rd_T24 l1_3 x5_2).f2) _ _ ((rd_T24 l1_3 x5_2).f3) false _ ?side1 ?side2 ?side3 ?side4 A25.out).mono ?_
          (case side1 => exact zAC HR206_3.out HB.out)
          (case side2 => exact HC206_3.out)
          (case side3 => exact zAC HR207_3.out HB.out)
          (case side4 => exact HC207_3.out)
          rintro e w34 ⟨rfl, hb⟩
          refine ⟨_, rfl, ?_⟩
          have n0_ := zG (zK (g := gb204) BK204.out hb)
          have n1_ := zG (zK (g := gb205) BK205.out hb)
          have n2_ := zG (zE HB.out hb)
          clear BK204
          clear BK205
          clear HB
          have BK204 := n0_
          have BK205 := n1_
          have HB := n2_
          clear n0_ n1_ n2_
          (try clear hb)
          (try clear hb2)
          (try clear hk)
          (try clear hi)
          refine hK.out _ _ ⟨zL BK204.out 0, zL BK204.out 1, zL BK204.out 2, zL BK204.out 3, zL BK205.out 0, zL BK205.out 1, zL BK205.out 2, zL BK205.out 3, ((HB.out.cell (zS w _ hw206_0)).trans hw206_0), ((HB.out.cell (zS w _ hw206_1)).trans hw206_1), ((HB.out.cell (zS w _ hw206_2)).trans hw206_2), ((HB.out.cell (zS w _ hw206_3)).trans hw206_3), ((HB.out.cell (zS w _ hw207_0)).trans hw207_0), ((HB.out.cell (zS w _ hw207_1)).trans hw207_1), ((HB.out.cell (zS w _ hw207_2)).trans hw207_2), ((HB.out.cell (zS w _ hw207_3)).trans hw207_3)⟩ (fun hHeld => ?_)
          clear hK K
          refine norm_ (a' := ?_) ?_ ?_
          rotate_left
          ·show Act.put _ (some 51) _ = _
           simp only [Act.put, zO, zP, zR, i64_w, i32_w]
           rfl
          refine pure_ (i := 11) (N := some 52) (v := ?_) (a' := ?_) (zBM 12 4095) rfl rfl (any_of HT_.out (by kernel_rfl)) (fun _ _ _ h => h) (Or.inl ⟨by rfl, ?_⟩) ?_ ?_
          rotate_left
          ·intro w'
           go_simp
           with_reducible rfl
          rotate_left
          ·simp only [Act.put, zO, zP, zR, i64_w, i32_w]
           rfl
          refine done_ (done_of HT_.out (by kernel_rfl)) ?_
          try go_wp2
          go_ret
          exact ⟨rfl, HB.out⟩
        ·rw [if_neg c24] at H
         exact absurd H (by simp)
       ·rw [if_neg c23] at H
        exact absurd H (by simp)
      ·rw [if_neg c22] at H
       have c22b0 : decide (x5_2 < (l0_3.length : Int)) = false := zV c22
       clear c22
       obtain rfl := Option.some.inj H
       have hnb35 := NB204_205.out
       have hnc35 := NB205_204.out
       obtain ⟨hcz36_0, hcz36_1, hcz36_2, hcz36_3, hfz36_0, hfz36_1, hfz36_2, hfz36_3⟩ := zQ BK204.out
       go_wp2
       go_ret
       exact ⟨rfl, HB.out⟩

-- NOT PRINTED: function 46 (hammockref09_match)

def hammockref09_Var.f (a0 : Int) : Option (Int × Int × ByteArray × (List (S24))) := some (1, a0, (⟨#[]⟩ : ByteArray), ([] : List (S24)))
set_option maxHeartbeats 8000000 in
set_option maxRecDepth 100000 in
theorem hammockref09_Var.calls (a0 : Int) (r1 : Int) (r2 : Int) (r3 : ByteArray) (r4 : List (S24)) (w : World) (h : hammockref09_Var.f a0 = some (r1, r2, r3, r4)) :
  Calls Tryd.prog 47 #[.int .i64 a0] w fun e w' => ∃ v3_ : Value, e = .returned (.agg #[.int .i64 r1, .int .i64 r2, .string r3, v3_]) ∧ Kd.R k24 24 w' w.heap.size (fun _ => True) v3_ r4 ∧ Below w.heap.size w w' := by
 have hu24 := Tryd.underlying24
 have HB := zG (Below.refl w.heap.size w)
 have H : (some (1, a0, (⟨#[]⟩ : ByteArray), ([] : List (S24)))) = some (r1, r2, r3, r4) := h
 clear h
 simp only [Option.some.injEq, Prod.mk.injEq] at H
 obtain ⟨rfl, rfl, rfl, rfl⟩ := H
 go_enter Tryd.func47, Tryd.ntmps47
 go_wp2_with (first | ((with_reducible refine gate_dst (N := 2) rfl ?_); refine box_event ?hg (N := 2) ?hd (cs := #[.int .i64 0, .int .i64 0, .string (⟨#[]⟩ : ByteArray), .slice none 0 0]) (t := 24) ?hr ?_; (case hd => rfl); (case hg => rfl); (case hr => first | (go_simp; done) | (go_simp; rfl)); intro gb212 hg w2 hbox hb; have n0_ := zG (zE HB.out hb); have n1_ := zG (hbox); have n2_ := zG ((by rw [hg]; exact (zF HB.out) : w.heap.size ≤ gb212)); have n3_ := n2_; clear HB; have HB := n0_; have BK212 := n1_; have GW212 := n2_; have GE212 := n3_; clear n0_ n1_ n2_ n3_; clear hb hbox hg; obtain ⟨hcz3_0, hcz3_1, hcz3_2, hcz3_3⟩ := zN BK212.out; have hfz3_0 := zM BK212.out 0; have hfz3_1 := zM BK212.out 1; have hfz3_2 := zM BK212.out 2; have hfz3_3 := zM BK212.out 3))
 refine bodyPost_ret (results_cell_row rfl _ _ gb212 24 #[.int .i64 1, .int .i64 a0, .string (⟨#[]⟩ : ByteArray), .slice none 0 0] (0, 0) _ rfl (by (with_reducible repeat (first | refine zH ?_ _ | refine zI ?_ | refine zJ ?_ _)); refine zAH (cs := #[.int .i64 1, .int .i64 a0, .string (⟨#[]⟩ : ByteArray), .slice none 0 0]) ?_ 3 _ rfl; (with_reducible repeat (first | refine zH ?_ _ | refine zI ?_ | refine zJ ?_ _)); refine zAH (cs := #[.int .i64 1, .int .i64 a0, .string (⟨#[]⟩ : ByteArray), .slice none 0 0]) ?_ 2 _ rfl; (with_reducible repeat (first | refine zH ?_ _ | refine zI ?_ | refine zJ ?_ _)); refine zAH (cs := #[.int .i64 1, .int .i64 0, .string (⟨#[]⟩ : ByteArray), .slice none 0 0]) ?_ 1 _ rfl; (with_reducible repeat (first | refine zH ?_ _ | refine zI ?_ | refine zJ ?_ _)); refine zAH (cs := #[.int .i64 0, .int .i64 0, .string (⟨#[]⟩ : ByteArray), .slice none 0 0]) ?_ 0 _ rfl; (with_reducible repeat (first | refine zH ?_ _ | refine zI ?_ | refine zJ ?_ _)); exact BK212.out) Tryd.underlying24 rfl (by kernel_rfl)) rfl ?_
 exact ⟨_, by first | rfl | (simp [errW_none, errW_some] <;> rfl) | (simp [*, errW_none, errW_some] <;> rfl), by first | exact Kd.R_nil _ _ _ _ _ | exact Kd.N_nil _ _ _ _ _ | exact Kd.V_nil _ _ _ _ _ | exact Kd.Q_nil _ _ _ _ _ | exact Kd.S_nil _ _ _ _ _, by repeat (first | (with_reducible first | exact HB.out | apply zA | apply zB | apply zC | refine zD ?_ GE212.out) | exact HB.out)⟩

-- NOT PRINTED: function 12 (hammockref09_Match)

end Go.Proofs.YtddmdiaopaoekaaDoor.P
