-- written by a program of this session's (wip/tools/extprint.py) over the kit's print
import Derived.Test.YtddmdiaopaoekaaDoorPx0
import Derived.Test.YtddmdiaopaoekaaDoorPx2
import Derived.Test.YtddmdiaopaoekaaDoorPx10
import Derived.Test.YtddmdiaopaoekaaDoorSq
namespace Go.Proofs.YtddmdiaopaoekaaDoor.P
open Go.RowKit Go.Proofs.YtddmdiaopaoekaaDoorW.PrintWords Go.Proofs.YtddmdiaopaoekaaDoorW.PrintLast Go.Proofs.YtddmdiaopaoekaaDoorW.PrintMore
attribute [local go_sem] max2_int min2_int max_two min_two max_three min_three max_four min_four   -- for this text's walks alone
set_option linter.unusedVariables false
set_option linter.unusedSimpArgs false

mutual
def hammockref03_SameType.j0 : Nat → Bool → Int → Int → ByteArray → List (S68) → Int → Int → ByteArray → List (S68) → Option (Bool)
 | 0, _, _, _, _, _, _, _, _, _ => none
 | k + 1, x26, x394000, x394001, x394002, x394003, x395000, x395001, x395002, x395003 => if x26 = true then (some false) else (hammockref03_SameType.l0 k 0 x394000 x394001 x394002 x394003 x395000 x395001 x395002 x395003)
def hammockref03_SameType.l0 : Nat → Int → Int → Int → ByteArray → List (S68) → Int → Int → ByteArray → List (S68) → Option (Bool)
 | 0, _, _, _, _, _, _, _, _, _ => none
 | k + 1, x5, x394000, x394001, x394002, x394003, x395000, x395001, x395002, x395003 => if x5 < (x394003.length : Int) then (if 0 ≤ x5 then (if x5 < (x395003.length : Int) then ((hammockref03_SameType.f k ((rd_T68 x394003 x5).f0) ((rd_T68 x394003 x5).f1) ((rd_T68 x394003 x5).f2) ((rd_T68 x394003 x5).f3) ((rd_T68 x395003 x5).f0) ((rd_T68 x395003 x5).f1) ((rd_T68 x395003 x5).f2) ((rd_T68 x395003 x5).f3)).bind fun t397 => (if t397 = true then (hammockref03_SameType.l0 k (wrap64 (x5 + 1)) x394000 x394001 x394002 x394003 x395000 x395001 x395002 x395003) else (some false))) else (none)) else (none)) else (some true)
def hammockref03_SameType.f : Nat → Int → Int → ByteArray → List (S68) → Int → Int → ByteArray → List (S68) → Option (Bool)
 | 0, _, _, _, _, _, _, _, _ => none
 | k + 1, a0_0, a0_1, a0_2, l0_3, a1_0, a1_1, a1_2, l1_3 => if a0_0 = a1_0 then (if a0_2.toList = a1_2.toList then (hammockref03_SameType.j0 k ((l0_3.length : Int) != (l1_3.length : Int)) a0_0 a0_1 a0_2 l0_3 a1_0 a1_1 a1_2 l1_3) else (hammockref03_SameType.j0 k true a0_0 a0_1 a0_2 l0_3 a1_0 a1_1 a1_2 l1_3)) else (hammockref03_SameType.j0 k true a0_0 a0_1 a0_2 l0_3 a1_0 a1_1 a1_2 l1_3)
end
theorem hammockref03_SameType.mono_l : ∀ k, (∀ y0 y1 y2 y3 y4 y5 y6 y7, LeO (hammockref03_SameType.f k y0 y1 y2 y3 y4 y5 y6 y7) (hammockref03_SameType.f (k + 1) y0 y1 y2 y3 y4 y5 y6 y7)) ∧ (∀ y0 y1 y2 y3 y4 y5 y6 y7 y8, LeO (hammockref03_SameType.j0 k y0 y1 y2 y3 y4 y5 y6 y7 y8) (hammockref03_SameType.j0 (k + 1) y0 y1 y2 y3 y4 y5 y6 y7 y8)) ∧ (∀ y0 y1 y2 y3 y4 y5 y6 y7 y8, LeO (hammockref03_SameType.l0 k y0 y1 y2 y3 y4 y5 y6 y7 y8) (hammockref03_SameType.l0 (k + 1) y0 y1 y2 y3 y4 y5 y6 y7 y8))
 | 0 => ⟨fun _ _ _ _ _ _ _ _ r h => by simp [hammockref03_SameType.f] at h, fun _ _ _ _ _ _ _ _ _ r h => by simp [hammockref03_SameType.j0] at h, fun _ _ _ _ _ _ _ _ _ r h => by simp [hammockref03_SameType.l0] at h⟩
 | k + 1 => by
  obtain ⟨ih0, ih1, ih2⟩ := hammockref03_SameType.mono_l k
  refine ⟨?_, ?_, ?_⟩
  ·intro y0 y1 y2 y3 y4 y5 y6 y7
   unfold hammockref03_SameType.f
   repeat' first
   | (with_reducible exact ih0 _ _ _ _ _ _ _ _)
   | (with_reducible exact ih1 _ _ _ _ _ _ _ _ _)
   | (with_reducible exact ih2 _ _ _ _ _ _ _ _ _)
   | (with_reducible exact LeO.refl _)
   | (with_reducible exact LeO.none _)
   | (with_reducible refine LeO.ite ?_ ?_)
   | (with_reducible refine LeO.bind ?_ (fun _ => ?_))
  ·intro y0 y1 y2 y3 y4 y5 y6 y7 y8
   unfold hammockref03_SameType.j0
   repeat' first
   | (with_reducible exact ih0 _ _ _ _ _ _ _ _)
   | (with_reducible exact ih1 _ _ _ _ _ _ _ _ _)
   | (with_reducible exact ih2 _ _ _ _ _ _ _ _ _)
   | (with_reducible exact LeO.refl _)
   | (with_reducible exact LeO.none _)
   | (with_reducible refine LeO.ite ?_ ?_)
   | (with_reducible refine LeO.bind ?_ (fun _ => ?_))
  ·intro y0 y1 y2 y3 y4 y5 y6 y7 y8
   unfold hammockref03_SameType.l0
   repeat' first
   | (with_reducible exact ih0 _ _ _ _ _ _ _ _)
   | (with_reducible exact ih1 _ _ _ _ _ _ _ _ _)
   | (with_reducible exact ih2 _ _ _ _ _ _ _ _ _)
   | (with_reducible exact LeO.refl _)
   | (with_reducible exact LeO.none _)
   | (with_reducible refine LeO.ite ?_ ?_)
   | (with_reducible refine LeO.bind ?_ (fun _ => ?_))
def hammockref03_SameType.T6 : Bool × List (List Nat × List Nat) := (true, [([], []), ([0], [0]), ([], []), ([1, 2], [1, 2]), ([3], [3]), ([], []), ([5], [5]), ([], []), ([6, 7], [6, 7]), ([8], [8]), ([4, 9], [4, 9]), ([10], [10])])
def hammockref03_SameType.B6 : List Nat := [0, 1, 0, 7, 15, 0, 32, 0, 224, 480, 1023, 2047]
theorem hammockref03_SameType.tab6 : rtab .any (opsOf Tryd.f36 6) = hammockref03_SameType.T6 := by kernel_rfl
theorem hammockref03_SameType.bits6 : waitsOk hammockref03_SameType.T6.2 hammockref03_SameType.B6 = true := by kernel_rfl
set_option maxHeartbeats 8000000 in
set_option maxRecDepth 100000 in
theorem hammockref03_SameType.calls (k : Nat) : ∀ (a0_0 : Int) (a0_1 : Int) (a0_2 : ByteArray) (A0_3 : Option Addr) (c0_3 : Nat) (l0_3 : List (S68)) (a1_0 : Int) (a1_1 : Int) (a1_2 : ByteArray) (A1_3 : Option Addr) (c1_3 : Nat) (l1_3 : List (S68)) (r : Bool) (w : World) (hr0_3 : Kd.C k68 w A0_3 l0_3.length l0_3) (hc0_3 : l0_3.length ≤ c0_3) (hr1_3 : Kd.C k68 w A1_3 l1_3.length l1_3) (hc1_3 : l1_3.length ≤ c1_3) (h : hammockref03_SameType.f k a0_0 a0_1 a0_2 l0_3 a1_0 a1_1 a1_2 l1_3 = some r),
  Calls Tryd.prog 36 #[.agg #[.int .i64 a0_0, .int .i64 a0_1, .string a0_2, .slice A0_3 l0_3.length c0_3], .agg #[.int .i64 a1_0, .int .i64 a1_1, .string a1_2, .slice A1_3 l1_3.length c1_3]] w fun e w' => e = .returned (.bool r) ∧ Below w.heap.size w w' := by
 induction k using Nat.strongRecOn with
 | _ k ih =>
 intro a0_0 a0_1 a0_2 A0_3 c0_3 l0_3 a1_0 a1_1 a1_2 A1_3 c1_3 l1_3 r w hr0_3 hc0_3 hr1_3 hc1_3 h
 cases k with
 | zero => exact absurd h (by simp [hammockref03_SameType.f])
 | succ k =>
 simp only [hammockref03_SameType.f] at h
 have hu68 := Tryd.underlying68
 have HR0_3 := zG hr0_3
 have HC0_3 := zG hc0_3
 clear hr0_3 hc0_3
 have HR1_3 := zG hr1_3
 have HC1_3 := zG hc1_3
 clear hr1_3 hc1_3
 have HB := zG (Below.refl w.heap.size w)
 have H : (if a0_0 = a1_0 then (if a0_2.toList = a1_2.toList then (hammockref03_SameType.j0 k ((l0_3.length : Int) != (l1_3.length : Int)) a0_0 a0_1 a0_2 l0_3 a1_0 a1_1 a1_2 l1_3) else (hammockref03_SameType.j0 k true a0_0 a0_1 a0_2 l0_3 a1_0 a1_1 a1_2 l1_3)) else (hammockref03_SameType.j0 k true a0_0 a0_1 a0_2 l0_3 a1_0 a1_1 a1_2 l1_3)) = some r := h
 clear h
 have HC3 := zG H
 clear H
 go_enter Tryd.func36, Tryd.ntmps36
 go_upto_region 1 with (first | ((with_reducible refine gate_dst (N := 2) rfl ?_); (try (refine gate_guard (by rfl) ?_; dsimp only)); refine box_event ?hg (N := 2) ?hd (cs := #[.int .i64 a0_0, .int .i64 a0_1, .string a0_2, .slice A0_3 l0_3.length c0_3]) (t := 68) ?hr ?_; (case hd => rfl); (case hg => rfl); (case hr => first | (go_simp; done) | (go_simp; rfl)); intro gb393 hg w4 hbox hb; have n0_ := zG (zE HB.out hb); have n1_ := zG (hbox); have n2_ := zG ((by rw [hg]; exact (zF HB.out) : w.heap.size ≤ gb393)); have n3_ := n2_; clear HB; have HB := n0_; have BK393 := n1_; have GW393 := n2_; have GE393 := n3_; clear n0_ n1_ n2_ n3_; clear hb hbox hg) | ((with_reducible refine gate_dst (N := 3) rfl ?_); (try (refine gate_guard (by rfl) ?_; dsimp only)); refine box_event ?hg (N := 3) ?hd (cs := #[.int .i64 a1_0, .int .i64 a1_1, .string a1_2, .slice A1_3 l1_3.length c1_3]) (t := 68) ?hr ?_; (case hd => rfl); (case hg => rfl); (case hr => first | (go_simp; done) | (go_simp; rfl)); intro gb394 hg w5 hbox hb; have n0_ := zG (zK (g := gb393) BK393.out hb); have n1_ := zG (zE HB.out hb); have n2_ := zG (hbox); have n3_ := zG ((by rw [hg]; exact (zF HB.out) : w.heap.size ≤ gb394)); have n4_ := n3_; have n5_ := zG ((by rw [hg]; exact Nat.ne_of_lt (zAD (g := gb393) BK393.out) : gb393 ≠ gb394)); have n6_ := zG ((by rw [hg]; exact Nat.ne_of_gt (zAD (g := gb393) BK393.out) : gb394 ≠ gb393)); clear BK393; clear HB; have BK393 := n0_; have HB := n1_; have BK394 := n2_; have GW394 := n3_; have GE394 := n4_; have NB393_394 := n5_; have NB394_393 := n6_; clear n0_ n1_ n2_ n3_ n4_ n5_ n6_; clear hb hbox hg))
 (try simp only [Act.put, zO, zP, zR])
 go_cut [26] (fun v26 wc => ∃ (kq : Nat) (x26_2 : Bool), v26 = .bool x26_2 ∧ Aside0 (hammockref03_SameType.j0 kq x26_2 a0_0 a0_1 a0_2 l0_3 a1_0 a1_1 a1_2 l1_3 = some r) ∧ Aside0 (kq ≤ k) ∧ Aside0 (wc.heap[gb393]? = some (.cells #[.int .i64 a0_0, .int .i64 a0_1, .string a0_2, (.slice A0_3 l0_3.length c0_3)] 68 (0, 0))) ∧ Aside0 (wc.heap[gb394]? = some (.cells #[.int .i64 a1_0, .int .i64 a1_1, .string a1_2, (.slice A1_3 l1_3.length c1_3)] 68 (0, 0))) ∧ Aside0 (Below w.heap.size w wc))
 case first =>
  have H := HC3.out
  clear HC3
  by_cases c6 : a0_0 = a1_0
  ·rw [if_pos c6] at H
   have c6b0 : (a0_0 == a1_0) = true := zW c6
   have c6b1 : (a0_0 != a1_0) = false := zX c6
   clear c6
   (first | rw [c6b0] | (simp only [i64_w, i32_w]; rw [c6b0]) | skip)
   by_cases c7 : a0_2.toList = a1_2.toList
   ·rw [if_pos c7] at H
    have c7b0 : (a0_2.toList == a1_2.toList) = true := zW c7
    have c7b1 : (a0_2.toList != a1_2.toList) = false := zX c7
    clear c7
    have H' := zG H
    clear H
    have hnb8 := NB393_394.out
    have hnc8 := NB394_393.out
    obtain ⟨hcz9_0, hcz9_1, hcz9_2, hcz9_3, hfz9_0, hfz9_1, hfz9_2, hfz9_3⟩ := zQ BK393.out
    obtain ⟨hcz10_0, hcz10_1, hcz10_2, hcz10_3, hfz10_0, hfz10_1, hfz10_2, hfz10_3⟩ := zQ BK394.out
    go_wp2
    go_meet
    case rel => exact ⟨_, (((l0_3.length : Int) != (l1_3.length : Int))), (by first | rfl | (simp; done) | (simp [*]; done)), H', ⟨by first | omega | exact Nat.le_refl _⟩, ⟨BK393.out⟩, ⟨BK394.out⟩, ⟨HB.out⟩⟩
   ·rw [if_neg c7] at H
    have c7b0 : (a0_2.toList == a1_2.toList) = false := zY c7
    have c7b1 : (a0_2.toList != a1_2.toList) = true := zZ c7
    have H' := zG H
    clear H
    have hnb11 := NB393_394.out
    have hnc11 := NB394_393.out
    obtain ⟨hcz12_0, hcz12_1, hcz12_2, hcz12_3, hfz12_0, hfz12_1, hfz12_2, hfz12_3⟩ := zQ BK393.out
    obtain ⟨hcz13_0, hcz13_1, hcz13_2, hcz13_3, hfz13_0, hfz13_1, hfz13_2, hfz13_3⟩ := zQ BK394.out
    go_wp2
    go_meet
    case rel => exact ⟨_, (true), (by first | rfl | (simp; done) | (simp [*]; done)), H', ⟨by first | omega | exact Nat.le_refl _⟩, ⟨BK393.out⟩, ⟨BK394.out⟩, ⟨HB.out⟩⟩
  ·rw [if_neg c6] at H
   have c6b0 : (a0_0 == a1_0) = false := zY c6
   have c6b1 : (a0_0 != a1_0) = true := zZ c6
   (first | rw [c6b0] | (simp only [i64_w, i32_w]; rw [c6b0]) | skip)
   have H' := zG H
   clear H
   have hnb14 := NB393_394.out
   have hnc14 := NB394_393.out
   obtain ⟨hcz15_0, hcz15_1, hcz15_2, hcz15_3, hfz15_0, hfz15_1, hfz15_2, hfz15_3⟩ := zQ BK393.out
   obtain ⟨hcz16_0, hcz16_1, hcz16_2, hcz16_3, hfz16_0, hfz16_1, hfz16_2, hfz16_3⟩ := zQ BK394.out
   go_wp2
   go_meet
   case rel => exact ⟨_, (true), (by first | rfl | (simp; done) | (simp [*]; done)), H', ⟨by first | omega | exact Nat.le_refl _⟩, ⟨BK393.out⟩, ⟨BK394.out⟩, ⟨HB.out⟩⟩
 case rest =>
  clear HC3
  try clear c1
  try clear p2
  try clear c3
  try clear c6
  try clear c6b0
  try clear c6b1
  try clear c7
  try clear c7b0
  try clear c7b1
  try clear c8
  try clear c11
  try clear c14
  try clear hcz10_0
  try clear hcz10_1
  try clear hcz10_2
  try clear hcz10_3
  try clear hcz12_0
  try clear hcz12_1
  try clear hcz12_2
  try clear hcz12_3
  try clear hcz13_0
  try clear hcz13_1
  try clear hcz13_2
  try clear hcz13_3
  try clear hcz15_0
  try clear hcz15_1
  try clear hcz15_2
  try clear hcz15_3
  try clear hcz16_0
  try clear hcz16_1
  try clear hcz16_2
  try clear hcz16_3
  try clear hcz9_0
  try clear hcz9_1
  try clear hcz9_2
  try clear hcz9_3
  try clear hfz10_0
  try clear hfz10_1
  try clear hfz10_2
  try clear hfz10_3
  try clear hfz12_0
  try clear hfz12_1
  try clear hfz12_2
  try clear hfz12_3
  try clear hfz13_0
  try clear hfz13_1
  try clear hfz13_2
  try clear hfz13_3
  try clear hfz15_0
  try clear hfz15_1
  try clear hfz15_2
  try clear hfz15_3
  try clear hfz16_0
  try clear hfz16_1
  try clear hfz16_2
  try clear hfz16_3
  try clear hfz9_0
  try clear hfz9_1
  try clear hfz9_2
  try clear hfz9_3
  obtain ⟨kq, x26_2, rfl, HA, HJ2, BK393, BK394, HB⟩ := hcut
  cases kq with
  | zero => exact absurd HA.out (by simp [hammockref03_SameType.j0])
  | succ kj2 =>
   have H := HA.out
   clear HA
   simp only [hammockref03_SameType.j0] at H
   by_cases c17 : x26_2 = true
   ·subst c17
    have H1 : (some false) = some r := by rw [if_pos rfl] at H; exact H
    clear H
    have H := H1
    clear H1
    obtain rfl := Option.some.inj H
    go_wp2
    go_ret
    exact ⟨rfl, HB.out⟩
   ·replace c17 := zAB c17
    subst c17
    have H1 : (hammockref03_SameType.l0 kj2 0 a0_0 a0_1 a0_2 l0_3 a1_0 a1_1 a1_2 l1_3) = some r := by rw [if_neg (show ¬ (false = true) by decide)] at H; exact H
    clear H
    have H := H1
    clear H1
    have H' := zG H
    clear H
    go_wp2
    go_loopg [5] kj2 (fun kq v5 w' => ∃ (x5_2 : Int), v5 = .int .i64 x5_2 ∧ Aside0 (hammockref03_SameType.l0 kq x5_2 a0_0 a0_1 a0_2 l0_3 a1_0 a1_1 a1_2 l1_3 = some r) ∧ Aside0 (kq ≤ kj2) ∧ Aside0 (w'.heap[gb393]? = some (.cells #[.int .i64 a0_0, .int .i64 a0_1, .string a0_2, (.slice A0_3 l0_3.length c0_3)] 68 (0, 0))) ∧ Aside0 (w'.heap[gb394]? = some (.cells #[.int .i64 a1_0, .int .i64 a1_1, .string a1_2, (.slice A1_3 l1_3.length c1_3)] 68 (0, 0))) ∧ Aside0 (Below w.heap.size w w'))
    case atStart => exact ⟨(0), (by first | rfl | (simp; done) | (simp [*]; done)), H', ⟨Nat.le_refl _⟩, ⟨BK393.out⟩, ⟨BK394.out⟩, ⟨HB.out⟩⟩
    case round =>
     clear H'
     try clear c1
     try clear p2
     try clear c3
     try clear c6
     try clear c6b0
     try clear c6b1
     try clear c7
     try clear c7b0
     try clear c7b1
     try clear c8
     try clear c11
     try clear c14
     try clear c17
     try clear hcz10_0
     try clear hcz10_1
     try clear hcz10_2
     try clear hcz10_3
     try clear hcz12_0
     try clear hcz12_1
     try clear hcz12_2
     try clear hcz12_3
     try clear hcz13_0
     try clear hcz13_1
     try clear hcz13_2
     try clear hcz13_3
     try clear hcz15_0
     try clear hcz15_1
     try clear hcz15_2
     try clear hcz15_3
     try clear hcz16_0
     try clear hcz16_1
     try clear hcz16_2
     try clear hcz16_3
     try clear hcz9_0
     try clear hcz9_1
     try clear hcz9_2
     try clear hcz9_3
     try clear hfz10_0
     try clear hfz10_1
     try clear hfz10_2
     try clear hfz10_3
     try clear hfz12_0
     try clear hfz12_1
     try clear hfz12_2
     try clear hfz12_3
     try clear hfz13_0
     try clear hfz13_1
     try clear hfz13_2
     try clear hfz13_3
     try clear hfz15_0
     try clear hfz15_1
     try clear hfz15_2
     try clear hfz15_3
     try clear hfz16_0
     try clear hfz16_1
     try clear hfz16_2
     try clear hfz16_3
     try clear hfz9_0
     try clear hfz9_1
     try clear hfz9_2
     try clear hfz9_3
     try clear p2
     obtain ⟨x5_2, rfl, HA, HK2, BK393, BK394, HB⟩ := hrel
     cases gk with
     | zero => exact absurd HA.out (by simp [hammockref03_SameType.l0])
     | succ k2 =>
      have H := HA.out
      clear HA
      simp only [hammockref03_SameType.l0] at H
      by_cases c18 : x5_2 < (l0_3.length : Int)
      ·rw [if_pos c18] at H
       have c18b0 : decide (x5_2 < (l0_3.length : Int)) = true := zU c18
       clear c18
       by_cases c19 : 0 ≤ x5_2
       ·rw [if_pos c19] at H
        have c19b0 : decide (0 ≤ x5_2) = true := zU c19
        clear c19
        by_cases c20 : x5_2 < (l1_3.length : Int)
        ·rw [if_pos c20] at H
         have c20b0 : decide (x5_2 < (l1_3.length : Int)) = true := zU c20
         clear c20
         replace H := zT H
         obtain ⟨t397, A210, H⟩ := H
         replace H : (if t397 = true then (hammockref03_SameType.l0 k2 (wrap64 (x5_2 + 1)) a0_0 a0_1 a0_2 l0_3 a1_0 a1_1 a1_2 l1_3) else (some false)) = some r := H
         have A21 := zG A210
         clear A210
         by_cases c22 : t397 = true
         ·subst c22
          have H1 : (hammockref03_SameType.l0 k2 (wrap64 (x5_2 + 1)) a0_0 a0_1 a0_2 l0_3 a1_0 a1_1 a1_2 l1_3) = some r := by rw [if_pos rfl] at H; exact H
          clear H
          have H := H1
          clear H1
          have H' := zG H
          clear H
          have hnb23 := NB393_394.out
          have hnc23 := NB394_393.out
          obtain ⟨hcz24_0, hcz24_1, hcz24_2, hcz24_3, hfz24_0, hfz24_1, hfz24_2, hfz24_3⟩ := zQ BK393.out
          try go_wp2
          have n0_ := zG (zI BK393.out)
          have n1_ := zG (zI BK394.out)
          have n2_ := zG (zC HB.out)
          clear BK393
          clear BK394
          clear HB
          have BK393 := n0_
          have BK394 := n1_
          have HB := n2_
          clear n0_ n1_ n2_
          have p395 : 0 ≤ (x5_2 : Int) := zAA (by assumption)
          have q395 : x5_2 < (l0_3.length : Int) := zAA (by assumption)
          obtain ⟨ad395, A395_3, c395_3, e395, hx395_0, hx395_1, hx395_2, hx395_3, hl395_3, hi395_3⟩ := at_T68 HR0_3.out x5_2 p395 q395
          have hw395_3 := hx395_3
          have hw395_2 := hx395_2
          have hw395_1 := hx395_1
          have hw395_0 := hx395_0
          cases e395
          replace hx395_0 := (HB.out.cell (zS w _ hx395_0)).trans hx395_0
          replace hx395_1 := (HB.out.cell (zS w _ hx395_1)).trans hx395_1
          replace hx395_2 := (HB.out.cell (zS w _ hx395_2)).trans hx395_2
          replace hx395_3 := (HB.out.cell (zS w _ hx395_3)).trans hx395_3
          have HR395_3 := zG hi395_3
          have HC395_3 := zG hl395_3
          clear hi395_3 hl395_3
          replace p395 := eq_true p395
          replace q395 := eq_true q395
          have p396 : 0 ≤ (x5_2 : Int) := zAA (by assumption)
          have q396 : x5_2 < (l1_3.length : Int) := zAA (by assumption)
          obtain ⟨ad396, A396_3, c396_3, e396, hx396_0, hx396_1, hx396_2, hx396_3, hl396_3, hi396_3⟩ := at_T68 HR1_3.out x5_2 p396 q396
          have hw396_3 := hx396_3
          have hw396_2 := hx396_2
          have hw396_1 := hx396_1
          have hw396_0 := hx396_0
          cases e396
          replace hx396_0 := (HB.out.cell (zS w _ hx396_0)).trans hx396_0
          replace hx396_1 := (HB.out.cell (zS w _ hx396_1)).trans hx396_1
          replace hx396_2 := (HB.out.cell (zS w _ hx396_2)).trans hx396_2
          replace hx396_3 := (HB.out.cell (zS w _ hx396_3)).trans hx396_3
          have HR396_3 := zG hi396_3
          have HC396_3 := zG hl396_3
          clear hi396_3 hl396_3
          replace p396 := eq_true p396
          replace q396 := eq_true q396
          refine start_ (n := 12) (S := fun w' => w'.cell? ⟨gb393, 0, none⟩ = some (.int .i64 a0_0) ∧ w'.cell? ⟨gb393, 1, none⟩ = some (.int .i64 a0_1) ∧ w'.cell? ⟨gb393, 2, none⟩ = some (.string a0_2) ∧ w'.cell? ⟨gb393, 3, none⟩ = some (.slice (some ad395) l0_3.length c0_3) ∧ w'.cell? ⟨gb394, 0, none⟩ = some (.int .i64 a1_0) ∧ w'.cell? ⟨gb394, 1, none⟩ = some (.int .i64 a1_1) ∧ w'.cell? ⟨gb394, 2, none⟩ = some (.string a1_2) ∧ w'.cell? ⟨gb394, 3, none⟩ = some (.slice (some ad396) l1_3.length c1_3) ∧ w'.cell? (ad395.add ((x5_2).toNat * 4)) = some (.int .i64 ((rd_T68 l0_3 x5_2).f0)) ∧ w'.cell? ⟨(ad395.add ((x5_2).toNat * 4)).block, (ad395.add ((x5_2).toNat * 4)).off + 1, none⟩ = some (.int .i64 ((rd_T68 l0_3 x5_2).f1)) ∧ w'.cell? ⟨(ad395.add ((x5_2).toNat * 4)).block, (ad395.add ((x5_2).toNat * 4)).off + 2, none⟩ = some (.string ((rd_T68 l0_3 x5_2).f2)) ∧ w'.cell? ⟨(ad395.add ((x5_2).toNat * 4)).block, (ad395.add ((x5_2).toNat * 4)).off + 3, none⟩ = some (.slice A395_3 ((rd_T68 l0_3 x5_2).f3).length c395_3) ∧ w'.cell? (ad396.add ((x5_2).toNat * 4)) = some (.int .i64 ((rd_T68 l1_3 x5_2).f0)) ∧ w'.cell? ⟨(ad396.add ((x5_2).toNat * 4)).block, (ad396.add ((x5_2).toNat * 4)).off + 1, none⟩ = some (.int .i64 ((rd_T68 l1_3 x5_2).f1)) ∧ w'.cell? ⟨(ad396.add ((x5_2).toNat * 4)).block, (ad396.add ((x5_2).toNat * 4)).off + 2, none⟩ = some (.string ((rd_T68 l1_3 x5_2).f2)) ∧ w'.cell? ⟨(ad396.add ((x5_2).toNat * 4)).block, (ad396.add ((x5_2).toNat * 4)).off + 3, none⟩ = some (.slice A396_3 ((rd_T68 l1_3 x5_2).f3).length c396_3)) (ds := []) #[false, false, false, false, false, false, false, false, false, false, false, false] (by kernel_rfl) rfl rfl ⟨zL BK393.out 0, zL BK393.out 1, zL BK393.out 2, zL BK393.out 3, zL BK394.out 0, zL BK394.out 1, zL BK394.out 2, zL BK394.out 3, ((HB.out.cell (zS w _ hw395_0)).trans hw395_0), ((HB.out.cell (zS w _ hw395_1)).trans hw395_1), ((HB.out.cell (zS w _ hw395_2)).trans hw395_2), ((HB.out.cell (zS w _ hw395_3)).trans hw395_3), ((HB.out.cell (zS w _ hw396_0)).trans hw396_0), ((HB.out.cell (zS w _ hw396_1)).trans hw396_1), ((HB.out.cell (zS w _ hw396_2)).trans hw396_2), ((HB.out.cell (zS w _ hw396_3)).trans hw396_3)⟩ (fun hHeld => ?_); refine with_tabW hammockref03_SameType.tab6 hammockref03_SameType.bits6 (fun HT_ HW_ => ?_)
          generalize wr.drew = w25 at BK393 BK394 HB HR395_3 HR396_3 hx395_0 hx395_1 hx395_2 hx395_3 hx396_0 hx396_1 hx396_2 hx396_3 hHeld ⊢
          refine pure_ (i := 0) (N := some 34) (v := ?_) (a' := ?_) (zBM 12 1) rfl rfl (any_of HT_.out (by kernel_rfl)) (fun _ _ _ h => h) (Or.inl ⟨by rfl, ?_⟩) ?_ ?_
          rotate_left
          ·intro w'
           go_simp
           with_reducible rfl
          rotate_left
          ·simp only [Act.put, zO, zP, zR, i64_w, i32_w]
           rfl
          refine pure_ (i := 2) (N := some 36) (v := ?_) (a' := ?_) (zBM 12 5) rfl rfl (any_of HT_.out (by kernel_rfl)) (fun _ _ _ h => h) (Or.inl ⟨by rfl, ?_⟩) ?_ ?_
          rotate_left
          ·intro w'
           go_simp
           with_reducible rfl
          rotate_left
          ·simp only [Act.put, zO, zP, zR, i64_w, i32_w]
           rfl
          refine pure_ (i := 5) (N := some 39) (v := ?_) (a' := ?_) (zBM 12 37) rfl rfl (any_of HT_.out (by kernel_rfl)) (fun _ _ _ h => h) (Or.inl ⟨by rfl, ?_⟩) ?_ ?_
          rotate_left
          ·intro w'
           go_simp
           with_reducible rfl
          rotate_left
          ·simp only [Act.put, zO, zP, zR, i64_w, i32_w]
           rfl
          refine pure_ (i := 7) (N := some 41) (v := ?_) (a' := ?_) (zBM 12 165) rfl rfl (any_of HT_.out (by kernel_rfl)) (fun _ _ _ h => h) (Or.inl ⟨by rfl, ?_⟩) ?_ ?_
          rotate_left
          ·intro w'
           go_simp
           with_reducible rfl
          rotate_left
          ·simp only [Act.put, zO, zP, zR, i64_w, i32_w]
           rfl
          refine take_ (i := 1) (N := some 35) (v := ?_) (a' := ?_) (zBM 12 167) rfl rfl (take_ofW HT_.out HW_.out (by kernel_rfl)) (fun _ _ _ h => h) (Or.inl ⟨by rfl, ?_⟩) hHeld ?_ ?_
          rotate_left
          ·rintro w' ⟨s0, s1, s2, s3, s4, s5, s6, s7, s8, s9, s10, s11, s12, s13, s14, s15⟩
           go_simp
           with_reducible rfl
          rotate_left
          ·simp only [Act.put, zO, zP, zR, i64_w, i32_w]
           rfl
          refine pure_ (i := 3) (N := some 37) (v := ?_) (a' := ?_) (zBM 12 175) rfl rfl (any_of HT_.out (by kernel_rfl)) (fun _ _ _ h => h) (Or.inl ⟨by rfl, ?_⟩) ?_ ?_
          rotate_left
          ·intro w'
           go_simp
           with_reducible rfl
          rotate_left
          ·simp only [Act.put, zO, zP, zR, i64_w, i32_w]
           rfl
          refine take_ (i := 4) (N := some 38) (v := ?_) (a' := ?_) (zBM 12 191) rfl rfl (take_ofW HT_.out HW_.out (by kernel_rfl)) (fun _ _ _ h => h) (Or.inl ⟨by rfl, ?_⟩) hHeld ?_ ?_
          rotate_left
          ·rintro w' ⟨s0, s1, s2, s3, s4, s5, s6, s7, s8, s9, s10, s11, s12, s13, s14, s15⟩
           go_simp
           with_reducible rfl
          rotate_left
          ·simp only [Act.put, zO, zP, zR, i64_w, i32_w]
           rfl
          refine take_ (i := 6) (N := some 40) (v := ?_) (a' := ?_) (zBM 12 255) rfl rfl (take_ofW HT_.out HW_.out (by kernel_rfl)) (fun _ _ _ h => h) (Or.inl ⟨by rfl, ?_⟩) hHeld ?_ ?_
          rotate_left
          ·rintro w' ⟨s0, s1, s2, s3, s4, s5, s6, s7, s8, s9, s10, s11, s12, s13, s14, s15⟩
           go_simp
           with_reducible rfl
          rotate_left
          ·simp only [Act.put, zO, zP, zR, i64_w, i32_w]
           rfl
          refine pure_ (i := 8) (N := some 42) (v := ?_) (a' := ?_) (zBM 12 511) rfl rfl (any_of HT_.out (by kernel_rfl)) (fun _ _ _ h => h) (Or.inl ⟨by rfl, ?_⟩) ?_ ?_
          rotate_left
          ·intro w'
           go_simp
           with_reducible rfl
          rotate_left
          ·simp only [Act.put, zO, zP, zR, i64_w, i32_w]
           rfl
          refine take_ (i := 9) (N := some 43) (v := ?_) (a' := ?_) (zBM 12 1023) rfl rfl (take_ofW HT_.out HW_.out (by kernel_rfl)) (fun _ _ _ h => h) (Or.inl ⟨by rfl, ?_⟩) hHeld ?_ ?_
          rotate_left
          ·rintro w' ⟨s0, s1, s2, s3, s4, s5, s6, s7, s8, s9, s10, s11, s12, s13, s14, s15⟩
           go_simp
           with_reducible rfl
          rotate_left
          ·simp only [Act.put, zO, zP, zR, i64_w, i32_w]
           rfl
          refine one_ (i := 10) (N := some 44) (zBM 12 2047) rfl rfl (one_of HT_.out (by kernel_rfl)) (by decide) (fun K hK => ?_)
          refine goes_ Tryd.func36 (by kernel_rfl) rfl #[.agg #[.int .i64 ((rd_T68 l0_3 x5_2).f0), .int .i64 ((rd_T68 l0_3 x5_2).f1), .string ((rd_T68 l0_3 x5_2).f2), .slice A395_3 ((rd_T68 l0_3 x5_2).f3).length c395_3], .agg #[.int .i64 ((rd_T68 l1_3 x5_2).f0), .int .i64 ((rd_T68 l1_3 x5_2).f1), .string ((rd_T68 l1_3 x5_2).f2), .slice A396_3 ((rd_T68 l1_3 x5_2).f3).length c396_3]] (by rfl) rfl rfl (by (try simp only [List.map_toArray, List.map_cons, List.map_nil]); first | done | rfl | (simp only [List.length_drop, List.length_take]; rfl)) ?_
          with_reducible refine (ih k2 (by have := HJ2.out; have := HK2.out; omega) ((rd_T68 l0_3 x5_2).f0) ((rd_T68 l0_3 x5_2).f1) ((rd_T68 l0_3 x5_2).f2) _ _ ((rd_T68 l0_3 x5_2).f3) ((rd_T68 l1_3 x5_2).f0) ((rd_T68 l1_3 x5_2).f1) ((rd_T68 l1_3 x5_2).f2) _ _ ((rd_T68 l1_3 x5_2).f3) true _ ?side1 ?side2 ?side3 ?side4 A21.out).mono ?_
          (case side1 => exact zAC HR395_3.out HB.out)
          (case side2 => exact HC395_3.out)
          (case side3 => exact zAC HR396_3.out HB.out)
          (case side4 => exact HC396_3.out)
          rintro e w26 ⟨rfl, hb⟩
          refine ⟨_, rfl, ?_⟩
          have n0_ := zG (zK (g := gb393) BK393.out hb)
          have n1_ := zG (zK (g := gb394) BK394.out hb)
          have n2_ := zG (zE HB.out hb)
          clear BK393
          clear BK394
          clear HB
          have BK393 := n0_
          have BK394 := n1_
          have HB := n2_
          clear n0_ n1_ n2_
          (try clear hb)
          (try clear hb2)
          (try clear hk)
          (try clear hi)
          refine hK.out _ _ ⟨zL BK393.out 0, zL BK393.out 1, zL BK393.out 2, zL BK393.out 3, zL BK394.out 0, zL BK394.out 1, zL BK394.out 2, zL BK394.out 3, ((HB.out.cell (zS w _ hw395_0)).trans hw395_0), ((HB.out.cell (zS w _ hw395_1)).trans hw395_1), ((HB.out.cell (zS w _ hw395_2)).trans hw395_2), ((HB.out.cell (zS w _ hw395_3)).trans hw395_3), ((HB.out.cell (zS w _ hw396_0)).trans hw396_0), ((HB.out.cell (zS w _ hw396_1)).trans hw396_1), ((HB.out.cell (zS w _ hw396_2)).trans hw396_2), ((HB.out.cell (zS w _ hw396_3)).trans hw396_3)⟩ (fun hHeld => ?_)
          clear hK K
          refine norm_ (a' := ?_) ?_ ?_
          rotate_left
          ·show Act.put _ (some 44) _ = _
           simp only [Act.put, zO, zP, zR, i64_w, i32_w]
           rfl
          refine pure_ (i := 11) (N := some 45) (v := ?_) (a' := ?_) (zBM 12 4095) rfl rfl (any_of HT_.out (by kernel_rfl)) (fun _ _ _ h => h) (Or.inl ⟨by rfl, ?_⟩) ?_ ?_
          rotate_left
          ·intro w'
           go_simp
           with_reducible rfl
          rotate_left
          ·simp only [Act.put, zO, zP, zR, i64_w, i32_w]
           rfl
          refine done_ (done_of HT_.out (by kernel_rfl)) ?_
          try go_wp2
          go_roundg k2
          case measure => have := HJ2.out; have := HK2.out; omega
          case rel => exact ⟨(wrap64 (x5_2 + 1)), (by first | rfl | (simp; done) | (simp [*]; done)), H', ⟨by have := HJ2.out; have := HK2.out; omega⟩, ⟨BK393.out⟩, ⟨BK394.out⟩, ⟨HB.out⟩⟩
         ·replace c22 := zAB c22
          subst c22
          have H1 : (some false) = some r := by rw [if_neg (show ¬ (false = true) by decide)] at H; exact H
          clear H
          have H := H1
          clear H1
          obtain rfl := Option.some.inj H
          have hnb27 := NB393_394.out
          have hnc27 := NB394_393.out
          obtain ⟨hcz28_0, hcz28_1, hcz28_2, hcz28_3, hfz28_0, hfz28_1, hfz28_2, hfz28_3⟩ := zQ BK393.out
          try go_wp2
          have n0_ := zG (zI BK393.out)
          have n1_ := zG (zI BK394.out)
          have n2_ := zG (zC HB.out)
          clear BK393
          clear BK394
          clear HB
          have BK393 := n0_
          have BK394 := n1_
          have HB := n2_
          clear n0_ n1_ n2_
          have p395 : 0 ≤ (x5_2 : Int) := zAA (by assumption)
          have q395 : x5_2 < (l0_3.length : Int) := zAA (by assumption)
          obtain ⟨ad395, A395_3, c395_3, e395, hx395_0, hx395_1, hx395_2, hx395_3, hl395_3, hi395_3⟩ := at_T68 HR0_3.out x5_2 p395 q395
          have hw395_3 := hx395_3
          have hw395_2 := hx395_2
          have hw395_1 := hx395_1
          have hw395_0 := hx395_0
          cases e395
          replace hx395_0 := (HB.out.cell (zS w _ hx395_0)).trans hx395_0
          replace hx395_1 := (HB.out.cell (zS w _ hx395_1)).trans hx395_1
          replace hx395_2 := (HB.out.cell (zS w _ hx395_2)).trans hx395_2
          replace hx395_3 := (HB.out.cell (zS w _ hx395_3)).trans hx395_3
          have HR395_3 := zG hi395_3
          have HC395_3 := zG hl395_3
          clear hi395_3 hl395_3
          replace p395 := eq_true p395
          replace q395 := eq_true q395
          have p396 : 0 ≤ (x5_2 : Int) := zAA (by assumption)
          have q396 : x5_2 < (l1_3.length : Int) := zAA (by assumption)
          obtain ⟨ad396, A396_3, c396_3, e396, hx396_0, hx396_1, hx396_2, hx396_3, hl396_3, hi396_3⟩ := at_T68 HR1_3.out x5_2 p396 q396
          have hw396_3 := hx396_3
          have hw396_2 := hx396_2
          have hw396_1 := hx396_1
          have hw396_0 := hx396_0
          cases e396
          replace hx396_0 := (HB.out.cell (zS w _ hx396_0)).trans hx396_0
          replace hx396_1 := (HB.out.cell (zS w _ hx396_1)).trans hx396_1
          replace hx396_2 := (HB.out.cell (zS w _ hx396_2)).trans hx396_2
          replace hx396_3 := (HB.out.cell (zS w _ hx396_3)).trans hx396_3
          have HR396_3 := zG hi396_3
          have HC396_3 := zG hl396_3
          clear hi396_3 hl396_3
          replace p396 := eq_true p396
          replace q396 := eq_true q396
          refine start_ (n := 12) (S := fun w' => w'.cell? ⟨gb393, 0, none⟩ = some (.int .i64 a0_0) ∧ w'.cell? ⟨gb393, 1, none⟩ = some (.int .i64 a0_1) ∧ w'.cell? ⟨gb393, 2, none⟩ = some (.string a0_2) ∧ w'.cell? ⟨gb393, 3, none⟩ = some (.slice (some ad395) l0_3.length c0_3) ∧ w'.cell? ⟨gb394, 0, none⟩ = some (.int .i64 a1_0) ∧ w'.cell? ⟨gb394, 1, none⟩ = some (.int .i64 a1_1) ∧ w'.cell? ⟨gb394, 2, none⟩ = some (.string a1_2) ∧ w'.cell? ⟨gb394, 3, none⟩ = some (.slice (some ad396) l1_3.length c1_3) ∧ w'.cell? (ad395.add ((x5_2).toNat * 4)) = some (.int .i64 ((rd_T68 l0_3 x5_2).f0)) ∧ w'.cell? ⟨(ad395.add ((x5_2).toNat * 4)).block, (ad395.add ((x5_2).toNat * 4)).off + 1, none⟩ = some (.int .i64 ((rd_T68 l0_3 x5_2).f1)) ∧ w'.cell? ⟨(ad395.add ((x5_2).toNat * 4)).block, (ad395.add ((x5_2).toNat * 4)).off + 2, none⟩ = some (.string ((rd_T68 l0_3 x5_2).f2)) ∧ w'.cell? ⟨(ad395.add ((x5_2).toNat * 4)).block, (ad395.add ((x5_2).toNat * 4)).off + 3, none⟩ = some (.slice A395_3 ((rd_T68 l0_3 x5_2).f3).length c395_3) ∧ w'.cell? (ad396.add ((x5_2).toNat * 4)) = some (.int .i64 ((rd_T68 l1_3 x5_2).f0)) ∧ w'.cell? ⟨(ad396.add ((x5_2).toNat * 4)).block, (ad396.add ((x5_2).toNat * 4)).off + 1, none⟩ = some (.int .i64 ((rd_T68 l1_3 x5_2).f1)) ∧ w'.cell? ⟨(ad396.add ((x5_2).toNat * 4)).block, (ad396.add ((x5_2).toNat * 4)).off + 2, none⟩ = some (.string ((rd_T68 l1_3 x5_2).f2)) ∧ w'.cell? ⟨(ad396.add ((x5_2).toNat * 4)).block, (ad396.add ((x5_2).toNat * 4)).off + 3, none⟩ = some (.slice A396_3 ((rd_T68 l1_3 x5_2).f3).length c396_3)) (ds := []) #[false, false, false, false, false, false, false, false, false, false, false, false] (by kernel_rfl) rfl rfl ⟨zL BK393.out 0, zL BK393.out 1, zL BK393.out 2, zL BK393.out 3, zL BK394.out 0, zL BK394.out 1, zL BK394.out 2, zL BK394.out 3, ((HB.out.cell (zS w _ hw395_0)).trans hw395_0), ((HB.out.cell (zS w _ hw395_1)).trans hw395_1), ((HB.out.cell (zS w _ hw395_2)).trans hw395_2), ((HB.out.cell (zS w _ hw395_3)).trans hw395_3), ((HB.out.cell (zS w _ hw396_0)).trans hw396_0), ((HB.out.cell (zS w _ hw396_1)).trans hw396_1), ((HB.out.cell (zS w _ hw396_2)).trans hw396_2), ((HB.out.cell (zS w _ hw396_3)).trans hw396_3)⟩ (fun hHeld => ?_); refine with_tabW hammockref03_SameType.tab6 hammockref03_SameType.bits6 (fun HT_ HW_ => ?_)
          generalize wr.drew = w29 at BK393 BK394 HB HR395_3 HR396_3 hx395_0 hx395_1 hx395_2 hx395_3 hx396_0 hx396_1 hx396_2 hx396_3 hHeld ⊢
          refine pure_ (i := 0) (N := some 34) (v := ?_) (a' := ?_) (zBM 12 1) rfl rfl (any_of HT_.out (by kernel_rfl)) (fun _ _ _ h => h) (Or.inl ⟨by rfl, ?_⟩) ?_ ?_
          rotate_left
          ·intro w'
           go_simp
           with_reducible rfl
          rotate_left
          ·simp only [Act.put, zO, zP, zR, i64_w, i32_w]
           rfl
          refine pure_ (i := 2) (N := some 36) (v := ?_) (a' := ?_) (zBM 12 5) rfl rfl (any_of HT_.out (by kernel_rfl)) (fun _ _ _ h => h) (Or.inl ⟨by rfl, ?_⟩) ?_ ?_
          rotate_left
          ·intro w'
           go_simp
           with_reducible rfl
          rotate_left
          ·simp only [Act.put, zO, zP, zR, i64_w, i32_w]
           rfl
          refine pure_ (i := 5) (N := some 39) (v := ?_) (a' := ?_) (zBM 12 37) rfl rfl (any_of HT_.out (by kernel_rfl)) (fun _ _ _ h => h) (Or.inl ⟨by rfl, ?_⟩) ?_ ?_
          rotate_left
          ·intro w'
           go_simp
           with_reducible rfl
          rotate_left
          ·simp only [Act.put, zO, zP, zR, i64_w, i32_w]
           rfl
          refine pure_ (i := 7) (N := some 41) (v := ?_) (a' := ?_) (zBM 12 165) rfl rfl (any_of HT_.out (by kernel_rfl)) (fun _ _ _ h => h) (Or.inl ⟨by rfl, ?_⟩) ?_ ?_
          rotate_left
          ·intro w'
           go_simp
           with_reducible rfl
          rotate_left
          ·simp only [Act.put, zO, zP, zR, i64_w, i32_w]
           rfl
          refine take_ (i := 1) (N := some 35) (v := ?_) (a' := ?_) (zBM 12 167) rfl rfl (take_ofW HT_.out HW_.out (by kernel_rfl)) (fun _ _ _ h => h) (Or.inl ⟨by rfl, ?_⟩) hHeld ?_ ?_
          rotate_left
          ·rintro w' ⟨s0, s1, s2, s3, s4, s5, s6, s7, s8, s9, s10, s11, s12, s13, s14, s15⟩
           go_simp
           with_reducible rfl
          rotate_left
          ·simp only [Act.put, zO, zP, zR, i64_w, i32_w]
           rfl
          refine pure_ (i := 3) (N := some 37) (v := ?_) (a' := ?_) (zBM 12 175) rfl rfl (any_of HT_.out (by kernel_rfl)) (fun _ _ _ h => h) (Or.inl ⟨by rfl, ?_⟩) ?_ ?_
          rotate_left
          ·intro w'
           go_simp
           with_reducible rfl
          rotate_left
          ·simp only [Act.put, zO, zP, zR, i64_w, i32_w]
           rfl
          refine take_ (i := 4) (N := some 38) (v := ?_) (a' := ?_) (zBM 12 191) rfl rfl (take_ofW HT_.out HW_.out (by kernel_rfl)) (fun _ _ _ h => h) (Or.inl ⟨by rfl, ?_⟩) hHeld ?_ ?_
          rotate_left
          ·rintro w' ⟨s0, s1, s2, s3, s4, s5, s6, s7, s8, s9, s10, s11, s12, s13, s14, s15⟩
           go_simp
           with_reducible rfl
          rotate_left
          ·simp only [Act.put, zO, zP, zR, i64_w, i32_w]
           rfl
          refine take_ (i := 6) (N := some 40) (v := ?_) (a' := ?_) (zBM 12 255) rfl rfl (take_ofW HT_.out HW_.out (by kernel_rfl)) (fun _ _ _ h => h) (Or.inl ⟨by rfl, ?_⟩) hHeld ?_ ?_
          rotate_left
          ·rintro w' ⟨s0, s1, s2, s3, s4, s5, s6, s7, s8, s9, s10, s11, s12, s13, s14, s15⟩
           go_simp
           with_reducible rfl
          rotate_left
          ·simp only [Act.put, zO, zP, zR, i64_w, i32_w]
           rfl
          refine pure_ (i := 8) (N := some 42) (v := ?_) (a' := ?_) (zBM 12 511) rfl rfl (any_of HT_.out (by kernel_rfl)) (fun _ _ _ h => h) (Or.inl ⟨by rfl, ?_⟩) ?_ ?_
          rotate_left
          ·intro w'
           go_simp
           with_reducible rfl
          rotate_left
          ·simp only [Act.put, zO, zP, zR, i64_w, i32_w]
           rfl
          refine take_ (i := 9) (N := some 43) (v := ?_) (a' := ?_) (zBM 12 1023) rfl rfl (take_ofW HT_.out HW_.out (by kernel_rfl)) (fun _ _ _ h => h) (Or.inl ⟨by rfl, ?_⟩) hHeld ?_ ?_
          rotate_left
          ·rintro w' ⟨s0, s1, s2, s3, s4, s5, s6, s7, s8, s9, s10, s11, s12, s13, s14, s15⟩
           go_simp
           with_reducible rfl
          rotate_left
          ·simp only [Act.put, zO, zP, zR, i64_w, i32_w]
           rfl
          refine one_ (i := 10) (N := some 44) (zBM 12 2047) rfl rfl (one_of HT_.out (by kernel_rfl)) (by decide) (fun K hK => ?_)
          refine goes_ Tryd.func36 (by kernel_rfl) rfl #[.agg #[.int .i64 ((rd_T68 l0_3 x5_2).f0), .int .i64 ((rd_T68 l0_3 x5_2).f1), .string ((rd_T68 l0_3 x5_2).f2), .slice A395_3 ((rd_T68 l0_3 x5_2).f3).length c395_3], .agg #[.int .i64 ((rd_T68 l1_3 x5_2).f0), .int .i64 ((rd_T68 l1_3 x5_2).f1), .string ((rd_T68 l1_3 x5_2).f2), .slice A396_3 ((rd_T68 l1_3 x5_2).f3).length c396_3]] (by rfl) rfl rfl (by (try simp only [List.map_toArray, List.map_cons, List.map_nil]); first | done | rfl | (simp only [List.length_drop, List.length_take]; rfl)) ?_
          with_reducible refine (ih k2 (by have := HJ2.out; have := HK2.out; omega) ((rd_T68 l0_3 x5_2).f0) ((rd_T68 l0_3 x5_2).f1) ((rd_T68 l0_3 x5_2).f2) _ _ ((rd_T68 l0_3 x5_2).f3) ((rd_T68 l1_3 x5_2).f0) ((rd_T68 l1_3 x5_2).f1) ((rd_T68 l1_3 x5_2).f2) _ _ ((rd_T68 l1_3 x5_2).f3) false _ ?side1 ?side2 ?side3 ?side4 A21.out).mono ?_
          (case side1 => exact zAC HR395_3.out HB.out)
          (case side2 => exact HC395_3.out)
          (case side3 => exact zAC HR396_3.out HB.out)
          (case side4 => exact HC396_3.out)
          rintro e w30 ⟨rfl, hb⟩
          refine ⟨_, rfl, ?_⟩
          have n0_ := zG (zK (g := gb393) BK393.out hb)
          have n1_ := zG (zK (g := gb394) BK394.out hb)
          have n2_ := zG (zE HB.out hb)
          clear BK393
          clear BK394
          clear HB
          have BK393 := n0_
          have BK394 := n1_
          have HB := n2_
          clear n0_ n1_ n2_
          (try clear hb)
          (try clear hb2)
          (try clear hk)
          (try clear hi)
          refine hK.out _ _ ⟨zL BK393.out 0, zL BK393.out 1, zL BK393.out 2, zL BK393.out 3, zL BK394.out 0, zL BK394.out 1, zL BK394.out 2, zL BK394.out 3, ((HB.out.cell (zS w _ hw395_0)).trans hw395_0), ((HB.out.cell (zS w _ hw395_1)).trans hw395_1), ((HB.out.cell (zS w _ hw395_2)).trans hw395_2), ((HB.out.cell (zS w _ hw395_3)).trans hw395_3), ((HB.out.cell (zS w _ hw396_0)).trans hw396_0), ((HB.out.cell (zS w _ hw396_1)).trans hw396_1), ((HB.out.cell (zS w _ hw396_2)).trans hw396_2), ((HB.out.cell (zS w _ hw396_3)).trans hw396_3)⟩ (fun hHeld => ?_)
          clear hK K
          refine norm_ (a' := ?_) ?_ ?_
          rotate_left
          ·show Act.put _ (some 44) _ = _
           simp only [Act.put, zO, zP, zR, i64_w, i32_w]
           rfl
          refine pure_ (i := 11) (N := some 45) (v := ?_) (a' := ?_) (zBM 12 4095) rfl rfl (any_of HT_.out (by kernel_rfl)) (fun _ _ _ h => h) (Or.inl ⟨by rfl, ?_⟩) ?_ ?_
          rotate_left
          ·intro w'
           go_simp
           with_reducible rfl
          rotate_left
          ·simp only [Act.put, zO, zP, zR, i64_w, i32_w]
           rfl
          refine done_ (done_of HT_.out (by kernel_rfl)) ?_
          try go_wp2
          go_ret
          exact ⟨rfl, HB.out⟩
        ·rw [if_neg c20] at H
         exact absurd H (by simp)
       ·rw [if_neg c19] at H
        exact absurd H (by simp)
      ·rw [if_neg c18] at H
       have c18b0 : decide (x5_2 < (l0_3.length : Int)) = false := zV c18
       clear c18
       obtain rfl := Option.some.inj H
       have hnb31 := NB393_394.out
       have hnc31 := NB394_393.out
       obtain ⟨hcz32_0, hcz32_1, hcz32_2, hcz32_3, hfz32_0, hfz32_1, hfz32_2, hfz32_3⟩ := zQ BK393.out
       go_wp2
       go_ret
       exact ⟨rfl, HB.out⟩

-- NOT PRINTED: function 64 (hammocklaw03_refTypes)

-- NOT PRINTED: function 37 (hammocklaw03_RefType)

-- NOT PRINTED: function 65 (types_Type_tree)

-- NOT PRINTED: function 38 (types_Tree)

def hammockref09_Tree.f (k : Nat) (a0_0 : Int) (a0_1 : Int) (a0_2 : ByteArray) (l0_3 : List (S24)) : Option (Int × Int × ByteArray × (List (S68))) := (hammockref09_Right.f k a0_0 a0_1 a0_2 l0_3).bind fun t408 => (if t408 = true then ((hammockref09_tree.f k a0_0 a0_1 a0_2 l0_3).bind fun bt409 => (some (bt409.1, bt409.2.1, bt409.2.2.1, bt409.2.2.2))) else (some (0, 0, (⟨#[]⟩ : ByteArray), ([] : List (S68)))))
set_option maxHeartbeats 8000000 in
set_option maxRecDepth 100000 in
theorem hammockref09_Tree.calls (k : Nat) (a0_0 : Int) (a0_1 : Int) (a0_2 : ByteArray) (A0_3 : Option Addr) (c0_3 : Nat) (l0_3 : List (S24)) (r1 : Int) (r2 : Int) (r3 : ByteArray) (r4 : List (S68)) (w : World) (hr0_3 : Kd.C k24 w A0_3 l0_3.length l0_3) (hc0_3 : l0_3.length ≤ c0_3) (h : hammockref09_Tree.f k a0_0 a0_1 a0_2 l0_3 = some (r1, r2, r3, r4)) :
  Calls Tryd.prog 39 #[.agg #[.int .i64 a0_0, .int .i64 a0_1, .string a0_2, .slice A0_3 l0_3.length c0_3]] w fun e w' => ∃ v3_ : Value, e = .returned (.agg #[.int .i64 r1, .int .i64 r2, .string r3, v3_]) ∧ Kd.R k68 68 w' w.heap.size (fun _ => True) v3_ r4 ∧ Below w.heap.size w w' := by
 have hu24 := Tryd.underlying24
 have hu68 := Tryd.underlying68
 have HR0_3 := zG hr0_3
 have HC0_3 := zG hc0_3
 clear hr0_3 hc0_3
 have HB := zG (Below.refl w.heap.size w)
 have H : ((hammockref09_Right.f k a0_0 a0_1 a0_2 l0_3).bind fun t408 => (if t408 = true then ((hammockref09_tree.f k a0_0 a0_1 a0_2 l0_3).bind fun bt409 => (some (bt409.1, bt409.2.1, bt409.2.2.1, bt409.2.2.2))) else (some (0, 0, (⟨#[]⟩ : ByteArray), ([] : List (S68)))))) = some (r1, r2, r3, r4) := h
 clear h
 replace H := zT H
 obtain ⟨t408, A20, H⟩ := H
 replace H : (if t408 = true then ((hammockref09_tree.f k a0_0 a0_1 a0_2 l0_3).bind fun bt409 => (some (bt409.1, bt409.2.1, bt409.2.2.1, bt409.2.2.2))) else (some (0, 0, (⟨#[]⟩ : ByteArray), ([] : List (S68))))) = some (r1, r2, r3, r4) := H
 have A2 := zG A20
 clear A20
 by_cases c3 : t408 = true
 ·subst c3
  have H1 : ((hammockref09_tree.f k a0_0 a0_1 a0_2 l0_3).bind fun bt409 => (some (bt409.1, bt409.2.1, bt409.2.2.1, bt409.2.2.2))) = some (r1, r2, r3, r4) := by rw [if_pos rfl] at H; exact H
  clear H
  have H := H1
  clear H1
  replace H := zT H
  obtain ⟨⟨t409, t410, t411, t412⟩, A40, H⟩ := H
  replace H : (some (t409, t410, t411, t412)) = some (r1, r2, r3, r4) := H
  have A4 := zG A40
  clear A40
  simp only [Option.some.injEq, Prod.mk.injEq] at H
  obtain ⟨rfl, rfl, rfl, rfl⟩ := H
  go_enter Tryd.func39, Tryd.ntmps39
  go_wp2_with (first | ((with_reducible refine gate_dst (N := 1) rfl ?_); refine box_event ?hg (N := 1) ?hd (cs := #[.int .i64 a0_0, .int .i64 a0_1, .string a0_2, .slice A0_3 l0_3.length c0_3]) (t := 24) ?hr ?_; (case hd => rfl); (case hg => rfl); (case hr => first | (go_simp; done) | (go_simp; rfl)); intro gb406 hg w5 hbox hb; have n0_ := zG (zE (by repeat (first | (with_reducible first | exact HB.out | apply zA | apply zB | apply zC) | exact HB.out)) hb); have n1_ := zG (hbox); have n2_ := zG ((by rw [hg]; exact (zF (by repeat (first | (with_reducible first | exact HB.out | apply zA | apply zB | apply zC) | exact HB.out))) : w.heap.size ≤ gb406)); have n3_ := n2_; clear HB; have HB := n0_; have BK406 := n1_; have GW406 := n2_; have GE406 := n3_; clear n0_ n1_ n2_ n3_; clear hb hbox hg) | ((with_reducible refine gate_dst (N := 2) rfl ?_); refine box_event ?hg (N := 2) ?hd (cs := #[.int .i64 0, .int .i64 0, .string (⟨#[]⟩ : ByteArray), .slice none 0 0]) (t := 68) ?hr ?_; (case hd => rfl); (case hg => rfl); (case hr => first | (go_simp; done) | (go_simp; rfl)); intro gb407 hg w6 hbox hb; have n0_ := zG (zK (g := gb406) (by (with_reducible repeat (first | refine zH ?_ _ | refine zI ?_ | refine zJ ?_ _)); exact BK406.out) hb); have n1_ := zG (zE (by repeat (first | (with_reducible first | exact HB.out | apply zA | apply zB | apply zC | refine zD ?_ GE406.out) | exact HB.out)) hb); have n2_ := zG (hbox); have n3_ := zG ((by rw [hg]; exact (zF (by repeat (first | (with_reducible first | exact HB.out | apply zA | apply zB | apply zC | refine zD ?_ GE406.out) | exact HB.out))) : w.heap.size ≤ gb407)); have n4_ := n3_; have n5_ := zG ((by rw [hg]; exact Nat.ne_of_lt (zAD (g := gb406) (by (with_reducible repeat (first | refine zH ?_ _ | refine zI ?_ | refine zJ ?_ _)); exact BK406.out)) : gb406 ≠ gb407)); have n6_ := zG ((by rw [hg]; exact Nat.ne_of_gt (zAD (g := gb406) (by (with_reducible repeat (first | refine zH ?_ _ | refine zI ?_ | refine zJ ?_ _)); exact BK406.out)) : gb407 ≠ gb406)); clear BK406; clear HB; have BK406 := n0_; have HB := n1_; have BK407 := n2_; have GW407 := n3_; have GE407 := n4_; have NB406_407 := n5_; have NB407_406 := n6_; clear n0_ n1_ n2_ n3_ n4_ n5_ n6_; clear hb hbox hg; have hnb7 := NB406_407.out; have hnc7 := NB407_406.out; obtain ⟨hcz8_0, hcz8_1, hcz8_2, hcz8_3⟩ := zN BK406.out; have hfz8_0 := zM BK406.out 0; have hfz8_1 := zM BK406.out 1; have hfz8_2 := zM BK406.out 2; have hfz8_3 := zM BK406.out 3) | ((with_reducible refine gate_callee (f := 17) rfl ?_); refine goesL_ (some 4) rfl rfl Tryd.func17 (by kernel_rfl) rfl #[.agg #[.int .i64 a0_0, .int .i64 a0_1, .string a0_2, .slice A0_3 l0_3.length c0_3]] rfl (by (try simp only [List.map_toArray, List.map_cons, List.map_nil]); first | done | rfl | (simp only [List.length_drop, List.length_take]; rfl)) ?_; (with_reducible refine (hammockref09_Right.calls k a0_0 a0_1 a0_2 _ _ l0_3 true _ ?side1 ?side2 A2.out).mono ?_); (case side1 => repeat (first | exact (zAC HR0_3.out HB.out) | (with_reducible refine zAE ?_ _) | (with_reducible refine zAF ?_ _) | (with_reducible refine zAG ?_))); (case side2 => exact HC0_3.out); rintro e w9 ⟨rfl, hb⟩; refine ⟨_, rfl, ?_⟩; have n0_ := zG (zK (g := gb406) (by (with_reducible repeat (first | refine zH ?_ _ | refine zI ?_ | refine zJ ?_ _)); exact BK406.out) hb); have n1_ := zG (zK (g := gb407) (by (with_reducible repeat (first | refine zH ?_ _ | refine zI ?_ | refine zJ ?_ _)); exact BK407.out) hb); have n2_ := zG (zE (by repeat (first | (with_reducible first | exact HB.out | apply zA | apply zB | apply zC | refine zD ?_ GE406.out | refine zD ?_ GE407.out) | exact HB.out)) hb); clear BK406; clear BK407; clear HB; have BK406 := n0_; have BK407 := n1_; have HB := n2_; clear n0_ n1_ n2_; (try clear hb); (try clear hb2); (try clear hk); (try clear hi); obtain ⟨hcz10_0, hcz10_1, hcz10_2, hcz10_3⟩ := zN BK406.out; have hfz10_0 := zM BK406.out 0; have hfz10_1 := zM BK406.out 1; have hfz10_2 := zM BK406.out 2; have hfz10_3 := zM BK406.out 3) | ((with_reducible refine gate_callee (f := 63) rfl ?_); refine goesL_ (some 8) rfl rfl Tryd.func63 (by kernel_rfl) rfl #[.agg #[.int .i64 a0_0, .int .i64 a0_1, .string a0_2, .slice A0_3 l0_3.length c0_3]] rfl (by (try simp only [List.map_toArray, List.map_cons, List.map_nil]); first | done | rfl | (simp only [List.length_drop, List.length_take]; rfl)) ?_; (with_reducible refine (hammockref09_tree.calls k a0_0 a0_1 a0_2 _ _ l0_3 t409 t410 t411 t412 _ ?side1 ?side2 A4.out).mono ?_); (case side1 => repeat (first | exact (zAC HR0_3.out HB.out) | (with_reducible refine zAE ?_ _) | (with_reducible refine zAF ?_ _) | (with_reducible refine zAG ?_))); (case side2 => exact HC0_3.out); rintro e w11 ⟨v413, rfl, ho0, hb⟩; refine ⟨_, rfl, ?_⟩; have n0_ := zG (Kd.R_lower (Kd.R_newB ho0 (g := gb407) (o := .cells #[.int .i64 0, .int .i64 0, .string (⟨#[]⟩ : ByteArray), .slice none 0 0] 68 (0, 0)) (by (with_reducible repeat (first | refine zH ?_ _ | refine zI ?_ | refine zJ ?_ _)); exact BK407.out)) (zF (by repeat (first | (with_reducible first | exact HB.out | apply zA | apply zB | apply zC | refine zD ?_ GE406.out | refine zD ?_ GE407.out) | exact HB.out)))); have n1_ := zG (zK (g := gb406) (by (with_reducible repeat (first | refine zH ?_ _ | refine zI ?_ | refine zJ ?_ _)); exact BK406.out) hb); have n2_ := zG (zK (g := gb407) (by (with_reducible repeat (first | refine zH ?_ _ | refine zI ?_ | refine zJ ?_ _)); exact BK407.out) hb); have n3_ := zG (zE (by repeat (first | (with_reducible first | exact HB.out | apply zA | apply zB | apply zC | refine zD ?_ GE406.out | refine zD ?_ GE407.out) | exact HB.out)) hb); clear BK406; clear BK407; clear HB; have HO414 := n0_; have BK406 := n1_; have BK407 := n2_; have HB := n3_; clear n0_ n1_ n2_ n3_; (try clear hb); (try clear hb2); (try clear hk); (try clear hi); (try clear ho0); obtain ⟨hcz12_0, hcz12_1, hcz12_2, hcz12_3, hfz12_0, hfz12_1, hfz12_2, hfz12_3⟩ := zQ BK407.out; obtain ⟨Ao13, co13, eo13⟩ := Kd.R_slice HO414.out; subst eo13))
  refine bodyPost_ret (results_cell_row rfl _ _ gb407 68 #[.int .i64 t409, .int .i64 t410, .string t411, .slice Ao13 t412.length co13] (0, 0) _ rfl (by (with_reducible repeat (first | refine zH ?_ _ | refine zI ?_ | refine zJ ?_ _)); refine zAH (cs := #[.int .i64 t409, .int .i64 t410, .string t411, .slice none 0 0]) ?_ 3 _ rfl; (with_reducible repeat (first | refine zH ?_ _ | refine zI ?_ | refine zJ ?_ _)); refine zAH (cs := #[.int .i64 t409, .int .i64 t410, .string (⟨#[]⟩ : ByteArray), .slice none 0 0]) ?_ 2 _ rfl; (with_reducible repeat (first | refine zH ?_ _ | refine zI ?_ | refine zJ ?_ _)); refine zAH (cs := #[.int .i64 t409, .int .i64 0, .string (⟨#[]⟩ : ByteArray), .slice none 0 0]) ?_ 1 _ rfl; (with_reducible repeat (first | refine zH ?_ _ | refine zI ?_ | refine zJ ?_ _)); refine zAH (cs := #[.int .i64 0, .int .i64 0, .string (⟨#[]⟩ : ByteArray), .slice none 0 0]) ?_ 0 _ rfl; (with_reducible repeat (first | refine zH ?_ _ | refine zI ?_ | refine zJ ?_ _)); exact BK407.out) Tryd.underlying68 rfl (by kernel_rfl)) rfl ?_
  exact ⟨_, by first | rfl | (simp [errW_none, errW_some] <;> rfl) | (simp [*, errW_none, errW_some] <;> rfl), by (with_reducible repeat (first | apply Kd.R_alloc | apply Kd.R_drewN | apply Kd.R_drew)); exact Kd.R_mono (Kd.R_far (p := ⟨gb407, 3, none⟩) (Kd.R_far (p := ⟨gb407, 2, none⟩) (Kd.R_far (p := ⟨gb407, 1, none⟩) (Kd.R_far (p := ⟨gb407, 0, none⟩) (Kd.R_mono HO414.out (fun k_ hk => (⟨hk, hk.2⟩ : _ ∧ k_ ≠ gb407))) (fun _ hk => hk.2) (.int .i64 t409)) (fun _ hk => hk.2) (.int .i64 t410)) (fun _ hk => hk.2) (.string t411)) (fun _ hk => hk.2) (.slice Ao13 t412.length co13)) (fun _ hk => trivial), by repeat (first | (with_reducible first | exact HB.out | apply zA | apply zB | apply zC | refine zD ?_ GE406.out | refine zD ?_ GE407.out) | exact HB.out)⟩
 ·replace c3 := zAB c3
  subst c3
  have H1 : (some (0, 0, (⟨#[]⟩ : ByteArray), ([] : List (S68)))) = some (r1, r2, r3, r4) := by rw [if_neg (show ¬ (false = true) by decide)] at H; exact H
  clear H
  have H := H1
  clear H1
  simp only [Option.some.injEq, Prod.mk.injEq] at H
  obtain ⟨rfl, rfl, rfl, rfl⟩ := H
  go_enter Tryd.func39, Tryd.ntmps39
  go_wp2_with (first | ((with_reducible refine gate_dst (N := 1) rfl ?_); refine box_event ?hg (N := 1) ?hd (cs := #[.int .i64 a0_0, .int .i64 a0_1, .string a0_2, .slice A0_3 l0_3.length c0_3]) (t := 24) ?hr ?_; (case hd => rfl); (case hg => rfl); (case hr => first | (go_simp; done) | (go_simp; rfl)); intro gb406 hg w14 hbox hb; have n0_ := zG (zE (by repeat (first | (with_reducible first | exact HB.out | apply zA | apply zB | apply zC) | exact HB.out)) hb); have n1_ := zG (hbox); have n2_ := zG ((by rw [hg]; exact (zF (by repeat (first | (with_reducible first | exact HB.out | apply zA | apply zB | apply zC) | exact HB.out))) : w.heap.size ≤ gb406)); have n3_ := n2_; clear HB; have HB := n0_; have BK406 := n1_; have GW406 := n2_; have GE406 := n3_; clear n0_ n1_ n2_ n3_; clear hb hbox hg) | ((with_reducible refine gate_dst (N := 2) rfl ?_); refine box_event ?hg (N := 2) ?hd (cs := #[.int .i64 0, .int .i64 0, .string (⟨#[]⟩ : ByteArray), .slice none 0 0]) (t := 68) ?hr ?_; (case hd => rfl); (case hg => rfl); (case hr => first | (go_simp; done) | (go_simp; rfl)); intro gb407 hg w15 hbox hb; have n0_ := zG (zK (g := gb406) (by (with_reducible repeat (first | refine zH ?_ _ | refine zI ?_ | refine zJ ?_ _)); exact BK406.out) hb); have n1_ := zG (zE (by repeat (first | (with_reducible first | exact HB.out | apply zA | apply zB | apply zC | refine zD ?_ GE406.out) | exact HB.out)) hb); have n2_ := zG (hbox); have n3_ := zG ((by rw [hg]; exact (zF (by repeat (first | (with_reducible first | exact HB.out | apply zA | apply zB | apply zC | refine zD ?_ GE406.out) | exact HB.out))) : w.heap.size ≤ gb407)); have n4_ := n3_; have n5_ := zG ((by rw [hg]; exact Nat.ne_of_lt (zAD (g := gb406) (by (with_reducible repeat (first | refine zH ?_ _ | refine zI ?_ | refine zJ ?_ _)); exact BK406.out)) : gb406 ≠ gb407)); have n6_ := zG ((by rw [hg]; exact Nat.ne_of_gt (zAD (g := gb406) (by (with_reducible repeat (first | refine zH ?_ _ | refine zI ?_ | refine zJ ?_ _)); exact BK406.out)) : gb407 ≠ gb406)); clear BK406; clear HB; have BK406 := n0_; have HB := n1_; have BK407 := n2_; have GW407 := n3_; have GE407 := n4_; have NB406_407 := n5_; have NB407_406 := n6_; clear n0_ n1_ n2_ n3_ n4_ n5_ n6_; clear hb hbox hg; have hnb16 := NB406_407.out; have hnc16 := NB407_406.out; obtain ⟨hcz17_0, hcz17_1, hcz17_2, hcz17_3⟩ := zN BK406.out; have hfz17_0 := zM BK406.out 0; have hfz17_1 := zM BK406.out 1; have hfz17_2 := zM BK406.out 2; have hfz17_3 := zM BK406.out 3) | ((with_reducible refine gate_callee (f := 17) rfl ?_); refine goesL_ (some 4) rfl rfl Tryd.func17 (by kernel_rfl) rfl #[.agg #[.int .i64 a0_0, .int .i64 a0_1, .string a0_2, .slice A0_3 l0_3.length c0_3]] rfl (by (try simp only [List.map_toArray, List.map_cons, List.map_nil]); first | done | rfl | (simp only [List.length_drop, List.length_take]; rfl)) ?_; (with_reducible refine (hammockref09_Right.calls k a0_0 a0_1 a0_2 _ _ l0_3 false _ ?side1 ?side2 A2.out).mono ?_); (case side1 => repeat (first | exact (zAC HR0_3.out HB.out) | (with_reducible refine zAE ?_ _) | (with_reducible refine zAF ?_ _) | (with_reducible refine zAG ?_))); (case side2 => exact HC0_3.out); rintro e w18 ⟨rfl, hb⟩; refine ⟨_, rfl, ?_⟩; have n0_ := zG (zK (g := gb406) (by (with_reducible repeat (first | refine zH ?_ _ | refine zI ?_ | refine zJ ?_ _)); exact BK406.out) hb); have n1_ := zG (zK (g := gb407) (by (with_reducible repeat (first | refine zH ?_ _ | refine zI ?_ | refine zJ ?_ _)); exact BK407.out) hb); have n2_ := zG (zE (by repeat (first | (with_reducible first | exact HB.out | apply zA | apply zB | apply zC | refine zD ?_ GE406.out | refine zD ?_ GE407.out) | exact HB.out)) hb); clear BK406; clear BK407; clear HB; have BK406 := n0_; have BK407 := n1_; have HB := n2_; clear n0_ n1_ n2_; (try clear hb); (try clear hb2); (try clear hk); (try clear hi); obtain ⟨hcz19_0, hcz19_1, hcz19_2, hcz19_3⟩ := zN BK407.out; have hfz19_0 := zM BK407.out 0; have hfz19_1 := zM BK407.out 1; have hfz19_2 := zM BK407.out 2; have hfz19_3 := zM BK407.out 3))
  refine bodyPost_ret (results_cell_row rfl _ _ gb407 68 #[.int .i64 0, .int .i64 0, .string (⟨#[]⟩ : ByteArray), .slice none 0 0] (0, 0) _ rfl (by (with_reducible repeat (first | refine zH ?_ _ | refine zI ?_ | refine zJ ?_ _)); refine zAH (cs := #[.int .i64 0, .int .i64 0, .string (⟨#[]⟩ : ByteArray), .slice none 0 0]) ?_ 3 _ rfl; (with_reducible repeat (first | refine zH ?_ _ | refine zI ?_ | refine zJ ?_ _)); refine zAH (cs := #[.int .i64 0, .int .i64 0, .string (⟨#[]⟩ : ByteArray), .slice none 0 0]) ?_ 2 _ rfl; (with_reducible repeat (first | refine zH ?_ _ | refine zI ?_ | refine zJ ?_ _)); refine zAH (cs := #[.int .i64 0, .int .i64 0, .string (⟨#[]⟩ : ByteArray), .slice none 0 0]) ?_ 1 _ rfl; (with_reducible repeat (first | refine zH ?_ _ | refine zI ?_ | refine zJ ?_ _)); refine zAH (cs := #[.int .i64 0, .int .i64 0, .string (⟨#[]⟩ : ByteArray), .slice none 0 0]) ?_ 0 _ rfl; (with_reducible repeat (first | refine zH ?_ _ | refine zI ?_ | refine zJ ?_ _)); exact BK407.out) Tryd.underlying68 rfl (by kernel_rfl)) rfl ?_
  exact ⟨_, by first | rfl | (simp [errW_none, errW_some] <;> rfl) | (simp [*, errW_none, errW_some] <;> rfl), by first | exact Kd.R_nil _ _ _ _ _ | exact Kd.N_nil _ _ _ _ _ | exact Kd.V_nil _ _ _ _ _ | exact Kd.Q_nil _ _ _ _ _ | exact Kd.S_nil _ _ _ _ _, by repeat (first | (with_reducible first | exact HB.out | apply zA | apply zB | apply zC | refine zD ?_ GE406.out | refine zD ?_ GE407.out) | exact HB.out)⟩

-- NOT PRINTED: function 6 (hammocklaw09_TypesLooks)

-- NOT PRINTED: function 66 (slices_Clone_string_string)

-- NOT PRINTED: function 40 (types_Of)

-- NOT PRINTED: function 7 (hammocklaw09_TypesBack)

end Go.Proofs.YtddmdiaopaoekaaDoor.P
