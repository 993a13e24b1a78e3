-- written by a program of this session's (wip/tools/extprint.py) over the kit's print
import Derived.Test.YtddmdiaopaoekaaDoorPx0
import Derived.Test.YtddmdiaopaoekaaDoorPx8
import Derived.Test.YtddmdiaopaoekaaDoorSq
namespace Go.Proofs.YtddmdiaopaoekaaDoor.P
open Go.RowKit Go.Proofs.YtddmdiaopaoekaaDoorW.PrintWords Go.Proofs.YtddmdiaopaoekaaDoorW.PrintLast Go.Proofs.YtddmdiaopaoekaaDoorW.PrintMore
attribute [local go_sem] max2_int min2_int max_two min_two max_three min_three max_four min_four   -- for this text's walks alone
set_option linter.unusedVariables false
set_option linter.unusedSimpArgs false

mutual
def hammockref05_typ.j0 : Nat → Bool → Bool → Int → Int → ByteArray → List (S68) → Option (ByteArray)
 | 0, _, _, _, _, _, _ => none
 | k + 1, x1, x38, x346000, x346001, x346002, x346003 => if x38 = true then (if 0 < (x346003.length : Int) then ((hammockref05_typ.f k ((rd_T68 x346003 0).f0) ((rd_T68 x346003 0).f1) ((rd_T68 x346003 0).f2) ((rd_T68 x346003 0).f3) false).bind fun t353 => (if 1 + t353.size ≤ 9223372036854775807 then (if ((⟨#[91]⟩ : ByteArray) ++ t353).size + 1 ≤ 9223372036854775807 then (some (((⟨#[91]⟩ : ByteArray) ++ t353) ++ (⟨#[93]⟩ : ByteArray))) else (none)) else (none))) else (none)) else (hammockref05_typ.l0 k x1 x346002 0 x346000 x346001 x346002 x346003)
def hammockref05_typ.l0 : Nat → Bool → ByteArray → Int → Int → Int → ByteArray → List (S68) → Option (ByteArray)
 | 0, _, _, _, _, _, _, _ => none
 | k + 1, x1, x5, x6, x346000, x346001, x346002, x346003 => if x6 < (x346003.length : Int) then (if x5.size + 1 ≤ 9223372036854775807 then (if 0 ≤ x6 then ((hammockref05_typ.f k ((rd_T68 x346003 x6).f0) ((rd_T68 x346003 x6).f1) ((rd_T68 x346003 x6).f2) ((rd_T68 x346003 x6).f3) true).bind fun t355 => (if (x5 ++ (⟨#[32]⟩ : ByteArray)).size + t355.size ≤ 9223372036854775807 then (hammockref05_typ.l0 k x1 ((x5 ++ (⟨#[32]⟩ : ByteArray)) ++ t355) (wrap64 (x6 + 1)) x346000 x346001 x346002 x346003) else (none))) else (none)) else (none)) else (if x1 = true then ((hammockref05_wrap.f x5 (decide ((x346003.length : Int) > 0))).bind fun t356 => (some t356)) else ((hammockref05_wrap.f x5 false).bind fun t357 => (some t357)))
def hammockref05_typ.f : Nat → Int → Int → ByteArray → List (S68) → Bool → Option (ByteArray)
 | 0, _, _, _, _, _ => none
 | k + 1, a0_0, a0_1, a0_2, l0_3, a1 => if a0_0 = 3 then (if 0 < (l0_3.length : Int) then ((hammockref05_typ.f k ((rd_T68 l0_3 0).f0) ((rd_T68 l0_3 0).f1) ((rd_T68 l0_3 0).f2) ((rd_T68 l0_3 0).f3) (((rd_T68 l0_3 0).f0) == 3)).bind fun t348 => (if t348.size + 4 ≤ 9223372036854775807 then (if 1 < (l0_3.length : Int) then ((hammockref05_typ.f k ((rd_T68 l0_3 1).f0) ((rd_T68 l0_3 1).f1) ((rd_T68 l0_3 1).f2) ((rd_T68 l0_3 1).f3) false).bind fun t350 => (if (t348 ++ (⟨#[32, 45, 62, 32]⟩ : ByteArray)).size + t350.size ≤ 9223372036854775807 then ((hammockref05_wrap.f ((t348 ++ (⟨#[32, 45, 62, 32]⟩ : ByteArray)) ++ t350) a1).bind fun t351 => (some t351)) else (none))) else (none)) else (none))) else (none)) else (if a0_2.toList = ([91, 93] : List UInt8) then (hammockref05_typ.j0 k a1 ((l0_3.length : Int) == 1) a0_0 a0_1 a0_2 l0_3) else (hammockref05_typ.j0 k a1 false a0_0 a0_1 a0_2 l0_3))
end
theorem hammockref05_typ.mono_l : ∀ k, (∀ y0 y1 y2 y3 y4, LeO (hammockref05_typ.f k y0 y1 y2 y3 y4) (hammockref05_typ.f (k + 1) y0 y1 y2 y3 y4)) ∧ (∀ y0 y1 y2 y3 y4 y5, LeO (hammockref05_typ.j0 k y0 y1 y2 y3 y4 y5) (hammockref05_typ.j0 (k + 1) y0 y1 y2 y3 y4 y5)) ∧ (∀ y0 y1 y2 y3 y4 y5 y6, LeO (hammockref05_typ.l0 k y0 y1 y2 y3 y4 y5 y6) (hammockref05_typ.l0 (k + 1) y0 y1 y2 y3 y4 y5 y6))
 | 0 => ⟨fun _ _ _ _ _ r h => by simp [hammockref05_typ.f] at h, fun _ _ _ _ _ _ r h => by simp [hammockref05_typ.j0] at h, fun _ _ _ _ _ _ _ r h => by simp [hammockref05_typ.l0] at h⟩
 | k + 1 => by
  obtain ⟨ih0, ih1, ih2⟩ := hammockref05_typ.mono_l k
  refine ⟨?_, ?_, ?_⟩
  ·intro y0 y1 y2 y3 y4
   unfold hammockref05_typ.f
   repeat' first
   | (with_reducible exact ih0 _ _ _ _ _)
   | (with_reducible exact ih1 _ _ _ _ _ _)
   | (with_reducible exact ih2 _ _ _ _ _ _ _)
   | (with_reducible exact LeO.refl _)
   | (with_reducible exact LeO.none _)
   | (with_reducible refine LeO.ite ?_ ?_)
   | (with_reducible refine LeO.bind ?_ (fun _ => ?_))
  ·intro y0 y1 y2 y3 y4 y5
   unfold hammockref05_typ.j0
   repeat' first
   | (with_reducible exact ih0 _ _ _ _ _)
   | (with_reducible exact ih1 _ _ _ _ _ _)
   | (with_reducible exact ih2 _ _ _ _ _ _ _)
   | (with_reducible exact LeO.refl _)
   | (with_reducible exact LeO.none _)
   | (with_reducible refine LeO.ite ?_ ?_)
   | (with_reducible refine LeO.bind ?_ (fun _ => ?_))
  ·intro y0 y1 y2 y3 y4 y5 y6
   unfold hammockref05_typ.l0
   repeat' first
   | (with_reducible exact ih0 _ _ _ _ _)
   | (with_reducible exact ih1 _ _ _ _ _ _)
   | (with_reducible exact ih2 _ _ _ _ _ _ _)
   | (with_reducible exact LeO.refl _)
   | (with_reducible exact LeO.none _)
   | (with_reducible refine LeO.ite ?_ ?_)
   | (with_reducible refine LeO.bind ?_ (fun _ => ?_))
def hammockref05_typ.T2 : Bool × List (List Nat × List Nat) := (true, [([], []), ([0], [0]), ([1], [1]), ([2], [2]), ([], []), ([4], [4]), ([5], [5]), ([6], [6]), ([7], [7]), ([8], [8]), ([3, 9], [3, 9]), ([10], [10]), ([], []), ([12], [12]), ([13], [13]), ([14], [14]), ([15, 10], [15]), ([11, 16], [11, 16]), ([], []), ([17, 18, 16], [17, 18]), ([19, 19, 0, 1, 2, 3, 4, 5, 6, 7, 8, 9, 10, 11, 12, 13, 14, 15, 16, 17, 18, 19], [19])])
def hammockref05_typ.B2 : List Nat := [0, 1, 3, 7, 0, 16, 48, 112, 240, 496, 1023, 2047, 0, 4096, 12288, 28672, 63487, 131071, 0, 524287, 1048575]
theorem hammockref05_typ.tab2 : rtab .any (opsOf Tryd.f80 2) = hammockref05_typ.T2 := by kernel_rfl
theorem hammockref05_typ.bits2 : waitsOk hammockref05_typ.T2.2 hammockref05_typ.B2 = true := by kernel_rfl
set_option maxHeartbeats 8000000 in
set_option maxRecDepth 100000 in
theorem hammockref05_typ.calls (k : Nat) : ∀ (a0_0 : Int) (a0_1 : Int) (a0_2 : ByteArray) (A0_3 : Option Addr) (c0_3 : Nat) (l0_3 : List (S68)) (a1 : Bool) (r : ByteArray) (w : World) (hr0_3 : Kd.C k68 w A0_3 l0_3.length l0_3) (hc0_3 : l0_3.length ≤ c0_3) (h : hammockref05_typ.f k a0_0 a0_1 a0_2 l0_3 a1 = some r),
  Calls Tryd.prog 80 #[.agg #[.int .i64 a0_0, .int .i64 a0_1, .string a0_2, .slice A0_3 l0_3.length c0_3], .bool a1] w fun e w' => e = .returned (.string r) ∧ Below w.heap.size w w' := by
 induction k using Nat.strongRecOn with
 | _ k ih =>
 intro a0_0 a0_1 a0_2 A0_3 c0_3 l0_3 a1 r w hr0_3 hc0_3 h
 cases k with
 | zero => exact absurd h (by simp [hammockref05_typ.f])
 | succ k =>
 simp only [hammockref05_typ.f] at h
 have hu68 := Tryd.underlying68
 have HR0_3 := zG hr0_3
 have HC0_3 := zG hc0_3
 clear hr0_3 hc0_3
 have HB := zG (Below.refl w.heap.size w)
 have H : (if a0_0 = 3 then (if 0 < (l0_3.length : Int) then ((hammockref05_typ.f k ((rd_T68 l0_3 0).f0) ((rd_T68 l0_3 0).f1) ((rd_T68 l0_3 0).f2) ((rd_T68 l0_3 0).f3) (((rd_T68 l0_3 0).f0) == 3)).bind fun t348 => (if t348.size + 4 ≤ 9223372036854775807 then (if 1 < (l0_3.length : Int) then ((hammockref05_typ.f k ((rd_T68 l0_3 1).f0) ((rd_T68 l0_3 1).f1) ((rd_T68 l0_3 1).f2) ((rd_T68 l0_3 1).f3) false).bind fun t350 => (if (t348 ++ (⟨#[32, 45, 62, 32]⟩ : ByteArray)).size + t350.size ≤ 9223372036854775807 then ((hammockref05_wrap.f ((t348 ++ (⟨#[32, 45, 62, 32]⟩ : ByteArray)) ++ t350) a1).bind fun t351 => (some t351)) else (none))) else (none)) else (none))) else (none)) else (if a0_2.toList = ([91, 93] : List UInt8) then (hammockref05_typ.j0 k a1 ((l0_3.length : Int) == 1) a0_0 a0_1 a0_2 l0_3) else (hammockref05_typ.j0 k a1 false a0_0 a0_1 a0_2 l0_3))) = some r := h
 clear h
 by_cases c3 : a0_0 = 3
 ·rw [if_pos c3] at H
  have c3b0 : (a0_0 == 3) = true := zW c3
  have c3b1 : (a0_0 != 3) = false := zX c3
  clear c3
  by_cases c4 : 0 < (l0_3.length : Int)
  ·rw [if_pos c4] at H
   have c4b0 : decide (0 < (l0_3.length : Int)) = true := zU c4
   have c4b1 : decide (0 < l0_3.length) = true := zU (by omega)
   clear c4
   replace H := zT H
   obtain ⟨t348, A50, H⟩ := H
   replace H : (if t348.size + 4 ≤ 9223372036854775807 then (if 1 < (l0_3.length : Int) then ((hammockref05_typ.f k ((rd_T68 l0_3 1).f0) ((rd_T68 l0_3 1).f1) ((rd_T68 l0_3 1).f2) ((rd_T68 l0_3 1).f3) false).bind fun t350 => (if (t348 ++ (⟨#[32, 45, 62, 32]⟩ : ByteArray)).size + t350.size ≤ 9223372036854775807 then ((hammockref05_wrap.f ((t348 ++ (⟨#[32, 45, 62, 32]⟩ : ByteArray)) ++ t350) a1).bind fun t351 => (some t351)) else (none))) else (none)) else (none)) = some r := H
   have A5 := zG A50
   clear A50
   by_cases c6 : t348.size + 4 ≤ 9223372036854775807
   ·rw [if_pos c6] at H
    have c6b0 := eq_true c6
    have c6b1 : decide (t348.size + 4 ≤ 9223372036854775807) = true := zU c6
    try have c6b2 : (9223372036854775807 < t348.size + 4) = False := eq_false (Nat.not_lt.2 c6)
    by_cases c7 : 1 < (l0_3.length : Int)
    ·rw [if_pos c7] at H
     have c7b0 : decide (1 < (l0_3.length : Int)) = true := zU c7
     have c7b1 : decide (1 < l0_3.length) = true := zU (by omega)
     clear c7
     replace H := zT H
     obtain ⟨t350, A80, H⟩ := H
     replace H : (if (t348 ++ (⟨#[32, 45, 62, 32]⟩ : ByteArray)).size + t350.size ≤ 9223372036854775807 then ((hammockref05_wrap.f ((t348 ++ (⟨#[32, 45, 62, 32]⟩ : ByteArray)) ++ t350) a1).bind fun t351 => (some t351)) else (none)) = some r := H
     have A8 := zG A80
     clear A80
     by_cases c9 : (t348 ++ (⟨#[32, 45, 62, 32]⟩ : ByteArray)).size + t350.size ≤ 9223372036854775807
     ·rw [if_pos c9] at H
      have c9b0 := eq_true c9
      have c9b1 : decide ((t348 ++ (⟨#[32, 45, 62, 32]⟩ : ByteArray)).size + t350.size ≤ 9223372036854775807) = true := zU c9
      try have c9b2 : (9223372036854775807 < (t348 ++ (⟨#[32, 45, 62, 32]⟩ : ByteArray)).size + t350.size) = False := eq_false (Nat.not_lt.2 c9)
      have ec9_ : (t348 ++ (⟨#[32, 45, 62, 32]⟩ : ByteArray)).size = t348.size + 4 := by rw [ByteArray.size_append]; rfl
      have c9b3 : (9223372036854775807 < t348.size + 4 + t350.size) = False := eq_false (by omega)
      have c9b4 : (t348.size + 4 + t350.size ≤ 9223372036854775807) = True := eq_true (by omega)
      replace H := zT H
      obtain ⟨t351, A100, H⟩ := H
      replace H : (some t351) = some r := H
      have A10 := zG A100
      clear A100
      obtain rfl := Option.some.inj H
      go_enter Tryd.func80, Tryd.ntmps80
      try go_wp2_with (first | ((with_reducible refine gate_dst (N := 2) rfl ?_); (try (refine gate_guard (by rfl) ?_; dsimp only)); refine box_event ?hg (N := 2) ?hd (cs := #[.int .i64 a0_0, .int .i64 a0_1, .string a0_2, .slice A0_3 l0_3.length c0_3]) (t := 68) ?hr ?_; (case hd => rfl); (case hg => rfl); (case hr => first | (go_simp; done) | (go_simp; rfl)); intro gb345 hg w11 hbox hb; have n0_ := zG (zE HB.out hb); have n1_ := zG (hbox); have n2_ := zG ((by rw [hg]; exact (zF HB.out) : w.heap.size ≤ gb345)); have n3_ := n2_; clear HB; have HB := n0_; have BK345 := n1_; have GW345 := n2_; have GE345 := n3_; clear n0_ n1_ n2_ n3_; clear hb hbox hg; obtain ⟨hcz12_0, hcz12_1, hcz12_2, hcz12_3⟩ := zN BK345.out; have hfz12_0 := zM BK345.out 0; have hfz12_1 := zM BK345.out 1; have hfz12_2 := zM BK345.out 2; have hfz12_3 := zM BK345.out 3))
      have n0_ := zG (zI BK345.out)
      have n1_ := zG (zC HB.out)
      clear BK345
      clear HB
      have BK345 := n0_
      have HB := n1_
      clear n0_ n1_
      have p346 : 0 ≤ (0 : Int) := (by omega)
      have q346 : 0 < (l0_3.length : Int) := zAA (by assumption)
      obtain ⟨ad346, A346_3, c346_3, e346, hx346_0, hx346_1, hx346_2, hx346_3, hl346_3, hi346_3⟩ := at_T68 HR0_3.out 0 p346 q346
      have hw346_3 := hx346_3
      (try rw [show ((0 : Int)).toNat = 0 from rfl] at hw346_3)
      (try rw [show 0 * 4 = 0 from rfl] at hw346_3)
      (try rw [Addr.add_zero'] at hw346_3)
      have hw346_2 := hx346_2
      (try rw [show ((0 : Int)).toNat = 0 from rfl] at hw346_2)
      (try rw [show 0 * 4 = 0 from rfl] at hw346_2)
      (try rw [Addr.add_zero'] at hw346_2)
      have hw346_1 := hx346_1
      (try rw [show ((0 : Int)).toNat = 0 from rfl] at hw346_1)
      (try rw [show 0 * 4 = 0 from rfl] at hw346_1)
      (try rw [Addr.add_zero'] at hw346_1)
      have hw346_0 := hx346_0
      (try rw [show ((0 : Int)).toNat = 0 from rfl] at hw346_0)
      (try rw [show 0 * 4 = 0 from rfl] at hw346_0)
      (try rw [Addr.add_zero'] at hw346_0)
      cases e346
      have qi346 : (0 < l0_3.length) = True := eq_true (by omega)
      (try rw [show ((0 : Int)).toNat = 0 from rfl] at hx346_0)
      (try rw [show 0 * 4 = 0 from rfl] at hx346_0)
      (try rw [Addr.add_zero'] at hx346_0)
      (try rw [show ((0 : Int)).toNat = 0 from rfl] at hx346_1)
      (try rw [show 0 * 4 = 0 from rfl] at hx346_1)
      (try rw [Addr.add_zero'] at hx346_1)
      (try rw [show ((0 : Int)).toNat = 0 from rfl] at hx346_2)
      (try rw [show 0 * 4 = 0 from rfl] at hx346_2)
      (try rw [Addr.add_zero'] at hx346_2)
      (try rw [show ((0 : Int)).toNat = 0 from rfl] at hx346_3)
      (try rw [show 0 * 4 = 0 from rfl] at hx346_3)
      (try rw [Addr.add_zero'] at hx346_3)
      replace hx346_0 := (HB.out.cell (zS w _ hx346_0)).trans hx346_0
      replace hx346_1 := (HB.out.cell (zS w _ hx346_1)).trans hx346_1
      replace hx346_2 := (HB.out.cell (zS w _ hx346_2)).trans hx346_2
      replace hx346_3 := (HB.out.cell (zS w _ hx346_3)).trans hx346_3
      have HR346_3 := zG hi346_3
      have HC346_3 := zG hl346_3
      clear hi346_3 hl346_3
      replace p346 := eq_true p346
      replace q346 := eq_true q346
      have p347 : 0 ≤ (0 : Int) := (by omega)
      have q347 : 0 < (l0_3.length : Int) := zAA (by assumption)
      obtain ⟨ad347, A347_3, c347_3, e347, hx347_0, hx347_1, hx347_2, hx347_3, hl347_3, hi347_3⟩ := at_T68 HR0_3.out 0 p347 q347
      have hw347_3 := hx347_3
      (try rw [show ((0 : Int)).toNat = 0 from rfl] at hw347_3)
      (try rw [show 0 * 4 = 0 from rfl] at hw347_3)
      (try rw [Addr.add_zero'] at hw347_3)
      have hw347_2 := hx347_2
      (try rw [show ((0 : Int)).toNat = 0 from rfl] at hw347_2)
      (try rw [show 0 * 4 = 0 from rfl] at hw347_2)
      (try rw [Addr.add_zero'] at hw347_2)
      have hw347_1 := hx347_1
      (try rw [show ((0 : Int)).toNat = 0 from rfl] at hw347_1)
      (try rw [show 0 * 4 = 0 from rfl] at hw347_1)
      (try rw [Addr.add_zero'] at hw347_1)
      have hw347_0 := hx347_0
      (try rw [show ((0 : Int)).toNat = 0 from rfl] at hw347_0)
      (try rw [show 0 * 4 = 0 from rfl] at hw347_0)
      (try rw [Addr.add_zero'] at hw347_0)
      obtain rfl : ad346 = ad347 := (by injection e347)
      have qi347 : (0 < l0_3.length) = True := eq_true (by omega)
      (try rw [show ((0 : Int)).toNat = 0 from rfl] at hx347_0)
      (try rw [show 0 * 4 = 0 from rfl] at hx347_0)
      (try rw [Addr.add_zero'] at hx347_0)
      (try rw [show ((0 : Int)).toNat = 0 from rfl] at hx347_1)
      (try rw [show 0 * 4 = 0 from rfl] at hx347_1)
      (try rw [Addr.add_zero'] at hx347_1)
      (try rw [show ((0 : Int)).toNat = 0 from rfl] at hx347_2)
      (try rw [show 0 * 4 = 0 from rfl] at hx347_2)
      (try rw [Addr.add_zero'] at hx347_2)
      (try rw [show ((0 : Int)).toNat = 0 from rfl] at hx347_3)
      (try rw [show 0 * 4 = 0 from rfl] at hx347_3)
      (try rw [Addr.add_zero'] at hx347_3)
      replace hx347_0 := (HB.out.cell (zS w _ hx347_0)).trans hx347_0
      replace hx347_1 := (HB.out.cell (zS w _ hx347_1)).trans hx347_1
      replace hx347_2 := (HB.out.cell (zS w _ hx347_2)).trans hx347_2
      replace hx347_3 := (HB.out.cell (zS w _ hx347_3)).trans hx347_3
      have HR347_3 := zG hi347_3
      have HC347_3 := zG hl347_3
      clear hi347_3 hl347_3
      replace p347 := eq_true p347
      replace q347 := eq_true q347
      have ea_ := Option.some.inj (hx346_3.symm.trans hx347_3)
      injection ea_ with ea_ en_ ec_
      subst ea_
      subst ec_
      clear en_
      have p349 : 0 ≤ (1 : Int) := (by omega)
      have q349 : 1 < (l0_3.length : Int) := zAA (by assumption)
      obtain ⟨ad349, A349_3, c349_3, e349, hx349_0, hx349_1, hx349_2, hx349_3, hl349_3, hi349_3⟩ := at_T68 HR0_3.out 1 p349 q349
      have hw349_3 := hx349_3
      (try rw [show ((1 : Int)).toNat = 1 from rfl] at hw349_3)
      (try rw [show 1 * 4 = 4 from rfl] at hw349_3)
      (try simp only [Nat.reduceMul, Nat.reduceEqDiff, Go.Addr.add, ↓reduceIte] at hw349_3)
      have hw349_2 := hx349_2
      (try rw [show ((1 : Int)).toNat = 1 from rfl] at hw349_2)
      (try rw [show 1 * 4 = 4 from rfl] at hw349_2)
      (try simp only [Nat.reduceMul, Nat.reduceEqDiff, Go.Addr.add, ↓reduceIte] at hw349_2)
      have hw349_1 := hx349_1
      (try rw [show ((1 : Int)).toNat = 1 from rfl] at hw349_1)
      (try rw [show 1 * 4 = 4 from rfl] at hw349_1)
      (try simp only [Nat.reduceMul, Nat.reduceEqDiff, Go.Addr.add, ↓reduceIte] at hw349_1)
      have hw349_0 := hx349_0
      (try rw [show ((1 : Int)).toNat = 1 from rfl] at hw349_0)
      (try rw [show 1 * 4 = 4 from rfl] at hw349_0)
      (try simp only [Nat.reduceMul, Nat.reduceEqDiff, Go.Addr.add, ↓reduceIte] at hw349_0)
      obtain rfl : ad346 = ad349 := (by injection e349)
      (try simp only [show (1 : Int).toNat = 1 from rfl, Nat.reduceMul, Nat.reduceEqDiff, Go.Addr.add, ↓reduceIte] at hx349_0)
      (try simp only [show (1 : Int).toNat = 1 from rfl, Nat.reduceMul, Nat.reduceEqDiff, Go.Addr.add, ↓reduceIte] at hx349_1)
      (try simp only [show (1 : Int).toNat = 1 from rfl, Nat.reduceMul, Nat.reduceEqDiff, Go.Addr.add, ↓reduceIte] at hx349_2)
      (try simp only [show (1 : Int).toNat = 1 from rfl, Nat.reduceMul, Nat.reduceEqDiff, Go.Addr.add, ↓reduceIte] at hx349_3)
      have qi349 : (1 < l0_3.length) = True := eq_true (by omega)
      (try rw [show ((1 : Int)).toNat = 1 from rfl] at hx349_0)
      (try rw [show 1 * 4 = 4 from rfl] at hx349_0)
      (try rw [show ((1 : Int)).toNat = 1 from rfl] at hx349_1)
      (try rw [show 1 * 4 = 4 from rfl] at hx349_1)
      (try rw [show ((1 : Int)).toNat = 1 from rfl] at hx349_2)
      (try rw [show 1 * 4 = 4 from rfl] at hx349_2)
      (try rw [show ((1 : Int)).toNat = 1 from rfl] at hx349_3)
      (try rw [show 1 * 4 = 4 from rfl] at hx349_3)
      replace hx349_0 := (HB.out.cell (zS w _ hx349_0)).trans hx349_0
      replace hx349_1 := (HB.out.cell (zS w _ hx349_1)).trans hx349_1
      replace hx349_2 := (HB.out.cell (zS w _ hx349_2)).trans hx349_2
      replace hx349_3 := (HB.out.cell (zS w _ hx349_3)).trans hx349_3
      have HR349_3 := zG hi349_3
      have HC349_3 := zG hl349_3
      clear hi349_3 hl349_3
      replace p349 := eq_true p349
      replace q349 := eq_true q349
      refine start_ (n := 21) (S := fun w' => w'.cell? ⟨gb345, 0, none⟩ = some (.int .i64 a0_0) ∧ w'.cell? ⟨gb345, 1, none⟩ = some (.int .i64 a0_1) ∧ w'.cell? ⟨gb345, 2, none⟩ = some (.string a0_2) ∧ w'.cell? ⟨gb345, 3, none⟩ = some (.slice (some ad346) l0_3.length c0_3) ∧ w'.cell? ad346 = some (.int .i64 ((rd_T68 l0_3 0).f0)) ∧ w'.cell? ⟨ad346.block, ad346.off + 1, none⟩ = some (.int .i64 ((rd_T68 l0_3 0).f1)) ∧ w'.cell? ⟨ad346.block, ad346.off + 2, none⟩ = some (.string ((rd_T68 l0_3 0).f2)) ∧ w'.cell? ⟨ad346.block, ad346.off + 3, none⟩ = some (.slice A346_3 ((rd_T68 l0_3 0).f3).length c346_3) ∧ w'.cell? ad346 = some (.int .i64 ((rd_T68 l0_3 0).f0)) ∧ w'.cell? ⟨ad346.block, ad346.off + 1, none⟩ = some (.int .i64 ((rd_T68 l0_3 0).f1)) ∧ w'.cell? ⟨ad346.block, ad346.off + 2, none⟩ = some (.string ((rd_T68 l0_3 0).f2)) ∧ w'.cell? ⟨ad346.block, ad346.off + 3, none⟩ = some (.slice A346_3 ((rd_T68 l0_3 0).f3).length c346_3) ∧ w'.cell? ⟨ad346.block, ad346.off + 4, none⟩ = some (.int .i64 ((rd_T68 l0_3 1).f0)) ∧ w'.cell? ⟨ad346.block, ad346.off + 4 + 1, none⟩ = some (.int .i64 ((rd_T68 l0_3 1).f1)) ∧ w'.cell? ⟨ad346.block, ad346.off + 4 + 2, none⟩ = some (.string ((rd_T68 l0_3 1).f2)) ∧ w'.cell? ⟨ad346.block, ad346.off + 4 + 3, none⟩ = some (.slice A349_3 ((rd_T68 l0_3 1).f3).length c349_3)) (ds := []) #[false, false, false, false, false, false, false, false, false, false, false, false, false, false, false, false, false, false, false, false, false] (by kernel_rfl) rfl rfl ⟨zL BK345.out 0, zL BK345.out 1, zL BK345.out 2, zL BK345.out 3, ((HB.out.cell (zS w _ hw346_0)).trans hw346_0), ((HB.out.cell (zS w _ hw346_1)).trans hw346_1), ((HB.out.cell (zS w _ hw346_2)).trans hw346_2), ((HB.out.cell (zS w _ hw346_3)).trans hw346_3), ((HB.out.cell (zS w _ hw347_0)).trans hw347_0), ((HB.out.cell (zS w _ hw347_1)).trans hw347_1), ((HB.out.cell (zS w _ hw347_2)).trans hw347_2), ((HB.out.cell (zS w _ hw347_3)).trans hw347_3), ((HB.out.cell (zS w _ hw349_0)).trans hw349_0), ((HB.out.cell (zS w _ hw349_1)).trans hw349_1), ((HB.out.cell (zS w _ hw349_2)).trans hw349_2), ((HB.out.cell (zS w _ hw349_3)).trans hw349_3)⟩ (fun hHeld => ?_); refine with_tabW hammockref05_typ.tab2 hammockref05_typ.bits2 (fun HT_ HW_ => ?_)
      generalize w11.drew = w13 at BK345 HB HR346_3 HR347_3 HR349_3 hx346_0 hx346_1 hx346_2 hx346_3 hx347_0 hx347_1 hx347_2 hx347_3 hx349_0 hx349_1 hx349_2 hx349_3 hHeld ⊢
      refine pure_ (i := 0) (N := some 10) (v := ?_) (a' := ?_) (zBM 21 1) rfl rfl (any_of HT_.out (by kernel_rfl)) (fun _ _ _ h => h) (Or.inl ⟨by rfl, ?_⟩) ?_ ?_
      rotate_left
      ·intro w'
       go_simp
       with_reducible rfl
      rotate_left
      ·simp only [Act.put, zO, zP, zR, i64_w, i32_w]
       rfl
      refine pure_ (i := 4) (N := some 14) (v := ?_) (a' := ?_) (zBM 21 17) rfl rfl (any_of HT_.out (by kernel_rfl)) (fun _ _ _ h => h) (Or.inl ⟨by rfl, ?_⟩) ?_ ?_
      rotate_left
      ·intro w'
       go_simp
       with_reducible rfl
      rotate_left
      ·simp only [Act.put, zO, zP, zR, i64_w, i32_w]
       rfl
      refine pure_ (i := 12) (N := some 22) (v := ?_) (a' := ?_) (zBM 21 4113) rfl rfl (any_of HT_.out (by kernel_rfl)) (fun _ _ _ h => h) (Or.inl ⟨by rfl, ?_⟩) ?_ ?_
      rotate_left
      ·intro w'
       go_simp
       with_reducible rfl
      rotate_left
      ·simp only [Act.put, zO, zP, zR, i64_w, i32_w]
       rfl
      refine pure_ (i := 18) (N := some 28) (v := ?_) (a' := ?_) (zBM 21 266257) rfl rfl (any_of HT_.out (by kernel_rfl)) (fun _ _ _ h => h) (Or.inl ⟨by rfl, ?_⟩) ?_ ?_
      rotate_left
      ·intro w'
       go_simp
       with_reducible rfl
      rotate_left
      ·simp only [Act.put, zO, zP, zR, i64_w, i32_w]
       rfl
      refine take_ (i := 1) (N := some 11) (v := ?_) (a' := ?_) (zBM 21 266259) rfl rfl (take_ofW HT_.out HW_.out (by kernel_rfl)) (fun _ _ _ h => h) (Or.inl ⟨by rfl, ?_⟩) hHeld ?_ ?_
      rotate_left
      ·rintro w' ⟨s0, s1, s2, s3, s4, s5, s6, s7, s8, s9, s10, s11, s12, s13, s14, s15⟩
       go_simp
       with_reducible rfl
      rotate_left
      ·simp only [Act.put, zO, zP, zR, i64_w, i32_w]
       rfl
      refine pure_ (i := 2) (N := some 12) (v := ?_) (a' := ?_) (zBM 21 266263) rfl rfl (any_of HT_.out (by kernel_rfl)) (fun _ _ _ h => h) (Or.inl ⟨by rfl, ?_⟩) ?_ ?_
      rotate_left
      ·intro w'
       go_simp
       with_reducible rfl
      rotate_left
      ·simp only [Act.put, zO, zP, zR, i64_w, i32_w]
       rfl
      refine take_ (i := 3) (N := some 13) (v := ?_) (a' := ?_) (zBM 21 266271) rfl rfl (take_ofW HT_.out HW_.out (by kernel_rfl)) (fun _ _ _ h => h) (Or.inl ⟨by rfl, ?_⟩) hHeld ?_ ?_
      rotate_left
      ·rintro w' ⟨s0, s1, s2, s3, s4, s5, s6, s7, s8, s9, s10, s11, s12, s13, s14, s15⟩
       go_simp
       with_reducible rfl
      rotate_left
      ·simp only [Act.put, zO, zP, zR, i64_w, i32_w]
       rfl
      refine take_ (i := 5) (N := some 15) (v := ?_) (a' := ?_) (zBM 21 266303) rfl rfl (take_ofW HT_.out HW_.out (by kernel_rfl)) (fun _ _ _ h => h) (Or.inl ⟨by rfl, ?_⟩) hHeld ?_ ?_
      rotate_left
      ·rintro w' ⟨s0, s1, s2, s3, s4, s5, s6, s7, s8, s9, s10, s11, s12, s13, s14, s15⟩
       go_simp
       with_reducible rfl
      rotate_left
      ·simp only [Act.put, zO, zP, zR, i64_w, i32_w]
       rfl
      refine pure_ (i := 6) (N := some 16) (v := ?_) (a' := ?_) (zBM 21 266367) rfl rfl (any_of HT_.out (by kernel_rfl)) (fun _ _ _ h => h) (Or.inl ⟨by rfl, ?_⟩) ?_ ?_
      rotate_left
      ·intro w'
       go_simp
       with_reducible rfl
      rotate_left
      ·simp only [Act.put, zO, zP, zR, i64_w, i32_w]
       rfl
      refine pure_ (i := 7) (N := some 17) (v := ?_) (a' := ?_) (zBM 21 266495) rfl rfl (any_of HT_.out (by kernel_rfl)) (fun _ _ _ h => h) (Or.inl ⟨by rfl, ?_⟩) ?_ ?_
      rotate_left
      ·intro w'
       go_simp
       with_reducible rfl
      rotate_left
      ·simp only [Act.put, zO, zP, zR, i64_w, i32_w]
       rfl
      refine take_ (i := 8) (N := some 18) (v := ?_) (a' := ?_) (zBM 21 266751) rfl rfl (take_ofW HT_.out HW_.out (by kernel_rfl)) (fun _ _ _ h => h) (Or.inl ⟨by rfl, ?_⟩) hHeld ?_ ?_
      rotate_left
      ·rintro w' ⟨s0, s1, s2, s3, s4, s5, s6, s7, s8, s9, s10, s11, s12, s13, s14, s15⟩
       go_simp
       with_reducible rfl
      rotate_left
      ·simp only [Act.put, zO, zP, zR, i64_w, i32_w]
       rfl
      refine pure_ (i := 9) (N := some 19) (v := ?_) (a' := ?_) (zBM 21 267263) rfl rfl (any_of HT_.out (by kernel_rfl)) (fun _ _ _ h => h) (Or.inl ⟨by rfl, ?_⟩) ?_ ?_
      rotate_left
      ·intro w'
       go_simp
       with_reducible rfl
      rotate_left
      ·simp only [Act.put, zO, zP, zR, i64_w, i32_w]
       rfl
      refine take_ (i := 13) (N := some 23) (v := ?_) (a' := ?_) (zBM 21 275455) rfl rfl (take_ofW HT_.out HW_.out (by kernel_rfl)) (fun _ _ _ h => h) (Or.inl ⟨by rfl, ?_⟩) hHeld ?_ ?_
      rotate_left
      ·rintro w' ⟨s0, s1, s2, s3, s4, s5, s6, s7, s8, s9, s10, s11, s12, s13, s14, s15⟩
       go_simp
       with_reducible rfl
      rotate_left
      ·simp only [Act.put, zO, zP, zR, i64_w, i32_w]
       rfl
      refine pure_ (i := 14) (N := some 24) (v := ?_) (a' := ?_) (zBM 21 291839) rfl rfl (any_of HT_.out (by kernel_rfl)) (fun _ _ _ h => h) (Or.inl ⟨by rfl, ?_⟩) ?_ ?_
      rotate_left
      ·intro w'
       go_simp
       with_reducible rfl
      rotate_left
      ·simp only [Act.put, zO, zP, zR, i64_w, i32_w]
       rfl
      refine take_ (i := 15) (N := some 25) (v := ?_) (a' := ?_) (zBM 21 324607) rfl rfl (take_ofW HT_.out HW_.out (by kernel_rfl)) (fun _ _ _ h => h) (Or.inl ⟨by rfl, ?_⟩) hHeld ?_ ?_
      rotate_left
      ·rintro w' ⟨s0, s1, s2, s3, s4, s5, s6, s7, s8, s9, s10, s11, s12, s13, s14, s15⟩
       go_simp
       with_reducible rfl
      rotate_left
      ·simp only [Act.put, zO, zP, zR, i64_w, i32_w]
       rfl
      refine one_ (i := 10) (N := some 20) (zBM 21 325631) rfl rfl (one_of HT_.out (by kernel_rfl)) (by decide) (fun K hK => ?_)
      refine goes_ Tryd.func80 (by kernel_rfl) rfl #[.agg #[.int .i64 ((rd_T68 l0_3 0).f0), .int .i64 ((rd_T68 l0_3 0).f1), .string ((rd_T68 l0_3 0).f2), .slice A346_3 ((rd_T68 l0_3 0).f3).length c346_3], .bool (((rd_T68 l0_3 0).f0) == 3)] (by rfl) rfl rfl (by (try simp only [List.map_toArray, List.map_cons, List.map_nil]); first | done | rfl | (simp only [List.length_drop, List.length_take]; rfl)) ?_
      with_reducible refine (ih k (by omega) ((rd_T68 l0_3 0).f0) ((rd_T68 l0_3 0).f1) ((rd_T68 l0_3 0).f2) _ _ ((rd_T68 l0_3 0).f3) (((rd_T68 l0_3 0).f0) == 3) t348 _ ?side1 ?side2 A5.out).mono ?_
      (case side1 => exact zAC HR346_3.out HB.out)
      (case side2 => exact HC346_3.out)
      rintro e w14 ⟨rfl, hb⟩
      refine ⟨_, rfl, ?_⟩
      have n0_ := zG (zK (g := gb345) BK345.out hb)
      have n1_ := zG (zE HB.out hb)
      clear BK345
      clear HB
      have BK345 := n0_
      have HB := n1_
      clear n0_ n1_
      (try clear hb)
      (try clear hb2)
      (try clear hk)
      (try clear hi)
      refine hK.out _ _ ⟨zL BK345.out 0, zL BK345.out 1, zL BK345.out 2, zL BK345.out 3, ((HB.out.cell (zS w _ hw346_0)).trans hw346_0), ((HB.out.cell (zS w _ hw346_1)).trans hw346_1), ((HB.out.cell (zS w _ hw346_2)).trans hw346_2), ((HB.out.cell (zS w _ hw346_3)).trans hw346_3), ((HB.out.cell (zS w _ hw347_0)).trans hw347_0), ((HB.out.cell (zS w _ hw347_1)).trans hw347_1), ((HB.out.cell (zS w _ hw347_2)).trans hw347_2), ((HB.out.cell (zS w _ hw347_3)).trans hw347_3), ((HB.out.cell (zS w _ hw349_0)).trans hw349_0), ((HB.out.cell (zS w _ hw349_1)).trans hw349_1), ((HB.out.cell (zS w _ hw349_2)).trans hw349_2), ((HB.out.cell (zS w _ hw349_3)).trans hw349_3)⟩ (fun hHeld => ?_)
      clear hK K
      refine norm_ (a' := ?_) ?_ ?_
      rotate_left
      ·show Act.put _ (some 20) _ = _
       simp only [Act.put, zO, zP, zR, i64_w, i32_w]
       rfl
      refine pure_ (i := 11) (N := some 21) (v := ?_) (a' := ?_) (zBM 21 327679) rfl rfl (any_of HT_.out (by kernel_rfl)) (fun _ _ _ h => h) (Or.inl ⟨by rfl, ?_⟩) ?_ ?_
      rotate_left
      ·intro w'
       go_simp
       with_reducible rfl
      rotate_left
      ·simp only [Act.put, zO, zP, zR, i64_w, i32_w]
       rfl
      refine one_ (i := 16) (N := some 26) (zBM 21 393215) rfl rfl (one_of HT_.out (by kernel_rfl)) (by decide) (fun K hK => ?_)
      refine goes_ Tryd.func80 (by kernel_rfl) rfl #[.agg #[.int .i64 ((rd_T68 l0_3 1).f0), .int .i64 ((rd_T68 l0_3 1).f1), .string ((rd_T68 l0_3 1).f2), .slice A349_3 ((rd_T68 l0_3 1).f3).length c349_3], .bool false] (by rfl) rfl rfl (by (try simp only [List.map_toArray, List.map_cons, List.map_nil]); first | done | rfl | (simp only [List.length_drop, List.length_take]; rfl)) ?_
      with_reducible refine (ih k (by omega) ((rd_T68 l0_3 1).f0) ((rd_T68 l0_3 1).f1) ((rd_T68 l0_3 1).f2) _ _ ((rd_T68 l0_3 1).f3) false t350 _ ?side1 ?side2 A8.out).mono ?_
      (case side1 => exact zAC HR349_3.out HB.out)
      (case side2 => exact HC349_3.out)
      rintro e w15 ⟨rfl, hb⟩
      refine ⟨_, rfl, ?_⟩
      have n0_ := zG (zK (g := gb345) BK345.out hb)
      have n1_ := zG (zE HB.out hb)
      clear BK345
      clear HB
      have BK345 := n0_
      have HB := n1_
      clear n0_ n1_
      (try clear hb)
      (try clear hb2)
      (try clear hk)
      (try clear hi)
      refine hK.out _ _ ⟨zL BK345.out 0, zL BK345.out 1, zL BK345.out 2, zL BK345.out 3, ((HB.out.cell (zS w _ hw346_0)).trans hw346_0), ((HB.out.cell (zS w _ hw346_1)).trans hw346_1), ((HB.out.cell (zS w _ hw346_2)).trans hw346_2), ((HB.out.cell (zS w _ hw346_3)).trans hw346_3), ((HB.out.cell (zS w _ hw347_0)).trans hw347_0), ((HB.out.cell (zS w _ hw347_1)).trans hw347_1), ((HB.out.cell (zS w _ hw347_2)).trans hw347_2), ((HB.out.cell (zS w _ hw347_3)).trans hw347_3), ((HB.out.cell (zS w _ hw349_0)).trans hw349_0), ((HB.out.cell (zS w _ hw349_1)).trans hw349_1), ((HB.out.cell (zS w _ hw349_2)).trans hw349_2), ((HB.out.cell (zS w _ hw349_3)).trans hw349_3)⟩ (fun hHeld => ?_)
      clear hK K
      refine norm_ (a' := ?_) ?_ ?_
      rotate_left
      ·show Act.put _ (some 26) _ = _
       simp only [Act.put, zO, zP, zR, i64_w, i32_w]
       rfl
      refine pure_ (i := 17) (N := some 27) (v := ?_) (a' := ?_) (zBM 21 524287) rfl rfl (any_of HT_.out (by kernel_rfl)) (fun _ _ _ h => h) (Or.inl ⟨by rfl, ?_⟩) ?_ ?_
      rotate_left
      ·intro w'
       go_simp
       with_reducible rfl
      rotate_left
      ·simp only [Act.put, zO, zP, zR, i64_w, i32_w]
       rfl
      refine one_ (i := 19) (N := some 29) (zBM 21 1048575) rfl rfl (one_of HT_.out (by kernel_rfl)) (by decide) (fun K hK => ?_)
      refine goes_ Tryd.func85 (by kernel_rfl) rfl #[.string ((t348 ++ (⟨#[32, 45, 62, 32]⟩ : ByteArray)) ++ t350), .bool a1] (by rfl) rfl rfl (by (try simp only [List.map_toArray, List.map_cons, List.map_nil]); first | done | rfl | (simp only [List.length_drop, List.length_take]; rfl)) ?_
      with_reducible refine (hammockref05_wrap.calls ((t348 ++ (⟨#[32, 45, 62, 32]⟩ : ByteArray)) ++ t350) a1 t351 _ A10.out).mono ?_
      rintro e w' ⟨rfl, ⟨nd, rfl⟩⟩
      refine ⟨_, rfl, ?_⟩
      refine hK.out _ _ ⟨zL BK345.out 0, zL BK345.out 1, zL BK345.out 2, zL BK345.out 3, ((HB.out.cell (zS w _ hw346_0)).trans hw346_0), ((HB.out.cell (zS w _ hw346_1)).trans hw346_1), ((HB.out.cell (zS w _ hw346_2)).trans hw346_2), ((HB.out.cell (zS w _ hw346_3)).trans hw346_3), ((HB.out.cell (zS w _ hw347_0)).trans hw347_0), ((HB.out.cell (zS w _ hw347_1)).trans hw347_1), ((HB.out.cell (zS w _ hw347_2)).trans hw347_2), ((HB.out.cell (zS w _ hw347_3)).trans hw347_3), ((HB.out.cell (zS w _ hw349_0)).trans hw349_0), ((HB.out.cell (zS w _ hw349_1)).trans hw349_1), ((HB.out.cell (zS w _ hw349_2)).trans hw349_2), ((HB.out.cell (zS w _ hw349_3)).trans hw349_3)⟩ (fun hHeld => ?_)
      clear hK K
      refine norm_ (a' := ?_) ?_ ?_
      rotate_left
      ·show Act.put _ (some 29) _ = _
       simp only [Act.put, zO, zP, zR, i64_w, i32_w]
       rfl
      refine pure_ (i := 20) (N := some 4) (v := ?_) (a' := ?_) (zBM 21 2097151) rfl rfl (any_of HT_.out (by kernel_rfl)) (fun _ _ _ h => h) (Or.inl ⟨by rfl, ?_⟩) ?_ ?_
      rotate_left
      ·intro w'
       go_simp
       with_reducible rfl
      rotate_left
      ·simp only [Act.put, zO, zP, zR, i64_w, i32_w]
       rfl
      refine done_ (done_of HT_.out (by kernel_rfl)) ?_
      try go_wp2
      go_ret
      exact ⟨by first | rfl | (simp [errW_none, errW_some] <;> rfl) | (simp [*, errW_none, errW_some] <;> rfl), by repeat (first | (with_reducible first | exact HB.out | apply zA | apply zB | apply zC | refine zD ?_ GE345.out) | exact HB.out)⟩
     ·rw [if_neg c9] at H
      exact absurd H (by simp)
    ·rw [if_neg c7] at H
     exact absurd H (by simp)
   ·rw [if_neg c6] at H
    exact absurd H (by simp)
  ·rw [if_neg c4] at H
   exact absurd H (by simp)
 ·rw [if_neg c3] at H
  have c3b0 : (a0_0 == 3) = false := zY c3
  have c3b1 : (a0_0 != 3) = true := zZ c3
  have HC16 := zG H
  clear H
  go_enter Tryd.func80, Tryd.ntmps80
  go_upto_region 3 with (first | ((with_reducible refine gate_dst (N := 2) rfl ?_); (try (refine gate_guard (by rfl) ?_; dsimp only)); refine box_event ?hg (N := 2) ?hd (cs := #[.int .i64 a0_0, .int .i64 a0_1, .string a0_2, .slice A0_3 l0_3.length c0_3]) (t := 68) ?hr ?_; (case hd => rfl); (case hg => rfl); (case hr => first | (go_simp; done) | (go_simp; rfl)); intro gb345 hg w17 hbox hb; have n0_ := zG (zE HB.out hb); have n1_ := zG (hbox); have n2_ := zG ((by rw [hg]; exact (zF HB.out) : w.heap.size ≤ gb345)); have n3_ := n2_; clear HB; have HB := n0_; have BK345 := n1_; have GW345 := n2_; have GE345 := n3_; clear n0_ n1_ n2_ n3_; clear hb hbox hg; obtain ⟨hcz18_0, hcz18_1, hcz18_2, hcz18_3⟩ := zN BK345.out; have hfz18_0 := zM BK345.out 0; have hfz18_1 := zM BK345.out 1; have hfz18_2 := zM BK345.out 2; have hfz18_3 := zM BK345.out 3))
  (try simp only [Act.put, zO, zP, zR])
  go_cut [38] (fun v38 wc => ∃ (kq : Nat) (x38_15 : Bool), v38 = .bool x38_15 ∧ Aside0 (hammockref05_typ.j0 kq a1 x38_15 a0_0 a0_1 a0_2 l0_3 = some r) ∧ Aside0 (kq ≤ k) ∧ Aside0 (wc.heap[gb345]? = some (.cells #[.int .i64 a0_0, .int .i64 a0_1, .string a0_2, (.slice A0_3 l0_3.length c0_3)] 68 (0, 0))) ∧ Aside0 (Below w.heap.size w wc))
  case first =>
   have H := HC16.out
   clear HC16
   by_cases c19 : a0_2.toList = ([91, 93] : List UInt8)
   ·rw [if_pos c19] at H
    have c19b0 : (a0_2.toList == ([91, 93] : List UInt8)) = true := zW c19
    have c19b1 : (a0_2.toList != ([91, 93] : List UInt8)) = false := zX c19
    clear c19
    (first | rw [c19b0] | (simp only [i64_w, i32_w]; rw [c19b0]) | skip)
    have H' := zG H
    clear H
    obtain ⟨hcz20_0, hcz20_1, hcz20_2, hcz20_3, hfz20_0, hfz20_1, hfz20_2, hfz20_3⟩ := zQ BK345.out
    go_wp2
    go_meet
    case rel => exact ⟨_, (((l0_3.length : Int) == 1)), (by first | rfl | (simp; done) | (simp [*]; done)), H', ⟨by first | omega | exact Nat.le_refl _⟩, ⟨BK345.out⟩, ⟨HB.out⟩⟩
   ·rw [if_neg c19] at H
    have c19b0 : (a0_2.toList == ([91, 93] : List UInt8)) = false := zY c19
    have c19b1 : (a0_2.toList != ([91, 93] : List UInt8)) = true := zZ c19
    (first | rw [c19b0] | (simp only [i64_w, i32_w]; rw [c19b0]) | skip)
    have H' := zG H
    clear H
    obtain ⟨hcz21_0, hcz21_1, hcz21_2, hcz21_3, hfz21_0, hfz21_1, hfz21_2, hfz21_3⟩ := zQ BK345.out
    go_wp2
    go_meet
    case rel => exact ⟨_, (false), (by first | rfl | (simp; done) | (simp [*]; done)), H', ⟨by first | omega | exact Nat.le_refl _⟩, ⟨BK345.out⟩, ⟨HB.out⟩⟩
  case rest =>
   clear HC16
   try clear c1
   try clear p2
   try clear c3
   try clear c3b0
   try clear c3b1
   try clear p3
   try clear q3
   try clear hx3
   try clear qi3
   try clear c4
   try clear c4b0
   try clear c4b1
   try clear c6
   try clear c6b0
   try clear c6b1
   try clear c6b2
   try clear c7
   try clear c7b0
   try clear c7b1
   try clear c8
   try clear c9
   try clear c9b0
   try clear c9b1
   try clear c9b2
   try clear c19
   try clear c19b0
   try clear c19b1
   try clear hcz12_0
   try clear hcz12_1
   try clear hcz12_2
   try clear hcz12_3
   try clear hcz18_0
   try clear hcz18_1
   try clear hcz18_2
   try clear hcz18_3
   try clear hcz20_0
   try clear hcz20_1
   try clear hcz20_2
   try clear hcz20_3
   try clear hcz21_0
   try clear hcz21_1
   try clear hcz21_2
   try clear hcz21_3
   try clear hfz12_0
   try clear hfz12_1
   try clear hfz12_2
   try clear hfz12_3
   try clear hfz18_0
   try clear hfz18_1
   try clear hfz18_2
   try clear hfz18_3
   try clear hfz20_0
   try clear hfz20_1
   try clear hfz20_2
   try clear hfz20_3
   try clear hfz21_0
   try clear hfz21_1
   try clear hfz21_2
   try clear hfz21_3
   try clear hx346_0
   try clear hx346_1
   try clear hx346_2
   try clear hx346_3
   try clear hx347_0
   try clear hx347_1
   try clear hx347_2
   try clear hx347_3
   try clear hx349_0
   try clear hx349_1
   try clear hx349_2
   try clear hx349_3
   try clear p346
   try clear p347
   try clear p349
   try clear q346
   try clear q347
   try clear q349
   obtain ⟨kq, x38_15, rfl, HA, HJ15, BK345, HB⟩ := hcut
   cases kq with
   | zero => exact absurd HA.out (by simp [hammockref05_typ.j0])
   | succ kj15 =>
    have H := HA.out
    clear HA
    simp only [hammockref05_typ.j0] at H
    by_cases c22 : x38_15 = true
    ·subst c22
     have H1 : (if 0 < (l0_3.length : Int) then ((hammockref05_typ.f kj15 ((rd_T68 l0_3 0).f0) ((rd_T68 l0_3 0).f1) ((rd_T68 l0_3 0).f2) ((rd_T68 l0_3 0).f3) false).bind fun t353 => (if 1 + t353.size ≤ 9223372036854775807 then (if ((⟨#[91]⟩ : ByteArray) ++ t353).size + 1 ≤ 9223372036854775807 then (some (((⟨#[91]⟩ : ByteArray) ++ t353) ++ (⟨#[93]⟩ : ByteArray))) else (none)) else (none))) else (none)) = some r := by rw [if_pos rfl] at H; exact H
     clear H
     have H := H1
     clear H1
     by_cases c23 : 0 < (l0_3.length : Int)
     ·rw [if_pos c23] at H
      have c23b0 : decide (0 < (l0_3.length : Int)) = true := zU c23
      have c23b1 : decide (0 < l0_3.length) = true := zU (by omega)
      clear c23
      replace H := zT H
      obtain ⟨t353, A240, H⟩ := H
      replace H : (if 1 + t353.size ≤ 9223372036854775807 then (if ((⟨#[91]⟩ : ByteArray) ++ t353).size + 1 ≤ 9223372036854775807 then (some (((⟨#[91]⟩ : ByteArray) ++ t353) ++ (⟨#[93]⟩ : ByteArray))) else (none)) else (none)) = some r := H
      have A24 := zG A240
      clear A240
      by_cases c25 : 1 + t353.size ≤ 9223372036854775807
      ·rw [if_pos c25] at H
       have c25b0 := eq_true c25
       have c25b1 : decide (1 + t353.size ≤ 9223372036854775807) = true := zU c25
       try have c25b2 : (9223372036854775807 < 1 + t353.size) = False := eq_false (Nat.not_lt.2 c25)
       by_cases c26 : ((⟨#[91]⟩ : ByteArray) ++ t353).size + 1 ≤ 9223372036854775807
       ·rw [if_pos c26] at H
        have c26b0 := eq_true c26
        have c26b1 : decide (((⟨#[91]⟩ : ByteArray) ++ t353).size + 1 ≤ 9223372036854775807) = true := zU c26
        try have c26b2 : (9223372036854775807 < ((⟨#[91]⟩ : ByteArray) ++ t353).size + 1) = False := eq_false (Nat.not_lt.2 c26)
        have ec26_ : ((⟨#[91]⟩ : ByteArray) ++ t353).size = 1 + t353.size := by rw [ByteArray.size_append]; rfl
        have c26b3 : (9223372036854775807 < 1 + t353.size + 1) = False := eq_false (by omega)
        have c26b4 : (1 + t353.size + 1 ≤ 9223372036854775807) = True := eq_true (by omega)
        obtain rfl := Option.some.inj H
        obtain ⟨hcz27_0, hcz27_1, hcz27_2, hcz27_3, hfz27_0, hfz27_1, hfz27_2, hfz27_3⟩ := zQ BK345.out
        have p352 : 0 ≤ (0 : Int) := (by omega)
        have q352 : 0 < (l0_3.length : Int) := zAA (by assumption)
        obtain ⟨ad352, A352_3, c352_3, e352, hx352_0, hx352_1, hx352_2, hx352_3, hl352_3, hi352_3⟩ := at_T68 HR0_3.out 0 p352 q352
        cases e352
        have qi352 : (0 < l0_3.length) = True := eq_true (by omega)
        (try rw [show ((0 : Int)).toNat = 0 from rfl] at hx352_0)
        (try rw [show 0 * 4 = 0 from rfl] at hx352_0)
        (try rw [Addr.add_zero'] at hx352_0)
        (try rw [show ((0 : Int)).toNat = 0 from rfl] at hx352_1)
        (try rw [show 0 * 4 = 0 from rfl] at hx352_1)
        (try rw [Addr.add_zero'] at hx352_1)
        (try rw [show ((0 : Int)).toNat = 0 from rfl] at hx352_2)
        (try rw [show 0 * 4 = 0 from rfl] at hx352_2)
        (try rw [Addr.add_zero'] at hx352_2)
        (try rw [show ((0 : Int)).toNat = 0 from rfl] at hx352_3)
        (try rw [show 0 * 4 = 0 from rfl] at hx352_3)
        (try rw [Addr.add_zero'] at hx352_3)
        replace hx352_0 := (HB.out.cell (zS w _ hx352_0)).trans hx352_0
        replace hx352_1 := (HB.out.cell (zS w _ hx352_1)).trans hx352_1
        replace hx352_2 := (HB.out.cell (zS w _ hx352_2)).trans hx352_2
        replace hx352_3 := (HB.out.cell (zS w _ hx352_3)).trans hx352_3
        have HR352_3 := zG hi352_3
        have HC352_3 := zG hl352_3
        clear hi352_3 hl352_3
        replace p352 := eq_true p352
        replace q352 := eq_true q352
        go_wp2_with (first | ((with_reducible refine gate_callee (f := 80) rfl ?_); refine goesL_ (some 43) rfl rfl Tryd.func80 (by kernel_rfl) rfl #[.agg #[.int .i64 ((rd_T68 l0_3 0).f0), .int .i64 ((rd_T68 l0_3 0).f1), .string ((rd_T68 l0_3 0).f2), .slice A352_3 ((rd_T68 l0_3 0).f3).length c352_3], .bool false] rfl (by (try simp only [List.map_toArray, List.map_cons, List.map_nil]); first | done | rfl | (simp only [List.length_drop, List.length_take]; rfl)) ?_; (with_reducible refine (ih kj15 (by have := HJ15.out; omega) ((rd_T68 l0_3 0).f0) ((rd_T68 l0_3 0).f1) ((rd_T68 l0_3 0).f2) _ _ ((rd_T68 l0_3 0).f3) false t353 _ ?side1 ?side2 A24.out).mono ?_); (case side1 => repeat (first | exact (zAC HR352_3.out HB.out) | (with_reducible refine zAE ?_ _) | (with_reducible refine zAF ?_ _) | (with_reducible refine zAG ?_))); (case side2 => exact HC352_3.out); rintro e w28 ⟨rfl, hb⟩; refine ⟨_, rfl, ?_⟩; have n0_ := zG (zK (g := gb345) (by (with_reducible repeat (first | refine zH ?_ _ | refine zI ?_ | refine zJ ?_ _)); exact BK345.out) hb); have n1_ := zG (zE (by repeat (first | (with_reducible first | exact HB.out | apply zA | apply zB | apply zC | refine zD ?_ GE345.out) | exact HB.out)) hb); clear BK345; clear HB; have BK345 := n0_; have HB := n1_; clear n0_ n1_; (try clear hb); (try clear hb2); (try clear hk); (try clear hi)))
        go_ret
        exact ⟨rfl, HB.out⟩
       ·rw [if_neg c26] at H
        exact absurd H (by simp)
      ·rw [if_neg c25] at H
       exact absurd H (by simp)
     ·rw [if_neg c23] at H
      exact absurd H (by simp)
    ·replace c22 := zAB c22
     subst c22
     have H1 : (hammockref05_typ.l0 kj15 a1 a0_2 0 a0_0 a0_1 a0_2 l0_3) = some r := by rw [if_neg (show ¬ (false = true) by decide)] at H; exact H
     clear H
     have H := H1
     clear H1
     have H' := zG H
     clear H
     obtain ⟨hcz29_0, hcz29_1, hcz29_2, hcz29_3, hfz29_0, hfz29_1, hfz29_2, hfz29_3⟩ := zQ BK345.out
     go_wp2
     go_loopg [5, 6] kj15 (fun kq v5 v6 w' => ∃ (x5_2 : ByteArray) (x6_2 : Int), v5 = .string x5_2 ∧ v6 = .int .i64 x6_2 ∧ Aside0 (hammockref05_typ.l0 kq a1 x5_2 x6_2 a0_0 a0_1 a0_2 l0_3 = some r) ∧ Aside0 (kq ≤ kj15) ∧ Aside0 (w'.heap[gb345]? = some (.cells #[.int .i64 a0_0, .int .i64 a0_1, .string a0_2, (.slice A0_3 l0_3.length c0_3)] 68 (0, 0))) ∧ Aside0 (Below w.heap.size w w'))
     case atStart => exact ⟨(a0_2), (0), (by first | rfl | (simp; done) | (simp [*]; done)), (by first | rfl | (simp; done) | (simp [*]; done)), H', ⟨Nat.le_refl _⟩, ⟨BK345.out⟩, ⟨HB.out⟩⟩
     case round =>
      clear H'
      try clear c1
      try clear c2
      try clear p2
      try clear c3
      try clear c3b0
      try clear c3b1
      try clear p3
      try clear q3
      try clear hx3
      try clear qi3
      try clear c4
      try clear c4b0
      try clear c4b1
      try clear c6
      try clear c6b0
      try clear c6b1
      try clear c6b2
      try clear c7
      try clear c7b0
      try clear c7b1
      try clear c8
      try clear c9
      try clear c9b0
      try clear c9b1
      try clear c9b2
      try clear c19
      try clear c19b0
      try clear c19b1
      try clear c22
      try clear c23
      try clear c23b0
      try clear c23b1
      try clear c25
      try clear c25b0
      try clear c25b1
      try clear c25b2
      try clear c26
      try clear c26b0
      try clear c26b1
      try clear c26b2
      try clear hcz12_0
      try clear hcz12_1
      try clear hcz12_2
      try clear hcz12_3
      try clear hcz18_0
      try clear hcz18_1
      try clear hcz18_2
      try clear hcz18_3
      try clear hcz20_0
      try clear hcz20_1
      try clear hcz20_2
      try clear hcz20_3
      try clear hcz21_0
      try clear hcz21_1
      try clear hcz21_2
      try clear hcz21_3
      try clear hcz27_0
      try clear hcz27_1
      try clear hcz27_2
      try clear hcz27_3
      try clear hcz29_0
      try clear hcz29_1
      try clear hcz29_2
      try clear hcz29_3
      try clear hfz12_0
      try clear hfz12_1
      try clear hfz12_2
      try clear hfz12_3
      try clear hfz18_0
      try clear hfz18_1
      try clear hfz18_2
      try clear hfz18_3
      try clear hfz20_0
      try clear hfz20_1
      try clear hfz20_2
      try clear hfz20_3
      try clear hfz21_0
      try clear hfz21_1
      try clear hfz21_2
      try clear hfz21_3
      try clear hfz27_0
      try clear hfz27_1
      try clear hfz27_2
      try clear hfz27_3
      try clear hfz29_0
      try clear hfz29_1
      try clear hfz29_2
      try clear hfz29_3
      try clear hx346_0
      try clear hx346_1
      try clear hx346_2
      try clear hx346_3
      try clear hx347_0
      try clear hx347_1
      try clear hx347_2
      try clear hx347_3
      try clear hx349_0
      try clear hx349_1
      try clear hx349_2
      try clear hx349_3
      try clear hx352_0
      try clear hx352_1
      try clear hx352_2
      try clear hx352_3
      try clear p2
      try clear p3
      try clear p346
      try clear p347
      try clear p349
      try clear p352
      try clear q3
      try clear q346
      try clear q347
      try clear q349
      try clear q352
      obtain ⟨x5_2, x6_2, rfl, rfl, HA, HK2, BK345, HB⟩ := hrel
      cases gk with
      | zero => exact absurd HA.out (by simp [hammockref05_typ.l0])
      | succ k2 =>
       have H := HA.out
       clear HA
       simp only [hammockref05_typ.l0] at H
       by_cases c30 : x6_2 < (l0_3.length : Int)
       ·rw [if_pos c30] at H
        have c30b0 : decide (x6_2 < (l0_3.length : Int)) = true := zU c30
        clear c30
        by_cases c31 : x5_2.size + 1 ≤ 9223372036854775807
        ·rw [if_pos c31] at H
         have c31b0 := eq_true c31
         have c31b1 : decide (x5_2.size + 1 ≤ 9223372036854775807) = true := zU c31
         try have c31b2 : (9223372036854775807 < x5_2.size + 1) = False := eq_false (Nat.not_lt.2 c31)
         by_cases c32 : 0 ≤ x6_2
         ·rw [if_pos c32] at H
          have c32b0 : decide (0 ≤ x6_2) = true := zU c32
          clear c32
          replace H := zT H
          obtain ⟨t355, A330, H⟩ := H
          replace H : (if (x5_2 ++ (⟨#[32]⟩ : ByteArray)).size + t355.size ≤ 9223372036854775807 then (hammockref05_typ.l0 k2 a1 ((x5_2 ++ (⟨#[32]⟩ : ByteArray)) ++ t355) (wrap64 (x6_2 + 1)) a0_0 a0_1 a0_2 l0_3) else (none)) = some r := H
          have A33 := zG A330
          clear A330
          by_cases c34 : (x5_2 ++ (⟨#[32]⟩ : ByteArray)).size + t355.size ≤ 9223372036854775807
          ·rw [if_pos c34] at H
           have c34b0 := eq_true c34
           have c34b1 : decide ((x5_2 ++ (⟨#[32]⟩ : ByteArray)).size + t355.size ≤ 9223372036854775807) = true := zU c34
           try have c34b2 : (9223372036854775807 < (x5_2 ++ (⟨#[32]⟩ : ByteArray)).size + t355.size) = False := eq_false (Nat.not_lt.2 c34)
           have ec34_ : (x5_2 ++ (⟨#[32]⟩ : ByteArray)).size = x5_2.size + 1 := by rw [ByteArray.size_append]; rfl
           have c34b3 : (9223372036854775807 < x5_2.size + 1 + t355.size) = False := eq_false (by omega)
           have c34b4 : (x5_2.size + 1 + t355.size ≤ 9223372036854775807) = True := eq_true (by omega)
           have H' := zG H
           clear H
           obtain ⟨hcz35_0, hcz35_1, hcz35_2, hcz35_3, hfz35_0, hfz35_1, hfz35_2, hfz35_3⟩ := zQ BK345.out
           have p354 : 0 ≤ (x6_2 : Int) := zAA (by assumption)
           have q354 : x6_2 < (l0_3.length : Int) := zAA (by assumption)
           obtain ⟨ad354, A354_3, c354_3, e354, hx354_0, hx354_1, hx354_2, hx354_3, hl354_3, hi354_3⟩ := at_T68 HR0_3.out x6_2 p354 q354
           cases e354
           replace hx354_0 := (HB.out.cell (zS w _ hx354_0)).trans hx354_0
           replace hx354_1 := (HB.out.cell (zS w _ hx354_1)).trans hx354_1
           replace hx354_2 := (HB.out.cell (zS w _ hx354_2)).trans hx354_2
           replace hx354_3 := (HB.out.cell (zS w _ hx354_3)).trans hx354_3
           have HR354_3 := zG hi354_3
           have HC354_3 := zG hl354_3
           clear hi354_3 hl354_3
           replace p354 := eq_true p354
           replace q354 := eq_true q354
           go_wp2_with (first | ((with_reducible refine gate_callee (f := 80) rfl ?_); refine goesL_ (some 62) rfl rfl Tryd.func80 (by kernel_rfl) rfl #[.agg #[.int .i64 ((rd_T68 l0_3 x6_2).f0), .int .i64 ((rd_T68 l0_3 x6_2).f1), .string ((rd_T68 l0_3 x6_2).f2), .slice A354_3 ((rd_T68 l0_3 x6_2).f3).length c354_3], .bool true] rfl (by (try simp only [List.map_toArray, List.map_cons, List.map_nil]); first | done | rfl | (simp only [List.length_drop, List.length_take]; rfl)) ?_; (with_reducible refine (ih k2 (by have := HJ15.out; have := HK2.out; omega) ((rd_T68 l0_3 x6_2).f0) ((rd_T68 l0_3 x6_2).f1) ((rd_T68 l0_3 x6_2).f2) _ _ ((rd_T68 l0_3 x6_2).f3) true t355 _ ?side1 ?side2 A33.out).mono ?_); (case side1 => repeat (first | exact (zAC HR354_3.out HB.out) | (with_reducible refine zAE ?_ _) | (with_reducible refine zAF ?_ _) | (with_reducible refine zAG ?_))); (case side2 => exact HC354_3.out); rintro e w36 ⟨rfl, hb⟩; refine ⟨_, rfl, ?_⟩; have n0_ := zG (zK (g := gb345) (by (with_reducible repeat (first | refine zH ?_ _ | refine zI ?_ | refine zJ ?_ _)); exact BK345.out) hb); have n1_ := zG (zE (by repeat (first | (with_reducible first | exact HB.out | apply zA | apply zB | apply zC | refine zD ?_ GE345.out) | exact HB.out)) hb); clear BK345; clear HB; have BK345 := n0_; have HB := n1_; clear n0_ n1_; (try clear hb); (try clear hb2); (try clear hk); (try clear hi)))
           go_roundg k2
           case measure => have := HJ15.out; have := HK2.out; omega
           case rel => exact ⟨((x5_2 ++ (⟨#[32]⟩ : ByteArray)) ++ t355), (wrap64 (x6_2 + 1)), (by first | rfl | (simp; done) | (simp [*]; done)), (by first | rfl | (simp; done) | (simp [*]; done)), H', ⟨by have := HJ15.out; have := HK2.out; omega⟩, ⟨BK345.out⟩, ⟨HB.out⟩⟩
          ·rw [if_neg c34] at H
           exact absurd H (by simp)
         ·rw [if_neg c32] at H
          exact absurd H (by simp)
        ·rw [if_neg c31] at H
         exact absurd H (by simp)
       ·rw [if_neg c30] at H
        have c30b0 : decide (x6_2 < (l0_3.length : Int)) = false := zV c30
        clear c30
        by_cases c37 : a1 = true
        ·subst c37
         have H1 : ((hammockref05_wrap.f x5_2 (decide ((l0_3.length : Int) > 0))).bind fun t356 => (some t356)) = some r := by rw [if_pos rfl] at H; exact H
         clear H
         have H := H1
         clear H1
         replace H := zT H
         obtain ⟨t356, A380, H⟩ := H
         replace H : (some t356) = some r := H
         have A38 := zG A380
         clear A380
         obtain rfl := Option.some.inj H
         obtain ⟨hcz39_0, hcz39_1, hcz39_2, hcz39_3, hfz39_0, hfz39_1, hfz39_2, hfz39_3⟩ := zQ BK345.out
         have hdz_ : decide ((l0_3.length : Int) > 0) = decide (0 < l0_3.length) := by simp
         have a38_ : hammockref05_wrap.f x5_2 (decide (0 < l0_3.length)) = some t356 := by have h_ := A38.out; rw [hdz_] at h_; exact h_
         clear A38
         have A38 := zG a38_
         clear a38_ hdz_
         go_wp2_with (first | ((with_reducible refine gate_callee (f := 85) rfl ?_); refine goesL_ (some 72) rfl rfl Tryd.func85 (by kernel_rfl) rfl #[.string x5_2, .bool (decide (0 < l0_3.length))] rfl (by (try simp only [List.map_toArray, List.map_cons, List.map_nil]); first | done | rfl | (simp only [List.length_drop, List.length_take]; rfl)) ?_; (with_reducible refine (hammockref05_wrap.calls x5_2 (decide (0 < l0_3.length)) t356 _ A38.out).mono ?_); rintro e w' ⟨rfl, ⟨nd, rfl⟩⟩; refine ⟨_, rfl, ?_⟩))
         go_ret
         exact ⟨by first | rfl | (simp [errW_none, errW_some] <;> rfl) | (simp [*, errW_none, errW_some] <;> rfl), by repeat (first | (with_reducible first | exact HB.out | apply zA | apply zB | apply zC | refine zD ?_ GE345.out) | exact HB.out)⟩
        ·replace c37 := zAB c37
         subst c37
         have H1 : ((hammockref05_wrap.f x5_2 false).bind fun t357 => (some t357)) = some r := by rw [if_neg (show ¬ (false = true) by decide)] at H; exact H
         clear H
         have H := H1
         clear H1
         replace H := zT H
         obtain ⟨t357, A400, H⟩ := H
         replace H : (some t357) = some r := H
         have A40 := zG A400
         clear A400
         obtain rfl := Option.some.inj H
         obtain ⟨hcz41_0, hcz41_1, hcz41_2, hcz41_3, hfz41_0, hfz41_1, hfz41_2, hfz41_3⟩ := zQ BK345.out
         go_wp2_with (first | ((with_reducible refine gate_callee (f := 85) rfl ?_); refine goesL_ (some 72) rfl rfl Tryd.func85 (by kernel_rfl) rfl #[.string x5_2, .bool false] rfl (by (try simp only [List.map_toArray, List.map_cons, List.map_nil]); first | done | rfl | (simp only [List.length_drop, List.length_take]; rfl)) ?_; (with_reducible refine (hammockref05_wrap.calls x5_2 false t357 _ A40.out).mono ?_); rintro e w' ⟨rfl, ⟨nd, rfl⟩⟩; refine ⟨_, rfl, ?_⟩))
         go_ret
         exact ⟨by first | rfl | (simp [errW_none, errW_some] <;> rfl) | (simp [*, errW_none, errW_some] <;> rfl), by repeat (first | (with_reducible first | exact HB.out | apply zA | apply zB | apply zC | refine zD ?_ GE345.out) | exact HB.out)⟩

end Go.Proofs.YtddmdiaopaoekaaDoor.P
