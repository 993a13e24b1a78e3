import Derived.Test.YtiioanpmfpefcaaDoorPx0
import Derived.Test.YtiioanpmfpefcaaDoorPx16
-- written by a program of this session's (wip/tools/extprint.py) over the kit's print
namespace Go.Proofs.YtiioanpmfpefcaaDoor.P
open Go.Proofs.YtiioanpmfpefcaaDoor
open Go.RowKit Go.Proofs.YtiioanpmfpefcaaDoorW.PrintWords Go.Proofs.YtiioanpmfpefcaaDoorW.PrintLast Go.Proofs.YtiioanpmfpefcaaDoorW.PrintMore
attribute [local go_sem] max2_int min2_int max_two min_two max_three min_three max_four min_four   -- for this text's walks alone
set_option linter.unusedVariables false
set_option linter.unusedSimpArgs false

/-! ### hammocklaw02_TokenPlaces: function 5 -/
mutual
def hammocklaw02_TokenPlaces.l0 : Nat → ByteArray → List (S41) → Int → Int → Option (Bool)
  | 0, _, _, _, _ => none
  | k + 1, x0, x3, x5, x6 => if x6 < (x3.length : Int) then (if 0 ≤ x6 then (if ((rd_T41 x3 x6).f1) < x5 then (hammocklaw02_TokenPlaces.j1 k x0 x3 x5 x6 true) else (if ((rd_T41 x3 x6).f2) < ((rd_T41 x3 x6).f1) then (hammocklaw02_TokenPlaces.j1 k x0 x3 x5 x6 true) else (if ((rd_T41 x3 x6).f2) > (x0.size : Int) then (hammocklaw02_TokenPlaces.j1 k x0 x3 x5 x6 true) else (hammocklaw02_TokenPlaces.j1 k x0 x3 x5 x6 ((((rd_T41 x3 x6).f0) == 9) != (x6 == (wrap64 ((x3.length : Int) - 1)))))))) else (none)) else (if (x3.length : Int) > 0 then (if x5 = (x0.size : Int) then ((hammocklaw02_knows.f).bind fun t121 => (some t121)) else (some false)) else (some false))
def hammocklaw02_TokenPlaces.j1 : Nat → ByteArray → List (S41) → Int → Int → Bool → Option (Bool)
  | 0, _, _, _, _, _ => none
  | k + 1, x0, x3, x5, x6, x74 => if x74 = true then (some false) else (if 0 ≤ x6 then (if x6 < (x3.length : Int) then (if 0 ≤ x5 then (if x5 ≤ ((rd_T41 x3 x6).f1) then (if ((rd_T41 x3 x6).f1) ≤ (x0.size : Int) then ((token_Scan.f (x0.extract (x5 : Int).toNat (((rd_T41 x3 x6).f1) : Int).toNat)).bind fun bt128 => ((hammocklaw02_num.f bt128.2.2).bind fun t134 => (if t134 = 0 then (hammocklaw02_TokenPlaces.j2 k x0 x3 x6 ((bt128.1.length : Int) != 1)) else (hammocklaw02_TokenPlaces.j2 k x0 x3 x6 true)))) else (none)) else (none)) else (none)) else (none)) else (none))
def hammocklaw02_TokenPlaces.j2 : Nat → ByteArray → List (S41) → Int → Bool → Option (Bool)
  | 0, _, _, _, _ => none
  | k + 1, x0, x3, x6, x95 => if x95 = true then (some false) else (if 0 ≤ x6 then (if x6 < (x3.length : Int) then (if 0 ≤ ((rd_T41 x3 x6).f1) then (if ((rd_T41 x3 x6).f1) ≤ ((rd_T41 x3 x6).f2) then (if ((rd_T41 x3 x6).f2) ≤ (x0.size : Int) then ((token_Scan.f (x0.extract (((rd_T41 x3 x6).f1) : Int).toNat (((rd_T41 x3 x6).f2) : Int).toNat)).bind fun bt137 => ((hammocklaw02_num.f bt137.2.2).bind fun t143 => (if t143 = 0 then (if x6 < (wrap64 ((x3.length : Int) - 1)) then (if (bt137.1.length : Int) = 2 then (if 0 < (bt137.1.length : Int) then (if ((rd_T41 bt137.1 0).f0) = ((rd_T41 x3 x6).f0) then (if ((rd_T41 bt137.1 0).f3).toList = ((rd_T41 x3 x6).f3).toList then (if ((rd_T41 bt137.1 0).f4) = ((rd_T41 x3 x6).f4) then (hammocklaw02_TokenPlaces.l0 k x0 x3 ((rd_T41 x3 x6).f2) (wrap64 (x6 + 1))) else (some false)) else (some false)) else (some false)) else (none)) else (some false)) else (hammocklaw02_TokenPlaces.l0 k x0 x3 ((rd_T41 x3 x6).f2) (wrap64 (x6 + 1)))) else (some false)))) else (none)) else (none)) else (none)) else (none)) else (none))
end
def hammocklaw02_TokenPlaces.f (k : Nat) (a0 : ByteArray) : Option (Bool) := if (a0.size : Int) > 1000 then ((hammocklaw02_knows.f).bind fun t112 => (some t112)) else ((token_Scan.f a0).bind fun bt113 => ((hammocklaw02_num.f bt113.2.2).bind fun t119 => (if t119 = 0 then (hammocklaw02_TokenPlaces.l0 k a0 bt113.1 0 0) else ((hammocklaw02_knows.f).bind fun t120 => (some t120)))))
theorem hammocklaw02_TokenPlaces.mono_l : ∀ k, (∀ y0 y1 y2 y3, LeO (hammocklaw02_TokenPlaces.l0 k y0 y1 y2 y3) (hammocklaw02_TokenPlaces.l0 (k + 1) y0 y1 y2 y3)) ∧ (∀ y0 y1 y2 y3 y4, LeO (hammocklaw02_TokenPlaces.j1 k y0 y1 y2 y3 y4) (hammocklaw02_TokenPlaces.j1 (k + 1) y0 y1 y2 y3 y4)) ∧ (∀ y0 y1 y2 y3, LeO (hammocklaw02_TokenPlaces.j2 k y0 y1 y2 y3) (hammocklaw02_TokenPlaces.j2 (k + 1) y0 y1 y2 y3))
  | 0 => ⟨fun _ _ _ _ r h => by simp [hammocklaw02_TokenPlaces.l0] at h, fun _ _ _ _ _ r h => by simp [hammocklaw02_TokenPlaces.j1] at h, fun _ _ _ _ r h => by simp [hammocklaw02_TokenPlaces.j2] at h⟩
  | k + 1 => by
    obtain ⟨ih0, ih1, ih2⟩ := hammocklaw02_TokenPlaces.mono_l k
    refine ⟨?_, ?_, ?_⟩
    · intro y0 y1 y2 y3
      unfold hammocklaw02_TokenPlaces.l0
      repeat' first
      | (with_reducible exact ih0 _ _ _ _)
      | (with_reducible exact ih1 _ _ _ _ _)
      | (with_reducible exact ih2 _ _ _ _)
      | (with_reducible exact LeO.refl _)
      | (with_reducible exact LeO.none _)
      | (with_reducible refine LeO.ite ?_ ?_)
      | (with_reducible refine LeO.bind ?_ (fun _ => ?_))
      | exact ih0 _ _ _ _
      | exact ih1 _ _ _ _ _
      | exact ih2 _ _ _ _
      | exact LeO.none _
      | refine LeO.ite ?_ ?_
      | refine LeO.bind ?_ (fun _ => ?_)
    · intro y0 y1 y2 y3 y4
      unfold hammocklaw02_TokenPlaces.j1
      repeat' first
      | (with_reducible exact ih0 _ _ _ _)
      | (with_reducible exact ih1 _ _ _ _ _)
      | (with_reducible exact ih2 _ _ _ _)
      | (with_reducible exact LeO.refl _)
      | (with_reducible exact LeO.none _)
      | (with_reducible refine LeO.ite ?_ ?_)
      | (with_reducible refine LeO.bind ?_ (fun _ => ?_))
      | exact ih0 _ _ _ _
      | exact ih1 _ _ _ _ _
      | exact ih2 _ _ _ _
      | exact LeO.none _
      | refine LeO.ite ?_ ?_
      | refine LeO.bind ?_ (fun _ => ?_)
    · intro y0 y1 y2 y3
      unfold hammocklaw02_TokenPlaces.j2
      repeat' first
      | (with_reducible exact ih0 _ _ _ _)
      | (with_reducible exact ih1 _ _ _ _ _)
      | (with_reducible exact ih2 _ _ _ _)
      | (with_reducible exact LeO.refl _)
      | (with_reducible exact LeO.none _)
      | (with_reducible refine LeO.ite ?_ ?_)
      | (with_reducible refine LeO.bind ?_ (fun _ => ?_))
      | exact ih0 _ _ _ _
      | exact ih1 _ _ _ _ _
      | exact ih2 _ _ _ _
      | exact LeO.none _
      | refine LeO.ite ?_ ?_
      | refine LeO.bind ?_ (fun _ => ?_)
theorem hammocklaw02_TokenPlaces.mono : ∀ a0 k, LeO (hammocklaw02_TokenPlaces.f k a0) (hammocklaw02_TokenPlaces.f (k + 1) a0) := by
  intro a0 k
  obtain ⟨ih0, ih1, ih2⟩ := hammocklaw02_TokenPlaces.mono_l k
  unfold hammocklaw02_TokenPlaces.f
  repeat' first
      | (with_reducible exact ih0 _ _ _ _)
      | (with_reducible exact ih1 _ _ _ _ _)
      | (with_reducible exact ih2 _ _ _ _)
      | (with_reducible exact LeO.refl _)
      | (with_reducible exact LeO.none _)
      | (with_reducible refine LeO.ite ?_ ?_)
      | (with_reducible refine LeO.bind ?_ (fun _ => ?_))
      | exact ih0 _ _ _ _
      | exact ih1 _ _ _ _ _
      | exact ih2 _ _ _ _
      | exact LeO.none _
      | refine LeO.ite ?_ ?_
      | refine LeO.bind ?_ (fun _ => ?_)
def hammocklaw02_TokenPlaces.T10 : Bool × List (List Nat × List Nat) := (true, [([], []), ([], []), ([0, 1], [0, 1]), ([2], [2]), ([3], [3]), ([], []), ([4, 5], [4, 5]), ([6], [6]), ([7], [7]), ([7], [7]), ([8, 9, 7], [7, 8, 9]), ([10, 7], [7, 10]), ([11, 7], [7, 11]), ([7], [7]), ([7], [7]), ([13, 14, 7], [7, 13, 14]), ([15, 7], [7, 15]), ([16, 7], [7, 16]), ([12, 17, 7], [7, 12, 17]), ([7, 18], [7, 18]), ([19, 7], [19]), ([20], [20]), ([20], [20]), ([21, 22, 20], [20, 21, 22]), ([23, 20], [20, 23]), ([24, 20], [20, 24]), ([20], [20]), ([26, 20], [20, 26]), ([25, 27, 20], [20, 25, 27]), ([20, 28], [20, 28]), ([29, 20], [29]), ([30], [30]), ([30], [30]), ([31, 32, 30], [30, 31, 32]), ([33, 30], [30, 33]), ([34, 30], [30, 34]), ([35, 30], [30, 35]), ([30], [30]), ([30], [30]), ([38, 30], [30, 38]), ([39, 30], [30, 39]), ([37, 40, 30], [30, 37, 40]), ([36, 41, 30], [30, 36, 41]), ([30, 42], [30, 42])])
def hammocklaw02_TokenPlaces.B10 : List Nat := [0, 0, 3, 7, 15, 0, 63, 127, 255, 255, 1023, 2047, 4095, 255, 255, 24831, 57599, 123135, 262143, 524287, 1048575, 2097151, 2097151, 8388607, 16777215, 33554431, 2097151, 69206015, 268435455, 536870911, 1073741823, 2147483647, 2147483647, 8589934591, 17179869183, 34359738367, 68719476735, 2147483647, 2147483647, 277025390591, 826781204479, 2063731785727, 4398046511103, 8796093022207]
theorem hammocklaw02_TokenPlaces.tab10 : rtab .any (opsOf Tryd.f5 10) = hammocklaw02_TokenPlaces.T10 := by kernel_rfl
theorem hammocklaw02_TokenPlaces.bits10 : waitsOk hammocklaw02_TokenPlaces.T10.2 hammocklaw02_TokenPlaces.B10 = true := by kernel_rfl
def hammocklaw02_TokenPlaces.T15 : Bool × List (List Nat × List Nat) := (true, [([], []), ([], []), ([], []), ([1, 2], [1, 2]), ([3], [3]), ([4], [4]), ([], []), ([], []), ([6, 7], [6, 7]), ([8], [8]), ([9], [9]), ([0, 5, 10], [0, 5, 10]), ([11], [11]), ([12], [12]), ([13], [13]), ([13], [13]), ([], []), ([14, 12, 0, 1, 2, 3, 4, 5, 6, 7, 8, 9, 10, 11, 12, 13, 14, 16], [14]), ([16, 15, 17, 0, 1, 2, 3, 4, 5, 6, 7, 8, 9, 10, 11, 12, 13, 14, 15, 16, 17], [15, 16])])
def hammocklaw02_TokenPlaces.B15 : List Nat := [0, 0, 0, 6, 14, 30, 0, 0, 192, 448, 960, 2047, 4095, 8191, 16383, 16383, 0, 98303, 262143]
theorem hammocklaw02_TokenPlaces.tab15 : rtab .any (opsOf Tryd.f5 15) = hammocklaw02_TokenPlaces.T15 := by kernel_rfl
theorem hammocklaw02_TokenPlaces.bits15 : waitsOk hammocklaw02_TokenPlaces.T15.2 hammocklaw02_TokenPlaces.B15 = true := by kernel_rfl
def hammocklaw02_TokenPlaces.T16 : Bool × List (List Nat × List Nat) := (true, [([], []), ([0], [0]), ([1], [1]), ([2], [2]), ([3, 2], [3]), ([4], [4]), ([4], [4]), ([6, 4], [4, 6]), ([7, 4], [4, 7]), ([5, 8, 4], [4, 5, 8]), ([9, 4, 4], [4, 9]), ([10], [10]), ([11, 10], [10, 11]), ([12, 10], [10, 12]), ([13, 10, 10], [10, 13]), ([14], [14]), ([15, 14], [14, 15]), ([16, 14], [14, 16]), ([17, 14], [14, 17]), ([14], [14]), ([14], [14]), ([19, 20, 14], [14, 19, 20]), ([21, 14], [14, 21]), ([22, 14], [14, 22]), ([18, 23, 14], [14, 18, 23]), ([14, 24, 10], [10, 14, 24]), ([25, 14, 10], [10, 25]), ([26], [26]), ([27, 26], [26, 27]), ([28, 26], [26, 28]), ([29, 26], [26, 29]), ([26], [26]), ([26], [26]), ([31, 32, 26], [26, 31, 32]), ([33, 26], [26, 33]), ([34, 26], [26, 34]), ([30, 35, 26], [26, 30, 35]), ([26, 36, 10], [10, 26, 36]), ([37, 26, 10], [10, 37]), ([38], [38]), ([39, 38], [38, 39]), ([40, 38], [38, 40]), ([41, 38], [38, 41]), ([38], [38]), ([38], [38]), ([43, 44, 38], [38, 43, 44]), ([45, 38], [38, 45]), ([46, 38], [38, 46]), ([42, 47, 38], [38, 42, 47]), ([38, 48, 10], [10, 38, 48]), ([10, 49, 4], [4, 10, 49]), ([4, 50], [4, 50])])
def hammocklaw02_TokenPlaces.B16 : List Nat := [0, 1, 3, 7, 15, 31, 31, 95, 223, 511, 1023, 2047, 4095, 8191, 16383, 32767, 65535, 131071, 262143, 32767, 32767, 1605631, 3702783, 7897087, 16777215, 33554431, 67108863, 134217727, 268435455, 536870911, 1073741823, 134217727, 134217727, 6576668671, 15166603263, 32346472447, 68719476735, 137438953471, 274877906943, 549755813887, 1099511627775, 2199023255551, 4398046511103, 549755813887, 549755813887, 26938034880511, 62122406969343, 132491151147007, 281474976710655, 562949953421311, 1125899906842623, 2251799813685247]
theorem hammocklaw02_TokenPlaces.tab16 : rtab .any (opsOf Tryd.f5 16) = hammocklaw02_TokenPlaces.T16 := by kernel_rfl
theorem hammocklaw02_TokenPlaces.bits16 : waitsOk hammocklaw02_TokenPlaces.T16.2 hammocklaw02_TokenPlaces.B16 = true := by kernel_rfl
end Go.Proofs.YtiioanpmfpefcaaDoor.P
