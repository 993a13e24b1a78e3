import Derived.Test.YtddmdiaopaoekaaDoorTyV
namespace Go.Proofs.YtddmdiaopaoekaaDoor.P
open Go.RowKit Go.Shelf Go.Proofs.YtddmdiaopaoekaaDoorW.PrintWords Go.Proofs.YtddmdiaopaoekaaDoorW.PrintLast Go.Proofs.YtddmdiaopaoekaaDoor.Rw
set_option linter.unusedVariables false
set_option linter.unusedSimpArgs false
noncomputable def printL (x : S31) : List UInt8 := if rightB 400 x = true then showL 400 x false else []
set_option maxHeartbeats 4000000 in
set_option maxRecDepth 100000 in
theorem Print_calls (x : S31) (A : Option Addr) (c : Nat) (w : World) (hc : x.f3.length ≤ c) (hC : k31.C w A x.f3.length x.f3) (hV : eachV (fun v => v.f1 ≤ 9223372036854775807) 400 x) (hT : TabOK w) (hN : (showL 400 x false).length ≤ 1000000000) :
    Calls Tryd.prog 34 #[.agg #[.int .i64 x.f0, .int .i64 x.f1, .string x.f2, .slice A x.f3.length c]] w fun e w' => e = .returned (.string ⟨(printL x).toArray⟩) ∧ Below w.heap.size w w' := by
  have HC := Lib.hid hC
  have HV := Lib.hid hV
  have HT := Lib.hid hT
  have HN := Lib.hid hN
  clear hC hV hT hN
  go_enter Tryd.func34, Tryd.ntmps34
  go_wp2_with fail
  refine (Right_calls x A c _ hc (c_below HC.out ((Below.refl _ _).alloc (Nat.le_refl _) _))).mono ?_
  rintro e w2 ⟨rfl, hb2⟩
  have hbx := (hb2.block w.heap.size (by simp)).trans (heap_new w _)
  have hB2 : Below w.heap.size w w2 := ((Below.refl _ w).alloc (Nat.le_refl _) _).trans (hb2.mono (by simp))
  have x0 := cell_in hbx 0
  have x1 := cell_in hbx 1
  have x2 := cell_in hbx 2
  have x3 := cell_in hbx 3
  have X0 := fun o => cell_allocN o x0
  have X1 := fun o => cell_allocN o x1
  have X2 := fun o => cell_allocN o x2
  have X3 := fun o => cell_allocN o x3
  have HB2 := Lib.hid hB2
  clear hb2 hbx hB2
  by_cases hr : rightB 400 x = true
  · have hr' : RightB x = true := hr
    have hs : printL x = showL 400 x false := by unfold printL; rw [if_pos hr]
    rw [hr']
    have HR := Lib.hid hr
    have HS := Lib.hid hs
    clear hs hr hr'
    go_wp2_with fail
    have hfr := Lib.fresh_isBuilder 98 5 w2
    refine (show_all w2 w2.heap.size 400 x A c false [] _ HR.out HV.out hc (c_below HC.out HB2.out) ((Below.refl _ _).alloc (Nat.le_refl _) _) (Nat.le_refl _) (HT.out.below HB2.out) hfr (by simpa using HN.out)).mono ?_
    rintro e w3 ⟨rfl, hs3⟩
    rw [List.nil_append] at hs3
    have hB3 : Below w2.heap.size w2 w3 := ((Below.refl _ _).alloc (Nat.le_refl _) _).trans hs3.be
    have HS3 := Lib.hid hs3
    have HB3 := Lib.hid (bel2 HB2.out hB3)
    have HB32 := Lib.hid hB3
    clear hs3 hB3 hfr
    go_wp2_with fail
    refine (Tryd.Builder_String_any w2.heap.size w2.heap.size (showL 400 x false) w3 (HS3.out.bs.elim .inl .inr) HB32.out.size).mono ?_
    rintro e w4 ⟨rfl, hb4⟩
    have HB4 := Lib.hid (HB3.out.trans (hb4.mono HB2.out.size))
    clear hb4
    go_wp2_with fail
    go_ret
    rw [HS.out]
    exact ⟨rfl, HB4.out⟩
  · have hr' : RightB x = false := Bool.eq_false_iff.2 hr
    have hs : printL x = [] := by unfold printL; rw [if_neg hr]
    rw [hr']
    have HS := Lib.hid hs
    clear hs hr hr'
    go_wp2_with fail
    go_ret
    rw [HS.out]
    exact ⟨rfl, HB2.out⟩
end Go.Proofs.YtddmdiaopaoekaaDoor.P
namespace Go.Proofs.YtddmdiaopaoekaaDoor.P
open Go.RowKit Go.Proofs.YtddmdiaopaoekaaDoorW.PrintWords
set_option linter.unusedVariables false
set_option linter.unusedSimpArgs false
theorem varsN_dep : ∀ (n m : Nat) (x : S31), dep n x → dep m x → varsN n x = varsN m x
  | 0, _, _, h, _ => h.elim
  | _ + 1, 0, _, _, h => h.elim
  | n + 1, m + 1, x, h, k => by
    have e : x.f3.flatMap (varsN n) = x.f3.flatMap (varsN m) := by
      simp only [List.flatMap]
      rw [List.map_congr_left (fun y hy => varsN_dep n m y (h y hy) (k y hy))]
    show (if x.f0 = 1 then [x.f1] else []) ++ x.f3.flatMap (varsN n) = (if x.f0 = 1 then [x.f1] else []) ++ x.f3.flatMap (varsN m)
    rw [e]
theorem varsL_dep (n : Nat) (x : S31) (h : dep n x) : varsL x = varsN n x := varsN_dep _ _ x (dep_ex _ x (Nat.le_refl _)) h
theorem alikeT_congr (p q : S31 → S31 → Bool) : ∀ (xs ys : List S31), (∀ x, x ∈ xs → ∀ y, p x y = q x y) → alikeT p xs ys = alikeT q xs ys
  | [], [], _ => rfl
  | [], _ :: _, _ => rfl
  | _ :: _, [], _ => rfl
  | x :: xs, y :: ys, h => by rw [alikeT, alikeT, h x (by simp) y, alikeT_congr p q xs ys (fun z hz => h z (by simp [hz]))]
theorem sameN_dep : ∀ (n m : Nat) (x y : S31), dep n x → dep m x → sameN n x y = sameN m x y
  | 0, _, _, _, h, _ => h.elim
  | _ + 1, 0, _, _, _, h => h.elim
  | n + 1, m + 1, x, y, h, k => by
    show ((x.f0 == y.f0) && ((x.f1 == y.f1) && ((x.f2.toList == y.f2.toList) && alikeT (sameN n) x.f3 y.f3))) = ((x.f0 == y.f0) && ((x.f1 == y.f1) && ((x.f2.toList == y.f2.toList) && alikeT (sameN m) x.f3 y.f3)))
    rw [alikeT_congr _ _ x.f3 y.f3 (fun a ha b => sameN_dep n m a b (h a ha) (k a ha))]
theorem sameB_dep (n : Nat) (x y : S31) (h : dep n x) : sameB x y = sameN n x y := sameN_dep _ _ x y (dep_ex _ x (Nat.le_refl _)) h
theorem eqS_congr {σ : Type} (p q : S31 → S31 → σ → Bool × σ) : ∀ (xs ys : List S31) (s : σ), (∀ x, x ∈ xs → ∀ y s, p x y s = q x y s) → eqS p xs ys s = eqS q xs ys s
  | [], [], _, _ => rfl
  | [], _ :: _, _, _ => rfl
  | _ :: _, [], _, _ => rfl
  | x :: xs, y :: ys, s, h => by
    rw [eqS, eqS, h x (by simp) y s, eqS_congr p q xs ys _ (fun z hz => h z (by simp [hz]))]
theorem matchS_dep : ∀ (n m : Nat) (g s : S31) (st : Bnd), dep n g → dep m g → matchS n g s st = matchS m g s st
  | 0, _, _, _, _, h, _ => h.elim
  | _ + 1, 0, _, _, _, _, h => h.elim
  | n + 1, m + 1, g, s, st, h, k => by
    have e : eqL (matchS n) g.f3 s.f3 st = eqL (matchS m) g.f3 s.f3 st := by
      unfold eqL
      rw [eqS_congr _ _ g.f3 s.f3 st (fun a ha b s' => matchS_dep n m a b s' (h a ha) (k a ha))]
    unfold matchS
    rw [e]
theorem matchR_dep (n : Nat) (g s : S31) (h : dep n g) : matchR g s = matchS n g s (fun _ => none, 0) := matchS_dep _ _ g s _ (dep_ex _ g (Nat.le_refl _)) h
end Go.Proofs.YtddmdiaopaoekaaDoor.P
namespace Go.Proofs.YtddmdiaopaoekaaDoor.P
open Go.RowKit Go.Proofs.YtddmdiaopaoekaaDoorW.PrintWords
set_option linter.unusedVariables false
set_option linter.unusedSimpArgs false
abbrev kV (i : Int) : S31 := ⟨1, i, ⟨#[]⟩, []⟩
abbrev kFun (x y : S31) : S31 := ⟨3, 0, ⟨#[]⟩, [x, y]⟩
abbrev kI : S31 := ⟨2, 0, ⟨#[73, 110, 116]⟩, []⟩
abbrev kF : S31 := kFun (kV 5) (kFun (kV 2) (kV 5))
abbrev kG : S31 := kFun (kV 0) (kFun (kV 1) (kV 0))
abbrev kH : S31 := kFun kI (kFun kI kI)
theorem k_rightF : rightB 400 kF = true := rightB_mono 4 400 kF (by omega) (by decide +kernel)
theorem k_rightG : rightB 400 kG = true := rightB_mono 4 400 kG (by omega) (by decide +kernel)
theorem k_rightH : rightB 400 kH = true := rightB_mono 4 400 kH (by omega) (by decide +kernel)
theorem dep_of_right : ∀ (n : Nat) (x : S31), rightB n x = true → dep n x
  | 0, _, h => by cases h
  | n + 1, x, h => fun y hy => dep_of_right n y ((rightB_part h).2 y hy)
theorem k_depF : dep 4 kF := dep_of_right 4 kF (by decide +kernel)
theorem k_depG : dep 4 kG := dep_of_right 4 kG (by decide +kernel)
theorem k_depH : dep 4 kH := dep_of_right 4 kH (by decide +kernel)
theorem k_varsF : varsL kF = [5, 2, 5] := (varsL_dep 4 kF k_depF).trans (by decide +kernel)
theorem k_varsG : varsL kG = [0, 1, 0] := (varsL_dep 4 kG k_depG).trans (by decide +kernel)
theorem k_varsH : varsL kH = [] := (varsL_dep 4 kH k_depH).trans (by decide +kernel)
theorem k_VarsF : VarsB kF = [5, 2] := by
  unfold VarsB
  rw [if_pos k_rightF, k_varsF]
  decide +kernel
theorem k_schV : schV kF = 2 := by
  unfold schV
  rw [if_pos k_rightF, k_VarsF]
  decide +kernel
theorem k_schT : schT kF = kG := by
  unfold schT
  rw [if_pos k_rightF, k_VarsF]
  rfl
theorem k_print : printL kG = [97, 32, 45, 62, 32, 98, 32, 45, 62, 32, 97] := by
  unfold printL
  rw [if_pos k_rightG]
  rfl
theorem k_same : sameB kI kI = true := (sameB_dep 1 kI kI (fun y hy => by simp at hy)).trans (by decide +kernel)
theorem k_match : (matchR kG kH).1 = true := by
  rw [matchR_dep 4 kG kH k_depG]
  simp [matchS, eqL, eqS, putT, k_same]
theorem k_more : moreB 2 kG 0 kH = true := by
  unfold moreB closedB MatchB
  rw [k_varsG, k_varsH, if_pos ⟨k_rightG, k_rightH, by decide, k_match⟩]
  decide +kernel
end Go.Proofs.YtddmdiaopaoekaaDoor.P
