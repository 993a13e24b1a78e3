-- written by a program of this session's (wip/tools/extprint.py) over the kit's print
import Derived.Test.YtddmdiaopaoekaaDoorPx0
import Derived.Test.YtddmdiaopaoekaaDoorSq
namespace Go.Proofs.YtddmdiaopaoekaaDoor.P
open Go.RowKit Go.Proofs.YtddmdiaopaoekaaDoorW.PrintWords Go.Proofs.YtddmdiaopaoekaaDoorW.PrintLast Go.Proofs.YtddmdiaopaoekaaDoorW.PrintMore
attribute [local go_sem] max2_int min2_int max_two min_two max_three min_three max_four min_four   -- for this text's walks alone
set_option linter.unusedVariables false
set_option linter.unusedSimpArgs false

def hammocklaw09_same.l0 : Nat → List Int → List Int → Int → Option (Bool)
 | 0, _, _, _ => none
 | k + 1, x0, x1, x5 => if x5 < (x0.length : Int) then (if 0 ≤ x5 then (if x5 < (x1.length : Int) then (if (rd x0 x5) = (rd x1 x5) then (hammocklaw09_same.l0 k x0 x1 (wrap64 (x5 + 1))) else (some false)) else (none)) else (none)) else (some true)
def hammocklaw09_same.f (k : Nat) (l0 : List Int) (l1 : List Int) : Option (Bool) := if (l0.length : Int) = (l1.length : Int) then (hammocklaw09_same.l0 k l0 l1 0) else (some false)
theorem hammocklaw09_same.mono_l : ∀ k, (∀ y0 y1 y2, LeO (hammocklaw09_same.l0 k y0 y1 y2) (hammocklaw09_same.l0 (k + 1) y0 y1 y2))
 | 0 => fun _ _ _ r h => by simp [hammocklaw09_same.l0] at h
 | k + 1 => by
  have ih0 := hammocklaw09_same.mono_l k
  ·intro y0 y1 y2
   unfold hammocklaw09_same.l0
   repeat' first
   | (with_reducible exact ih0 _ _ _)
   | (with_reducible exact LeO.refl _)
   | (with_reducible exact LeO.none _)
   | (with_reducible refine LeO.ite ?_ ?_)
   | (with_reducible refine LeO.bind ?_ (fun _ => ?_))
set_option maxHeartbeats 8000000 in
set_option maxRecDepth 100000 in
theorem hammocklaw09_same.calls (k : Nat) (A0 : Option Addr) (c0 : Nat) (l0 : List Int) (A1 : Option Addr) (c1 : Nat) (l1 : List Int) (r : Bool) (w : World) (hr0 : Kd.C (Kd.int .i64) w A0 l0.length l0) (hc0 : l0.length ≤ c0) (hr1 : Kd.C (Kd.int .i64) w A1 l1.length l1) (hc1 : l1.length ≤ c1) (h : hammocklaw09_same.f k l0 l1 = some r) :
  Calls Tryd.prog 30 #[.slice A0 l0.length c0, .slice A1 l1.length c1] w fun e w' => e = .returned (.bool r) ∧ Drawn0 w w' := by
 have HR0 := zG hr0
 have HC0 := zG hc0
 clear hr0 hc0
 have HR1 := zG hr1
 have HC1 := zG hc1
 clear hr1 hc1
 have H : (if (l0.length : Int) = (l1.length : Int) then (hammocklaw09_same.l0 k l0 l1 0) else (some false)) = some r := h
 clear h
 by_cases c3 : (l0.length : Int) = (l1.length : Int)
 ·rw [if_pos c3] at H
  have c3b0 : ((l0.length : Int) == (l1.length : Int)) = true := zW c3
  have c3b1 : ((l0.length : Int) != (l1.length : Int)) = false := zX c3
  have c3b2 : (l0.length == l1.length) = true := by first | simpa using c3 | (simp at c3 ⊢; omega)
  clear c3
  have H' := zG H
  clear H
  go_enter Tryd.func30, Tryd.ntmps30
  go_wp2
  repeat (go_quiet (fail); try go_wp2)
  go_loopg [5] k (fun kq v5 w' => ∃ (x5_1 : Int), v5 = .int .i64 x5_1 ∧ Aside0 (hammocklaw09_same.l0 kq l0 l1 x5_1 = some r) ∧ Aside0 (kq ≤ k) ∧ Drawn0 w w')
  case atStart => exact ⟨(0), (by first | rfl | (simp; done) | (simp [*]; done)), H', ⟨Nat.le_refl _⟩, by repeat (first | exact Drawn0.refl _ | apply Drawn0.step)⟩
  case round =>
   clear H'
   try clear c1
   try clear p2
   try clear c3
   try clear c3b0
   try clear c3b1
   try clear c3b2
   obtain ⟨x5_1, rfl, HA, HK1, ⟨m1, rfl⟩⟩ := hrel
   cases gk with
   | zero => exact absurd HA.out (by simp [hammocklaw09_same.l0])
   | succ k1 =>
    have H := HA.out
    clear HA
    simp only [hammocklaw09_same.l0] at H
    by_cases c4 : x5_1 < (l0.length : Int)
    ·rw [if_pos c4] at H
     have c4b0 : decide (x5_1 < (l0.length : Int)) = true := zU c4
     clear c4
     by_cases c5 : 0 ≤ x5_1
     ·rw [if_pos c5] at H
      have c5b0 : decide (0 ≤ x5_1) = true := zU c5
      clear c5
      by_cases c6 : x5_1 < (l1.length : Int)
      ·rw [if_pos c6] at H
       have c6b0 : decide (x5_1 < (l1.length : Int)) = true := zU c6
       clear c6
       by_cases c7 : (rd l0 x5_1) = (rd l1 x5_1)
       ·rw [if_pos c7] at H
        have c7b0 : ((rd l0 x5_1) == (rd l1 x5_1)) = true := zW c7
        have c7b1 : ((rd l0 x5_1) != (rd l1 x5_1)) = false := zX c7
        clear c7
        have H' := zG H
        clear H
        have p317 : 0 ≤ (x5_1 : Int) := zAA (by assumption)
        have q317 : x5_1 < (l0.length : Int) := zAA (by assumption)
        obtain ⟨ad317, e317, hx317_0⟩ := Kd.at_int HR0.out x5_1 p317 q317
        cases e317
        replace p317 := eq_true p317
        replace q317 := eq_true q317
        have p318 : 0 ≤ (x5_1 : Int) := zAA (by assumption)
        have q318 : x5_1 < (l1.length : Int) := zAA (by assumption)
        obtain ⟨ad318, e318, hx318_0⟩ := Kd.at_int HR1.out x5_1 p318 q318
        cases e318
        replace p318 := eq_true p318
        replace q318 := eq_true q318
        go_wp2
        repeat (go_quiet (fail); try go_wp2)
        go_roundg k1
        case measure => have := HK1.out; omega
        case rel => exact ⟨(wrap64 (x5_1 + 1)), (by first | rfl | (simp; done) | (simp [*]; done)), H', ⟨by have := HK1.out; omega⟩, by repeat (first | exact Drawn0.refl _ | apply Drawn0.step)⟩
       ·rw [if_neg c7] at H
        have c7b0 : ((rd l0 x5_1) == (rd l1 x5_1)) = false := zY c7
        have c7b1 : ((rd l0 x5_1) != (rd l1 x5_1)) = true := zZ c7
        obtain rfl := Option.some.inj H
        have p317 : 0 ≤ (x5_1 : Int) := zAA (by assumption)
        have q317 : x5_1 < (l0.length : Int) := zAA (by assumption)
        obtain ⟨ad317, e317, hx317_0⟩ := Kd.at_int HR0.out x5_1 p317 q317
        cases e317
        replace p317 := eq_true p317
        replace q317 := eq_true q317
        have p318 : 0 ≤ (x5_1 : Int) := zAA (by assumption)
        have q318 : x5_1 < (l1.length : Int) := zAA (by assumption)
        obtain ⟨ad318, e318, hx318_0⟩ := Kd.at_int HR1.out x5_1 p318 q318
        cases e318
        replace p318 := eq_true p318
        replace q318 := eq_true q318
        go_wp2
        repeat (go_quiet (fail); try go_wp2)
        go_ret
        exact ⟨by first | rfl | (simp; done) | (simp [*]; done), by repeat (first | exact Drawn0.refl _ | apply Drawn0.step)⟩
      ·rw [if_neg c6] at H
       exact absurd H (by simp)
     ·rw [if_neg c5] at H
      exact absurd H (by simp)
    ·rw [if_neg c4] at H
     have c4b0 : decide (x5_1 < (l0.length : Int)) = false := zV c4
     clear c4
     obtain rfl := Option.some.inj H
     go_wp2
     repeat (go_quiet (fail); try go_wp2)
     go_ret
     exact ⟨by first | rfl | (simp; done) | (simp [*]; done), by repeat (first | exact Drawn0.refl _ | apply Drawn0.step)⟩
 ·rw [if_neg c3] at H
  have c3b0 : ((l0.length : Int) == (l1.length : Int)) = false := zY c3
  have c3b1 : ((l0.length : Int) != (l1.length : Int)) = true := zZ c3
  have c3b2 : (l0.length == l1.length) = false := by first | simpa using c3 | (simp at c3 ⊢; omega)
  obtain rfl := Option.some.inj H
  go_enter Tryd.func30, Tryd.ntmps30
  go_wp2
  repeat (go_quiet (fail); try go_wp2)
  go_ret
  exact ⟨by first | rfl | (simp; done) | (simp [*]; done), by repeat (first | exact Drawn0.refl _ | apply Drawn0.step)⟩

mutual
def hammockref09_subst.j0 : Nat → List (S24) → Bool → Int → Int → ByteArray → List (S24) → Option (Int × Int × ByteArray × (List (S24)))
 | 0, _, _, _, _, _, _ => none
 | k + 1, x1, x21, x320000, x320001, x320002, x320003 => if x21 = true then (if 0 ≤ x320001 then (if x320001 < (x1.length : Int) then (some ((rd_T24 x1 x320001).f0, (rd_T24 x1 x320001).f1, (rd_T24 x1 x320001).f2, (rd_T24 x1 x320001).f3)) else (none)) else (none)) else (hammockref09_subst.l0 k x1 0 x320000 x320001 x320002 x320003 x320000 x320001 x320002 ([] : List (S24)))
def hammockref09_subst.l0 : Nat → List (S24) → Int → Int → Int → ByteArray → List (S24) → Int → Int → ByteArray → List (S24) → Option (Int × Int × ByteArray × (List (S24)))
 | 0, _, _, _, _, _, _, _, _, _, _ => none
 | k + 1, x1, x6, x320000, x320001, x320002, x320003, x323000, x323001, x323002, x323003 => if x6 < (x320003.length : Int) then (if 0 ≤ x6 then ((hammockref09_subst.f k ((rd_T24 x320003 x6).f0) ((rd_T24 x320003 x6).f1) ((rd_T24 x320003 x6).f2) ((rd_T24 x320003 x6).f3) x1).bind fun bt324 => (if x323003.length < 2513169434916 then (hammockref09_subst.l0 k x1 (wrap64 (x6 + 1)) x320000 x320001 x320002 x320003 x323000 x323001 x323002 (x323003 ++ [(⟨bt324.1, bt324.2.1, bt324.2.2.1, bt324.2.2.2⟩ : S24)])) else (none))) else (none)) else (some (x323000, x323001, x323002, x323003))
def hammockref09_subst.f : Nat → Int → Int → ByteArray → List (S24) → List (S24) → Option (Int × Int × ByteArray × (List (S24)))
 | 0, _, _, _, _, _ => none
 | k + 1, a0_0, a0_1, a0_2, l0_3, l1 => if a0_0 = 1 then (if a0_1 ≥ 0 then (hammockref09_subst.j0 k l1 (decide (a0_1 < (l1.length : Int))) a0_0 a0_1 a0_2 l0_3) else (hammockref09_subst.j0 k l1 false a0_0 a0_1 a0_2 l0_3)) else (hammockref09_subst.j0 k l1 false a0_0 a0_1 a0_2 l0_3)
end
theorem hammockref09_subst.mono_l : ∀ k, (∀ y0 y1 y2 y3 y4, LeO (hammockref09_subst.f k y0 y1 y2 y3 y4) (hammockref09_subst.f (k + 1) y0 y1 y2 y3 y4)) ∧ (∀ y0 y1 y2 y3 y4 y5, LeO (hammockref09_subst.j0 k y0 y1 y2 y3 y4 y5) (hammockref09_subst.j0 (k + 1) y0 y1 y2 y3 y4 y5)) ∧ (∀ y0 y1 y2 y3 y4 y5 y6 y7 y8 y9, LeO (hammockref09_subst.l0 k y0 y1 y2 y3 y4 y5 y6 y7 y8 y9) (hammockref09_subst.l0 (k + 1) y0 y1 y2 y3 y4 y5 y6 y7 y8 y9))
 | 0 => ⟨fun _ _ _ _ _ r h => by simp [hammockref09_subst.f] at h, fun _ _ _ _ _ _ r h => by simp [hammockref09_subst.j0] at h, fun _ _ _ _ _ _ _ _ _ _ r h => by simp [hammockref09_subst.l0] at h⟩
 | k + 1 => by
  obtain ⟨ih0, ih1, ih2⟩ := hammockref09_subst.mono_l k
  refine ⟨?_, ?_, ?_⟩
  ·intro y0 y1 y2 y3 y4
   unfold hammockref09_subst.f
   repeat' first
   | (with_reducible exact ih0 _ _ _ _ _)
   | (with_reducible exact ih1 _ _ _ _ _ _)
   | (with_reducible exact ih2 _ _ _ _ _ _ _ _ _ _)
   | (with_reducible exact LeO.refl _)
   | (with_reducible exact LeO.none _)
   | (with_reducible refine LeO.ite ?_ ?_)
   | (with_reducible refine LeO.bind ?_ (fun _ => ?_))
  ·intro y0 y1 y2 y3 y4 y5
   unfold hammockref09_subst.j0
   repeat' first
   | (with_reducible exact ih0 _ _ _ _ _)
   | (with_reducible exact ih1 _ _ _ _ _ _)
   | (with_reducible exact ih2 _ _ _ _ _ _ _ _ _ _)
   | (with_reducible exact LeO.refl _)
   | (with_reducible exact LeO.none _)
   | (with_reducible refine LeO.ite ?_ ?_)
   | (with_reducible refine LeO.bind ?_ (fun _ => ?_))
  ·intro y0 y1 y2 y3 y4 y5 y6 y7 y8 y9
   unfold hammockref09_subst.l0
   repeat' first
   | (with_reducible exact ih0 _ _ _ _ _)
   | (with_reducible exact ih1 _ _ _ _ _ _)
   | (with_reducible exact ih2 _ _ _ _ _ _ _ _ _ _)
   | (with_reducible exact LeO.refl _)
   | (with_reducible exact LeO.none _)
   | (with_reducible refine LeO.ite ?_ ?_)
   | (with_reducible refine LeO.bind ?_ (fun _ => ?_))
def hammockref09_subst.T7 : Bool × List (List Nat × List Nat) := (true, [([], []), ([0], [0]), ([], []), ([2], [2]), ([], []), ([3, 4], [3, 4]), ([5], [5]), ([], []), ([6, 7], [6, 7]), ([8], [8]), ([1, 9, 8], [1, 9]), ([0, 1, 2, 3, 4, 5, 6, 7, 8, 9, 10], []), ([11, 10, 10, 0, 1, 2, 3, 4, 5, 6, 7, 8, 9, 10], [10, 11])])
def hammockref09_subst.B7 : List Nat := [0, 1, 0, 4, 0, 28, 60, 0, 252, 508, 1023, 2047, 4095]
theorem hammockref09_subst.tab7 : rtab .any (opsOf Tryd.f59 7) = hammockref09_subst.T7 := by kernel_rfl
theorem hammockref09_subst.bits7 : waitsOk hammockref09_subst.T7.2 hammockref09_subst.B7 = true := by kernel_rfl
set_option maxHeartbeats 8000000 in
set_option maxRecDepth 100000 in
theorem hammockref09_subst.calls (k : Nat) : ∀ (a0_0 : Int) (a0_1 : Int) (a0_2 : ByteArray) (A0_3 : Option Addr) (c0_3 : Nat) (l0_3 : List (S24)) (P1_ : Nat → Prop) (A1 : Option Addr) (c1 : Nat) (l1 : List (S24)) (r1 : Int) (r2 : Int) (r3 : ByteArray) (r4 : List (S24)) (w : World) (hr0_3 : Kd.C k24 w A0_3 l0_3.length l0_3) (hc0_3 : l0_3.length ≤ c0_3) (hs1 : Kd.V k24 24 w w.heap.size (fun k_ => P1_ k_) (.slice A1 l1.length c1) l1) (h : hammockref09_subst.f k a0_0 a0_1 a0_2 l0_3 l1 = some (r1, r2, r3, r4)),
  Calls Tryd.prog 59 #[.agg #[.int .i64 a0_0, .int .i64 a0_1, .string a0_2, .slice A0_3 l0_3.length c0_3], .slice A1 l1.length c1] w fun e w' => ∃ v3_ : Value, e = .returned (.agg #[.int .i64 r1, .int .i64 r2, .string r3, v3_]) ∧ Kd.V k24 24 w' w.heap.size (fun k_ => (P1_ k_ ∨ w.heap.size ≤ k_)) v3_ r4 ∧ Below w.heap.size w w' := by
 induction k using Nat.strongRecOn with
 | _ k ih =>
 intro a0_0 a0_1 a0_2 A0_3 c0_3 l0_3 P1_ A1 c1 l1 r1 r2 r3 r4 w hr0_3 hc0_3 hs1 h
 cases k with
 | zero => exact absurd h (by simp [hammockref09_subst.f])
 | succ k =>
 simp only [hammockref09_subst.f] at h
 have hu24 := Tryd.underlying24
 have HR0_3 := zG hr0_3
 have HC0_3 := zG hc0_3
 clear hr0_3 hc0_3
 have HO1 := zG (show Kd.V k24 24 w w.heap.size (fun k_ => (P1_ k_ ∨ w.heap.size ≤ k_)) (.slice A1 l1.length c1) l1 from Kd.V_mono hs1 (fun k_ hk => .inl hk))
 have HB := zG (Below.refl w.heap.size w)
 have H : (if a0_0 = 1 then (if a0_1 ≥ 0 then (hammockref09_subst.j0 k l1 (decide (a0_1 < (l1.length : Int))) a0_0 a0_1 a0_2 l0_3) else (hammockref09_subst.j0 k l1 false a0_0 a0_1 a0_2 l0_3)) else (hammockref09_subst.j0 k l1 false a0_0 a0_1 a0_2 l0_3)) = some (r1, r2, r3, r4) := h
 clear h
 have HC3 := zG H
 clear H
 go_enter Tryd.func59, Tryd.ntmps59
 go_upto_region 1 with (first | ((with_reducible refine gate_dst (N := 2) rfl ?_); (try (refine gate_guard (by rfl) ?_; dsimp only)); refine box_event ?hg (N := 2) ?hd (cs := #[.int .i64 a0_0, .int .i64 a0_1, .string a0_2, .slice A0_3 l0_3.length c0_3]) (t := 24) ?hr ?_; (case hd => rfl); (case hg => rfl); (case hr => first | (go_simp; done) | (go_simp; rfl)); intro gb319 hg w4 hbox hb; have n0_ := zG (Kd.V_below (Kd.V_elderB (by (with_reducible repeat (first | apply Kd.V_alloc | apply Kd.V_drewN | apply Kd.V_drew)); exact HO1.out) gb319 (Nat.le_of_eq hg.symm)) hb); have n1_ := zG (zE HB.out hb); have n2_ := zG (hbox); have n3_ := zG ((by rw [hg]; exact (zF HB.out) : w.heap.size ≤ gb319)); have n4_ := n3_; clear HO1; clear HB; have HO1 := n0_; have HB := n1_; have BK319 := n2_; have GW319 := n3_; have GE319 := n4_; clear n0_ n1_ n2_ n3_ n4_; clear hb hbox hg) | ((with_reducible refine gate_dst (N := 4) rfl ?_); (try (refine gate_guard (by rfl) ?_; dsimp only)); refine box_event ?hg (N := 4) ?hd (cs := #[.int .i64 0, .int .i64 0, .string (⟨#[]⟩ : ByteArray), .slice none 0 0]) (t := 24) ?hr ?_; (case hd => rfl); (case hg => rfl); (case hr => first | (go_simp; done) | (go_simp; rfl)); intro gb320 hg w5 hbox hb; have n0_ := zG (Kd.V_below (Kd.V_elderB (by (with_reducible repeat (first | apply Kd.V_alloc | apply Kd.V_drewN | apply Kd.V_drew)); exact HO1.out) gb320 (Nat.le_of_eq hg.symm)) hb); have n1_ := zG (zK (g := gb319) BK319.out hb); have n2_ := zG (zE HB.out hb); have n3_ := zG (hbox); have n4_ := zG ((by rw [hg]; exact (zF HB.out) : w.heap.size ≤ gb320)); have n5_ := n4_; have n6_ := zG ((by rw [hg]; exact Nat.ne_of_lt (zAD (g := gb319) BK319.out) : gb319 ≠ gb320)); have n7_ := zG ((by rw [hg]; exact Nat.ne_of_gt (zAD (g := gb319) BK319.out) : gb320 ≠ gb319)); clear HO1; clear BK319; clear HB; have HO1 := n0_; have BK319 := n1_; have HB := n2_; have BK320 := n3_; have GW320 := n4_; have GE320 := n5_; have NB319_320 := n6_; have NB320_319 := n7_; clear n0_ n1_ n2_ n3_ n4_ n5_ n6_ n7_; clear hb hbox hg))
 (try simp only [Act.put, zO, zP, zR])
 go_cut [21] (fun v21 wc => ∃ (kq : Nat) (x21_2 : Bool), v21 = .bool x21_2 ∧ Aside0 (hammockref09_subst.j0 kq l1 x21_2 a0_0 a0_1 a0_2 l0_3 = some (r1, r2, r3, r4)) ∧ Aside0 (kq ≤ k) ∧ Aside0 (Kd.V k24 24 wc w.heap.size (fun k_ => (P1_ k_ ∨ w.heap.size ≤ k_) ∧ k_ ≠ gb319 ∧ k_ ≠ gb320) (.slice A1 l1.length c1) l1) ∧ Aside0 (wc.heap[gb319]? = some (.cells #[.int .i64 a0_0, .int .i64 a0_1, .string a0_2, (.slice A0_3 l0_3.length c0_3)] 24 (0, 0))) ∧ Aside0 (wc.heap[gb320]? = some (.cells #[.int .i64 0, .int .i64 0, .string (⟨#[]⟩ : ByteArray), (.slice none 0 0)] 24 (0, 0))) ∧ Aside0 (Below w.heap.size w wc))
 case first =>
  have H := HC3.out
  clear HC3
  by_cases c6 : a0_0 = 1
  ·rw [if_pos c6] at H
   have c6b0 : (a0_0 == 1) = true := zW c6
   have c6b1 : (a0_0 != 1) = false := zX c6
   clear c6
   (first | rw [c6b0] | (simp only [i64_w, i32_w]; rw [c6b0]) | skip)
   by_cases c7 : a0_1 ≥ 0
   ·rw [if_pos c7] at H
    have c7b0 : decide (0 ≤ a0_1) = true := zU c7
    clear c7
    have H' := zG H
    clear H
    have hnb8 := NB319_320.out
    have hnc8 := NB320_319.out
    obtain ⟨hcz9_0, hcz9_1, hcz9_2, hcz9_3, hfz9_0, hfz9_1, hfz9_2, hfz9_3⟩ := zQ BK319.out
    go_wp2
    go_meet
    case rel => exact ⟨_, (decide (a0_1 < (l1.length : Int))), (by first | rfl | (simp; done) | (simp [*]; done)), H', ⟨by first | omega | exact Nat.le_refl _⟩, ⟨by (with_reducible repeat (first | apply Kd.V_alloc | apply Kd.V_drewN | apply Kd.V_drew)); exact Kd.V_mono HO1.out (fun _ hk => ⟨hk.1.1, ⟨hk.1.2, hk.2⟩⟩)⟩, ⟨BK319.out⟩, ⟨BK320.out⟩, ⟨HB.out⟩⟩
   ·rw [if_neg c7] at H
    have c7b0 : decide (0 ≤ a0_1) = false := zV c7
    clear c7
    have H' := zG H
    clear H
    have hnb10 := NB319_320.out
    have hnc10 := NB320_319.out
    obtain ⟨hcz11_0, hcz11_1, hcz11_2, hcz11_3, hfz11_0, hfz11_1, hfz11_2, hfz11_3⟩ := zQ BK319.out
    go_wp2
    go_meet
    case rel => exact ⟨_, (false), (by first | rfl | (simp; done) | (simp [*]; done)), H', ⟨by first | omega | exact Nat.le_refl _⟩, ⟨by (with_reducible repeat (first | apply Kd.V_alloc | apply Kd.V_drewN | apply Kd.V_drew)); exact Kd.V_mono HO1.out (fun _ hk => ⟨hk.1.1, ⟨hk.1.2, hk.2⟩⟩)⟩, ⟨BK319.out⟩, ⟨BK320.out⟩, ⟨HB.out⟩⟩
  ·rw [if_neg c6] at H
   have c6b0 : (a0_0 == 1) = false := zY c6
   have c6b1 : (a0_0 != 1) = true := zZ c6
   (first | rw [c6b0] | (simp only [i64_w, i32_w]; rw [c6b0]) | skip)
   have H' := zG H
   clear H
   have hnb12 := NB319_320.out
   have hnc12 := NB320_319.out
   obtain ⟨hcz13_0, hcz13_1, hcz13_2, hcz13_3, hfz13_0, hfz13_1, hfz13_2, hfz13_3⟩ := zQ BK319.out
   go_wp2
   go_meet
   case rel => exact ⟨_, (false), (by first | rfl | (simp; done) | (simp [*]; done)), H', ⟨by first | omega | exact Nat.le_refl _⟩, ⟨by (with_reducible repeat (first | apply Kd.V_alloc | apply Kd.V_drewN | apply Kd.V_drew)); exact Kd.V_mono HO1.out (fun _ hk => ⟨hk.1.1, ⟨hk.1.2, hk.2⟩⟩)⟩, ⟨BK319.out⟩, ⟨BK320.out⟩, ⟨HB.out⟩⟩
 case rest =>
  clear HC3
  try clear c1
  try clear p2
  try clear c5
  try clear c6
  try clear c6b0
  try clear c6b1
  try clear c7
  try clear c7b0
  try clear c8
  try clear c10
  try clear c12
  try clear hcz11_0
  try clear hcz11_1
  try clear hcz11_2
  try clear hcz11_3
  try clear hcz13_0
  try clear hcz13_1
  try clear hcz13_2
  try clear hcz13_3
  try clear hcz9_0
  try clear hcz9_1
  try clear hcz9_2
  try clear hcz9_3
  try clear hfz11_0
  try clear hfz11_1
  try clear hfz11_2
  try clear hfz11_3
  try clear hfz13_0
  try clear hfz13_1
  try clear hfz13_2
  try clear hfz13_3
  try clear hfz9_0
  try clear hfz9_1
  try clear hfz9_2
  try clear hfz9_3
  obtain ⟨kq, x21_2, rfl, HA, HJ2, HO_1, BK319, BK320, HB⟩ := hcut
  cases kq with
  | zero => exact absurd HA.out (by simp [hammockref09_subst.j0])
  | succ kj2 =>
   have H := HA.out
   clear HA
   simp only [hammockref09_subst.j0] at H
   by_cases c14 : x21_2 = true
   ·subst c14
    have H1 : (if 0 ≤ a0_1 then (if a0_1 < (l1.length : Int) then (some ((rd_T24 l1 a0_1).f0, (rd_T24 l1 a0_1).f1, (rd_T24 l1 a0_1).f2, (rd_T24 l1 a0_1).f3)) else (none)) else (none)) = some (r1, r2, r3, r4) := by rw [if_pos rfl] at H; exact H
    clear H
    have H := H1
    clear H1
    by_cases c15 : 0 ≤ a0_1
    ·rw [if_pos c15] at H
     have c15b0 : decide (0 ≤ a0_1) = true := zU c15
     clear c15
     by_cases c16 : a0_1 < (l1.length : Int)
     ·rw [if_pos c16] at H
      have c16b0 : decide (a0_1 < (l1.length : Int)) = true := zU c16
      clear c16
      simp only [Option.some.injEq, Prod.mk.injEq] at H
      obtain ⟨rfl, rfl, rfl, rfl⟩ := H
      have hnb17 := NB319_320.out
      have hnc17 := NB320_319.out
      obtain ⟨hcz18_0, hcz18_1, hcz18_2, hcz18_3, hfz18_0, hfz18_1, hfz18_2, hfz18_3⟩ := zQ BK319.out
      have p321 : 0 ≤ (a0_1 : Int) := zAA (by assumption)
      have q321 : a0_1 < (l1.length : Int) := zAA (by assumption)
      obtain ⟨ad321, A321_3, c321_3, e321, hx321_0, hx321_1, hx321_2, hx321_3, hl321_3, hi321_3⟩ := at_T24 (Kd.V_reads' HO_1.out).2.2 a0_1 p321 q321
      cases e321
      obtain ⟨ce321, hce321, hMe321, hcc321⟩ := Kd.V_get HO_1.out z24 a0_1 p321 (by first | exact q321 | exact zAA (by assumption) | (have e_ := (Kd.V_reads' HO_1.out).1; omega))
      obtain ⟨ua321_3, uc321_3, rfl, ul321_3, ge321_3⟩ := k24_openF hMe321
      have hv321_3 := hcc321 3 _ rfl
      rw [add_field _ _ 3 (by omega)] at hv321_3
      replace hv321_3 := Option.some.inj (hv321_3.symm.trans hx321_3)
      injection hv321_3 with hva_ hvn_ hvc_
      rw [hva_] at ge321_3
      rw [hvc_] at ul321_3
      have HL321_3 := zG (show Kd.V k24 24 _ w.heap.size _ _ ((rd_T24 l1 a0_1).f3) from Kd.V_mk ul321_3 ge321_3)
      clear hva_ hvn_ hvc_ ge321_3 ul321_3
      clear hcc321 hce321
      have HR321_3 := zG hi321_3
      have HC321_3 := zG hl321_3
      clear hi321_3 hl321_3
      replace p321 := eq_true p321
      replace q321 := eq_true q321
      obtain ⟨hcz19_0, hcz19_1, hcz19_2, hcz19_3, hfz19_0, hfz19_1, hfz19_2, hfz19_3⟩ := zQ BK320.out
      go_wp2
      refine bodyPost_ret (results_cell_row rfl _ _ gb320 24 #[.int .i64 ((rd_T24 l1 a0_1).f0), .int .i64 ((rd_T24 l1 a0_1).f1), .string ((rd_T24 l1 a0_1).f2), .slice A321_3 ((rd_T24 l1 a0_1).f3).length c321_3] (0, 0) _ rfl (by (with_reducible repeat (first | refine zH ?_ _ | refine zI ?_ | refine zJ ?_ _)); refine zAH (cs := #[.int .i64 ((rd_T24 l1 a0_1).f0), .int .i64 ((rd_T24 l1 a0_1).f1), .string ((rd_T24 l1 a0_1).f2), .slice none 0 0]) ?_ 3 _ rfl; (with_reducible repeat (first | refine zH ?_ _ | refine zI ?_ | refine zJ ?_ _)); refine zAH (cs := #[.int .i64 ((rd_T24 l1 a0_1).f0), .int .i64 ((rd_T24 l1 a0_1).f1), .string (⟨#[]⟩ : ByteArray), .slice none 0 0]) ?_ 2 _ rfl; (with_reducible repeat (first | refine zH ?_ _ | refine zI ?_ | refine zJ ?_ _)); refine zAH (cs := #[.int .i64 ((rd_T24 l1 a0_1).f0), .int .i64 0, .string (⟨#[]⟩ : ByteArray), .slice none 0 0]) ?_ 1 _ rfl; (with_reducible repeat (first | refine zH ?_ _ | refine zI ?_ | refine zJ ?_ _)); refine zAH (cs := #[.int .i64 0, .int .i64 0, .string (⟨#[]⟩ : ByteArray), .slice none 0 0]) ?_ 0 _ rfl; (with_reducible repeat (first | refine zH ?_ _ | refine zI ?_ | refine zJ ?_ _)); exact BK320.out) Tryd.underlying24 rfl (by kernel_rfl)) rfl ?_
      exact ⟨_, by first | rfl | (simp [errW_none, errW_some] <;> rfl) | (simp [*, errW_none, errW_some] <;> rfl), by (with_reducible repeat (first | apply Kd.V_alloc | apply Kd.V_drewN | apply Kd.V_drew)); exact Kd.V_mono (Kd.V_far (p := ⟨gb320, 3, none⟩) (Kd.V_far (p := ⟨gb320, 2, none⟩) (Kd.V_far (p := ⟨gb320, 1, none⟩) (Kd.V_far (p := ⟨gb320, 0, none⟩) (Kd.V_mono HL321_3.out (fun k_ hk => (⟨hk, hk.2.2⟩ : _ ∧ k_ ≠ gb320))) (fun _ hk => hk.2) (.int .i64 ((rd_T24 l1 a0_1).f0))) (fun _ hk => hk.2) (.int .i64 ((rd_T24 l1 a0_1).f1))) (fun _ hk => hk.2) (.string ((rd_T24 l1 a0_1).f2))) (fun _ hk => hk.2) (.slice A321_3 ((rd_T24 l1 a0_1).f3).length c321_3)) (fun _ hk => hk.1.1), by repeat (first | (with_reducible first | exact HB.out | apply zA | apply zB | apply zC | refine zD ?_ GE319.out | refine zD ?_ GE320.out) | exact HB.out)⟩
     ·rw [if_neg c16] at H
      exact absurd H (by simp)
    ·rw [if_neg c15] at H
     exact absurd H (by simp)
   ·replace c14 := zAB c14
    subst c14
    have H1 : (hammockref09_subst.l0 kj2 l1 0 a0_0 a0_1 a0_2 l0_3 a0_0 a0_1 a0_2 ([] : List (S24))) = some (r1, r2, r3, r4) := by rw [if_neg (show ¬ (false = true) by decide)] at H; exact H
    clear H
    have H := H1
    clear H1
    have H' := zG H
    clear H
    have hnb20 := NB319_320.out
    have hnc20 := NB320_319.out
    obtain ⟨hcz21_0, hcz21_1, hcz21_2, hcz21_3, hfz21_0, hfz21_1, hfz21_2, hfz21_3⟩ := zQ BK319.out
    go_wp2_with (first | ((with_reducible refine gate_dst (N := 5) rfl ?_); (try (refine gate_guard (by rfl) ?_; dsimp only)); refine box_event ?hg (N := 5) ?hd (cs := #[.int .i64 0, .int .i64 0, .string (⟨#[]⟩ : ByteArray), .slice none 0 0]) (t := 24) ?hr ?_; (case hd => rfl); (case hg => rfl); (case hr => first | (go_simp; done) | (go_simp; rfl)); intro gb322 hg w22 hbox hb; have n0_ := zG (Kd.V_below (Kd.V_elderB (by (with_reducible repeat (first | apply Kd.V_alloc | apply Kd.V_drewN | apply Kd.V_drew)); exact HO_1.out) gb322 (Nat.le_of_eq hg.symm)) hb); have n1_ := zG (zK (g := gb319) BK319.out hb); have n2_ := zG (zK (g := gb320) BK320.out hb); have n3_ := zG (zE HB.out hb); have n4_ := zG (hbox); have n5_ := zG ((by rw [hg]; exact (zF HB.out) : w.heap.size ≤ gb322)); have n6_ := n5_; have n7_ := zG ((by rw [hg]; exact Nat.ne_of_lt (zAD (g := gb319) BK319.out) : gb319 ≠ gb322)); have n8_ := zG ((by rw [hg]; exact Nat.ne_of_gt (zAD (g := gb319) BK319.out) : gb322 ≠ gb319)); have n9_ := zG ((by rw [hg]; exact Nat.ne_of_lt (zAD (g := gb320) BK320.out) : gb320 ≠ gb322)); have n10_ := zG ((by rw [hg]; exact Nat.ne_of_gt (zAD (g := gb320) BK320.out) : gb322 ≠ gb320)); clear HO_1; clear BK319; clear BK320; clear HB; have HO_1 := n0_; have BK319 := n1_; have BK320 := n2_; have HB := n3_; have BK322 := n4_; have GW322 := n5_; have GE322 := n6_; have NB319_322 := n7_; have NB322_319 := n8_; have NB320_322 := n9_; have NB322_320 := n10_; clear n0_ n1_ n2_ n3_ n4_ n5_ n6_ n7_ n8_ n9_ n10_; clear hb hbox hg; have hnb23 := NB322_319.out; have hnc23 := NB319_322.out; have hnb24 := NB322_320.out; have hnc24 := NB320_322.out; obtain ⟨hcz25_0, hcz25_1, hcz25_2, hcz25_3⟩ := zN BK322.out; have hfz25_0 := zM BK322.out 0; have hfz25_1 := zM BK322.out 1; have hfz25_2 := zM BK322.out 2; have hfz25_3 := zM BK322.out 3))
    go_loopg [6] kj2 (fun kq v6 w' => ∃ (x6_2 : Int) (x323003_2 : List (S24)) (u323003 : Value), v6 = .int .i64 x6_2 ∧ Aside0 (hammockref09_subst.l0 kq l1 x6_2 a0_0 a0_1 a0_2 l0_3 a0_0 a0_1 a0_2 x323003_2 = some (r1, r2, r3, r4)) ∧ Aside0 (kq ≤ kj2) ∧ Aside0 (Kd.V k24 24 w' w.heap.size (fun k_ => (P1_ k_ ∨ w.heap.size ≤ k_) ∧ some k_ ≠ (u323003 : Value).ownBlock ∧ k_ ≠ gb319 ∧ k_ ≠ gb320 ∧ k_ ≠ gb322) (.slice A1 l1.length c1) l1) ∧ Aside0 (Kd.N k24 24 w' w.heap.size (fun k_ => (P1_ k_ ∨ w.heap.size ≤ k_) ∧ k_ ≠ gb319 ∧ k_ ≠ gb320 ∧ k_ ≠ gb322) u323003 x323003_2) ∧ Aside0 (w'.heap[gb319]? = some (.cells #[.int .i64 a0_0, .int .i64 a0_1, .string a0_2, (.slice A0_3 l0_3.length c0_3)] 24 (0, 0))) ∧ Aside0 (w'.heap[gb320]? = some (.cells #[.int .i64 0, .int .i64 0, .string (⟨#[]⟩ : ByteArray), (.slice none 0 0)] 24 (0, 0))) ∧ Aside0 (w'.heap[gb322]? = some (.cells #[.int .i64 a0_0, .int .i64 a0_1, .string a0_2, u323003] 24 (0, 0))) ∧ Aside0 (Below w.heap.size w w'))
    case atStart => exact ⟨(0), (([] : List (S24))), (.slice none 0 0), (by first | rfl | (simp; done) | (simp [*]; done)), H', ⟨Nat.le_refl _⟩, ⟨by (with_reducible repeat (first | apply Kd.V_alloc | apply Kd.V_drewN | apply Kd.V_drew)); exact Kd.V_mono (Kd.V_far (p := ⟨gb322, 3, none⟩) (Kd.V_far (p := ⟨gb322, 2, none⟩) (Kd.V_far (p := ⟨gb322, 1, none⟩) (Kd.V_far (p := ⟨gb322, 0, none⟩) (Kd.V_mono HO_1.out (fun k_ hk => (⟨hk, hk.2⟩ : _ ∧ k_ ≠ gb322))) (fun _ hk => hk.2) (.int .i64 a0_0)) (fun _ hk => hk.2) (.int .i64 a0_1)) (fun _ hk => hk.2) (.string a0_2)) (fun _ hk => hk.2) (.slice none 0 0)) (fun _ hk => ⟨hk.1.1.1, ⟨(by simp [Value.ownBlock]), ⟨hk.1.1.2.1, ⟨hk.1.1.2.2, hk.1.2⟩⟩⟩⟩)⟩, ⟨by first | exact Kd.R_nil _ _ _ _ _ | exact Kd.N_nil _ _ _ _ _ | exact Kd.V_nil _ _ _ _ _ | exact Kd.Q_nil _ _ _ _ _ | exact Kd.S_nil _ _ _ _ _⟩, ⟨by (with_reducible repeat (first | refine zH ?_ _ | refine zI ?_ | refine zJ ?_ _)); refine blk_far ?_ NB319_322.out _; (with_reducible repeat (first | refine zH ?_ _ | refine zI ?_ | refine zJ ?_ _)); refine blk_far ?_ NB319_322.out _; (with_reducible repeat (first | refine zH ?_ _ | refine zI ?_ | refine zJ ?_ _)); refine blk_far ?_ NB319_322.out _; (with_reducible repeat (first | refine zH ?_ _ | refine zI ?_ | refine zJ ?_ _)); refine blk_far ?_ NB319_322.out _; (with_reducible repeat (first | refine zH ?_ _ | refine zI ?_ | refine zJ ?_ _)); exact BK319.out⟩, ⟨by (with_reducible repeat (first | refine zH ?_ _ | refine zI ?_ | refine zJ ?_ _)); refine blk_far ?_ NB320_322.out _; (with_reducible repeat (first | refine zH ?_ _ | refine zI ?_ | refine zJ ?_ _)); refine blk_far ?_ NB320_322.out _; (with_reducible repeat (first | refine zH ?_ _ | refine zI ?_ | refine zJ ?_ _)); refine blk_far ?_ NB320_322.out _; (with_reducible repeat (first | refine zH ?_ _ | refine zI ?_ | refine zJ ?_ _)); refine blk_far ?_ NB320_322.out _; (with_reducible repeat (first | refine zH ?_ _ | refine zI ?_ | refine zJ ?_ _)); exact BK320.out⟩, ⟨by (with_reducible repeat (first | refine zH ?_ _ | refine zI ?_ | refine zJ ?_ _)); refine zAH (cs := #[.int .i64 a0_0, .int .i64 a0_1, .string a0_2, .slice none 0 0]) ?_ 3 _ rfl; (with_reducible repeat (first | refine zH ?_ _ | refine zI ?_ | refine zJ ?_ _)); refine zAH (cs := #[.int .i64 a0_0, .int .i64 a0_1, .string (⟨#[]⟩ : ByteArray), .slice none 0 0]) ?_ 2 _ rfl; (with_reducible repeat (first | refine zH ?_ _ | refine zI ?_ | refine zJ ?_ _)); refine zAH (cs := #[.int .i64 a0_0, .int .i64 0, .string (⟨#[]⟩ : ByteArray), .slice none 0 0]) ?_ 1 _ rfl; (with_reducible repeat (first | refine zH ?_ _ | refine zI ?_ | refine zJ ?_ _)); refine zAH (cs := #[.int .i64 0, .int .i64 0, .string (⟨#[]⟩ : ByteArray), .slice none 0 0]) ?_ 0 _ rfl; (with_reducible repeat (first | refine zH ?_ _ | refine zI ?_ | refine zJ ?_ _)); exact BK322.out⟩, ⟨by repeat (first | (with_reducible first | exact HB.out | apply zA | apply zB | apply zC | refine zD ?_ GE319.out | refine zD ?_ GE320.out | refine zD ?_ GE322.out) | exact HB.out)⟩⟩
    case round =>
     clear H'
     try clear c1
     try clear c2
     try clear p2
     try clear c3
     try clear p3
     try clear q3
     try clear hx3
     try clear c5
     try clear c6
     try clear c6b0
     try clear c6b1
     try clear c7
     try clear c7b0
     try clear c8
     try clear c10
     try clear c12
     try clear c14
     try clear c15
     try clear c15b0
     try clear c16
     try clear c16b0
     try clear c17
     try clear c20
     try clear c23
     try clear c24
     try clear hcz11_0
     try clear hcz11_1
     try clear hcz11_2
     try clear hcz11_3
     try clear hcz13_0
     try clear hcz13_1
     try clear hcz13_2
     try clear hcz13_3
     try clear hcz18_0
     try clear hcz18_1
     try clear hcz18_2
     try clear hcz18_3
     try clear hcz19_0
     try clear hcz19_1
     try clear hcz19_2
     try clear hcz19_3
     try clear hcz21_0
     try clear hcz21_1
     try clear hcz21_2
     try clear hcz21_3
     try clear hcz25_0
     try clear hcz25_1
     try clear hcz25_2
     try clear hcz25_3
     try clear hcz9_0
     try clear hcz9_1
     try clear hcz9_2
     try clear hcz9_3
     try clear hfz11_0
     try clear hfz11_1
     try clear hfz11_2
     try clear hfz11_3
     try clear hfz13_0
     try clear hfz13_1
     try clear hfz13_2
     try clear hfz13_3
     try clear hfz18_0
     try clear hfz18_1
     try clear hfz18_2
     try clear hfz18_3
     try clear hfz19_0
     try clear hfz19_1
     try clear hfz19_2
     try clear hfz19_3
     try clear hfz21_0
     try clear hfz21_1
     try clear hfz21_2
     try clear hfz21_3
     try clear hfz25_0
     try clear hfz25_1
     try clear hfz25_2
     try clear hfz25_3
     try clear hfz9_0
     try clear hfz9_1
     try clear hfz9_2
     try clear hfz9_3
     try clear hx321_0
     try clear hx321_1
     try clear hx321_2
     try clear hx321_3
     try clear p2
     try clear p321
     try clear q321
     obtain ⟨x6_2, x323003_2, u323003, rfl, HA, HK2, HO_1, HO_323003, BK319, BK320, BK322, HB⟩ := hrel
     cases gk with
     | zero => exact absurd HA.out (by simp [hammockref09_subst.l0])
     | succ k2 =>
      have H := HA.out
      clear HA
      simp only [hammockref09_subst.l0] at H
      by_cases c26 : x6_2 < (l0_3.length : Int)
      ·rw [if_pos c26] at H
       have c26b0 : decide (x6_2 < (l0_3.length : Int)) = true := zU c26
       clear c26
       by_cases c27 : 0 ≤ x6_2
       ·rw [if_pos c27] at H
        have c27b0 : decide (0 ≤ x6_2) = true := zU c27
        clear c27
        replace H := zT H
        obtain ⟨⟨t324, t325, t326, t327⟩, A280, H⟩ := H
        replace H : (if x323003_2.length < 2513169434916 then (hammockref09_subst.l0 k2 l1 (wrap64 (x6_2 + 1)) a0_0 a0_1 a0_2 l0_3 a0_0 a0_1 a0_2 (x323003_2 ++ [(⟨t324, t325, t326, t327⟩ : S24)])) else (none)) = some (r1, r2, r3, r4) := H
        have A28 := zG A280
        clear A280
        by_cases c29 : x323003_2.length < 2513169434916
        ·rw [if_pos c29] at H
         have LMc29 := zG c29
         clear c29
         obtain ⟨y330, hy330⟩ : ∃ y_ : List (S24), y_ = (x323003_2 ++ [(⟨t324, t325, t326, t327⟩ : S24)]) := ⟨_, rfl⟩
         replace H : (hammockref09_subst.l0 k2 l1 (wrap64 (x6_2 + 1)) a0_0 a0_1 a0_2 l0_3 a0_0 a0_1 a0_2 y330) = some (r1, r2, r3, r4) := by first | (rw [hy330]; with_reducible exact H) | (have H2_ := (Option.bind_some _ _).symm.trans H; rw [hy330]; with_reducible exact H2_) | (have H2_ := (Option.bind_some _ _).symm.trans H; with_reducible exact H2_) | with_reducible exact H | (rw [hy330]; exact H) | exact H
         have Ny330 := zG hy330
         clear hy330
         have H' := zG H
         clear H
         have hnb30 := NB319_320.out
         have hnc30 := NB320_319.out
         have hnb31 := NB319_322.out
         have hnc31 := NB322_319.out
         obtain ⟨hcz32_0, hcz32_1, hcz32_2, hcz32_3, hfz32_0, hfz32_1, hfz32_2, hfz32_3⟩ := zQ BK319.out
         try go_wp2
         have n0_ := zG (Kd.V_drew HO_1.out)
         have n1_ := zG (Kd.N_drew HO_323003.out)
         have n2_ := zG (zI BK319.out)
         have n3_ := zG (zI BK320.out)
         have n4_ := zG (zI BK322.out)
         have n5_ := zG (zC HB.out)
         clear HO_1
         clear HO_323003
         clear BK319
         clear BK320
         clear BK322
         clear HB
         have HO_1 := n0_
         have HO_323003 := n1_
         have BK319 := n2_
         have BK320 := n3_
         have BK322 := n4_
         have HB := n5_
         clear n0_ n1_ n2_ n3_ n4_ n5_
         have p323 : 0 ≤ (x6_2 : Int) := zAA (by assumption)
         have q323 : x6_2 < (l0_3.length : Int) := zAA (by assumption)
         obtain ⟨ad323, A323_3, c323_3, e323, hx323_0, hx323_1, hx323_2, hx323_3, hl323_3, hi323_3⟩ := at_T24 HR0_3.out x6_2 p323 q323
         have hw323_3 := hx323_3
         have hw323_2 := hx323_2
         have hw323_1 := hx323_1
         have hw323_0 := hx323_0
         cases e323
         replace hx323_0 := (HB.out.cell (zS w _ hx323_0)).trans hx323_0
         replace hx323_1 := (HB.out.cell (zS w _ hx323_1)).trans hx323_1
         replace hx323_2 := (HB.out.cell (zS w _ hx323_2)).trans hx323_2
         replace hx323_3 := (HB.out.cell (zS w _ hx323_3)).trans hx323_3
         have HR323_3 := zG hi323_3
         have HC323_3 := zG hl323_3
         clear hi323_3 hl323_3
         replace p323 := eq_true p323
         replace q323 := eq_true q323
         refine start_ (n := 13) (S := fun w' => w'.cell? ⟨gb322, 0, none⟩ = some (.int .i64 a0_0) ∧ w'.cell? ⟨gb322, 1, none⟩ = some (.int .i64 a0_1) ∧ w'.cell? ⟨gb322, 2, none⟩ = some (.string a0_2) ∧ w'.cell? ⟨gb322, 3, none⟩ = some (u323003) ∧ w'.cell? ⟨gb319, 0, none⟩ = some (.int .i64 a0_0) ∧ w'.cell? ⟨gb319, 1, none⟩ = some (.int .i64 a0_1) ∧ w'.cell? ⟨gb319, 2, none⟩ = some (.string a0_2) ∧ w'.cell? ⟨gb319, 3, none⟩ = some (.slice (some ad323) l0_3.length c0_3) ∧ w'.cell? (ad323.add ((x6_2).toNat * 4)) = some (.int .i64 ((rd_T24 l0_3 x6_2).f0)) ∧ w'.cell? ⟨(ad323.add ((x6_2).toNat * 4)).block, (ad323.add ((x6_2).toNat * 4)).off + 1, none⟩ = some (.int .i64 ((rd_T24 l0_3 x6_2).f1)) ∧ w'.cell? ⟨(ad323.add ((x6_2).toNat * 4)).block, (ad323.add ((x6_2).toNat * 4)).off + 2, none⟩ = some (.string ((rd_T24 l0_3 x6_2).f2)) ∧ w'.cell? ⟨(ad323.add ((x6_2).toNat * 4)).block, (ad323.add ((x6_2).toNat * 4)).off + 3, none⟩ = some (.slice A323_3 ((rd_T24 l0_3 x6_2).f3).length c323_3)) (ds := [12]) (zBM 13 0) (by kernel_rfl) rfl rfl ⟨zL BK322.out 0, zL BK322.out 1, zL BK322.out 2, zL BK322.out 3, zL BK319.out 0, zL BK319.out 1, zL BK319.out 2, zL BK319.out 3, ((HB.out.cell (zS w _ hw323_0)).trans hw323_0), ((HB.out.cell (zS w _ hw323_1)).trans hw323_1), ((HB.out.cell (zS w _ hw323_2)).trans hw323_2), ((HB.out.cell (zS w _ hw323_3)).trans hw323_3)⟩ (fun hHeld => ?_); refine with_tabW hammockref09_subst.tab7 hammockref09_subst.bits7 (fun HT_ HW_ => ?_)
         generalize wr.drew = w33 at HO_1 HO_323003 BK319 BK320 BK322 HB HR323_3 hx323_0 hx323_1 hx323_2 hx323_3 hHeld ⊢
         refine pure_ (i := 0) (N := some 41) (v := ?_) (a' := ?_) (zBM 13 1) rfl rfl (any_of HT_.out (by kernel_rfl)) (fun _ _ _ h => h) (Or.inl ⟨by rfl, ?_⟩) ?_ ?_
         rotate_left
         ·intro w'
          go_simp
          with_reducible rfl
         rotate_left
         ·simp only [Act.put, zO, zP, zR, i64_w, i32_w]
          rfl
         refine pure_ (i := 2) (N := some 43) (v := ?_) (a' := ?_) (zBM 13 5) rfl rfl (any_of HT_.out (by kernel_rfl)) (fun _ _ _ h => h) (Or.inl ⟨by rfl, ?_⟩) ?_ ?_
         rotate_left
         ·intro w'
          go_simp
          with_reducible rfl
         rotate_left
         ·simp only [Act.put, zO, zP, zR, i64_w, i32_w]
          rfl
         refine pure_ (i := 4) (N := some 45) (v := ?_) (a' := ?_) (zBM 13 21) rfl rfl (any_of HT_.out (by kernel_rfl)) (fun _ _ _ h => h) (Or.inl ⟨by rfl, ?_⟩) ?_ ?_
         rotate_left
         ·intro w'
          go_simp
          with_reducible rfl
         rotate_left
         ·simp only [Act.put, zO, zP, zR, i64_w, i32_w]
          rfl
         refine pure_ (i := 7) (N := some 48) (v := ?_) (a' := ?_) (zBM 13 149) rfl rfl (any_of HT_.out (by kernel_rfl)) (fun _ _ _ h => h) (Or.inl ⟨by rfl, ?_⟩) ?_ ?_
         rotate_left
         ·intro w'
          go_simp
          with_reducible rfl
         rotate_left
         ·simp only [Act.put, zO, zP, zR, i64_w, i32_w]
          rfl
         refine take_ (i := 1) (N := some 42) (v := ?_) (a' := ?_) (zBM 13 151) rfl rfl (take_ofW HT_.out HW_.out (by kernel_rfl)) (fun _ _ _ h => h) (Or.inl ⟨by rfl, ?_⟩) hHeld ?_ ?_
         rotate_left
         ·rintro w' ⟨s0, s1, s2, s3, s4, s5, s6, s7, s8, s9, s10, s11⟩
          go_simp
          with_reducible rfl
         rotate_left
         ·simp only [Act.put, zO, zP, zR, i64_w, i32_w]
          rfl
         refine take_ (i := 3) (N := some 44) (v := ?_) (a' := ?_) (zBM 13 159) rfl rfl (take_ofW HT_.out HW_.out (by kernel_rfl)) (fun _ _ _ h => h) (Or.inl ⟨by rfl, ?_⟩) hHeld ?_ ?_
         rotate_left
         ·rintro w' ⟨s0, s1, s2, s3, s4, s5, s6, s7, s8, s9, s10, s11⟩
          go_simp
          with_reducible rfl
         rotate_left
         ·simp only [Act.put, zO, zP, zR, i64_w, i32_w]
          rfl
         refine pure_ (i := 5) (N := some 46) (v := ?_) (a' := ?_) (zBM 13 191) rfl rfl (any_of HT_.out (by kernel_rfl)) (fun _ _ _ h => h) (Or.inl ⟨by rfl, ?_⟩) ?_ ?_
         rotate_left
         ·intro w'
          go_simp
          with_reducible rfl
         rotate_left
         ·simp only [Act.put, zO, zP, zR, i64_w, i32_w]
          rfl
         refine take_ (i := 6) (N := some 47) (v := ?_) (a' := ?_) (zBM 13 255) rfl rfl (take_ofW HT_.out HW_.out (by kernel_rfl)) (fun _ _ _ h => h) (Or.inl ⟨by rfl, ?_⟩) hHeld ?_ ?_
         rotate_left
         ·rintro w' ⟨s0, s1, s2, s3, s4, s5, s6, s7, s8, s9, s10, s11⟩
          go_simp
          with_reducible rfl
         rotate_left
         ·simp only [Act.put, zO, zP, zR, i64_w, i32_w]
          rfl
         refine one_ (i := 8) (N := some 49) (zBM 13 511) rfl rfl (one_of HT_.out (by kernel_rfl)) (by decide) (fun K hK => ?_)
         refine goes_ Tryd.func59 (by kernel_rfl) rfl #[.agg #[.int .i64 ((rd_T24 l0_3 x6_2).f0), .int .i64 ((rd_T24 l0_3 x6_2).f1), .string ((rd_T24 l0_3 x6_2).f2), .slice A323_3 ((rd_T24 l0_3 x6_2).f3).length c323_3], .slice A1 l1.length c1] (by rfl) rfl rfl (by (try simp only [List.map_toArray, List.map_cons, List.map_nil]); first | done | rfl | (simp only [List.length_drop, List.length_take]; rfl)) ?_
         with_reducible refine (ih k2 (by have := HJ2.out; have := HK2.out; omega) ((rd_T24 l0_3 x6_2).f0) ((rd_T24 l0_3 x6_2).f1) ((rd_T24 l0_3 x6_2).f2) _ _ ((rd_T24 l0_3 x6_2).f3) (fun k_ => ((P1_ k_ ∨ w.heap.size ≤ k_) ∧ (some k_ ≠ (u323003 : Value).ownBlock ∧ (k_ ≠ gb319 ∧ (k_ ≠ gb320 ∧ k_ ≠ gb322))))) _ _ l1 t324 t325 t326 t327 _ ?side1 ?side2 ?side3 A28.out).mono ?_
         (case side1 => exact zAC HR323_3.out HB.out)
         (case side2 => exact HC323_3.out)
         (case side3 => exact HO_1.out)
         rintro e w34 ⟨v328, rfl, ho0, hb⟩
         refine ⟨_, rfl, ?_⟩
         have n0_ := zG (Kd.V_below (by (with_reducible repeat (first | apply Kd.V_alloc | apply Kd.V_drewN | apply Kd.V_drew)); exact HO_1.out) hb)
         have n1_ := zG (Kd.N_below (by (with_reducible repeat (first | apply Kd.N_alloc | apply Kd.N_drewN | apply Kd.N_drew)); exact HO_323003.out) hb)
         have n2_ := zG (Kd.V_lower (Kd.V_mono (ok' := fun k_ => (P1_ k_ ∨ w.heap.size ≤ k_) ∧ some k_ ≠ (u323003 : Value).ownBlock ∧ k_ ≠ gb319 ∧ k_ ≠ gb320 ∧ k_ ≠ gb322) ho0 (fun k_ hk_ => ⟨Or.elim hk_ (fun hs_ => hs_.1) (fun hn_ => (.inr (Nat.le_trans (zF HB.out) hn_))), Or.elim hk_ (fun hs_ => hs_.2.1) (fun hn_ => (Kd.fresh' (Kd.N_lt (by (with_reducible repeat (first | apply Kd.N_alloc | apply Kd.N_drewN | apply Kd.N_drew)); exact HO_323003.out)) k_ hn_)), Or.elim hk_ (fun hs_ => hs_.2.2.1) (fun hn_ => (Kd.freshB (g := gb319) (o := .cells #[.int .i64 a0_0, .int .i64 a0_1, .string a0_2, .slice (some ad323) l0_3.length c0_3] 24 (0, 0)) BK319.out k_ hn_)), Or.elim hk_ (fun hs_ => hs_.2.2.2.1) (fun hn_ => (Kd.freshB (g := gb320) (o := .cells #[.int .i64 0, .int .i64 0, .string (⟨#[]⟩ : ByteArray), .slice none 0 0] 24 (0, 0)) BK320.out k_ hn_)), Or.elim hk_ (fun hs_ => hs_.2.2.2.2) (fun hn_ => (Kd.freshB (g := gb322) (o := .cells #[.int .i64 a0_0, .int .i64 a0_1, .string a0_2, u323003] 24 (0, 0)) BK322.out k_ hn_))⟩)) (zF HB.out))
         have n3_ := zG (zK (g := gb319) BK319.out hb)
         have n4_ := zG (zK (g := gb320) BK320.out hb)
         have n5_ := zG (zK (g := gb322) BK322.out hb)
         have n6_ := zG (zE HB.out hb)
         clear HO_1
         clear HO_323003
         clear BK319
         clear BK320
         clear BK322
         clear HB
         have HO_1 := n0_
         have HO_323003 := n1_
         have HO329 := n2_
         have BK319 := n3_
         have BK320 := n4_
         have BK322 := n5_
         have HB := n6_
         clear n0_ n1_ n2_ n3_ n4_ n5_ n6_
         (try clear hb)
         (try clear hb2)
         (try clear hk)
         (try clear hi)
         (try clear ho0)
         obtain ⟨Ao36, co36, eo36⟩ := Kd.V_slice HO329.out
         (first | subst eo36 | (injection eo36 with f1_ f2_ f3_; have f4_ := f1_.symm; have f5_ := f3_.symm; clear f1_ f2_ f3_; subst f4_; subst f5_))
         refine hK.out _ _ ⟨zL BK322.out 0, zL BK322.out 1, zL BK322.out 2, zL BK322.out 3, zL BK319.out 0, zL BK319.out 1, zL BK319.out 2, zL BK319.out 3, ((HB.out.cell (zS w _ hw323_0)).trans hw323_0), ((HB.out.cell (zS w _ hw323_1)).trans hw323_1), ((HB.out.cell (zS w _ hw323_2)).trans hw323_2), ((HB.out.cell (zS w _ hw323_3)).trans hw323_3)⟩ (fun hHeld => ?_)
         clear hK K
         refine norm_ (a' := ?_) ?_ ?_
         rotate_left
         ·show Act.put _ (some 49) _ = _
          simp only [Act.put, zO, zP, zR, i64_w, i32_w]
          rfl
         refine one_ (i := 9) (N := some 50) (zBM 13 1023) rfl rfl (one_of HT_.out (by kernel_rfl)) (by decide) (fun K hK => ?_)
         refine value_ (w1 := ?_) (v := ?_) (by rfl) rfl ?_ ?_
         rotate_left 2
         ·go_simp
          constructor
          ·rfl
          ·rfl
         refine hK.out _ _ ⟨zL (zJ BK322.out _) 0, zL (zJ BK322.out _) 1, zL (zJ BK322.out _) 2, zL (zJ BK322.out _) 3, zL (zJ BK319.out _) 0, zL (zJ BK319.out _) 1, zL (zJ BK319.out _) 2, zL (zJ BK319.out _) 3, (World.cell?_alloc_lt _ _ _ (zS _ _ (((HB.out.cell (zS w _ hw323_0)).trans hw323_0)))).trans (((HB.out.cell (zS w _ hw323_0)).trans hw323_0)), (World.cell?_alloc_lt _ _ _ (zS _ _ (((HB.out.cell (zS w _ hw323_1)).trans hw323_1)))).trans (((HB.out.cell (zS w _ hw323_1)).trans hw323_1)), (World.cell?_alloc_lt _ _ _ (zS _ _ (((HB.out.cell (zS w _ hw323_2)).trans hw323_2)))).trans (((HB.out.cell (zS w _ hw323_2)).trans hw323_2)), (World.cell?_alloc_lt _ _ _ (zS _ _ (((HB.out.cell (zS w _ hw323_3)).trans hw323_3)))).trans (((HB.out.cell (zS w _ hw323_3)).trans hw323_3))⟩ (fun hHeld => ?_)
         clear hK K
         refine norm_ (a' := ?_) ?_ ?_
         rotate_left
         ·show Act.put _ (some 50) _ = _
          simp only [Act.put, zO, zP, zR, i64_w, i32_w]
          rfl
         refine one_ (i := 10) (N := some 51) (zBM 13 2047) rfl rfl (one_of HT_.out (by kernel_rfl)) (by decide) (fun K hK => ?_)
         refine Kd.N_append_step k24 (w0 := w) w.heap.size (by rfl) (.tmp 42) (.tmp 50) 22 24 (.agg #[(.int .i64 0), (.int .i64 0), (.string ⟨#[]⟩), (.slice none 0 0)]) 56 rfl Tryd.underlying22 info24 rfl (by decide) (by omega) u323003 x323003_2 (⟨t324, t325, t326, t327⟩ : S24) [.int .i64 t324, .int .i64 t325, .string t326, .slice Ao36 t327.length co36] (fun k_ => (P1_ k_ ∨ w.heap.size ≤ k_) ∧ k_ ≠ gb319 ∧ k_ ≠ gb320 ∧ k_ ≠ gb322) (fun k_ => ((fun k_ => (P1_ k_ ∨ w.heap.size ≤ k_) ∧ k_ ≠ gb319 ∧ k_ ≠ gb320 ∧ k_ ≠ gb322)) k_ ∧ some k_ ≠ (u323003 : Value).ownBlock) rfl rfl ?aP (fun _ hk => hk) ?aF ?aO ?aB ?aS ?aL ?_
         (case aP => exact (k24_mkF _ _ (⟨t324, t325, t326, t327⟩ : S24) (Kd.V_reads' (Kd.V_mono (ok' := (fun k_ => ((fun k_ => (P1_ k_ ∨ w.heap.size ≤ k_) ∧ k_ ≠ gb319 ∧ k_ ≠ gb320 ∧ k_ ≠ gb322)) k_ ∧ some k_ ≠ (u323003 : Value).ownBlock)) (HO329.out) (fun k_ hk => ⟨⟨hk.1, ⟨hk.2.2.1, ⟨hk.2.2.2.1, hk.2.2.2.2⟩⟩⟩, hk.2.1⟩))).2.1 (Kd.V_F (Kd.V_mono (ok' := (fun k_ => ((fun k_ => (P1_ k_ ∨ w.heap.size ≤ k_) ∧ k_ ≠ gb319 ∧ k_ ≠ gb320 ∧ k_ ≠ gb322)) k_ ∧ some k_ ≠ (u323003 : Value).ownBlock)) (HO329.out) (fun k_ hk => ⟨⟨hk.1, ⟨hk.2.2.1, ⟨hk.2.2.2.1, hk.2.2.2.2⟩⟩⟩, hk.2.1⟩)))))
         (case aB => exact HB.out)
         (case aF => exact (fun k_ hk => ⟨(.inr (Nat.le_trans (zF HB.out) hk)), Kd.freshB (g := gb319) (o := .cells #[.int .i64 a0_0, .int .i64 a0_1, .string a0_2, .slice (some ad323) l0_3.length c0_3] 24 (0, 0)) BK319.out k_ hk, Kd.freshB (g := gb320) (o := .cells #[.int .i64 0, .int .i64 0, .string (⟨#[]⟩ : ByteArray), .slice none 0 0] 24 (0, 0)) BK320.out k_ hk, Kd.freshB (g := gb322) (o := .cells #[.int .i64 a0_0, .int .i64 a0_1, .string a0_2, u323003] 24 (0, 0)) BK322.out k_ hk⟩))
         (case aO => exact (by (with_reducible repeat (first | apply Kd.N_alloc | apply Kd.N_drewN | apply Kd.N_drew)); exact HO_323003.out))
         (case aS => exact (zF HB.out))
         (case aL => have := LMc29.out; omega)
         intro v331 w35 ho hb hg hat
         rw [← Ny330.out] at ho
         have n0_ := zG (Kd.V_afterv (ok := (fun k_ => (P1_ k_ ∨ w.heap.size ≤ k_) ∧ k_ ≠ gb319 ∧ k_ ≠ gb320 ∧ k_ ≠ gb322)) (by (with_reducible repeat (first | apply Kd.V_alloc | apply Kd.V_drewN | apply Kd.V_drew)); exact Kd.V_mono HO_1.out (fun _ hk => ⟨⟨hk.1, ⟨hk.2.2.1, ⟨hk.2.2.2.1, hk.2.2.2.2⟩⟩⟩, hk.2.1⟩)) hg hat)
         have n1_ := zG (blk_grown (g := gb319) (o := .cells #[.int .i64 a0_0, .int .i64 a0_1, .string a0_2, .slice (some ad323) l0_3.length c0_3] 24 (0, 0)) BK319.out hg (Kd.N_away HO_323003.out (fun _ hk => hk.2.1)))
         have n2_ := zG (blk_grown (g := gb320) (o := .cells #[.int .i64 0, .int .i64 0, .string (⟨#[]⟩ : ByteArray), .slice none 0 0] 24 (0, 0)) BK320.out hg (Kd.N_away HO_323003.out (fun _ hk => hk.2.2.1)))
         have n3_ := zG (blk_grown (g := gb322) (o := .cells #[.int .i64 a0_0, .int .i64 a0_1, .string a0_2, u323003] 24 (0, 0)) BK322.out hg (Kd.N_away HO_323003.out (fun _ hk => hk.2.2.2)))
         have n4_ := zG (Kd.V_afterv (ok := (fun k_ => (P1_ k_ ∨ w.heap.size ≤ k_) ∧ k_ ≠ gb319 ∧ k_ ≠ gb320 ∧ k_ ≠ gb322)) (by (with_reducible repeat (first | apply Kd.V_alloc | apply Kd.V_drewN | apply Kd.V_drew)); exact Kd.V_mono HO329.out (fun _ hk => ⟨⟨hk.1, ⟨hk.2.2.1, ⟨hk.2.2.2.1, hk.2.2.2.2⟩⟩⟩, hk.2.1⟩)) hg hat)
         have n5_ := zG (hb)
         have n6_ := zG (ho)
         clear HO_1
         clear BK319
         clear BK320
         clear BK322
         clear HO329
         clear HB
         clear HO_323003
         have HO_1 := n0_
         have BK319 := n1_
         have BK320 := n2_
         have BK322 := n3_
         have HO329 := n4_
         have HB := n5_
         have HO332 := n6_
         clear n0_ n1_ n2_ n3_ n4_ n5_ n6_
         clear ho hb hg hat
         obtain ⟨Ao37, co37, eo37⟩ := Kd.N_slice HO332.out
         (first | subst eo37 | (injection eo37 with f1_ f2_ f3_; have f4_ := f1_.symm; have f5_ := f3_.symm; clear f1_ f2_ f3_; subst f4_; subst f5_))
         refine hK.out _ _ ⟨zL BK322.out 0, zL BK322.out 1, zL BK322.out 2, zL BK322.out 3, zL BK319.out 0, zL BK319.out 1, zL BK319.out 2, zL BK319.out 3, ((HB.out.cell (zS w _ hw323_0)).trans hw323_0), ((HB.out.cell (zS w _ hw323_1)).trans hw323_1), ((HB.out.cell (zS w _ hw323_2)).trans hw323_2), ((HB.out.cell (zS w _ hw323_3)).trans hw323_3)⟩ (fun hHeld => ?_)
         clear hK K
         refine norm_ (a' := ?_) ?_ ?_
         rotate_left
         ·show Act.put _ (some 51) _ = _
          simp only [Act.put, zO, zP, zR, i64_w, i32_w]
          rfl
         refine pure_ (i := 11) (N := some 52) (v := ?_) (a' := ?_) (zBM 13 4095) rfl rfl (any_of HT_.out (by kernel_rfl)) (fun _ _ _ h => h) (Or.inl ⟨by rfl, ?_⟩) ?_ ?_
         rotate_left
         ·intro w'
          go_simp
          with_reducible rfl
         rotate_left
         ·simp only [Act.put, zO, zP, zR, i64_w, i32_w]
          rfl
         refine last_ (i := 12) (N := none) (zBM 13 8191) rfl rfl (one_of HT_.out (by kernel_rfl)) (by decide) (fun K hK => ?_)
         have hs38 : w35.cell? ⟨gb322, 3, none⟩ = some (u323003) := zL BK322.out 3
         have hfs38 := zM BK322.out 3
         have hns38_0 := NB319_322.out
         have hns38_1 := NB320_322.out
         have hms38_0 := NB322_319.out
         have hms38_1 := NB322_320.out
         refine skip_ (w1 := ?_) (by rfl) rfl ?_ ?_
         rotate_left
         ·go_simp
          rfl
         refine hK.out _ _ ?_
         clear hK K
         refine done_ (done_of HT_.out (by kernel_rfl)) ?_
         try go_wp2
         go_roundg k2
         case measure => have := HJ2.out; have := HK2.out; omega
         case rel => exact ⟨(wrap64 (x6_2 + 1)), (y330), (.slice Ao37 y330.length co37), (by first | rfl | (simp; done) | (simp [*]; done)), H', ⟨by have := HJ2.out; have := HK2.out; omega⟩, ⟨by (with_reducible repeat (first | apply Kd.V_alloc | apply Kd.V_drewN | apply Kd.V_drew)); exact Kd.V_mono (Kd.V_far (p := ⟨gb322, 3, none⟩) (Kd.V_mono HO_1.out (fun k_ hk => (⟨hk, hk.1.2.2.2⟩ : _ ∧ k_ ≠ gb322))) (fun _ hk => hk.2) (.slice Ao37 y330.length co37)) (fun _ hk => ⟨hk.1.1.1, ⟨hk.1.2, ⟨hk.1.1.2.1, ⟨hk.1.1.2.2.1, hk.1.1.2.2.2⟩⟩⟩⟩)⟩, ⟨by (with_reducible repeat (first | apply Kd.N_alloc | apply Kd.N_drewN | apply Kd.N_drew)); exact Kd.N_mono (Kd.N_far (p := ⟨gb322, 3, none⟩) (Kd.N_mono HO332.out (fun k_ hk => (⟨hk, hk.2.2.2⟩ : _ ∧ k_ ≠ gb322))) (fun _ hk => hk.2) (.slice Ao37 y330.length co37)) (fun _ hk => ⟨hk.1.1, ⟨hk.1.2.1, ⟨hk.1.2.2.1, hk.1.2.2.2⟩⟩⟩)⟩, ⟨by (with_reducible repeat (first | refine zH ?_ _ | refine zI ?_ | refine zJ ?_ _)); refine blk_far ?_ NB319_322.out _; (with_reducible repeat (first | refine zH ?_ _ | refine zI ?_ | refine zJ ?_ _)); exact BK319.out⟩, ⟨by (with_reducible repeat (first | refine zH ?_ _ | refine zI ?_ | refine zJ ?_ _)); refine blk_far ?_ NB320_322.out _; (with_reducible repeat (first | refine zH ?_ _ | refine zI ?_ | refine zJ ?_ _)); exact BK320.out⟩, ⟨by (with_reducible repeat (first | refine zH ?_ _ | refine zI ?_ | refine zJ ?_ _)); refine zAH (cs := #[.int .i64 a0_0, .int .i64 a0_1, .string a0_2, u323003]) ?_ 3 _ rfl; (with_reducible repeat (first | refine zH ?_ _ | refine zI ?_ | refine zJ ?_ _)); exact BK322.out⟩, ⟨by repeat (first | (with_reducible first | exact HB.out | apply zA | apply zB | apply zC | refine zD ?_ GE319.out | refine zD ?_ GE320.out | refine zD ?_ GE322.out) | exact HB.out)⟩⟩
        ·rw [if_neg c29] at H
         exact absurd H (by simp)
       ·rw [if_neg c27] at H
        exact absurd H (by simp)
      ·rw [if_neg c26] at H
       have c26b0 : decide (x6_2 < (l0_3.length : Int)) = false := zV c26
       clear c26
       simp only [Option.some.injEq, Prod.mk.injEq] at H
       obtain ⟨rfl, rfl, rfl, rfl⟩ := H
       have hnb39 := NB319_320.out
       have hnc39 := NB320_319.out
       have hnb40 := NB319_322.out
       have hnc40 := NB322_319.out
       obtain ⟨hcz41_0, hcz41_1, hcz41_2, hcz41_3, hfz41_0, hfz41_1, hfz41_2, hfz41_3⟩ := zQ BK319.out
       have hnb42 := NB322_320.out
       have hnc42 := NB320_322.out
       obtain ⟨hcz43_0, hcz43_1, hcz43_2, hcz43_3, hfz43_0, hfz43_1, hfz43_2, hfz43_3⟩ := zQ BK322.out
       obtain ⟨hcz44_0, hcz44_1, hcz44_2, hcz44_3, hfz44_0, hfz44_1, hfz44_2, hfz44_3⟩ := zQ BK320.out
       obtain ⟨Ao45, co45, eo45⟩ := Kd.N_slice HO_323003.out
       subst eo45
       go_wp2
       refine bodyPost_ret (results_cell_row rfl _ _ gb320 24 #[.int .i64 a0_0, .int .i64 a0_1, .string a0_2, .slice Ao45 x323003_2.length co45] (0, 0) _ rfl (by (with_reducible repeat (first | refine zH ?_ _ | refine zI ?_ | refine zJ ?_ _)); refine zAH (cs := #[.int .i64 a0_0, .int .i64 a0_1, .string a0_2, .slice none 0 0]) ?_ 3 _ rfl; (with_reducible repeat (first | refine zH ?_ _ | refine zI ?_ | refine zJ ?_ _)); refine zAH (cs := #[.int .i64 a0_0, .int .i64 a0_1, .string (⟨#[]⟩ : ByteArray), .slice none 0 0]) ?_ 2 _ rfl; (with_reducible repeat (first | refine zH ?_ _ | refine zI ?_ | refine zJ ?_ _)); refine zAH (cs := #[.int .i64 a0_0, .int .i64 0, .string (⟨#[]⟩ : ByteArray), .slice none 0 0]) ?_ 1 _ rfl; (with_reducible repeat (first | refine zH ?_ _ | refine zI ?_ | refine zJ ?_ _)); refine zAH (cs := #[.int .i64 0, .int .i64 0, .string (⟨#[]⟩ : ByteArray), .slice none 0 0]) ?_ 0 _ rfl; (with_reducible repeat (first | refine zH ?_ _ | refine zI ?_ | refine zJ ?_ _)); exact BK320.out) Tryd.underlying24 rfl (by kernel_rfl)) rfl ?_
       exact ⟨_, by first | rfl | (simp [errW_none, errW_some] <;> rfl) | (simp [*, errW_none, errW_some] <;> rfl), Kd.N_V (by (with_reducible repeat (first | apply Kd.N_alloc | apply Kd.N_drewN | apply Kd.N_drew)); exact Kd.N_mono (Kd.N_far (p := ⟨gb320, 3, none⟩) (Kd.N_far (p := ⟨gb320, 2, none⟩) (Kd.N_far (p := ⟨gb320, 1, none⟩) (Kd.N_far (p := ⟨gb320, 0, none⟩) (Kd.N_mono HO_323003.out (fun k_ hk => (⟨hk, hk.2.2.1⟩ : _ ∧ k_ ≠ gb320))) (fun _ hk => hk.2) (.int .i64 a0_0)) (fun _ hk => hk.2) (.int .i64 a0_1)) (fun _ hk => hk.2) (.string a0_2)) (fun _ hk => hk.2) (.slice Ao45 x323003_2.length co45)) (fun _ hk => hk.1.1)), by repeat (first | (with_reducible first | exact HB.out | apply zA | apply zB | apply zC | refine zD ?_ GE319.out | refine zD ?_ GE320.out | refine zD ?_ GE322.out) | exact HB.out)⟩

end Go.Proofs.YtddmdiaopaoekaaDoor.P
