-- written by a program of this session's (wip/tools/extprint.py) over the kit's print
import Derived.Test.YtddmdiaopaoekaaDoorPx0
import Derived.Test.YtddmdiaopaoekaaDoorPx2
import Derived.Test.YtddmdiaopaoekaaDoorPx3
import Derived.Test.YtddmdiaopaoekaaDoorSq
namespace Go.Proofs.YtddmdiaopaoekaaDoor.P
open Go.RowKit Go.Proofs.YtddmdiaopaoekaaDoorW.PrintWords Go.Proofs.YtddmdiaopaoekaaDoorW.PrintLast Go.Proofs.YtddmdiaopaoekaaDoorW.PrintMore
attribute [local go_sem] max2_int min2_int max_two min_two max_three min_three max_four min_four   -- for this text's walks alone
set_option linter.unusedVariables false
set_option linter.unusedSimpArgs false

mutual
def hammocklaw09_Ref.l0 : Nat → Int → Int → Int → ByteArray → List (S31) → Int → Int → ByteArray → List (S24) → Option (Int × Int × ByteArray × (List (S24)))
 | 0, _, _, _, _, _, _, _, _, _ => none
 | k + 1, x4, x225000, x225001, x225002, x225003, x227000, x227001, x227002, x227003 => if x4 < (x225003.length : Int) then (if 0 ≤ x4 then ((hammocklaw09_Ref.f k ((rd_T31 x225003 x4).f0) ((rd_T31 x225003 x4).f1) ((rd_T31 x225003 x4).f2) ((rd_T31 x225003 x4).f3)).bind fun bt228 => (if x227003.length < 2513169434916 then (hammocklaw09_Ref.l0 k (wrap64 (x4 + 1)) x225000 x225001 x225002 x225003 x227000 x227001 x227002 (x227003 ++ [(⟨bt228.1, bt228.2.1, bt228.2.2.1, bt228.2.2.2⟩ : S24)])) else (none))) else (none)) else (some (x227000, x227001, x227002, x227003))
def hammocklaw09_Ref.f : Nat → Int → Int → ByteArray → List (S31) → Option (Int × Int × ByteArray × (List (S24)))
 | 0, _, _, _, _ => none
 | k + 1, a0_0, a0_1, a0_2, l0_3 => hammocklaw09_Ref.l0 k 0 a0_0 a0_1 a0_2 l0_3 a0_0 a0_1 a0_2 ([] : List (S24))
end
theorem hammocklaw09_Ref.mono_l : ∀ k, (∀ y0 y1 y2 y3, LeO (hammocklaw09_Ref.f k y0 y1 y2 y3) (hammocklaw09_Ref.f (k + 1) y0 y1 y2 y3)) ∧ (∀ y0 y1 y2 y3 y4 y5 y6 y7 y8, LeO (hammocklaw09_Ref.l0 k y0 y1 y2 y3 y4 y5 y6 y7 y8) (hammocklaw09_Ref.l0 (k + 1) y0 y1 y2 y3 y4 y5 y6 y7 y8))
 | 0 => ⟨fun _ _ _ _ r h => by simp [hammocklaw09_Ref.f] at h, fun _ _ _ _ _ _ _ _ _ r h => by simp [hammocklaw09_Ref.l0] at h⟩
 | k + 1 => by
  obtain ⟨ih0, ih1⟩ := hammocklaw09_Ref.mono_l k
  refine ⟨?_, ?_⟩
  ·intro y0 y1 y2 y3
   unfold hammocklaw09_Ref.f
   repeat' first
   | (with_reducible exact ih0 _ _ _ _)
   | (with_reducible exact ih1 _ _ _ _ _ _ _ _ _)
   | (with_reducible exact LeO.refl _)
   | (with_reducible exact LeO.none _)
   | (with_reducible refine LeO.ite ?_ ?_)
   | (with_reducible refine LeO.bind ?_ (fun _ => ?_))
  ·intro y0 y1 y2 y3 y4 y5 y6 y7 y8
   unfold hammocklaw09_Ref.l0
   repeat' first
   | (with_reducible exact ih0 _ _ _ _)
   | (with_reducible exact ih1 _ _ _ _ _ _ _ _ _)
   | (with_reducible exact LeO.refl _)
   | (with_reducible exact LeO.none _)
   | (with_reducible refine LeO.ite ?_ ?_)
   | (with_reducible refine LeO.bind ?_ (fun _ => ?_))
def hammocklaw09_Ref.T5 : Bool × List (List Nat × List Nat) := (true, [([], []), ([0], [0]), ([], []), ([2], [2]), ([], []), ([3, 4], [3, 4]), ([5], [5]), ([6], [6]), ([7], [7]), ([1, 8, 7], [1, 8]), ([0, 1, 2, 3, 4, 5, 6, 7, 8, 9], []), ([10, 9, 9, 0, 1, 2, 3, 4, 5, 6, 7, 8, 9], [9, 10])])
def hammocklaw09_Ref.B5 : List Nat := [0, 1, 0, 4, 0, 28, 60, 124, 252, 511, 1023, 2047]
theorem hammocklaw09_Ref.tab5 : rtab .any (opsOf Tryd.f14 5) = hammocklaw09_Ref.T5 := by kernel_rfl
theorem hammocklaw09_Ref.bits5 : waitsOk hammocklaw09_Ref.T5.2 hammocklaw09_Ref.B5 = true := by kernel_rfl
set_option maxHeartbeats 8000000 in
set_option maxRecDepth 100000 in
theorem hammocklaw09_Ref.calls (k : Nat) : ∀ (a0_0 : Int) (a0_1 : Int) (a0_2 : ByteArray) (A0_3 : Option Addr) (c0_3 : Nat) (l0_3 : List (S31)) (r1 : Int) (r2 : Int) (r3 : ByteArray) (r4 : List (S24)) (w : World) (hr0_3 : Kd.C k31 w A0_3 l0_3.length l0_3) (hc0_3 : l0_3.length ≤ c0_3) (h : hammocklaw09_Ref.f k a0_0 a0_1 a0_2 l0_3 = some (r1, r2, r3, r4)),
  Calls Tryd.prog 14 #[.agg #[.int .i64 a0_0, .int .i64 a0_1, .string a0_2, .slice A0_3 l0_3.length c0_3]] w fun e w' => ∃ v3_ : Value, e = .returned (.agg #[.int .i64 r1, .int .i64 r2, .string r3, v3_]) ∧ Kd.R k24 24 w' w.heap.size (fun _ => True) v3_ r4 ∧ Below w.heap.size w w' := by
 induction k using Nat.strongRecOn with
 | _ k ih =>
 intro a0_0 a0_1 a0_2 A0_3 c0_3 l0_3 r1 r2 r3 r4 w hr0_3 hc0_3 h
 cases k with
 | zero => exact absurd h (by simp [hammocklaw09_Ref.f])
 | succ k =>
 simp only [hammocklaw09_Ref.f] at h
 have hu31 := Tryd.underlying31
 have hu24 := Tryd.underlying24
 have HR0_3 := zG hr0_3
 have HC0_3 := zG hc0_3
 clear hr0_3 hc0_3
 have HB := zG (Below.refl w.heap.size w)
 have H : (hammocklaw09_Ref.l0 k 0 a0_0 a0_1 a0_2 l0_3 a0_0 a0_1 a0_2 ([] : List (S24))) = some (r1, r2, r3, r4) := h
 clear h
 have H' := zG H
 clear H
 go_enter Tryd.func14, Tryd.ntmps14
 go_wp2_with (first | ((with_reducible refine gate_dst (N := 1) rfl ?_); refine box_event ?hg (N := 1) ?hd (cs := #[.int .i64 a0_0, .int .i64 a0_1, .string a0_2, .slice A0_3 l0_3.length c0_3]) (t := 31) ?hr ?_; (case hd => rfl); (case hg => rfl); (case hr => first | (go_simp; done) | (go_simp; rfl)); intro gb224 hg w2 hbox hb; have n0_ := zG (zE HB.out hb); have n1_ := zG (hbox); have n2_ := zG ((by rw [hg]; exact (zF HB.out) : w.heap.size ≤ gb224)); have n3_ := n2_; clear HB; have HB := n0_; have BK224 := n1_; have GW224 := n2_; have GE224 := n3_; clear n0_ n1_ n2_ n3_; clear hb hbox hg) | ((with_reducible refine gate_dst (N := 2) rfl ?_); refine box_event ?hg (N := 2) ?hd (cs := #[.int .i64 0, .int .i64 0, .string (⟨#[]⟩ : ByteArray), .slice none 0 0]) (t := 24) ?hr ?_; (case hd => rfl); (case hg => rfl); (case hr => first | (go_simp; done) | (go_simp; rfl)); intro gb225 hg w3 hbox hb; have n0_ := zG (zK (g := gb224) BK224.out hb); have n1_ := zG (zE HB.out hb); have n2_ := zG (hbox); have n3_ := zG ((by rw [hg]; exact (zF HB.out) : w.heap.size ≤ gb225)); have n4_ := n3_; have n5_ := zG ((by rw [hg]; exact Nat.ne_of_lt (zAD (g := gb224) BK224.out) : gb224 ≠ gb225)); have n6_ := zG ((by rw [hg]; exact Nat.ne_of_gt (zAD (g := gb224) BK224.out) : gb225 ≠ gb224)); clear BK224; clear HB; have BK224 := n0_; have HB := n1_; have BK225 := n2_; have GW225 := n3_; have GE225 := n4_; have NB224_225 := n5_; have NB225_224 := n6_; clear n0_ n1_ n2_ n3_ n4_ n5_ n6_; clear hb hbox hg; have hnb4 := NB224_225.out; have hnc4 := NB225_224.out; obtain ⟨hcz5_0, hcz5_1, hcz5_2, hcz5_3⟩ := zN BK224.out; have hfz5_0 := zM BK224.out 0; have hfz5_1 := zM BK224.out 1; have hfz5_2 := zM BK224.out 2; have hfz5_3 := zM BK224.out 3) | ((with_reducible refine gate_dst (N := 3) rfl ?_); refine box_event ?hg (N := 3) ?hd (cs := #[.int .i64 0, .int .i64 0, .string (⟨#[]⟩ : ByteArray), .slice none 0 0]) (t := 24) ?hr ?_; (case hd => rfl); (case hg => rfl); (case hr => first | (go_simp; done) | (go_simp; rfl)); intro gb226 hg w6 hbox hb; have n0_ := zG (zK (g := gb224) BK224.out hb); have n1_ := zG (zK (g := gb225) BK225.out hb); have n2_ := zG (zE HB.out hb); have n3_ := zG (hbox); have n4_ := zG ((by rw [hg]; exact (zF HB.out) : w.heap.size ≤ gb226)); have n5_ := n4_; have n6_ := zG ((by rw [hg]; exact Nat.ne_of_lt (zAD (g := gb224) BK224.out) : gb224 ≠ gb226)); have n7_ := zG ((by rw [hg]; exact Nat.ne_of_gt (zAD (g := gb224) BK224.out) : gb226 ≠ gb224)); have n8_ := zG ((by rw [hg]; exact Nat.ne_of_lt (zAD (g := gb225) BK225.out) : gb225 ≠ gb226)); have n9_ := zG ((by rw [hg]; exact Nat.ne_of_gt (zAD (g := gb225) BK225.out) : gb226 ≠ gb225)); clear BK224; clear BK225; clear HB; have BK224 := n0_; have BK225 := n1_; have HB := n2_; have BK226 := n3_; have GW226 := n4_; have GE226 := n5_; have NB224_226 := n6_; have NB226_224 := n7_; have NB225_226 := n8_; have NB226_225 := n9_; clear n0_ n1_ n2_ n3_ n4_ n5_ n6_ n7_ n8_ n9_; clear hb hbox hg; have hnb7 := NB226_224.out; have hnc7 := NB224_226.out; have hnb8 := NB226_225.out; have hnc8 := NB225_226.out; obtain ⟨hcz9_0, hcz9_1, hcz9_2, hcz9_3⟩ := zN BK226.out; have hfz9_0 := zM BK226.out 0; have hfz9_1 := zM BK226.out 1; have hfz9_2 := zM BK226.out 2; have hfz9_3 := zM BK226.out 3))
 go_loopg [4] k (fun kq v4 w' => ∃ (x4_1 : Int) (x227003_1 : List (S24)) (u227003 : Value), v4 = .int .i64 x4_1 ∧ Aside0 (hammocklaw09_Ref.l0 kq x4_1 a0_0 a0_1 a0_2 l0_3 a0_0 a0_1 a0_2 x227003_1 = some (r1, r2, r3, r4)) ∧ Aside0 (kq ≤ k) ∧ Aside0 (Kd.R k24 24 w' w.heap.size (fun k_ => k_ ≠ gb225 ∧ k_ ≠ gb226) u227003 x227003_1) ∧ Aside0 (w'.heap[gb224]? = some (.cells #[.int .i64 a0_0, .int .i64 a0_1, .string a0_2, (.slice A0_3 l0_3.length c0_3)] 31 (0, 0))) ∧ Aside0 (w'.heap[gb225]? = some (.cells #[.int .i64 0, .int .i64 0, .string (⟨#[]⟩ : ByteArray), (.slice none 0 0)] 24 (0, 0))) ∧ Aside0 (w'.heap[gb226]? = some (.cells #[.int .i64 a0_0, .int .i64 a0_1, .string a0_2, u227003] 24 (0, 0))) ∧ Aside0 (Below w.heap.size w w'))
 case atStart => exact ⟨(0), (([] : List (S24))), (.slice none 0 0), (by first | rfl | (simp; done) | (simp [*]; done)), H', ⟨Nat.le_refl _⟩, ⟨by first | exact Kd.R_nil _ _ _ _ _ | exact Kd.N_nil _ _ _ _ _ | exact Kd.V_nil _ _ _ _ _ | exact Kd.Q_nil _ _ _ _ _ | exact Kd.S_nil _ _ _ _ _⟩, ⟨by (with_reducible repeat (first | refine zH ?_ _ | refine zI ?_ | refine zJ ?_ _)); refine blk_far ?_ NB224_226.out _; (with_reducible repeat (first | refine zH ?_ _ | refine zI ?_ | refine zJ ?_ _)); refine blk_far ?_ NB224_226.out _; (with_reducible repeat (first | refine zH ?_ _ | refine zI ?_ | refine zJ ?_ _)); refine blk_far ?_ NB224_226.out _; (with_reducible repeat (first | refine zH ?_ _ | refine zI ?_ | refine zJ ?_ _)); refine blk_far ?_ NB224_226.out _; (with_reducible repeat (first | refine zH ?_ _ | refine zI ?_ | refine zJ ?_ _)); exact BK224.out⟩, ⟨by (with_reducible repeat (first | refine zH ?_ _ | refine zI ?_ | refine zJ ?_ _)); refine blk_far ?_ NB225_226.out _; (with_reducible repeat (first | refine zH ?_ _ | refine zI ?_ | refine zJ ?_ _)); refine blk_far ?_ NB225_226.out _; (with_reducible repeat (first | refine zH ?_ _ | refine zI ?_ | refine zJ ?_ _)); refine blk_far ?_ NB225_226.out _; (with_reducible repeat (first | refine zH ?_ _ | refine zI ?_ | refine zJ ?_ _)); refine blk_far ?_ NB225_226.out _; (with_reducible repeat (first | refine zH ?_ _ | refine zI ?_ | refine zJ ?_ _)); exact BK225.out⟩, ⟨by (with_reducible repeat (first | refine zH ?_ _ | refine zI ?_ | refine zJ ?_ _)); refine zAH (cs := #[.int .i64 a0_0, .int .i64 a0_1, .string a0_2, .slice none 0 0]) ?_ 3 _ rfl; (with_reducible repeat (first | refine zH ?_ _ | refine zI ?_ | refine zJ ?_ _)); refine zAH (cs := #[.int .i64 a0_0, .int .i64 a0_1, .string (⟨#[]⟩ : ByteArray), .slice none 0 0]) ?_ 2 _ rfl; (with_reducible repeat (first | refine zH ?_ _ | refine zI ?_ | refine zJ ?_ _)); refine zAH (cs := #[.int .i64 a0_0, .int .i64 0, .string (⟨#[]⟩ : ByteArray), .slice none 0 0]) ?_ 1 _ rfl; (with_reducible repeat (first | refine zH ?_ _ | refine zI ?_ | refine zJ ?_ _)); refine zAH (cs := #[.int .i64 0, .int .i64 0, .string (⟨#[]⟩ : ByteArray), .slice none 0 0]) ?_ 0 _ rfl; (with_reducible repeat (first | refine zH ?_ _ | refine zI ?_ | refine zJ ?_ _)); exact BK226.out⟩, ⟨by repeat (first | (with_reducible first | exact HB.out | apply zA | apply zB | apply zC | refine zD ?_ GE224.out | refine zD ?_ GE225.out | refine zD ?_ GE226.out) | exact HB.out)⟩⟩
 case round =>
  clear H'
  try clear c1
  try clear p2
  try clear c4
  try clear c7
  try clear c8
  try clear hcz5_0
  try clear hcz5_1
  try clear hcz5_2
  try clear hcz5_3
  try clear hcz9_0
  try clear hcz9_1
  try clear hcz9_2
  try clear hcz9_3
  try clear hfz5_0
  try clear hfz5_1
  try clear hfz5_2
  try clear hfz5_3
  try clear hfz9_0
  try clear hfz9_1
  try clear hfz9_2
  try clear hfz9_3
  obtain ⟨x4_1, x227003_1, u227003, rfl, HA, HK1, HO_227003, BK224, BK225, BK226, HB⟩ := hrel
  cases gk with
  | zero => exact absurd HA.out (by simp [hammocklaw09_Ref.l0])
  | succ k1 =>
   have H := HA.out
   clear HA
   simp only [hammocklaw09_Ref.l0] at H
   by_cases c10 : x4_1 < (l0_3.length : Int)
   ·rw [if_pos c10] at H
    have c10b0 : decide (x4_1 < (l0_3.length : Int)) = true := zU c10
    clear c10
    by_cases c11 : 0 ≤ x4_1
    ·rw [if_pos c11] at H
     have c11b0 : decide (0 ≤ x4_1) = true := zU c11
     clear c11
     replace H := zT H
     obtain ⟨⟨t228, t229, t230, t231⟩, A120, H⟩ := H
     replace H : (if x227003_1.length < 2513169434916 then (hammocklaw09_Ref.l0 k1 (wrap64 (x4_1 + 1)) a0_0 a0_1 a0_2 l0_3 a0_0 a0_1 a0_2 (x227003_1 ++ [(⟨t228, t229, t230, t231⟩ : S24)])) else (none)) = some (r1, r2, r3, r4) := H
     have A12 := zG A120
     clear A120
     by_cases c13 : x227003_1.length < 2513169434916
     ·rw [if_pos c13] at H
      have LMc13 := zG c13
      clear c13
      obtain ⟨y234, hy234⟩ : ∃ y_ : List (S24), y_ = (x227003_1 ++ [(⟨t228, t229, t230, t231⟩ : S24)]) := ⟨_, rfl⟩
      replace H : (hammocklaw09_Ref.l0 k1 (wrap64 (x4_1 + 1)) a0_0 a0_1 a0_2 l0_3 a0_0 a0_1 a0_2 y234) = some (r1, r2, r3, r4) := by first | (rw [hy234]; with_reducible exact H) | (have H2_ := (Option.bind_some _ _).symm.trans H; rw [hy234]; with_reducible exact H2_) | (have H2_ := (Option.bind_some _ _).symm.trans H; with_reducible exact H2_) | with_reducible exact H | (rw [hy234]; exact H) | exact H
      have Ny234 := zG hy234
      clear hy234
      have H' := zG H
      clear H
      have hnb14 := NB224_225.out
      have hnc14 := NB225_224.out
      have hnb15 := NB224_226.out
      have hnc15 := NB226_224.out
      obtain ⟨hcz16_0, hcz16_1, hcz16_2, hcz16_3, hfz16_0, hfz16_1, hfz16_2, hfz16_3⟩ := zQ BK224.out
      try go_wp2
      have n0_ := zG (Kd.R_drew HO_227003.out)
      have n1_ := zG (zI BK224.out)
      have n2_ := zG (zI BK225.out)
      have n3_ := zG (zI BK226.out)
      have n4_ := zG (zC HB.out)
      clear HO_227003
      clear BK224
      clear BK225
      clear BK226
      clear HB
      have HO_227003 := n0_
      have BK224 := n1_
      have BK225 := n2_
      have BK226 := n3_
      have HB := n4_
      clear n0_ n1_ n2_ n3_ n4_
      have p227 : 0 ≤ (x4_1 : Int) := zAA (by assumption)
      have q227 : x4_1 < (l0_3.length : Int) := zAA (by assumption)
      obtain ⟨ad227, A227_3, c227_3, e227, hx227_0, hx227_1, hx227_2, hx227_3, hl227_3, hi227_3⟩ := at_T31 HR0_3.out x4_1 p227 q227
      have hw227_3 := hx227_3
      have hw227_2 := hx227_2
      have hw227_1 := hx227_1
      have hw227_0 := hx227_0
      cases e227
      replace hx227_0 := (HB.out.cell (zS w _ hx227_0)).trans hx227_0
      replace hx227_1 := (HB.out.cell (zS w _ hx227_1)).trans hx227_1
      replace hx227_2 := (HB.out.cell (zS w _ hx227_2)).trans hx227_2
      replace hx227_3 := (HB.out.cell (zS w _ hx227_3)).trans hx227_3
      have HR227_3 := zG hi227_3
      have HC227_3 := zG hl227_3
      clear hi227_3 hl227_3
      replace p227 := eq_true p227
      replace q227 := eq_true q227
      refine start_ (n := 12) (S := fun w' => w'.cell? ⟨gb226, 0, none⟩ = some (.int .i64 a0_0) ∧ w'.cell? ⟨gb226, 1, none⟩ = some (.int .i64 a0_1) ∧ w'.cell? ⟨gb226, 2, none⟩ = some (.string a0_2) ∧ w'.cell? ⟨gb226, 3, none⟩ = some (u227003) ∧ w'.cell? ⟨gb224, 0, none⟩ = some (.int .i64 a0_0) ∧ w'.cell? ⟨gb224, 1, none⟩ = some (.int .i64 a0_1) ∧ w'.cell? ⟨gb224, 2, none⟩ = some (.string a0_2) ∧ w'.cell? ⟨gb224, 3, none⟩ = some (.slice (some ad227) l0_3.length c0_3) ∧ w'.cell? (ad227.add ((x4_1).toNat * 4)) = some (.int .i64 ((rd_T31 l0_3 x4_1).f0)) ∧ w'.cell? ⟨(ad227.add ((x4_1).toNat * 4)).block, (ad227.add ((x4_1).toNat * 4)).off + 1, none⟩ = some (.int .i64 ((rd_T31 l0_3 x4_1).f1)) ∧ w'.cell? ⟨(ad227.add ((x4_1).toNat * 4)).block, (ad227.add ((x4_1).toNat * 4)).off + 2, none⟩ = some (.string ((rd_T31 l0_3 x4_1).f2)) ∧ w'.cell? ⟨(ad227.add ((x4_1).toNat * 4)).block, (ad227.add ((x4_1).toNat * 4)).off + 3, none⟩ = some (.slice A227_3 ((rd_T31 l0_3 x4_1).f3).length c227_3)) (ds := [11]) (zBM 12 0) (by kernel_rfl) rfl rfl ⟨zL BK226.out 0, zL BK226.out 1, zL BK226.out 2, zL BK226.out 3, zL BK224.out 0, zL BK224.out 1, zL BK224.out 2, zL BK224.out 3, ((HB.out.cell (zS w _ hw227_0)).trans hw227_0), ((HB.out.cell (zS w _ hw227_1)).trans hw227_1), ((HB.out.cell (zS w _ hw227_2)).trans hw227_2), ((HB.out.cell (zS w _ hw227_3)).trans hw227_3)⟩ (fun hHeld => ?_); refine with_tabW hammocklaw09_Ref.tab5 hammocklaw09_Ref.bits5 (fun HT_ HW_ => ?_)
      generalize wr.drew = w17 at HO_227003 BK224 BK225 BK226 HB HR227_3 hx227_0 hx227_1 hx227_2 hx227_3 hHeld ⊢
      refine pure_ (i := 0) (N := some 19) (v := ?_) (a' := ?_) (zBM 12 1) rfl rfl (any_of HT_.out (by kernel_rfl)) (fun _ _ _ h => h) (Or.inl ⟨by rfl, ?_⟩) ?_ ?_
      rotate_left
      ·intro w'
       go_simp
       with_reducible rfl
      rotate_left
      ·simp only [Act.put, zO, zP, zR, i64_w, i32_w]
       rfl
      refine pure_ (i := 2) (N := some 21) (v := ?_) (a' := ?_) (zBM 12 5) rfl rfl (any_of HT_.out (by kernel_rfl)) (fun _ _ _ h => h) (Or.inl ⟨by rfl, ?_⟩) ?_ ?_
      rotate_left
      ·intro w'
       go_simp
       with_reducible rfl
      rotate_left
      ·simp only [Act.put, zO, zP, zR, i64_w, i32_w]
       rfl
      refine pure_ (i := 4) (N := some 23) (v := ?_) (a' := ?_) (zBM 12 21) rfl rfl (any_of HT_.out (by kernel_rfl)) (fun _ _ _ h => h) (Or.inl ⟨by rfl, ?_⟩) ?_ ?_
      rotate_left
      ·intro w'
       go_simp
       with_reducible rfl
      rotate_left
      ·simp only [Act.put, zO, zP, zR, i64_w, i32_w]
       rfl
      refine take_ (i := 1) (N := some 20) (v := ?_) (a' := ?_) (zBM 12 23) rfl rfl (take_ofW HT_.out HW_.out (by kernel_rfl)) (fun _ _ _ h => h) (Or.inl ⟨by rfl, ?_⟩) hHeld ?_ ?_
      rotate_left
      ·rintro w' ⟨s0, s1, s2, s3, s4, s5, s6, s7, s8, s9, s10, s11⟩
       go_simp
       with_reducible rfl
      rotate_left
      ·simp only [Act.put, zO, zP, zR, i64_w, i32_w]
       rfl
      refine take_ (i := 3) (N := some 22) (v := ?_) (a' := ?_) (zBM 12 31) rfl rfl (take_ofW HT_.out HW_.out (by kernel_rfl)) (fun _ _ _ h => h) (Or.inl ⟨by rfl, ?_⟩) hHeld ?_ ?_
      rotate_left
      ·rintro w' ⟨s0, s1, s2, s3, s4, s5, s6, s7, s8, s9, s10, s11⟩
       go_simp
       with_reducible rfl
      rotate_left
      ·simp only [Act.put, zO, zP, zR, i64_w, i32_w]
       rfl
      refine pure_ (i := 5) (N := some 24) (v := ?_) (a' := ?_) (zBM 12 63) rfl rfl (any_of HT_.out (by kernel_rfl)) (fun _ _ _ h => h) (Or.inl ⟨by rfl, ?_⟩) ?_ ?_
      rotate_left
      ·intro w'
       go_simp
       with_reducible rfl
      rotate_left
      ·simp only [Act.put, zO, zP, zR, i64_w, i32_w]
       rfl
      refine take_ (i := 6) (N := some 25) (v := ?_) (a' := ?_) (zBM 12 127) rfl rfl (take_ofW HT_.out HW_.out (by kernel_rfl)) (fun _ _ _ h => h) (Or.inl ⟨by rfl, ?_⟩) hHeld ?_ ?_
      rotate_left
      ·rintro w' ⟨s0, s1, s2, s3, s4, s5, s6, s7, s8, s9, s10, s11⟩
       go_simp
       with_reducible rfl
      rotate_left
      ·simp only [Act.put, zO, zP, zR, i64_w, i32_w]
       rfl
      refine one_ (i := 7) (N := some 26) (zBM 12 255) rfl rfl (one_of HT_.out (by kernel_rfl)) (by decide) (fun K hK => ?_)
      refine goes_ Tryd.func14 (by kernel_rfl) rfl #[.agg #[.int .i64 ((rd_T31 l0_3 x4_1).f0), .int .i64 ((rd_T31 l0_3 x4_1).f1), .string ((rd_T31 l0_3 x4_1).f2), .slice A227_3 ((rd_T31 l0_3 x4_1).f3).length c227_3]] (by rfl) rfl rfl (by (try simp only [List.map_toArray, List.map_cons, List.map_nil]); first | done | rfl | (simp only [List.length_drop, List.length_take]; rfl)) ?_
      with_reducible refine (ih k1 (by have := HK1.out; omega) ((rd_T31 l0_3 x4_1).f0) ((rd_T31 l0_3 x4_1).f1) ((rd_T31 l0_3 x4_1).f2) _ _ ((rd_T31 l0_3 x4_1).f3) t228 t229 t230 t231 _ ?side1 ?side2 A12.out).mono ?_
      (case side1 => exact zAC HR227_3.out HB.out)
      (case side2 => exact HC227_3.out)
      rintro e w18 ⟨v232, rfl, ho0, hb⟩
      refine ⟨_, rfl, ?_⟩
      have n0_ := zG (Kd.R_elder' (by (with_reducible repeat (first | apply Kd.R_alloc | apply Kd.R_drewN | apply Kd.R_drew)); exact HO_227003.out) (Kd.R_base ho0) hb)
      have n1_ := zG (Kd.R_lower (Kd.R_newB (Kd.R_newB (Kd.R_new' ho0 (Kd.R_lt (by (with_reducible repeat (first | apply Kd.R_alloc | apply Kd.R_drewN | apply Kd.R_drew)); exact HO_227003.out))) (g := gb225) (o := .cells #[.int .i64 0, .int .i64 0, .string (⟨#[]⟩ : ByteArray), .slice none 0 0] 24 (0, 0)) BK225.out) (g := gb226) (o := .cells #[.int .i64 a0_0, .int .i64 a0_1, .string a0_2, u227003] 24 (0, 0)) BK226.out) (zF HB.out))
      have n2_ := zG (zK (g := gb224) BK224.out hb)
      have n3_ := zG (zK (g := gb225) BK225.out hb)
      have n4_ := zG (zK (g := gb226) BK226.out hb)
      have n5_ := zG (zE HB.out hb)
      clear HO_227003
      clear BK224
      clear BK225
      clear BK226
      clear HB
      have HO_227003 := n0_
      have HO233 := n1_
      have BK224 := n2_
      have BK225 := n3_
      have BK226 := n4_
      have HB := n5_
      clear n0_ n1_ n2_ n3_ n4_ n5_
      (try clear hb)
      (try clear hb2)
      (try clear hk)
      (try clear hi)
      (try clear ho0)
      obtain ⟨Ao20, co20, eo20⟩ := Kd.R_slice HO233.out
      (first | subst eo20 | (injection eo20 with f1_ f2_ f3_; have f4_ := f1_.symm; have f5_ := f3_.symm; clear f1_ f2_ f3_; subst f4_; subst f5_))
      refine hK.out _ _ ⟨zL BK226.out 0, zL BK226.out 1, zL BK226.out 2, zL BK226.out 3, zL BK224.out 0, zL BK224.out 1, zL BK224.out 2, zL BK224.out 3, ((HB.out.cell (zS w _ hw227_0)).trans hw227_0), ((HB.out.cell (zS w _ hw227_1)).trans hw227_1), ((HB.out.cell (zS w _ hw227_2)).trans hw227_2), ((HB.out.cell (zS w _ hw227_3)).trans hw227_3)⟩ (fun hHeld => ?_)
      clear hK K
      refine norm_ (a' := ?_) ?_ ?_
      rotate_left
      ·show Act.put _ (some 26) _ = _
       simp only [Act.put, zO, zP, zR, i64_w, i32_w]
       rfl
      refine one_ (i := 8) (N := some 27) (zBM 12 511) rfl rfl (one_of HT_.out (by kernel_rfl)) (by decide) (fun K hK => ?_)
      refine value_ (w1 := ?_) (v := ?_) (by rfl) rfl ?_ ?_
      rotate_left 2
      ·go_simp
       constructor
       ·rfl
       ·rfl
      refine hK.out _ _ ⟨zL (zJ BK226.out _) 0, zL (zJ BK226.out _) 1, zL (zJ BK226.out _) 2, zL (zJ BK226.out _) 3, zL (zJ BK224.out _) 0, zL (zJ BK224.out _) 1, zL (zJ BK224.out _) 2, zL (zJ BK224.out _) 3, (World.cell?_alloc_lt _ _ _ (zS _ _ (((HB.out.cell (zS w _ hw227_0)).trans hw227_0)))).trans (((HB.out.cell (zS w _ hw227_0)).trans hw227_0)), (World.cell?_alloc_lt _ _ _ (zS _ _ (((HB.out.cell (zS w _ hw227_1)).trans hw227_1)))).trans (((HB.out.cell (zS w _ hw227_1)).trans hw227_1)), (World.cell?_alloc_lt _ _ _ (zS _ _ (((HB.out.cell (zS w _ hw227_2)).trans hw227_2)))).trans (((HB.out.cell (zS w _ hw227_2)).trans hw227_2)), (World.cell?_alloc_lt _ _ _ (zS _ _ (((HB.out.cell (zS w _ hw227_3)).trans hw227_3)))).trans (((HB.out.cell (zS w _ hw227_3)).trans hw227_3))⟩ (fun hHeld => ?_)
      clear hK K
      refine norm_ (a' := ?_) ?_ ?_
      rotate_left
      ·show Act.put _ (some 27) _ = _
       simp only [Act.put, zO, zP, zR, i64_w, i32_w]
       rfl
      refine one_ (i := 9) (N := some 28) (zBM 12 1023) rfl rfl (one_of HT_.out (by kernel_rfl)) (by decide) (fun K hK => ?_)
      refine Kd.R_append_step k24 (w0 := w) w.heap.size (by rfl) (.tmp 20) (.tmp 27) 22 24 (.agg #[(.int .i64 0), (.int .i64 0), (.string ⟨#[]⟩), (.slice none 0 0)]) 56 rfl Tryd.underlying22 info24 rfl (by decide) (by omega) u227003 x227003_1 (⟨t228, t229, t230, t231⟩ : S24) [.int .i64 t228, .int .i64 t229, .string t230, .slice Ao20 t231.length co20] (fun k_ => k_ ≠ gb225 ∧ k_ ≠ gb226) (fun k_ => ((fun k_ => k_ ≠ gb225 ∧ k_ ≠ gb226)) k_ ∧ some k_ ≠ (u227003 : Value).ownBlock) rfl rfl ?aP (fun _ hk => hk) ?aF ?aO ?aB ?aS ?aL ?_
      (case aP => exact k24_mkM _ _ _ (⟨t228, t229, t230, t231⟩ : S24) (Kd.R_mono (HO233.out) (fun k_ hk => ⟨⟨hk.1.2, hk.2⟩, hk.1.1.2⟩)))
      (case aB => exact HB.out)
      (case aF => exact (fun k_ hk => ⟨Kd.freshB (g := gb225) (o := .cells #[.int .i64 0, .int .i64 0, .string (⟨#[]⟩ : ByteArray), .slice none 0 0] 24 (0, 0)) BK225.out k_ hk, Kd.freshB (g := gb226) (o := .cells #[.int .i64 a0_0, .int .i64 a0_1, .string a0_2, u227003] 24 (0, 0)) BK226.out k_ hk⟩))
      (case aO => exact (by (with_reducible repeat (first | apply Kd.R_alloc | apply Kd.R_drewN | apply Kd.R_drew)); exact Kd.R_mono HO_227003.out (fun _ hk => ⟨hk.1.1, hk.1.2⟩)))
      (case aS => exact (zF HB.out))
      (case aL => have := LMc13.out; omega)
      intro v235 w19 ho hb hg hat
      rw [← Ny234.out] at ho
      have n0_ := zG (blk_grown (g := gb224) (o := .cells #[.int .i64 a0_0, .int .i64 a0_1, .string a0_2, .slice (some ad227) l0_3.length c0_3] 31 (0, 0)) BK224.out hg (Kd.R_ne HO_227003.out BK224.out (by decide)))
      have n1_ := zG (blk_grown (g := gb225) (o := .cells #[.int .i64 0, .int .i64 0, .string (⟨#[]⟩ : ByteArray), .slice none 0 0] 24 (0, 0)) BK225.out hg (Kd.R_away HO_227003.out (fun _ hk => hk.1.1)))
      have n2_ := zG (blk_grown (g := gb226) (o := .cells #[.int .i64 a0_0, .int .i64 a0_1, .string a0_2, u227003] 24 (0, 0)) BK226.out hg (Kd.R_away HO_227003.out (fun _ hk => hk.1.2)))
      have n3_ := zG (hb)
      have n4_ := zG (ho)
      clear BK224
      clear BK225
      clear BK226
      clear HB
      clear HO_227003
      clear HO233
      have BK224 := n0_
      have BK225 := n1_
      have BK226 := n2_
      have HB := n3_
      have HO236 := n4_
      clear n0_ n1_ n2_ n3_ n4_
      clear ho hb hg hat
      obtain ⟨Ao21, co21, eo21⟩ := Kd.R_slice HO236.out
      (first | subst eo21 | (injection eo21 with f1_ f2_ f3_; have f4_ := f1_.symm; have f5_ := f3_.symm; clear f1_ f2_ f3_; subst f4_; subst f5_))
      refine hK.out _ _ ⟨zL BK226.out 0, zL BK226.out 1, zL BK226.out 2, zL BK226.out 3, zL BK224.out 0, zL BK224.out 1, zL BK224.out 2, zL BK224.out 3, ((HB.out.cell (zS w _ hw227_0)).trans hw227_0), ((HB.out.cell (zS w _ hw227_1)).trans hw227_1), ((HB.out.cell (zS w _ hw227_2)).trans hw227_2), ((HB.out.cell (zS w _ hw227_3)).trans hw227_3)⟩ (fun hHeld => ?_)
      clear hK K
      refine norm_ (a' := ?_) ?_ ?_
      rotate_left
      ·show Act.put _ (some 28) _ = _
       simp only [Act.put, zO, zP, zR, i64_w, i32_w]
       rfl
      refine pure_ (i := 10) (N := some 29) (v := ?_) (a' := ?_) (zBM 12 2047) rfl rfl (any_of HT_.out (by kernel_rfl)) (fun _ _ _ h => h) (Or.inl ⟨by rfl, ?_⟩) ?_ ?_
      rotate_left
      ·intro w'
       go_simp
       with_reducible rfl
      rotate_left
      ·simp only [Act.put, zO, zP, zR, i64_w, i32_w]
       rfl
      refine last_ (i := 11) (N := none) (zBM 12 4095) rfl rfl (one_of HT_.out (by kernel_rfl)) (by decide) (fun K hK => ?_)
      have hs22 : w19.cell? ⟨gb226, 3, none⟩ = some (u227003) := zL BK226.out 3
      have hfs22 := zM BK226.out 3
      have hns22_0 := NB224_226.out
      have hns22_1 := NB225_226.out
      have hms22_0 := NB226_224.out
      have hms22_1 := NB226_225.out
      refine skip_ (w1 := ?_) (by rfl) rfl ?_ ?_
      rotate_left
      ·go_simp
       rfl
      refine hK.out _ _ ?_
      clear hK K
      refine done_ (done_of HT_.out (by kernel_rfl)) ?_
      try go_wp2
      go_roundg k1
      case measure => have := HK1.out; omega
      case rel => exact ⟨(wrap64 (x4_1 + 1)), (y234), (.slice Ao21 y234.length co21), (by first | rfl | (simp; done) | (simp [*]; done)), H', ⟨by have := HK1.out; omega⟩, ⟨by (with_reducible repeat (first | apply Kd.R_alloc | apply Kd.R_drewN | apply Kd.R_drew)); exact Kd.R_mono (Kd.R_far (p := ⟨gb226, 3, none⟩) (Kd.R_mono HO236.out (fun k_ hk => (⟨hk, hk.2⟩ : _ ∧ k_ ≠ gb226))) (fun _ hk => hk.2) (.slice Ao21 y234.length co21)) (fun _ hk => ⟨hk.1.1, hk.1.2⟩)⟩, ⟨by (with_reducible repeat (first | refine zH ?_ _ | refine zI ?_ | refine zJ ?_ _)); refine blk_far ?_ NB224_226.out _; (with_reducible repeat (first | refine zH ?_ _ | refine zI ?_ | refine zJ ?_ _)); exact BK224.out⟩, ⟨by (with_reducible repeat (first | refine zH ?_ _ | refine zI ?_ | refine zJ ?_ _)); refine blk_far ?_ NB225_226.out _; (with_reducible repeat (first | refine zH ?_ _ | refine zI ?_ | refine zJ ?_ _)); exact BK225.out⟩, ⟨by (with_reducible repeat (first | refine zH ?_ _ | refine zI ?_ | refine zJ ?_ _)); refine zAH (cs := #[.int .i64 a0_0, .int .i64 a0_1, .string a0_2, u227003]) ?_ 3 _ rfl; (with_reducible repeat (first | refine zH ?_ _ | refine zI ?_ | refine zJ ?_ _)); exact BK226.out⟩, ⟨by repeat (first | (with_reducible first | exact HB.out | apply zA | apply zB | apply zC | refine zD ?_ GE224.out | refine zD ?_ GE225.out | refine zD ?_ GE226.out) | exact HB.out)⟩⟩
     ·rw [if_neg c13] at H
      exact absurd H (by simp)
    ·rw [if_neg c11] at H
     exact absurd H (by simp)
   ·rw [if_neg c10] at H
    have c10b0 : decide (x4_1 < (l0_3.length : Int)) = false := zV c10
    clear c10
    simp only [Option.some.injEq, Prod.mk.injEq] at H
    obtain ⟨rfl, rfl, rfl, rfl⟩ := H
    have hnb23 := NB224_225.out
    have hnc23 := NB225_224.out
    have hnb24 := NB224_226.out
    have hnc24 := NB226_224.out
    obtain ⟨hcz25_0, hcz25_1, hcz25_2, hcz25_3, hfz25_0, hfz25_1, hfz25_2, hfz25_3⟩ := zQ BK224.out
    have hnb26 := NB226_225.out
    have hnc26 := NB225_226.out
    obtain ⟨hcz27_0, hcz27_1, hcz27_2, hcz27_3, hfz27_0, hfz27_1, hfz27_2, hfz27_3⟩ := zQ BK226.out
    obtain ⟨hcz28_0, hcz28_1, hcz28_2, hcz28_3, hfz28_0, hfz28_1, hfz28_2, hfz28_3⟩ := zQ BK225.out
    obtain ⟨Ao29, co29, eo29⟩ := Kd.R_slice HO_227003.out
    subst eo29
    go_wp2
    refine bodyPost_ret (results_cell_row rfl _ _ gb225 24 #[.int .i64 a0_0, .int .i64 a0_1, .string a0_2, .slice Ao29 x227003_1.length co29] (0, 0) _ rfl (by (with_reducible repeat (first | refine zH ?_ _ | refine zI ?_ | refine zJ ?_ _)); refine zAH (cs := #[.int .i64 a0_0, .int .i64 a0_1, .string a0_2, .slice none 0 0]) ?_ 3 _ rfl; (with_reducible repeat (first | refine zH ?_ _ | refine zI ?_ | refine zJ ?_ _)); refine zAH (cs := #[.int .i64 a0_0, .int .i64 a0_1, .string (⟨#[]⟩ : ByteArray), .slice none 0 0]) ?_ 2 _ rfl; (with_reducible repeat (first | refine zH ?_ _ | refine zI ?_ | refine zJ ?_ _)); refine zAH (cs := #[.int .i64 a0_0, .int .i64 0, .string (⟨#[]⟩ : ByteArray), .slice none 0 0]) ?_ 1 _ rfl; (with_reducible repeat (first | refine zH ?_ _ | refine zI ?_ | refine zJ ?_ _)); refine zAH (cs := #[.int .i64 0, .int .i64 0, .string (⟨#[]⟩ : ByteArray), .slice none 0 0]) ?_ 0 _ rfl; (with_reducible repeat (first | refine zH ?_ _ | refine zI ?_ | refine zJ ?_ _)); exact BK225.out) Tryd.underlying24 rfl (by kernel_rfl)) rfl ?_
    exact ⟨_, by first | rfl | (simp [errW_none, errW_some] <;> rfl) | (simp [*, errW_none, errW_some] <;> rfl), by (with_reducible repeat (first | apply Kd.R_alloc | apply Kd.R_drewN | apply Kd.R_drew)); exact Kd.R_mono (Kd.R_far (p := ⟨gb225, 3, none⟩) (Kd.R_far (p := ⟨gb225, 2, none⟩) (Kd.R_far (p := ⟨gb225, 1, none⟩) (Kd.R_far (p := ⟨gb225, 0, none⟩) (Kd.R_mono HO_227003.out (fun k_ hk => (⟨hk, hk.1⟩ : _ ∧ k_ ≠ gb225))) (fun _ hk => hk.2) (.int .i64 a0_0)) (fun _ hk => hk.2) (.int .i64 a0_1)) (fun _ hk => hk.2) (.string a0_2)) (fun _ hk => hk.2) (.slice Ao29 x227003_1.length co29)) (fun _ hk => trivial), by repeat (first | (with_reducible first | exact HB.out | apply zA | apply zB | apply zC | refine zD ?_ GE224.out | refine zD ?_ GE225.out | refine zD ?_ GE226.out) | exact HB.out)⟩

def hammockref09_within.l0 : Nat → List Int → Int → Int → Int → Int → ByteArray → List (S24) → Option (Bool)
 | 0, _, _, _, _, _, _, _ => none
 | k + 1, x3, x4, x238000, x238001, x238002, x238003, x238004 => if x4 < (x3.length : Int) then (if 0 ≤ x4 then (if (rd x3 x4) ≥ x238000 then (some false) else (hammockref09_within.l0 k x3 (wrap64 (x4 + 1)) x238000 x238001 x238002 x238003 x238004)) else (none)) else (some true)
def hammockref09_within.f (k : Nat) (a0_0 : Int) (a0_1 : Int) (a0_2 : Int) (a0_3 : ByteArray) (l0_4 : List (S24)) : Option (Bool) := (hammockref09_vars.f k a0_1 a0_2 a0_3 l0_4).bind fun t238 => (hammockref09_within.l0 k t238 0 a0_0 a0_1 a0_2 a0_3 l0_4)
-- NOT PRINTED: function 16 (hammockref09_More)

-- NOT PRINTED: function 3 (hammocklaw09_TypesMatch)

-- NOT PRINTED: function 19 (types_Subst)

def hammocklaw09_owns.l0 : Nat → List (S24) → List (S31) → Int → Option ((List (S31)))
 | 0, _, _, _ => none
 | k + 1, x0, x3, x4 => if x4 < (x0.length : Int) then (if 0 ≤ x4 then ((hammocklaw09_Own.f k ((rd_T24 x0 x4).f0) ((rd_T24 x0 x4).f1) ((rd_T24 x0 x4).f2) ((rd_T24 x0 x4).f3)).bind fun bt250 => (if x3.length < 2513169434916 then (hammocklaw09_owns.l0 k x0 (x3 ++ [(⟨bt250.1, bt250.2.1, bt250.2.2.1, bt250.2.2.2⟩ : S31)]) (wrap64 (x4 + 1))) else (none))) else (none)) else (some x3)
def hammocklaw09_owns.f (k : Nat) (l0 : List (S24)) : Option ((List (S31))) := hammocklaw09_owns.l0 k l0 ([] : List (S31)) 0
theorem hammocklaw09_owns.mono_l : ∀ k, (∀ y0 y1 y2, LeO (hammocklaw09_owns.l0 k y0 y1 y2) (hammocklaw09_owns.l0 (k + 1) y0 y1 y2))
 | 0 => fun _ _ _ r h => by simp [hammocklaw09_owns.l0] at h
 | k + 1 => by
  have ih0 := hammocklaw09_owns.mono_l k
  ·intro y0 y1 y2
   unfold hammocklaw09_owns.l0
   repeat' first
   | (with_reducible exact ih0 _ _ _)
   | (with_reducible exact hammocklaw09_Own.mono _ _ _ _ _)
   | (with_reducible exact LeO.refl _)
   | (with_reducible exact LeO.none _)
   | (with_reducible refine LeO.ite ?_ ?_)
   | (with_reducible refine LeO.bind ?_ (fun _ => ?_))
set_option maxHeartbeats 8000000 in
set_option maxRecDepth 100000 in
theorem hammocklaw09_owns.calls (k : Nat) (A0 : Option Addr) (c0 : Nat) (l0 : List (S24)) (r : List (S31)) (w : World) (hr0 : Kd.C k24 w A0 l0.length l0) (hc0 : l0.length ≤ c0) (h : hammocklaw09_owns.f k l0 = some r) :
  Calls Tryd.prog 20 #[.slice A0 l0.length c0] w fun e w' => ∃ v0_ : Value, e = .returned (v0_) ∧ Kd.R k31 31 w' w.heap.size (fun _ => True) v0_ r ∧ Below w.heap.size w w' := by
 have hu24 := Tryd.underlying24
 have HR0 := zG hr0
 have HC0 := zG hc0
 clear hr0 hc0
 have HB := zG (Below.refl w.heap.size w)
 have H : (hammocklaw09_owns.l0 k l0 ([] : List (S31)) 0) = some r := h
 clear h
 have H' := zG H
 clear H
 go_enter Tryd.func20, Tryd.ntmps20
 go_wp2
 go_loopg [3, 4] k (fun kq v3 v4 w' => ∃ (x3_1 : List (S31)) (x4_1 : Int), v4 = .int .i64 x4_1 ∧ Aside0 (hammocklaw09_owns.l0 kq l0 x3_1 x4_1 = some r) ∧ Aside0 (kq ≤ k) ∧ Aside0 (Kd.R k31 31 w' w.heap.size (fun _ => True) v3 x3_1) ∧ Aside0 (Below w.heap.size w w'))
 case atStart => exact ⟨(([] : List (S31))), (0), (by first | rfl | (simp; done) | (simp [*]; done)), H', ⟨Nat.le_refl _⟩, ⟨by first | exact Kd.R_nil _ _ _ _ _ | exact Kd.N_nil _ _ _ _ _ | exact Kd.V_nil _ _ _ _ _ | exact Kd.Q_nil _ _ _ _ _ | exact Kd.S_nil _ _ _ _ _⟩, ⟨HB.out⟩⟩
 case round =>
  clear H'
  obtain ⟨x3_1, x4_1, rfl, HA, HK1, HO_3, HB⟩ := hrel
  cases gk with
  | zero => exact absurd HA.out (by simp [hammocklaw09_owns.l0])
  | succ k1 =>
   have H := HA.out
   clear HA
   simp only [hammocklaw09_owns.l0] at H
   by_cases c2 : x4_1 < (l0.length : Int)
   ·rw [if_pos c2] at H
    have c2b0 : decide (x4_1 < (l0.length : Int)) = true := zU c2
    clear c2
    by_cases c3 : 0 ≤ x4_1
    ·rw [if_pos c3] at H
     have c3b0 : decide (0 ≤ x4_1) = true := zU c3
     clear c3
     replace H := zT H
     obtain ⟨⟨t250, t251, t252, t253⟩, A40, H⟩ := H
     replace H : (if x3_1.length < 2513169434916 then (hammocklaw09_owns.l0 k1 l0 (x3_1 ++ [(⟨t250, t251, t252, t253⟩ : S31)]) (wrap64 (x4_1 + 1))) else (none)) = some r := H
     have A4 := zG A40
     clear A40
     by_cases c5 : x3_1.length < 2513169434916
     ·rw [if_pos c5] at H
      have LMc5 := zG c5
      clear c5
      obtain ⟨y256, hy256⟩ : ∃ y_ : List (S31), y_ = (x3_1 ++ [(⟨t250, t251, t252, t253⟩ : S31)]) := ⟨_, rfl⟩
      replace H : (hammocklaw09_owns.l0 k1 l0 y256 (wrap64 (x4_1 + 1))) = some r := by first | (rw [hy256]; with_reducible exact H) | (have H2_ := (Option.bind_some _ _).symm.trans H; rw [hy256]; with_reducible exact H2_) | (have H2_ := (Option.bind_some _ _).symm.trans H; with_reducible exact H2_) | with_reducible exact H | (rw [hy256]; exact H) | exact H
      have Ny256 := zG hy256
      clear hy256
      have H' := zG H
      clear H
      have p249 : 0 ≤ (x4_1 : Int) := zAA (by assumption)
      have q249 : x4_1 < (l0.length : Int) := zAA (by assumption)
      obtain ⟨ad249, A249_3, c249_3, e249, hx249_0, hx249_1, hx249_2, hx249_3, hl249_3, hi249_3⟩ := at_T24 HR0.out x4_1 p249 q249
      cases e249
      replace hx249_0 := (HB.out.cell (zS w _ hx249_0)).trans hx249_0
      replace hx249_1 := (HB.out.cell (zS w _ hx249_1)).trans hx249_1
      replace hx249_2 := (HB.out.cell (zS w _ hx249_2)).trans hx249_2
      replace hx249_3 := (HB.out.cell (zS w _ hx249_3)).trans hx249_3
      have HR249_3 := zG hi249_3
      have HC249_3 := zG hl249_3
      clear hi249_3 hl249_3
      replace p249 := eq_true p249
      replace q249 := eq_true q249
      go_wp2_with (first | ((with_reducible refine gate_callee (f := 11) rfl ?_); refine goesL_ (some 16) rfl rfl Tryd.func11 (by kernel_rfl) rfl #[.agg #[.int .i64 ((rd_T24 l0 x4_1).f0), .int .i64 ((rd_T24 l0 x4_1).f1), .string ((rd_T24 l0 x4_1).f2), .slice A249_3 ((rd_T24 l0 x4_1).f3).length c249_3]] rfl (by (try simp only [List.map_toArray, List.map_cons, List.map_nil]); first | done | rfl | (simp only [List.length_drop, List.length_take]; rfl)) ?_; (with_reducible refine (hammocklaw09_Own.calls k1 ((rd_T24 l0 x4_1).f0) ((rd_T24 l0 x4_1).f1) ((rd_T24 l0 x4_1).f2) _ _ ((rd_T24 l0 x4_1).f3) t250 t251 t252 t253 _ ?side1 ?side2 A4.out).mono ?_); (case side1 => repeat (first | exact (zAC HR249_3.out HB.out) | (with_reducible refine zAE ?_ _) | (with_reducible refine zAF ?_ _) | (with_reducible refine zAG ?_))); (case side2 => exact HC249_3.out); rintro e w6 ⟨v254, rfl, ho0, hb⟩; refine ⟨_, rfl, ?_⟩; have n0_ := zG (Kd.R_elder' (by (with_reducible repeat (first | apply Kd.R_alloc | apply Kd.R_drewN | apply Kd.R_drew)); exact HO_3.out) (Kd.R_base ho0) hb); have n1_ := zG (Kd.R_lower (Kd.R_new' ho0 (Kd.R_lt (by (with_reducible repeat (first | apply Kd.R_alloc | apply Kd.R_drewN | apply Kd.R_drew)); exact HO_3.out))) (zF (by repeat (first | (with_reducible first | exact HB.out | apply zA | apply zB | apply zC) | exact HB.out)))); have n2_ := zG (zE (by repeat (first | (with_reducible first | exact HB.out | apply zA | apply zB | apply zC) | exact HB.out)) hb); clear HO_3; clear HB; have HO_3 := n0_; have HO255 := n1_; have HB := n2_; clear n0_ n1_ n2_; (try clear hb); (try clear hb2); (try clear hk); (try clear hi); (try clear ho0); obtain ⟨Ao8, co8, eo8⟩ := Kd.R_slice HO255.out; subst eo8) | ((with_reducible refine gate_builtin (b := .append) (xs := #[.tmp 11, .tmp 17]) rfl ?_); at_builtin; refine Kd.R_append k31 (w0 := w) w.heap.size rfl (.tmp 11) (.tmp 17) 27 31 (.agg #[(.int .i64 0), (.int .i64 0), (.string ⟨#[]⟩), (.slice none 0 0)]) 56 rfl Tryd.underlying27 info31 rfl (by decide) (by omega) u3 x3_1 (⟨t250, t251, t252, t253⟩ : S31) [.int .i64 t250, .int .i64 t251, .string t252, .slice Ao8 t253.length co8] (fun _ => True) (fun k_ => ((fun _ => True)) k_ ∧ some k_ ≠ (u3 : Value).ownBlock) rfl rfl ?aP (fun _ hk => hk) ?aF ?aO ?aB ?aS ?aL ?_; (case aP => exact k31_mkM _ _ _ (⟨t250, t251, t252, t253⟩ : S31) (Kd.R_mono (HO255.out) (fun k_ hk => ⟨trivial, hk.2⟩))); (case aB => exact (by repeat (first | (with_reducible first | exact HB.out | apply zA | apply zB | apply zC) | exact HB.out))); (case aF => exact (fun _ _ => trivial)); (case aO => exact (by (with_reducible repeat (first | apply Kd.R_alloc | apply Kd.R_drewN | apply Kd.R_drew)); exact Kd.R_mono HO_3.out (fun _ hk => trivial))); (case aS => exact (zF (by repeat (first | (with_reducible first | exact HB.out | apply zA | apply zB | apply zC) | exact HB.out)))); (case aL => have := LMc5.out; omega); intro v257 w7 ho hb hg hat; rw [← Ny256.out] at ho; have n0_ := zG (hb); have n1_ := zG (ho); clear HB; clear HO_3; clear HO255; have HB := n0_; have HO258 := n1_; clear n0_ n1_; clear ho hb hg hat))
      go_roundg k1
      case measure => have := HK1.out; omega
      case rel => exact ⟨(y256), (wrap64 (x4_1 + 1)), (by first | rfl | (simp; done) | (simp [*]; done)), H', ⟨by have := HK1.out; omega⟩, ⟨by (with_reducible repeat (first | apply Kd.R_alloc | apply Kd.R_drewN | apply Kd.R_drew)); exact HO258.out⟩, ⟨HB.out⟩⟩
     ·rw [if_neg c5] at H
      exact absurd H (by simp)
    ·rw [if_neg c3] at H
     exact absurd H (by simp)
   ·rw [if_neg c2] at H
    have c2b0 : decide (x4_1 < (l0.length : Int)) = false := zV c2
    clear c2
    obtain rfl := Option.some.inj H
    go_wp2
    go_ret
    exact ⟨_, by first | rfl | (simp [errW_none, errW_some] <;> rfl) | (simp [*, errW_none, errW_some] <;> rfl), by (with_reducible repeat (first | apply Kd.R_alloc | apply Kd.R_drewN | apply Kd.R_drew)); exact HO_3.out, HB.out⟩

-- NOT PRINTED: function 4 (hammocklaw09_TypesMore)

-- NOT PRINTED: function 5 (hammocklaw09_TypesAnew)

end Go.Proofs.YtddmdiaopaoekaaDoor.P
