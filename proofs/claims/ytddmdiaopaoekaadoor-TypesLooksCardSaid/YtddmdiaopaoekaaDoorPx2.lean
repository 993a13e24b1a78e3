-- written by a program of this session's (wip/tools/extprint.py) over the kit's print
import Derived.Test.YtddmdiaopaoekaaDoorPx0
import Derived.Test.YtddmdiaopaoekaaDoorSq
namespace Go.Proofs.YtddmdiaopaoekaaDoor.P
open Go.RowKit Go.Proofs.YtddmdiaopaoekaaDoorW.PrintWords Go.Proofs.YtddmdiaopaoekaaDoorW.PrintLast Go.Proofs.YtddmdiaopaoekaaDoorW.PrintMore
attribute [local go_sem] max2_int min2_int max_two min_two max_three min_three max_four min_four   -- for this text's walks alone
set_option linter.unusedVariables false
set_option linter.unusedSimpArgs false

mutual
def hammocklaw09_Own.l0 : Nat → Int → Int → Int → ByteArray → List (S24) → Int → Int → ByteArray → List (S31) → Option (Int × Int × ByteArray × (List (S31)))
 | 0, _, _, _, _, _, _, _, _, _ => none
 | k + 1, x4, x167000, x167001, x167002, x167003, x169000, x169001, x169002, x169003 => if x4 < (x167003.length : Int) then (if 0 ≤ x4 then ((hammocklaw09_Own.f k ((rd_T24 x167003 x4).f0) ((rd_T24 x167003 x4).f1) ((rd_T24 x167003 x4).f2) ((rd_T24 x167003 x4).f3)).bind fun bt170 => (if x169003.length < 2513169434916 then (hammocklaw09_Own.l0 k (wrap64 (x4 + 1)) x167000 x167001 x167002 x167003 x169000 x169001 x169002 (x169003 ++ [(⟨bt170.1, bt170.2.1, bt170.2.2.1, bt170.2.2.2⟩ : S31)])) else (none))) else (none)) else (some (x169000, x169001, x169002, x169003))
def hammocklaw09_Own.f : Nat → Int → Int → ByteArray → List (S24) → Option (Int × Int × ByteArray × (List (S31)))
 | 0, _, _, _, _ => none
 | k + 1, a0_0, a0_1, a0_2, l0_3 => hammocklaw09_Own.l0 k 0 a0_0 a0_1 a0_2 l0_3 a0_0 a0_1 a0_2 ([] : List (S31))
end
theorem hammocklaw09_Own.mono_l : ∀ k, (∀ y0 y1 y2 y3, LeO (hammocklaw09_Own.f k y0 y1 y2 y3) (hammocklaw09_Own.f (k + 1) y0 y1 y2 y3)) ∧ (∀ y0 y1 y2 y3 y4 y5 y6 y7 y8, LeO (hammocklaw09_Own.l0 k y0 y1 y2 y3 y4 y5 y6 y7 y8) (hammocklaw09_Own.l0 (k + 1) y0 y1 y2 y3 y4 y5 y6 y7 y8))
 | 0 => ⟨fun _ _ _ _ r h => by simp [hammocklaw09_Own.f] at h, fun _ _ _ _ _ _ _ _ _ r h => by simp [hammocklaw09_Own.l0] at h⟩
 | k + 1 => by
  obtain ⟨ih0, ih1⟩ := hammocklaw09_Own.mono_l k
  refine ⟨?_, ?_⟩
  ·intro y0 y1 y2 y3
   unfold hammocklaw09_Own.f
   repeat' first
   | (with_reducible exact ih0 _ _ _ _)
   | (with_reducible exact ih1 _ _ _ _ _ _ _ _ _)
   | (with_reducible exact LeO.refl _)
   | (with_reducible exact LeO.none _)
   | (with_reducible refine LeO.ite ?_ ?_)
   | (with_reducible refine LeO.bind ?_ (fun _ => ?_))
  ·intro y0 y1 y2 y3 y4 y5 y6 y7 y8
   unfold hammocklaw09_Own.l0
   repeat' first
   | (with_reducible exact ih0 _ _ _ _)
   | (with_reducible exact ih1 _ _ _ _ _ _ _ _ _)
   | (with_reducible exact LeO.refl _)
   | (with_reducible exact LeO.none _)
   | (with_reducible refine LeO.ite ?_ ?_)
   | (with_reducible refine LeO.bind ?_ (fun _ => ?_))
theorem hammocklaw09_Own.mono : ∀ a0 a1 a2 a3 k, LeO (hammocklaw09_Own.f k a0 a1 a2 a3) (hammocklaw09_Own.f (k + 1) a0 a1 a2 a3) := by
 intro a0 a1 a2 a3 k
 obtain ⟨ih0, ih1⟩ := hammocklaw09_Own.mono_l k
 exact ih0 a0 a1 a2 a3
def hammocklaw09_Own.T5 : Bool × List (List Nat × List Nat) := (true, [([], []), ([0], [0]), ([], []), ([2], [2]), ([], []), ([3, 4], [3, 4]), ([5], [5]), ([6], [6]), ([7], [7]), ([1, 8, 7], [1, 8]), ([0, 1, 2, 3, 4, 5, 6, 7, 8, 9], []), ([10, 9, 9, 0, 1, 2, 3, 4, 5, 6, 7, 8, 9], [9, 10])])
def hammocklaw09_Own.B5 : List Nat := [0, 1, 0, 4, 0, 28, 60, 124, 252, 511, 1023, 2047]
theorem hammocklaw09_Own.tab5 : rtab .any (opsOf Tryd.f11 5) = hammocklaw09_Own.T5 := by kernel_rfl
theorem hammocklaw09_Own.bits5 : waitsOk hammocklaw09_Own.T5.2 hammocklaw09_Own.B5 = true := by kernel_rfl
set_option maxHeartbeats 8000000 in
set_option maxRecDepth 100000 in
theorem hammocklaw09_Own.calls (k : Nat) : ∀ (a0_0 : Int) (a0_1 : Int) (a0_2 : ByteArray) (A0_3 : Option Addr) (c0_3 : Nat) (l0_3 : List (S24)) (r1 : Int) (r2 : Int) (r3 : ByteArray) (r4 : List (S31)) (w : World) (hr0_3 : Kd.C k24 w A0_3 l0_3.length l0_3) (hc0_3 : l0_3.length ≤ c0_3) (h : hammocklaw09_Own.f k a0_0 a0_1 a0_2 l0_3 = some (r1, r2, r3, r4)),
  Calls Tryd.prog 11 #[.agg #[.int .i64 a0_0, .int .i64 a0_1, .string a0_2, .slice A0_3 l0_3.length c0_3]] w fun e w' => ∃ v3_ : Value, e = .returned (.agg #[.int .i64 r1, .int .i64 r2, .string r3, v3_]) ∧ Kd.R k31 31 w' w.heap.size (fun _ => True) v3_ r4 ∧ Below w.heap.size w w' := by
 induction k using Nat.strongRecOn with
 | _ k ih =>
 intro a0_0 a0_1 a0_2 A0_3 c0_3 l0_3 r1 r2 r3 r4 w hr0_3 hc0_3 h
 cases k with
 | zero => exact absurd h (by simp [hammocklaw09_Own.f])
 | succ k =>
 simp only [hammocklaw09_Own.f] at h
 have hu24 := Tryd.underlying24
 have hu31 := Tryd.underlying31
 have HR0_3 := zG hr0_3
 have HC0_3 := zG hc0_3
 clear hr0_3 hc0_3
 have HB := zG (Below.refl w.heap.size w)
 have H : (hammocklaw09_Own.l0 k 0 a0_0 a0_1 a0_2 l0_3 a0_0 a0_1 a0_2 ([] : List (S31))) = some (r1, r2, r3, r4) := h
 clear h
 have H' := zG H
 clear H
 go_enter Tryd.func11, Tryd.ntmps11
 go_wp2_with (first | ((with_reducible refine gate_dst (N := 1) rfl ?_); refine box_event ?hg (N := 1) ?hd (cs := #[.int .i64 a0_0, .int .i64 a0_1, .string a0_2, .slice A0_3 l0_3.length c0_3]) (t := 24) ?hr ?_; (case hd => rfl); (case hg => rfl); (case hr => first | (go_simp; done) | (go_simp; rfl)); intro gb166 hg w2 hbox hb; have n0_ := zG (zE HB.out hb); have n1_ := zG (hbox); have n2_ := zG ((by rw [hg]; exact (zF HB.out) : w.heap.size ≤ gb166)); have n3_ := n2_; clear HB; have HB := n0_; have BK166 := n1_; have GW166 := n2_; have GE166 := n3_; clear n0_ n1_ n2_ n3_; clear hb hbox hg) | ((with_reducible refine gate_dst (N := 2) rfl ?_); refine box_event ?hg (N := 2) ?hd (cs := #[.int .i64 0, .int .i64 0, .string (⟨#[]⟩ : ByteArray), .slice none 0 0]) (t := 31) ?hr ?_; (case hd => rfl); (case hg => rfl); (case hr => first | (go_simp; done) | (go_simp; rfl)); intro gb167 hg w3 hbox hb; have n0_ := zG (zK (g := gb166) BK166.out hb); have n1_ := zG (zE HB.out hb); have n2_ := zG (hbox); have n3_ := zG ((by rw [hg]; exact (zF HB.out) : w.heap.size ≤ gb167)); have n4_ := n3_; have n5_ := zG ((by rw [hg]; exact Nat.ne_of_lt (zAD (g := gb166) BK166.out) : gb166 ≠ gb167)); have n6_ := zG ((by rw [hg]; exact Nat.ne_of_gt (zAD (g := gb166) BK166.out) : gb167 ≠ gb166)); clear BK166; clear HB; have BK166 := n0_; have HB := n1_; have BK167 := n2_; have GW167 := n3_; have GE167 := n4_; have NB166_167 := n5_; have NB167_166 := n6_; clear n0_ n1_ n2_ n3_ n4_ n5_ n6_; clear hb hbox hg; have hnb4 := NB166_167.out; have hnc4 := NB167_166.out; obtain ⟨hcz5_0, hcz5_1, hcz5_2, hcz5_3⟩ := zN BK166.out; have hfz5_0 := zM BK166.out 0; have hfz5_1 := zM BK166.out 1; have hfz5_2 := zM BK166.out 2; have hfz5_3 := zM BK166.out 3) | ((with_reducible refine gate_dst (N := 3) rfl ?_); refine box_event ?hg (N := 3) ?hd (cs := #[.int .i64 0, .int .i64 0, .string (⟨#[]⟩ : ByteArray), .slice none 0 0]) (t := 31) ?hr ?_; (case hd => rfl); (case hg => rfl); (case hr => first | (go_simp; done) | (go_simp; rfl)); intro gb168 hg w6 hbox hb; have n0_ := zG (zK (g := gb166) BK166.out hb); have n1_ := zG (zK (g := gb167) BK167.out hb); have n2_ := zG (zE HB.out hb); have n3_ := zG (hbox); have n4_ := zG ((by rw [hg]; exact (zF HB.out) : w.heap.size ≤ gb168)); have n5_ := n4_; have n6_ := zG ((by rw [hg]; exact Nat.ne_of_lt (zAD (g := gb166) BK166.out) : gb166 ≠ gb168)); have n7_ := zG ((by rw [hg]; exact Nat.ne_of_gt (zAD (g := gb166) BK166.out) : gb168 ≠ gb166)); have n8_ := zG ((by rw [hg]; exact Nat.ne_of_lt (zAD (g := gb167) BK167.out) : gb167 ≠ gb168)); have n9_ := zG ((by rw [hg]; exact Nat.ne_of_gt (zAD (g := gb167) BK167.out) : gb168 ≠ gb167)); clear BK166; clear BK167; clear HB; have BK166 := n0_; have BK167 := n1_; have HB := n2_; have BK168 := n3_; have GW168 := n4_; have GE168 := n5_; have NB166_168 := n6_; have NB168_166 := n7_; have NB167_168 := n8_; have NB168_167 := n9_; clear n0_ n1_ n2_ n3_ n4_ n5_ n6_ n7_ n8_ n9_; clear hb hbox hg; have hnb7 := NB168_166.out; have hnc7 := NB166_168.out; have hnb8 := NB168_167.out; have hnc8 := NB167_168.out; obtain ⟨hcz9_0, hcz9_1, hcz9_2, hcz9_3⟩ := zN BK168.out; have hfz9_0 := zM BK168.out 0; have hfz9_1 := zM BK168.out 1; have hfz9_2 := zM BK168.out 2; have hfz9_3 := zM BK168.out 3))
 go_loopg [4] k (fun kq v4 w' => ∃ (x4_1 : Int) (x169003_1 : List (S31)) (u169003 : Value), v4 = .int .i64 x4_1 ∧ Aside0 (hammocklaw09_Own.l0 kq x4_1 a0_0 a0_1 a0_2 l0_3 a0_0 a0_1 a0_2 x169003_1 = some (r1, r2, r3, r4)) ∧ Aside0 (kq ≤ k) ∧ Aside0 (Kd.R k31 31 w' w.heap.size (fun k_ => k_ ≠ gb167 ∧ k_ ≠ gb168) u169003 x169003_1) ∧ Aside0 (w'.heap[gb166]? = some (.cells #[.int .i64 a0_0, .int .i64 a0_1, .string a0_2, (.slice A0_3 l0_3.length c0_3)] 24 (0, 0))) ∧ Aside0 (w'.heap[gb167]? = some (.cells #[.int .i64 0, .int .i64 0, .string (⟨#[]⟩ : ByteArray), (.slice none 0 0)] 31 (0, 0))) ∧ Aside0 (w'.heap[gb168]? = some (.cells #[.int .i64 a0_0, .int .i64 a0_1, .string a0_2, u169003] 31 (0, 0))) ∧ Aside0 (Below w.heap.size w w'))
 case atStart => exact ⟨(0), (([] : List (S31))), (.slice none 0 0), (by first | rfl | (simp; done) | (simp [*]; done)), H', ⟨Nat.le_refl _⟩, ⟨by first | exact Kd.R_nil _ _ _ _ _ | exact Kd.N_nil _ _ _ _ _ | exact Kd.V_nil _ _ _ _ _ | exact Kd.Q_nil _ _ _ _ _ | exact Kd.S_nil _ _ _ _ _⟩, ⟨by (with_reducible repeat (first | refine zH ?_ _ | refine zI ?_ | refine zJ ?_ _)); refine blk_far ?_ NB166_168.out _; (with_reducible repeat (first | refine zH ?_ _ | refine zI ?_ | refine zJ ?_ _)); refine blk_far ?_ NB166_168.out _; (with_reducible repeat (first | refine zH ?_ _ | refine zI ?_ | refine zJ ?_ _)); refine blk_far ?_ NB166_168.out _; (with_reducible repeat (first | refine zH ?_ _ | refine zI ?_ | refine zJ ?_ _)); refine blk_far ?_ NB166_168.out _; (with_reducible repeat (first | refine zH ?_ _ | refine zI ?_ | refine zJ ?_ _)); exact BK166.out⟩, ⟨by (with_reducible repeat (first | refine zH ?_ _ | refine zI ?_ | refine zJ ?_ _)); refine blk_far ?_ NB167_168.out _; (with_reducible repeat (first | refine zH ?_ _ | refine zI ?_ | refine zJ ?_ _)); refine blk_far ?_ NB167_168.out _; (with_reducible repeat (first | refine zH ?_ _ | refine zI ?_ | refine zJ ?_ _)); refine blk_far ?_ NB167_168.out _; (with_reducible repeat (first | refine zH ?_ _ | refine zI ?_ | refine zJ ?_ _)); refine blk_far ?_ NB167_168.out _; (with_reducible repeat (first | refine zH ?_ _ | refine zI ?_ | refine zJ ?_ _)); exact BK167.out⟩, ⟨by (with_reducible repeat (first | refine zH ?_ _ | refine zI ?_ | refine zJ ?_ _)); refine zAH (cs := #[.int .i64 a0_0, .int .i64 a0_1, .string a0_2, .slice none 0 0]) ?_ 3 _ rfl; (with_reducible repeat (first | refine zH ?_ _ | refine zI ?_ | refine zJ ?_ _)); refine zAH (cs := #[.int .i64 a0_0, .int .i64 a0_1, .string (⟨#[]⟩ : ByteArray), .slice none 0 0]) ?_ 2 _ rfl; (with_reducible repeat (first | refine zH ?_ _ | refine zI ?_ | refine zJ ?_ _)); refine zAH (cs := #[.int .i64 a0_0, .int .i64 0, .string (⟨#[]⟩ : ByteArray), .slice none 0 0]) ?_ 1 _ rfl; (with_reducible repeat (first | refine zH ?_ _ | refine zI ?_ | refine zJ ?_ _)); refine zAH (cs := #[.int .i64 0, .int .i64 0, .string (⟨#[]⟩ : ByteArray), .slice none 0 0]) ?_ 0 _ rfl; (with_reducible repeat (first | refine zH ?_ _ | refine zI ?_ | refine zJ ?_ _)); exact BK168.out⟩, ⟨by repeat (first | (with_reducible first | exact HB.out | apply zA | apply zB | apply zC | refine zD ?_ GE166.out | refine zD ?_ GE167.out | refine zD ?_ GE168.out) | exact HB.out)⟩⟩
 case round =>
  clear H'
  try clear c1
  try clear p2
  try clear c4
  try clear c7
  try clear c8
  try clear hcz5_0
  try clear hcz5_1
  try clear hcz5_2
  try clear hcz5_3
  try clear hcz9_0
  try clear hcz9_1
  try clear hcz9_2
  try clear hcz9_3
  try clear hfz5_0
  try clear hfz5_1
  try clear hfz5_2
  try clear hfz5_3
  try clear hfz9_0
  try clear hfz9_1
  try clear hfz9_2
  try clear hfz9_3
  obtain ⟨x4_1, x169003_1, u169003, rfl, HA, HK1, HO_169003, BK166, BK167, BK168, HB⟩ := hrel
  cases gk with
  | zero => exact absurd HA.out (by simp [hammocklaw09_Own.l0])
  | succ k1 =>
   have H := HA.out
   clear HA
   simp only [hammocklaw09_Own.l0] at H
   by_cases c10 : x4_1 < (l0_3.length : Int)
   ·rw [if_pos c10] at H
    have c10b0 : decide (x4_1 < (l0_3.length : Int)) = true := zU c10
    clear c10
    by_cases c11 : 0 ≤ x4_1
    ·rw [if_pos c11] at H
     have c11b0 : decide (0 ≤ x4_1) = true := zU c11
     clear c11
     replace H := zT H
     obtain ⟨⟨t170, t171, t172, t173⟩, A120, H⟩ := H
     replace H : (if x169003_1.length < 2513169434916 then (hammocklaw09_Own.l0 k1 (wrap64 (x4_1 + 1)) a0_0 a0_1 a0_2 l0_3 a0_0 a0_1 a0_2 (x169003_1 ++ [(⟨t170, t171, t172, t173⟩ : S31)])) else (none)) = some (r1, r2, r3, r4) := H
     have A12 := zG A120
     clear A120
     by_cases c13 : x169003_1.length < 2513169434916
     ·rw [if_pos c13] at H
      have LMc13 := zG c13
      clear c13
      obtain ⟨y176, hy176⟩ : ∃ y_ : List (S31), y_ = (x169003_1 ++ [(⟨t170, t171, t172, t173⟩ : S31)]) := ⟨_, rfl⟩
      replace H : (hammocklaw09_Own.l0 k1 (wrap64 (x4_1 + 1)) a0_0 a0_1 a0_2 l0_3 a0_0 a0_1 a0_2 y176) = some (r1, r2, r3, r4) := by first | (rw [hy176]; with_reducible exact H) | (have H2_ := (Option.bind_some _ _).symm.trans H; rw [hy176]; with_reducible exact H2_) | (have H2_ := (Option.bind_some _ _).symm.trans H; with_reducible exact H2_) | with_reducible exact H | (rw [hy176]; exact H) | exact H
      have Ny176 := zG hy176
      clear hy176
      have H' := zG H
      clear H
      have hnb14 := NB166_167.out
      have hnc14 := NB167_166.out
      have hnb15 := NB166_168.out
      have hnc15 := NB168_166.out
      obtain ⟨hcz16_0, hcz16_1, hcz16_2, hcz16_3, hfz16_0, hfz16_1, hfz16_2, hfz16_3⟩ := zQ BK166.out
      try go_wp2
      have n0_ := zG (Kd.R_drew HO_169003.out)
      have n1_ := zG (zI BK166.out)
      have n2_ := zG (zI BK167.out)
      have n3_ := zG (zI BK168.out)
      have n4_ := zG (zC HB.out)
      clear HO_169003
      clear BK166
      clear BK167
      clear BK168
      clear HB
      have HO_169003 := n0_
      have BK166 := n1_
      have BK167 := n2_
      have BK168 := n3_
      have HB := n4_
      clear n0_ n1_ n2_ n3_ n4_
      have p169 : 0 ≤ (x4_1 : Int) := zAA (by assumption)
      have q169 : x4_1 < (l0_3.length : Int) := zAA (by assumption)
      obtain ⟨ad169, A169_3, c169_3, e169, hx169_0, hx169_1, hx169_2, hx169_3, hl169_3, hi169_3⟩ := at_T24 HR0_3.out x4_1 p169 q169
      have hw169_3 := hx169_3
      have hw169_2 := hx169_2
      have hw169_1 := hx169_1
      have hw169_0 := hx169_0
      cases e169
      replace hx169_0 := (HB.out.cell (zS w _ hx169_0)).trans hx169_0
      replace hx169_1 := (HB.out.cell (zS w _ hx169_1)).trans hx169_1
      replace hx169_2 := (HB.out.cell (zS w _ hx169_2)).trans hx169_2
      replace hx169_3 := (HB.out.cell (zS w _ hx169_3)).trans hx169_3
      have HR169_3 := zG hi169_3
      have HC169_3 := zG hl169_3
      clear hi169_3 hl169_3
      replace p169 := eq_true p169
      replace q169 := eq_true q169
      refine start_ (n := 12) (S := fun w' => w'.cell? ⟨gb168, 0, none⟩ = some (.int .i64 a0_0) ∧ w'.cell? ⟨gb168, 1, none⟩ = some (.int .i64 a0_1) ∧ w'.cell? ⟨gb168, 2, none⟩ = some (.string a0_2) ∧ w'.cell? ⟨gb168, 3, none⟩ = some (u169003) ∧ w'.cell? ⟨gb166, 0, none⟩ = some (.int .i64 a0_0) ∧ w'.cell? ⟨gb166, 1, none⟩ = some (.int .i64 a0_1) ∧ w'.cell? ⟨gb166, 2, none⟩ = some (.string a0_2) ∧ w'.cell? ⟨gb166, 3, none⟩ = some (.slice (some ad169) l0_3.length c0_3) ∧ w'.cell? (ad169.add ((x4_1).toNat * 4)) = some (.int .i64 ((rd_T24 l0_3 x4_1).f0)) ∧ w'.cell? ⟨(ad169.add ((x4_1).toNat * 4)).block, (ad169.add ((x4_1).toNat * 4)).off + 1, none⟩ = some (.int .i64 ((rd_T24 l0_3 x4_1).f1)) ∧ w'.cell? ⟨(ad169.add ((x4_1).toNat * 4)).block, (ad169.add ((x4_1).toNat * 4)).off + 2, none⟩ = some (.string ((rd_T24 l0_3 x4_1).f2)) ∧ w'.cell? ⟨(ad169.add ((x4_1).toNat * 4)).block, (ad169.add ((x4_1).toNat * 4)).off + 3, none⟩ = some (.slice A169_3 ((rd_T24 l0_3 x4_1).f3).length c169_3)) (ds := [11]) (zBM 12 0) (by kernel_rfl) rfl rfl ⟨zL BK168.out 0, zL BK168.out 1, zL BK168.out 2, zL BK168.out 3, zL BK166.out 0, zL BK166.out 1, zL BK166.out 2, zL BK166.out 3, ((HB.out.cell (zS w _ hw169_0)).trans hw169_0), ((HB.out.cell (zS w _ hw169_1)).trans hw169_1), ((HB.out.cell (zS w _ hw169_2)).trans hw169_2), ((HB.out.cell (zS w _ hw169_3)).trans hw169_3)⟩ (fun hHeld => ?_); refine with_tabW hammocklaw09_Own.tab5 hammocklaw09_Own.bits5 (fun HT_ HW_ => ?_)
      generalize wr.drew = w17 at HO_169003 BK166 BK167 BK168 HB HR169_3 hx169_0 hx169_1 hx169_2 hx169_3 hHeld ⊢
      refine pure_ (i := 0) (N := some 19) (v := ?_) (a' := ?_) (zBM 12 1) rfl rfl (any_of HT_.out (by kernel_rfl)) (fun _ _ _ h => h) (Or.inl ⟨by rfl, ?_⟩) ?_ ?_
      rotate_left
      ·intro w'
       go_simp
       with_reducible rfl
      rotate_left
      ·simp only [Act.put, zO, zP, zR, i64_w, i32_w]
       rfl
      refine pure_ (i := 2) (N := some 21) (v := ?_) (a' := ?_) (zBM 12 5) rfl rfl (any_of HT_.out (by kernel_rfl)) (fun _ _ _ h => h) (Or.inl ⟨by rfl, ?_⟩) ?_ ?_
      rotate_left
      ·intro w'
       go_simp
       with_reducible rfl
      rotate_left
      ·simp only [Act.put, zO, zP, zR, i64_w, i32_w]
       rfl
      refine pure_ (i := 4) (N := some 23) (v := ?_) (a' := ?_) (zBM 12 21) rfl rfl (any_of HT_.out (by kernel_rfl)) (fun _ _ _ h => h) (Or.inl ⟨by rfl, ?_⟩) ?_ ?_
      rotate_left
      ·intro w'
       go_simp
       with_reducible rfl
      rotate_left
      ·simp only [Act.put, zO, zP, zR, i64_w, i32_w]
       rfl
      refine take_ (i := 1) (N := some 20) (v := ?_) (a' := ?_) (zBM 12 23) rfl rfl (take_ofW HT_.out HW_.out (by kernel_rfl)) (fun _ _ _ h => h) (Or.inl ⟨by rfl, ?_⟩) hHeld ?_ ?_
      rotate_left
      ·rintro w' ⟨s0, s1, s2, s3, s4, s5, s6, s7, s8, s9, s10, s11⟩
       go_simp
       with_reducible rfl
      rotate_left
      ·simp only [Act.put, zO, zP, zR, i64_w, i32_w]
       rfl
      refine take_ (i := 3) (N := some 22) (v := ?_) (a' := ?_) (zBM 12 31) rfl rfl (take_ofW HT_.out HW_.out (by kernel_rfl)) (fun _ _ _ h => h) (Or.inl ⟨by rfl, ?_⟩) hHeld ?_ ?_
      rotate_left
      ·rintro w' ⟨s0, s1, s2, s3, s4, s5, s6, s7, s8, s9, s10, s11⟩
       go_simp
       with_reducible rfl
      rotate_left
      ·simp only [Act.put, zO, zP, zR, i64_w, i32_w]
       rfl
      refine pure_ (i := 5) (N := some 24) (v := ?_) (a' := ?_) (zBM 12 63) rfl rfl (any_of HT_.out (by kernel_rfl)) (fun _ _ _ h => h) (Or.inl ⟨by rfl, ?_⟩) ?_ ?_
      rotate_left
      ·intro w'
       go_simp
       with_reducible rfl
      rotate_left
      ·simp only [Act.put, zO, zP, zR, i64_w, i32_w]
       rfl
      refine take_ (i := 6) (N := some 25) (v := ?_) (a' := ?_) (zBM 12 127) rfl rfl (take_ofW HT_.out HW_.out (by kernel_rfl)) (fun _ _ _ h => h) (Or.inl ⟨by rfl, ?_⟩) hHeld ?_ ?_
      rotate_left
      ·rintro w' ⟨s0, s1, s2, s3, s4, s5, s6, s7, s8, s9, s10, s11⟩
       go_simp
       with_reducible rfl
      rotate_left
      ·simp only [Act.put, zO, zP, zR, i64_w, i32_w]
       rfl
      refine one_ (i := 7) (N := some 26) (zBM 12 255) rfl rfl (one_of HT_.out (by kernel_rfl)) (by decide) (fun K hK => ?_)
      refine goes_ Tryd.func11 (by kernel_rfl) rfl #[.agg #[.int .i64 ((rd_T24 l0_3 x4_1).f0), .int .i64 ((rd_T24 l0_3 x4_1).f1), .string ((rd_T24 l0_3 x4_1).f2), .slice A169_3 ((rd_T24 l0_3 x4_1).f3).length c169_3]] (by rfl) rfl rfl (by (try simp only [List.map_toArray, List.map_cons, List.map_nil]); first | done | rfl | (simp only [List.length_drop, List.length_take]; rfl)) ?_
      with_reducible refine (ih k1 (by have := HK1.out; omega) ((rd_T24 l0_3 x4_1).f0) ((rd_T24 l0_3 x4_1).f1) ((rd_T24 l0_3 x4_1).f2) _ _ ((rd_T24 l0_3 x4_1).f3) t170 t171 t172 t173 _ ?side1 ?side2 A12.out).mono ?_
      (case side1 => exact zAC HR169_3.out HB.out)
      (case side2 => exact HC169_3.out)
      rintro e w18 ⟨v174, rfl, ho0, hb⟩
      refine ⟨_, rfl, ?_⟩
      have n0_ := zG (Kd.R_elder' (by (with_reducible repeat (first | apply Kd.R_alloc | apply Kd.R_drewN | apply Kd.R_drew)); exact HO_169003.out) (Kd.R_base ho0) hb)
      have n1_ := zG (Kd.R_lower (Kd.R_newB (Kd.R_newB (Kd.R_new' ho0 (Kd.R_lt (by (with_reducible repeat (first | apply Kd.R_alloc | apply Kd.R_drewN | apply Kd.R_drew)); exact HO_169003.out))) (g := gb167) (o := .cells #[.int .i64 0, .int .i64 0, .string (⟨#[]⟩ : ByteArray), .slice none 0 0] 31 (0, 0)) BK167.out) (g := gb168) (o := .cells #[.int .i64 a0_0, .int .i64 a0_1, .string a0_2, u169003] 31 (0, 0)) BK168.out) (zF HB.out))
      have n2_ := zG (zK (g := gb166) BK166.out hb)
      have n3_ := zG (zK (g := gb167) BK167.out hb)
      have n4_ := zG (zK (g := gb168) BK168.out hb)
      have n5_ := zG (zE HB.out hb)
      clear HO_169003
      clear BK166
      clear BK167
      clear BK168
      clear HB
      have HO_169003 := n0_
      have HO175 := n1_
      have BK166 := n2_
      have BK167 := n3_
      have BK168 := n4_
      have HB := n5_
      clear n0_ n1_ n2_ n3_ n4_ n5_
      (try clear hb)
      (try clear hb2)
      (try clear hk)
      (try clear hi)
      (try clear ho0)
      obtain ⟨Ao20, co20, eo20⟩ := Kd.R_slice HO175.out
      (first | subst eo20 | (injection eo20 with f1_ f2_ f3_; have f4_ := f1_.symm; have f5_ := f3_.symm; clear f1_ f2_ f3_; subst f4_; subst f5_))
      refine hK.out _ _ ⟨zL BK168.out 0, zL BK168.out 1, zL BK168.out 2, zL BK168.out 3, zL BK166.out 0, zL BK166.out 1, zL BK166.out 2, zL BK166.out 3, ((HB.out.cell (zS w _ hw169_0)).trans hw169_0), ((HB.out.cell (zS w _ hw169_1)).trans hw169_1), ((HB.out.cell (zS w _ hw169_2)).trans hw169_2), ((HB.out.cell (zS w _ hw169_3)).trans hw169_3)⟩ (fun hHeld => ?_)
      clear hK K
      refine norm_ (a' := ?_) ?_ ?_
      rotate_left
      ·show Act.put _ (some 26) _ = _
       simp only [Act.put, zO, zP, zR, i64_w, i32_w]
       rfl
      refine one_ (i := 8) (N := some 27) (zBM 12 511) rfl rfl (one_of HT_.out (by kernel_rfl)) (by decide) (fun K hK => ?_)
      refine value_ (w1 := ?_) (v := ?_) (by rfl) rfl ?_ ?_
      rotate_left 2
      ·go_simp
       constructor
       ·rfl
       ·rfl
      refine hK.out _ _ ⟨zL (zJ BK168.out _) 0, zL (zJ BK168.out _) 1, zL (zJ BK168.out _) 2, zL (zJ BK168.out _) 3, zL (zJ BK166.out _) 0, zL (zJ BK166.out _) 1, zL (zJ BK166.out _) 2, zL (zJ BK166.out _) 3, (World.cell?_alloc_lt _ _ _ (zS _ _ (((HB.out.cell (zS w _ hw169_0)).trans hw169_0)))).trans (((HB.out.cell (zS w _ hw169_0)).trans hw169_0)), (World.cell?_alloc_lt _ _ _ (zS _ _ (((HB.out.cell (zS w _ hw169_1)).trans hw169_1)))).trans (((HB.out.cell (zS w _ hw169_1)).trans hw169_1)), (World.cell?_alloc_lt _ _ _ (zS _ _ (((HB.out.cell (zS w _ hw169_2)).trans hw169_2)))).trans (((HB.out.cell (zS w _ hw169_2)).trans hw169_2)), (World.cell?_alloc_lt _ _ _ (zS _ _ (((HB.out.cell (zS w _ hw169_3)).trans hw169_3)))).trans (((HB.out.cell (zS w _ hw169_3)).trans hw169_3))⟩ (fun hHeld => ?_)
      clear hK K
      refine norm_ (a' := ?_) ?_ ?_
      rotate_left
      ·show Act.put _ (some 27) _ = _
       simp only [Act.put, zO, zP, zR, i64_w, i32_w]
       rfl
      refine one_ (i := 9) (N := some 28) (zBM 12 1023) rfl rfl (one_of HT_.out (by kernel_rfl)) (by decide) (fun K hK => ?_)
      refine Kd.R_append_step k31 (w0 := w) w.heap.size (by rfl) (.tmp 20) (.tmp 27) 27 31 (.agg #[(.int .i64 0), (.int .i64 0), (.string ⟨#[]⟩), (.slice none 0 0)]) 56 rfl Tryd.underlying27 info31 rfl (by decide) (by omega) u169003 x169003_1 (⟨t170, t171, t172, t173⟩ : S31) [.int .i64 t170, .int .i64 t171, .string t172, .slice Ao20 t173.length co20] (fun k_ => k_ ≠ gb167 ∧ k_ ≠ gb168) (fun k_ => ((fun k_ => k_ ≠ gb167 ∧ k_ ≠ gb168)) k_ ∧ some k_ ≠ (u169003 : Value).ownBlock) rfl rfl ?aP (fun _ hk => hk) ?aF ?aO ?aB ?aS ?aL ?_
      (case aP => exact k31_mkM _ _ _ (⟨t170, t171, t172, t173⟩ : S31) (Kd.R_mono (HO175.out) (fun k_ hk => ⟨⟨hk.1.2, hk.2⟩, hk.1.1.2⟩)))
      (case aB => exact HB.out)
      (case aF => exact (fun k_ hk => ⟨Kd.freshB (g := gb167) (o := .cells #[.int .i64 0, .int .i64 0, .string (⟨#[]⟩ : ByteArray), .slice none 0 0] 31 (0, 0)) BK167.out k_ hk, Kd.freshB (g := gb168) (o := .cells #[.int .i64 a0_0, .int .i64 a0_1, .string a0_2, u169003] 31 (0, 0)) BK168.out k_ hk⟩))
      (case aO => exact (by (with_reducible repeat (first | apply Kd.R_alloc | apply Kd.R_drewN | apply Kd.R_drew)); exact Kd.R_mono HO_169003.out (fun _ hk => ⟨hk.1.1, hk.1.2⟩)))
      (case aS => exact (zF HB.out))
      (case aL => have := LMc13.out; omega)
      intro v177 w19 ho hb hg hat
      rw [← Ny176.out] at ho
      have n0_ := zG (blk_grown (g := gb166) (o := .cells #[.int .i64 a0_0, .int .i64 a0_1, .string a0_2, .slice (some ad169) l0_3.length c0_3] 24 (0, 0)) BK166.out hg (Kd.R_ne HO_169003.out BK166.out (by decide)))
      have n1_ := zG (blk_grown (g := gb167) (o := .cells #[.int .i64 0, .int .i64 0, .string (⟨#[]⟩ : ByteArray), .slice none 0 0] 31 (0, 0)) BK167.out hg (Kd.R_away HO_169003.out (fun _ hk => hk.1.1)))
      have n2_ := zG (blk_grown (g := gb168) (o := .cells #[.int .i64 a0_0, .int .i64 a0_1, .string a0_2, u169003] 31 (0, 0)) BK168.out hg (Kd.R_away HO_169003.out (fun _ hk => hk.1.2)))
      have n3_ := zG (hb)
      have n4_ := zG (ho)
      clear BK166
      clear BK167
      clear BK168
      clear HB
      clear HO_169003
      clear HO175
      have BK166 := n0_
      have BK167 := n1_
      have BK168 := n2_
      have HB := n3_
      have HO178 := n4_
      clear n0_ n1_ n2_ n3_ n4_
      clear ho hb hg hat
      obtain ⟨Ao21, co21, eo21⟩ := Kd.R_slice HO178.out
      (first | subst eo21 | (injection eo21 with f1_ f2_ f3_; have f4_ := f1_.symm; have f5_ := f3_.symm; clear f1_ f2_ f3_; subst f4_; subst f5_))
      refine hK.out _ _ ⟨zL BK168.out 0, zL BK168.out 1, zL BK168.out 2, zL BK168.out 3, zL BK166.out 0, zL BK166.out 1, zL BK166.out 2, zL BK166.out 3, ((HB.out.cell (zS w _ hw169_0)).trans hw169_0), ((HB.out.cell (zS w _ hw169_1)).trans hw169_1), ((HB.out.cell (zS w _ hw169_2)).trans hw169_2), ((HB.out.cell (zS w _ hw169_3)).trans hw169_3)⟩ (fun hHeld => ?_)
      clear hK K
      refine norm_ (a' := ?_) ?_ ?_
      rotate_left
      ·show Act.put _ (some 28) _ = _
       simp only [Act.put, zO, zP, zR, i64_w, i32_w]
       rfl
      refine pure_ (i := 10) (N := some 29) (v := ?_) (a' := ?_) (zBM 12 2047) rfl rfl (any_of HT_.out (by kernel_rfl)) (fun _ _ _ h => h) (Or.inl ⟨by rfl, ?_⟩) ?_ ?_
      rotate_left
      ·intro w'
       go_simp
       with_reducible rfl
      rotate_left
      ·simp only [Act.put, zO, zP, zR, i64_w, i32_w]
       rfl
      refine last_ (i := 11) (N := none) (zBM 12 4095) rfl rfl (one_of HT_.out (by kernel_rfl)) (by decide) (fun K hK => ?_)
      have hs22 : w19.cell? ⟨gb168, 3, none⟩ = some (u169003) := zL BK168.out 3
      have hfs22 := zM BK168.out 3
      have hns22_0 := NB166_168.out
      have hns22_1 := NB167_168.out
      have hms22_0 := NB168_166.out
      have hms22_1 := NB168_167.out
      refine skip_ (w1 := ?_) (by rfl) rfl ?_ ?_
      rotate_left
      ·go_simp
       rfl
      refine hK.out _ _ ?_
      clear hK K
      refine done_ (done_of HT_.out (by kernel_rfl)) ?_
      try go_wp2
      go_roundg k1
      case measure => have := HK1.out; omega
      case rel => exact ⟨(wrap64 (x4_1 + 1)), (y176), (.slice Ao21 y176.length co21), (by first | rfl | (simp; done) | (simp [*]; done)), H', ⟨by have := HK1.out; omega⟩, ⟨by (with_reducible repeat (first | apply Kd.R_alloc | apply Kd.R_drewN | apply Kd.R_drew)); exact Kd.R_mono (Kd.R_far (p := ⟨gb168, 3, none⟩) (Kd.R_mono HO178.out (fun k_ hk => (⟨hk, hk.2⟩ : _ ∧ k_ ≠ gb168))) (fun _ hk => hk.2) (.slice Ao21 y176.length co21)) (fun _ hk => ⟨hk.1.1, hk.1.2⟩)⟩, ⟨by (with_reducible repeat (first | refine zH ?_ _ | refine zI ?_ | refine zJ ?_ _)); refine blk_far ?_ NB166_168.out _; (with_reducible repeat (first | refine zH ?_ _ | refine zI ?_ | refine zJ ?_ _)); exact BK166.out⟩, ⟨by (with_reducible repeat (first | refine zH ?_ _ | refine zI ?_ | refine zJ ?_ _)); refine blk_far ?_ NB167_168.out _; (with_reducible repeat (first | refine zH ?_ _ | refine zI ?_ | refine zJ ?_ _)); exact BK167.out⟩, ⟨by (with_reducible repeat (first | refine zH ?_ _ | refine zI ?_ | refine zJ ?_ _)); refine zAH (cs := #[.int .i64 a0_0, .int .i64 a0_1, .string a0_2, u169003]) ?_ 3 _ rfl; (with_reducible repeat (first | refine zH ?_ _ | refine zI ?_ | refine zJ ?_ _)); exact BK168.out⟩, ⟨by repeat (first | (with_reducible first | exact HB.out | apply zA | apply zB | apply zC | refine zD ?_ GE166.out | refine zD ?_ GE167.out | refine zD ?_ GE168.out) | exact HB.out)⟩⟩
     ·rw [if_neg c13] at H
      exact absurd H (by simp)
    ·rw [if_neg c11] at H
     exact absurd H (by simp)
   ·rw [if_neg c10] at H
    have c10b0 : decide (x4_1 < (l0_3.length : Int)) = false := zV c10
    clear c10
    simp only [Option.some.injEq, Prod.mk.injEq] at H
    obtain ⟨rfl, rfl, rfl, rfl⟩ := H
    have hnb23 := NB166_167.out
    have hnc23 := NB167_166.out
    have hnb24 := NB166_168.out
    have hnc24 := NB168_166.out
    obtain ⟨hcz25_0, hcz25_1, hcz25_2, hcz25_3, hfz25_0, hfz25_1, hfz25_2, hfz25_3⟩ := zQ BK166.out
    have hnb26 := NB168_167.out
    have hnc26 := NB167_168.out
    obtain ⟨hcz27_0, hcz27_1, hcz27_2, hcz27_3, hfz27_0, hfz27_1, hfz27_2, hfz27_3⟩ := zQ BK168.out
    obtain ⟨hcz28_0, hcz28_1, hcz28_2, hcz28_3, hfz28_0, hfz28_1, hfz28_2, hfz28_3⟩ := zQ BK167.out
    obtain ⟨Ao29, co29, eo29⟩ := Kd.R_slice HO_169003.out
    subst eo29
    go_wp2
    refine bodyPost_ret (results_cell_row rfl _ _ gb167 31 #[.int .i64 a0_0, .int .i64 a0_1, .string a0_2, .slice Ao29 x169003_1.length co29] (0, 0) _ rfl (by (with_reducible repeat (first | refine zH ?_ _ | refine zI ?_ | refine zJ ?_ _)); refine zAH (cs := #[.int .i64 a0_0, .int .i64 a0_1, .string a0_2, .slice none 0 0]) ?_ 3 _ rfl; (with_reducible repeat (first | refine zH ?_ _ | refine zI ?_ | refine zJ ?_ _)); refine zAH (cs := #[.int .i64 a0_0, .int .i64 a0_1, .string (⟨#[]⟩ : ByteArray), .slice none 0 0]) ?_ 2 _ rfl; (with_reducible repeat (first | refine zH ?_ _ | refine zI ?_ | refine zJ ?_ _)); refine zAH (cs := #[.int .i64 a0_0, .int .i64 0, .string (⟨#[]⟩ : ByteArray), .slice none 0 0]) ?_ 1 _ rfl; (with_reducible repeat (first | refine zH ?_ _ | refine zI ?_ | refine zJ ?_ _)); refine zAH (cs := #[.int .i64 0, .int .i64 0, .string (⟨#[]⟩ : ByteArray), .slice none 0 0]) ?_ 0 _ rfl; (with_reducible repeat (first | refine zH ?_ _ | refine zI ?_ | refine zJ ?_ _)); exact BK167.out) Tryd.underlying31 rfl (by kernel_rfl)) rfl ?_
    exact ⟨_, by first | rfl | (simp [errW_none, errW_some] <;> rfl) | (simp [*, errW_none, errW_some] <;> rfl), by (with_reducible repeat (first | apply Kd.R_alloc | apply Kd.R_drewN | apply Kd.R_drew)); exact Kd.R_mono (Kd.R_far (p := ⟨gb167, 3, none⟩) (Kd.R_far (p := ⟨gb167, 2, none⟩) (Kd.R_far (p := ⟨gb167, 1, none⟩) (Kd.R_far (p := ⟨gb167, 0, none⟩) (Kd.R_mono HO_169003.out (fun k_ hk => (⟨hk, hk.1⟩ : _ ∧ k_ ≠ gb167))) (fun _ hk => hk.2) (.int .i64 a0_0)) (fun _ hk => hk.2) (.int .i64 a0_1)) (fun _ hk => hk.2) (.string a0_2)) (fun _ hk => hk.2) (.slice Ao29 x169003_1.length co29)) (fun _ hk => trivial), by repeat (first | (with_reducible first | exact HB.out | apply zA | apply zB | apply zC | refine zD ?_ GE166.out | refine zD ?_ GE167.out | refine zD ?_ GE168.out) | exact HB.out)⟩

mutual
def hammockref09_right.j0 : Nat → Int → Bool → Int → Int → ByteArray → List (S24) → Option (Bool)
 | 0, _, _, _, _, _, _ => none
 | k + 1, x1, x13, x180000, x180001, x180002, x180003 => if x13 = true then (some false) else (hammockref09_right.l0 k x1 0 x180000 x180001 x180002 x180003)
def hammockref09_right.l0 : Nat → Int → Int → Int → Int → ByteArray → List (S24) → Option (Bool)
 | 0, _, _, _, _, _, _ => none
 | k + 1, x1, x5, x180000, x180001, x180002, x180003 => if x5 < (x180003.length : Int) then (if 0 ≤ x5 then ((hammockref09_right.f k ((rd_T24 x180003 x5).f0) ((rd_T24 x180003 x5).f1) ((rd_T24 x180003 x5).f2) ((rd_T24 x180003 x5).f3) (wrap64 (x1 - 1))).bind fun t181 => (if t181 = true then (hammockref09_right.l0 k x1 (wrap64 (x5 + 1)) x180000 x180001 x180002 x180003) else (some false))) else (none)) else (if x180000 = 1 then (if x180001 ≥ 0 then (if x180002.toList = ([] : List UInt8) then (some ((x180003.length : Int) == 0)) else (some false)) else (some false)) else (if x180000 = 2 then (if x180001 = 0 then (some (x180002.toList != ([] : List UInt8))) else (some false)) else (if x180000 = 3 then (if x180001 = 0 then (if x180002.toList = ([] : List UInt8) then (some ((x180003.length : Int) == 2)) else (some false)) else (some false)) else (some false))))
def hammockref09_right.f : Nat → Int → Int → ByteArray → List (S24) → Int → Option (Bool)
 | 0, _, _, _, _, _ => none
 | k + 1, a0_0, a0_1, a0_2, l0_3, a1 => if a1 < 1 then (hammockref09_right.j0 k a1 true a0_0 a0_1 a0_2 l0_3) else (hammockref09_right.j0 k a1 (decide ((l0_3.length : Int) > 16)) a0_0 a0_1 a0_2 l0_3)
end
theorem hammockref09_right.mono_l : ∀ k, (∀ y0 y1 y2 y3 y4, LeO (hammockref09_right.f k y0 y1 y2 y3 y4) (hammockref09_right.f (k + 1) y0 y1 y2 y3 y4)) ∧ (∀ y0 y1 y2 y3 y4 y5, LeO (hammockref09_right.j0 k y0 y1 y2 y3 y4 y5) (hammockref09_right.j0 (k + 1) y0 y1 y2 y3 y4 y5)) ∧ (∀ y0 y1 y2 y3 y4 y5, LeO (hammockref09_right.l0 k y0 y1 y2 y3 y4 y5) (hammockref09_right.l0 (k + 1) y0 y1 y2 y3 y4 y5))
 | 0 => ⟨fun _ _ _ _ _ r h => by simp [hammockref09_right.f] at h, fun _ _ _ _ _ _ r h => by simp [hammockref09_right.j0] at h, fun _ _ _ _ _ _ r h => by simp [hammockref09_right.l0] at h⟩
 | k + 1 => by
  obtain ⟨ih0, ih1, ih2⟩ := hammockref09_right.mono_l k
  refine ⟨?_, ?_, ?_⟩
  ·intro y0 y1 y2 y3 y4
   unfold hammockref09_right.f
   repeat' first
   | (with_reducible exact ih0 _ _ _ _ _)
   | (with_reducible exact ih1 _ _ _ _ _ _)
   | (with_reducible exact ih2 _ _ _ _ _ _)
   | (with_reducible exact LeO.refl _)
   | (with_reducible exact LeO.none _)
   | (with_reducible refine LeO.ite ?_ ?_)
   | (with_reducible refine LeO.bind ?_ (fun _ => ?_))
  ·intro y0 y1 y2 y3 y4 y5
   unfold hammockref09_right.j0
   repeat' first
   | (with_reducible exact ih0 _ _ _ _ _)
   | (with_reducible exact ih1 _ _ _ _ _ _)
   | (with_reducible exact ih2 _ _ _ _ _ _)
   | (with_reducible exact LeO.refl _)
   | (with_reducible exact LeO.none _)
   | (with_reducible refine LeO.ite ?_ ?_)
   | (with_reducible refine LeO.bind ?_ (fun _ => ?_))
  ·intro y0 y1 y2 y3 y4 y5
   unfold hammockref09_right.l0
   repeat' first
   | (with_reducible exact ih0 _ _ _ _ _)
   | (with_reducible exact ih1 _ _ _ _ _ _)
   | (with_reducible exact ih2 _ _ _ _ _ _)
   | (with_reducible exact LeO.refl _)
   | (with_reducible exact LeO.none _)
   | (with_reducible refine LeO.ite ?_ ?_)
   | (with_reducible refine LeO.bind ?_ (fun _ => ?_))
theorem hammockref09_right.mono : ∀ a0 a1 a2 a3 a4 k, LeO (hammockref09_right.f k a0 a1 a2 a3 a4) (hammockref09_right.f (k + 1) a0 a1 a2 a3 a4) := by
 intro a0 a1 a2 a3 a4 k
 obtain ⟨ih0, ih1, ih2⟩ := hammockref09_right.mono_l k
 exact ih0 a0 a1 a2 a3 a4
set_option maxHeartbeats 8000000 in
set_option maxRecDepth 100000 in
theorem hammockref09_right.calls (k : Nat) : ∀ (a0_0 : Int) (a0_1 : Int) (a0_2 : ByteArray) (A0_3 : Option Addr) (c0_3 : Nat) (l0_3 : List (S24)) (a1 : Int) (r : Bool) (w : World) (hr0_3 : Kd.C k24 w A0_3 l0_3.length l0_3) (hc0_3 : l0_3.length ≤ c0_3) (h : hammockref09_right.f k a0_0 a0_1 a0_2 l0_3 a1 = some r),
  Calls Tryd.prog 50 #[.agg #[.int .i64 a0_0, .int .i64 a0_1, .string a0_2, .slice A0_3 l0_3.length c0_3], .int .i64 a1] w fun e w' => e = .returned (.bool r) ∧ Below w.heap.size w w' := by
 induction k using Nat.strongRecOn with
 | _ k ih =>
 intro a0_0 a0_1 a0_2 A0_3 c0_3 l0_3 a1 r w hr0_3 hc0_3 h
 cases k with
 | zero => exact absurd h (by simp [hammockref09_right.f])
 | succ k =>
 simp only [hammockref09_right.f] at h
 have hu24 := Tryd.underlying24
 have HR0_3 := zG hr0_3
 have HC0_3 := zG hc0_3
 clear hr0_3 hc0_3
 have HB := zG (Below.refl w.heap.size w)
 have H : (if a1 < 1 then (hammockref09_right.j0 k a1 true a0_0 a0_1 a0_2 l0_3) else (hammockref09_right.j0 k a1 (decide ((l0_3.length : Int) > 16)) a0_0 a0_1 a0_2 l0_3)) = some r := h
 clear h
 have HC3 := zG H
 clear H
 go_enter Tryd.func50, Tryd.ntmps50
 go_upto_region 1 with (first | ((with_reducible refine gate_dst (N := 2) rfl ?_); (try (refine gate_guard (by rfl) ?_; dsimp only)); refine box_event ?hg (N := 2) ?hd (cs := #[.int .i64 a0_0, .int .i64 a0_1, .string a0_2, .slice A0_3 l0_3.length c0_3]) (t := 24) ?hr ?_; (case hd => rfl); (case hg => rfl); (case hr => first | (go_simp; done) | (go_simp; rfl)); intro gb179 hg w4 hbox hb; have n0_ := zG (zE HB.out hb); have n1_ := zG (hbox); have n2_ := zG ((by rw [hg]; exact (zF HB.out) : w.heap.size ≤ gb179)); have n3_ := n2_; clear HB; have HB := n0_; have BK179 := n1_; have GW179 := n2_; have GE179 := n3_; clear n0_ n1_ n2_ n3_; clear hb hbox hg))
 (try simp only [Act.put, zO, zP, zR])
 go_cut [13] (fun v13 wc => ∃ (kq : Nat) (x13_2 : Bool), v13 = .bool x13_2 ∧ Aside0 (hammockref09_right.j0 kq a1 x13_2 a0_0 a0_1 a0_2 l0_3 = some r) ∧ Aside0 (kq ≤ k) ∧ Aside0 (wc.heap[gb179]? = some (.cells #[.int .i64 a0_0, .int .i64 a0_1, .string a0_2, (.slice A0_3 l0_3.length c0_3)] 24 (0, 0))) ∧ Aside0 (Below w.heap.size w wc))
 case first =>
  have H := HC3.out
  clear HC3
  by_cases c5 : a1 < 1
  ·rw [if_pos c5] at H
   have c5b0 : decide (a1 < 1) = true := zU c5
   clear c5
   (first | rw [c5b0] | (simp only [i64_w, i32_w]; rw [c5b0]) | skip)
   have H' := zG H
   clear H
   go_wp2
   go_meet
   case rel => exact ⟨_, (true), (by first | rfl | (simp; done) | (simp [*]; done)), H', ⟨by first | omega | exact Nat.le_refl _⟩, ⟨BK179.out⟩, ⟨HB.out⟩⟩
  ·rw [if_neg c5] at H
   have c5b0 : decide (a1 < 1) = false := zV c5
   clear c5
   (first | rw [c5b0] | (simp only [i64_w, i32_w]; rw [c5b0]) | skip)
   have H' := zG H
   clear H
   obtain ⟨hcz6_0, hcz6_1, hcz6_2, hcz6_3, hfz6_0, hfz6_1, hfz6_2, hfz6_3⟩ := zQ BK179.out
   go_wp2
   go_meet
   case rel => exact ⟨_, (decide ((l0_3.length : Int) > 16)), (by first | rfl | (simp; done) | (simp [*]; done)), H', ⟨by first | omega | exact Nat.le_refl _⟩, ⟨BK179.out⟩, ⟨HB.out⟩⟩
 case rest =>
  clear HC3
  try clear p2
  try clear c5
  try clear c5b0
  try clear hcz6_0
  try clear hcz6_1
  try clear hcz6_2
  try clear hcz6_3
  try clear hfz6_0
  try clear hfz6_1
  try clear hfz6_2
  try clear hfz6_3
  obtain ⟨kq, x13_2, rfl, HA, HJ2, BK179, HB⟩ := hcut
  cases kq with
  | zero => exact absurd HA.out (by simp [hammockref09_right.j0])
  | succ kj2 =>
   have H := HA.out
   clear HA
   simp only [hammockref09_right.j0] at H
   by_cases c7 : x13_2 = true
   ·subst c7
    have H1 : (some false) = some r := by rw [if_pos rfl] at H; exact H
    clear H
    have H := H1
    clear H1
    obtain rfl := Option.some.inj H
    go_wp2
    go_ret
    exact ⟨rfl, HB.out⟩
   ·replace c7 := zAB c7
    subst c7
    have H1 : (hammockref09_right.l0 kj2 a1 0 a0_0 a0_1 a0_2 l0_3) = some r := by rw [if_neg (show ¬ (false = true) by decide)] at H; exact H
    clear H
    have H := H1
    clear H1
    have H' := zG H
    clear H
    go_wp2
    go_loopg [5] kj2 (fun kq v5 w' => ∃ (x5_2 : Int), v5 = .int .i64 x5_2 ∧ Aside0 (hammockref09_right.l0 kq a1 x5_2 a0_0 a0_1 a0_2 l0_3 = some r) ∧ Aside0 (kq ≤ kj2) ∧ Aside0 (w'.heap[gb179]? = some (.cells #[.int .i64 a0_0, .int .i64 a0_1, .string a0_2, (.slice A0_3 l0_3.length c0_3)] 24 (0, 0))) ∧ Aside0 (Below w.heap.size w w'))
    case atStart => exact ⟨(0), (by first | rfl | (simp; done) | (simp [*]; done)), H', ⟨Nat.le_refl _⟩, ⟨BK179.out⟩, ⟨HB.out⟩⟩
    case round =>
     clear H'
     try clear p2
     try clear c5
     try clear c5b0
     try clear c7
     try clear hcz6_0
     try clear hcz6_1
     try clear hcz6_2
     try clear hcz6_3
     try clear hfz6_0
     try clear hfz6_1
     try clear hfz6_2
     try clear hfz6_3
     try clear p2
     obtain ⟨x5_2, rfl, HA, HK2, BK179, HB⟩ := hrel
     cases gk with
     | zero => exact absurd HA.out (by simp [hammockref09_right.l0])
     | succ k2 =>
      have H := HA.out
      clear HA
      simp only [hammockref09_right.l0] at H
      by_cases c8 : x5_2 < (l0_3.length : Int)
      ·rw [if_pos c8] at H
       have c8b0 : decide (x5_2 < (l0_3.length : Int)) = true := zU c8
       clear c8
       by_cases c9 : 0 ≤ x5_2
       ·rw [if_pos c9] at H
        have c9b0 : decide (0 ≤ x5_2) = true := zU c9
        clear c9
        replace H := zT H
        obtain ⟨t181, A100, H⟩ := H
        replace H : (if t181 = true then (hammockref09_right.l0 k2 a1 (wrap64 (x5_2 + 1)) a0_0 a0_1 a0_2 l0_3) else (some false)) = some r := H
        have A10 := zG A100
        clear A100
        by_cases c11 : t181 = true
        ·subst c11
         have H1 : (hammockref09_right.l0 k2 a1 (wrap64 (x5_2 + 1)) a0_0 a0_1 a0_2 l0_3) = some r := by rw [if_pos rfl] at H; exact H
         clear H
         have H := H1
         clear H1
         have H' := zG H
         clear H
         obtain ⟨hcz12_0, hcz12_1, hcz12_2, hcz12_3, hfz12_0, hfz12_1, hfz12_2, hfz12_3⟩ := zQ BK179.out
         have p180 : 0 ≤ (x5_2 : Int) := zAA (by assumption)
         have q180 : x5_2 < (l0_3.length : Int) := zAA (by assumption)
         obtain ⟨ad180, A180_3, c180_3, e180, hx180_0, hx180_1, hx180_2, hx180_3, hl180_3, hi180_3⟩ := at_T24 HR0_3.out x5_2 p180 q180
         cases e180
         replace hx180_0 := (HB.out.cell (zS w _ hx180_0)).trans hx180_0
         replace hx180_1 := (HB.out.cell (zS w _ hx180_1)).trans hx180_1
         replace hx180_2 := (HB.out.cell (zS w _ hx180_2)).trans hx180_2
         replace hx180_3 := (HB.out.cell (zS w _ hx180_3)).trans hx180_3
         have HR180_3 := zG hi180_3
         have HC180_3 := zG hl180_3
         clear hi180_3 hl180_3
         replace p180 := eq_true p180
         replace q180 := eq_true q180
         go_wp2_with (first | ((with_reducible refine gate_callee (f := 50) rfl ?_); refine goesL_ (some 28) rfl rfl Tryd.func50 (by kernel_rfl) rfl #[.agg #[.int .i64 ((rd_T24 l0_3 x5_2).f0), .int .i64 ((rd_T24 l0_3 x5_2).f1), .string ((rd_T24 l0_3 x5_2).f2), .slice A180_3 ((rd_T24 l0_3 x5_2).f3).length c180_3], .int .i64 (wrap64 (a1 - 1))] rfl (by (try simp only [List.map_toArray, List.map_cons, List.map_nil]); first | done | rfl | (simp only [List.length_drop, List.length_take]; rfl)) ?_; (with_reducible refine (ih k2 (by have := HJ2.out; have := HK2.out; omega) ((rd_T24 l0_3 x5_2).f0) ((rd_T24 l0_3 x5_2).f1) ((rd_T24 l0_3 x5_2).f2) _ _ ((rd_T24 l0_3 x5_2).f3) (wrap64 (a1 - 1)) true _ ?side1 ?side2 A10.out).mono ?_); (case side1 => repeat (first | exact (zAC HR180_3.out HB.out) | (with_reducible refine zAE ?_ _) | (with_reducible refine zAF ?_ _) | (with_reducible refine zAG ?_))); (case side2 => exact HC180_3.out); rintro e w13 ⟨rfl, hb⟩; refine ⟨_, rfl, ?_⟩; have n0_ := zG (zK (g := gb179) (by (with_reducible repeat (first | refine zH ?_ _ | refine zI ?_ | refine zJ ?_ _)); exact BK179.out) hb); have n1_ := zG (zE (by repeat (first | (with_reducible first | exact HB.out | apply zA | apply zB | apply zC | refine zD ?_ GE179.out) | exact HB.out)) hb); clear BK179; clear HB; have BK179 := n0_; have HB := n1_; clear n0_ n1_; (try clear hb); (try clear hb2); (try clear hk); (try clear hi)))
         go_roundg k2
         case measure => have := HJ2.out; have := HK2.out; omega
         case rel => exact ⟨(wrap64 (x5_2 + 1)), (by first | rfl | (simp; done) | (simp [*]; done)), H', ⟨by have := HJ2.out; have := HK2.out; omega⟩, ⟨BK179.out⟩, ⟨HB.out⟩⟩
        ·replace c11 := zAB c11
         subst c11
         have H1 : (some false) = some r := by rw [if_neg (show ¬ (false = true) by decide)] at H; exact H
         clear H
         have H := H1
         clear H1
         obtain rfl := Option.some.inj H
         obtain ⟨hcz14_0, hcz14_1, hcz14_2, hcz14_3, hfz14_0, hfz14_1, hfz14_2, hfz14_3⟩ := zQ BK179.out
         have p180 : 0 ≤ (x5_2 : Int) := zAA (by assumption)
         have q180 : x5_2 < (l0_3.length : Int) := zAA (by assumption)
         obtain ⟨ad180, A180_3, c180_3, e180, hx180_0, hx180_1, hx180_2, hx180_3, hl180_3, hi180_3⟩ := at_T24 HR0_3.out x5_2 p180 q180
         cases e180
         replace hx180_0 := (HB.out.cell (zS w _ hx180_0)).trans hx180_0
         replace hx180_1 := (HB.out.cell (zS w _ hx180_1)).trans hx180_1
         replace hx180_2 := (HB.out.cell (zS w _ hx180_2)).trans hx180_2
         replace hx180_3 := (HB.out.cell (zS w _ hx180_3)).trans hx180_3
         have HR180_3 := zG hi180_3
         have HC180_3 := zG hl180_3
         clear hi180_3 hl180_3
         replace p180 := eq_true p180
         replace q180 := eq_true q180
         go_wp2_with (first | ((with_reducible refine gate_callee (f := 50) rfl ?_); refine goesL_ (some 28) rfl rfl Tryd.func50 (by kernel_rfl) rfl #[.agg #[.int .i64 ((rd_T24 l0_3 x5_2).f0), .int .i64 ((rd_T24 l0_3 x5_2).f1), .string ((rd_T24 l0_3 x5_2).f2), .slice A180_3 ((rd_T24 l0_3 x5_2).f3).length c180_3], .int .i64 (wrap64 (a1 - 1))] rfl (by (try simp only [List.map_toArray, List.map_cons, List.map_nil]); first | done | rfl | (simp only [List.length_drop, List.length_take]; rfl)) ?_; (with_reducible refine (ih k2 (by have := HJ2.out; have := HK2.out; omega) ((rd_T24 l0_3 x5_2).f0) ((rd_T24 l0_3 x5_2).f1) ((rd_T24 l0_3 x5_2).f2) _ _ ((rd_T24 l0_3 x5_2).f3) (wrap64 (a1 - 1)) false _ ?side1 ?side2 A10.out).mono ?_); (case side1 => repeat (first | exact (zAC HR180_3.out HB.out) | (with_reducible refine zAE ?_ _) | (with_reducible refine zAF ?_ _) | (with_reducible refine zAG ?_))); (case side2 => exact HC180_3.out); rintro e w15 ⟨rfl, hb⟩; refine ⟨_, rfl, ?_⟩; have n0_ := zG (zK (g := gb179) (by (with_reducible repeat (first | refine zH ?_ _ | refine zI ?_ | refine zJ ?_ _)); exact BK179.out) hb); have n1_ := zG (zE (by repeat (first | (with_reducible first | exact HB.out | apply zA | apply zB | apply zC | refine zD ?_ GE179.out) | exact HB.out)) hb); clear BK179; clear HB; have BK179 := n0_; have HB := n1_; clear n0_ n1_; (try clear hb); (try clear hb2); (try clear hk); (try clear hi)))
         go_ret
         exact ⟨rfl, HB.out⟩
       ·rw [if_neg c9] at H
        exact absurd H (by simp)
      ·rw [if_neg c8] at H
       have c8b0 : decide (x5_2 < (l0_3.length : Int)) = false := zV c8
       clear c8
       by_cases c16 : a0_0 = 1
       ·rw [if_pos c16] at H
        have c16b0 : (a0_0 == 1) = true := zW c16
        have c16b1 : (a0_0 != 1) = false := zX c16
        clear c16
        by_cases c17 : a0_1 ≥ 0
        ·rw [if_pos c17] at H
         have c17b0 : decide (0 ≤ a0_1) = true := zU c17
         clear c17
         by_cases c18 : a0_2.toList = ([] : List UInt8)
         ·rw [if_pos c18] at H
          have c18b0 : (a0_2.toList == ([] : List UInt8)) = true := zW c18
          have c18b1 : (a0_2.toList != ([] : List UInt8)) = false := zX c18
          clear c18
          obtain rfl := Option.some.inj H
          obtain ⟨hcz19_0, hcz19_1, hcz19_2, hcz19_3, hfz19_0, hfz19_1, hfz19_2, hfz19_3⟩ := zQ BK179.out
          go_wp2
          go_ret
          exact ⟨rfl, HB.out⟩
         ·rw [if_neg c18] at H
          have c18b0 : (a0_2.toList == ([] : List UInt8)) = false := zY c18
          have c18b1 : (a0_2.toList != ([] : List UInt8)) = true := zZ c18
          obtain rfl := Option.some.inj H
          obtain ⟨hcz20_0, hcz20_1, hcz20_2, hcz20_3, hfz20_0, hfz20_1, hfz20_2, hfz20_3⟩ := zQ BK179.out
          go_wp2
          go_ret
          exact ⟨rfl, HB.out⟩
        ·rw [if_neg c17] at H
         have c17b0 : decide (0 ≤ a0_1) = false := zV c17
         clear c17
         obtain rfl := Option.some.inj H
         obtain ⟨hcz21_0, hcz21_1, hcz21_2, hcz21_3, hfz21_0, hfz21_1, hfz21_2, hfz21_3⟩ := zQ BK179.out
         go_wp2
         go_ret
         exact ⟨rfl, HB.out⟩
       ·rw [if_neg c16] at H
        have c16b0 : (a0_0 == 1) = false := zY c16
        have c16b1 : (a0_0 != 1) = true := zZ c16
        by_cases c22 : a0_0 = 2
        ·rw [if_pos c22] at H
         have c22b0 : (a0_0 == 2) = true := zW c22
         have c22b1 : (a0_0 != 2) = false := zX c22
         clear c22
         by_cases c23 : a0_1 = 0
         ·rw [if_pos c23] at H
          have c23b0 : (a0_1 == 0) = true := zW c23
          have c23b1 : (a0_1 != 0) = false := zX c23
          clear c23
          obtain rfl := Option.some.inj H
          obtain ⟨hcz24_0, hcz24_1, hcz24_2, hcz24_3, hfz24_0, hfz24_1, hfz24_2, hfz24_3⟩ := zQ BK179.out
          go_wp2
          go_ret
          exact ⟨by first | rfl | (cases hq_ : a0_2.toList <;> simp [hq_]; done) | (generalize a0_2.toList = q_; cases q_ <;> rfl) | (simp; generalize a0_2.toList = q_; cases q_ <;> rfl) | (simp [errW_none, errW_some] <;> rfl) | (simp [*, errW_none, errW_some] <;> rfl), HB.out⟩
         ·rw [if_neg c23] at H
          have c23b0 : (a0_1 == 0) = false := zY c23
          have c23b1 : (a0_1 != 0) = true := zZ c23
          obtain rfl := Option.some.inj H
          obtain ⟨hcz25_0, hcz25_1, hcz25_2, hcz25_3, hfz25_0, hfz25_1, hfz25_2, hfz25_3⟩ := zQ BK179.out
          go_wp2
          go_ret
          exact ⟨rfl, HB.out⟩
        ·rw [if_neg c22] at H
         have c22b0 : (a0_0 == 2) = false := zY c22
         have c22b1 : (a0_0 != 2) = true := zZ c22
         by_cases c26 : a0_0 = 3
         ·rw [if_pos c26] at H
          have c26b0 : (a0_0 == 3) = true := zW c26
          have c26b1 : (a0_0 != 3) = false := zX c26
          clear c26
          by_cases c27 : a0_1 = 0
          ·rw [if_pos c27] at H
           have c27b0 : (a0_1 == 0) = true := zW c27
           have c27b1 : (a0_1 != 0) = false := zX c27
           clear c27
           by_cases c28 : a0_2.toList = ([] : List UInt8)
           ·rw [if_pos c28] at H
            have c28b0 : (a0_2.toList == ([] : List UInt8)) = true := zW c28
            have c28b1 : (a0_2.toList != ([] : List UInt8)) = false := zX c28
            clear c28
            obtain rfl := Option.some.inj H
            obtain ⟨hcz29_0, hcz29_1, hcz29_2, hcz29_3, hfz29_0, hfz29_1, hfz29_2, hfz29_3⟩ := zQ BK179.out
            go_wp2
            go_ret
            exact ⟨rfl, HB.out⟩
           ·rw [if_neg c28] at H
            have c28b0 : (a0_2.toList == ([] : List UInt8)) = false := zY c28
            have c28b1 : (a0_2.toList != ([] : List UInt8)) = true := zZ c28
            obtain rfl := Option.some.inj H
            obtain ⟨hcz30_0, hcz30_1, hcz30_2, hcz30_3, hfz30_0, hfz30_1, hfz30_2, hfz30_3⟩ := zQ BK179.out
            go_wp2
            go_ret
            exact ⟨rfl, HB.out⟩
          ·rw [if_neg c27] at H
           have c27b0 : (a0_1 == 0) = false := zY c27
           have c27b1 : (a0_1 != 0) = true := zZ c27
           obtain rfl := Option.some.inj H
           obtain ⟨hcz31_0, hcz31_1, hcz31_2, hcz31_3, hfz31_0, hfz31_1, hfz31_2, hfz31_3⟩ := zQ BK179.out
           go_wp2
           go_ret
           exact ⟨rfl, HB.out⟩
         ·rw [if_neg c26] at H
          have c26b0 : (a0_0 == 3) = false := zY c26
          have c26b1 : (a0_0 != 3) = true := zZ c26
          obtain rfl := Option.some.inj H
          obtain ⟨hcz32_0, hcz32_1, hcz32_2, hcz32_3, hfz32_0, hfz32_1, hfz32_2, hfz32_3⟩ := zQ BK179.out
          go_wp2
          go_ret
          exact ⟨rfl, HB.out⟩

def hammockref09_Right.f (k : Nat) (a0_0 : Int) (a0_1 : Int) (a0_2 : ByteArray) (l0_3 : List (S24)) : Option (Bool) := (hammockref09_right.f k a0_0 a0_1 a0_2 l0_3 400).bind fun t183 => (some t183)
theorem hammockref09_Right.mono : ∀ a0 a1 a2 a3 k, LeO (hammockref09_Right.f k a0 a1 a2 a3) (hammockref09_Right.f (k + 1) a0 a1 a2 a3) := by
 intro a0 a1 a2 a3 k
 unfold hammockref09_Right.f
 repeat' first
   | (with_reducible exact hammockref09_right.mono _ _ _ _ _ _)
   | (with_reducible exact LeO.refl _)
   | (with_reducible exact LeO.none _)
   | (with_reducible refine LeO.ite ?_ ?_)
   | (with_reducible refine LeO.bind ?_ (fun _ => ?_))
set_option maxHeartbeats 8000000 in
set_option maxRecDepth 100000 in
theorem hammockref09_Right.calls (k : Nat) (a0_0 : Int) (a0_1 : Int) (a0_2 : ByteArray) (A0_3 : Option Addr) (c0_3 : Nat) (l0_3 : List (S24)) (r : Bool) (w : World) (hr0_3 : Kd.C k24 w A0_3 l0_3.length l0_3) (hc0_3 : l0_3.length ≤ c0_3) (h : hammockref09_Right.f k a0_0 a0_1 a0_2 l0_3 = some r) :
  Calls Tryd.prog 17 #[.agg #[.int .i64 a0_0, .int .i64 a0_1, .string a0_2, .slice A0_3 l0_3.length c0_3]] w fun e w' => e = .returned (.bool r) ∧ Below w.heap.size w w' := by
 have hu24 := Tryd.underlying24
 have HR0_3 := zG hr0_3
 have HC0_3 := zG hc0_3
 clear hr0_3 hc0_3
 have HB := zG (Below.refl w.heap.size w)
 have H : ((hammockref09_right.f k a0_0 a0_1 a0_2 l0_3 400).bind fun t183 => (some t183)) = some r := h
 clear h
 replace H := zT H
 obtain ⟨t183, A20, H⟩ := H
 replace H : (some t183) = some r := H
 have A2 := zG A20
 clear A20
 obtain rfl := Option.some.inj H
 go_enter Tryd.func17, Tryd.ntmps17
 go_wp2_with (first | ((with_reducible refine gate_dst (N := 1) rfl ?_); refine box_event ?hg (N := 1) ?hd (cs := #[.int .i64 a0_0, .int .i64 a0_1, .string a0_2, .slice A0_3 l0_3.length c0_3]) (t := 24) ?hr ?_; (case hd => rfl); (case hg => rfl); (case hr => first | (go_simp; done) | (go_simp; rfl)); intro gb182 hg w3 hbox hb; have n0_ := zG (zE (by repeat (first | (with_reducible first | exact HB.out | apply zA | apply zB | apply zC) | exact HB.out)) hb); have n1_ := zG (hbox); have n2_ := zG ((by rw [hg]; exact (zF (by repeat (first | (with_reducible first | exact HB.out | apply zA | apply zB | apply zC) | exact HB.out))) : w.heap.size ≤ gb182)); have n3_ := n2_; clear HB; have HB := n0_; have BK182 := n1_; have GW182 := n2_; have GE182 := n3_; clear n0_ n1_ n2_ n3_; clear hb hbox hg; obtain ⟨hcz4_0, hcz4_1, hcz4_2, hcz4_3⟩ := zN BK182.out; have hfz4_0 := zM BK182.out 0; have hfz4_1 := zM BK182.out 1; have hfz4_2 := zM BK182.out 2; have hfz4_3 := zM BK182.out 3) | ((with_reducible refine gate_callee (f := 50) rfl ?_); refine goesL_ (some 4) rfl rfl Tryd.func50 (by kernel_rfl) rfl #[.agg #[.int .i64 a0_0, .int .i64 a0_1, .string a0_2, .slice A0_3 l0_3.length c0_3], .int .i64 400] rfl (by (try simp only [List.map_toArray, List.map_cons, List.map_nil]); first | done | rfl | (simp only [List.length_drop, List.length_take]; rfl)) ?_; (with_reducible refine (hammockref09_right.calls k a0_0 a0_1 a0_2 _ _ l0_3 400 t183 _ ?side1 ?side2 A2.out).mono ?_); (case side1 => repeat (first | exact (zAC HR0_3.out HB.out) | (with_reducible refine zAE ?_ _) | (with_reducible refine zAF ?_ _) | (with_reducible refine zAG ?_))); (case side2 => exact HC0_3.out); rintro e w5 ⟨rfl, hb⟩; refine ⟨_, rfl, ?_⟩; have n0_ := zG (zK (g := gb182) (by (with_reducible repeat (first | refine zH ?_ _ | refine zI ?_ | refine zJ ?_ _)); exact BK182.out) hb); have n1_ := zG (zE (by repeat (first | (with_reducible first | exact HB.out | apply zA | apply zB | apply zC | refine zD ?_ GE182.out) | exact HB.out)) hb); clear BK182; clear HB; have BK182 := n0_; have HB := n1_; clear n0_ n1_; (try clear hb); (try clear hb2); (try clear hk); (try clear hi)))
 go_ret
 exact ⟨rfl, HB.out⟩

end Go.Proofs.YtddmdiaopaoekaaDoor.P
