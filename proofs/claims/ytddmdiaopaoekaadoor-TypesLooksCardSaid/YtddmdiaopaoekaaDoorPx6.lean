-- written by a program of this session's (wip/tools/extprint.py) over the kit's print
import Derived.Test.YtddmdiaopaoekaaDoorPx0
import Derived.Test.YtddmdiaopaoekaaDoorPx2
import Derived.Test.YtddmdiaopaoekaaDoorPx3
import Derived.Test.YtddmdiaopaoekaaDoorPx4
import Derived.Test.YtddmdiaopaoekaaDoorSq
namespace Go.Proofs.YtddmdiaopaoekaaDoor.P
open Go.RowKit Go.Proofs.YtddmdiaopaoekaaDoorW.PrintWords Go.Proofs.YtddmdiaopaoekaaDoorW.PrintLast Go.Proofs.YtddmdiaopaoekaaDoorW.PrintMore
attribute [local go_sem] max2_int min2_int max_two min_two max_three min_three max_four min_four   -- for this text's walks alone
set_option linter.unusedVariables false
set_option linter.unusedSimpArgs false

mutual
def hammockref09_anew.l0 : Nat → List Int → Int → Int → Int → ByteArray → List (S24) → Int → Int → ByteArray → List (S24) → Option (Int × Int × ByteArray × (List (S24)))
 | 0, _, _, _, _, _, _, _, _, _, _ => none
 | k + 1, x1, x6, x262000, x262001, x262002, x262003, x271000, x271001, x271002, x271003 => if x6 < (x262003.length : Int) then (if 0 ≤ x6 then ((hammockref09_anew.f k ((rd_T24 x262003 x6).f0) ((rd_T24 x262003 x6).f1) ((rd_T24 x262003 x6).f2) ((rd_T24 x262003 x6).f3) x1).bind fun bt272 => (if x271003.length < 2513169434916 then (hammockref09_anew.l0 k x1 (wrap64 (x6 + 1)) x262000 x262001 x262002 x262003 x271000 x271001 x271002 (x271003 ++ [(⟨bt272.1, bt272.2.1, bt272.2.2.1, bt272.2.2.2⟩ : S24)])) else (none))) else (none)) else (some (x271000, x271001, x271002, x271003))
def hammockref09_anew.f : Nat → Int → Int → ByteArray → List (S24) → List Int → Option (Int × Int × ByteArray × (List (S24)))
 | 0, _, _, _, _, _ => none
 | k + 1, a0_0, a0_1, a0_2, l0_3, l1 => if a0_0 = 1 then ((hammockref09_at.f k l1 a0_1).bind fun t263 => ((hammockref09_Var.f t263).bind fun bt264 => (some (bt264.1, bt264.2.1, bt264.2.2.1, bt264.2.2.2)))) else (hammockref09_anew.l0 k l1 0 a0_0 a0_1 a0_2 l0_3 a0_0 a0_1 a0_2 ([] : List (S24)))
end
theorem hammockref09_anew.mono_l : ∀ k, (∀ y0 y1 y2 y3 y4, LeO (hammockref09_anew.f k y0 y1 y2 y3 y4) (hammockref09_anew.f (k + 1) y0 y1 y2 y3 y4)) ∧ (∀ y0 y1 y2 y3 y4 y5 y6 y7 y8 y9, LeO (hammockref09_anew.l0 k y0 y1 y2 y3 y4 y5 y6 y7 y8 y9) (hammockref09_anew.l0 (k + 1) y0 y1 y2 y3 y4 y5 y6 y7 y8 y9))
 | 0 => ⟨fun _ _ _ _ _ r h => by simp [hammockref09_anew.f] at h, fun _ _ _ _ _ _ _ _ _ _ r h => by simp [hammockref09_anew.l0] at h⟩
 | k + 1 => by
  obtain ⟨ih0, ih1⟩ := hammockref09_anew.mono_l k
  refine ⟨?_, ?_⟩
  ·intro y0 y1 y2 y3 y4
   unfold hammockref09_anew.f
   repeat' first
   | (with_reducible exact ih0 _ _ _ _ _)
   | (with_reducible exact ih1 _ _ _ _ _ _ _ _ _ _)
   | (with_reducible exact hammockref09_at.mono _ _ _)
   | (with_reducible exact LeO.refl _)
   | (with_reducible exact LeO.none _)
   | (with_reducible refine LeO.ite ?_ ?_)
   | (with_reducible refine LeO.bind ?_ (fun _ => ?_))
  ·intro y0 y1 y2 y3 y4 y5 y6 y7 y8 y9
   unfold hammockref09_anew.l0
   repeat' first
   | (with_reducible exact ih0 _ _ _ _ _)
   | (with_reducible exact ih1 _ _ _ _ _ _ _ _ _ _)
   | (with_reducible exact hammockref09_at.mono _ _ _)
   | (with_reducible exact LeO.refl _)
   | (with_reducible exact LeO.none _)
   | (with_reducible refine LeO.ite ?_ ?_)
   | (with_reducible refine LeO.bind ?_ (fun _ => ?_))
def hammockref09_anew.T7 : Bool × List (List Nat × List Nat) := (true, [([], []), ([0], [0]), ([], []), ([2], [2]), ([], []), ([3, 4], [3, 4]), ([5], [5]), ([], []), ([6, 7], [6, 7]), ([8], [8]), ([1, 9, 8], [1, 9]), ([0, 1, 2, 3, 4, 5, 6, 7, 8, 9, 10], []), ([11, 10, 10, 0, 1, 2, 3, 4, 5, 6, 7, 8, 9, 10], [10, 11])])
def hammockref09_anew.B7 : List Nat := [0, 1, 0, 4, 0, 28, 60, 0, 252, 508, 1023, 2047, 4095]
theorem hammockref09_anew.tab7 : rtab .any (opsOf Tryd.f56 7) = hammockref09_anew.T7 := by kernel_rfl
theorem hammockref09_anew.bits7 : waitsOk hammockref09_anew.T7.2 hammockref09_anew.B7 = true := by kernel_rfl
set_option maxHeartbeats 8000000 in
set_option maxRecDepth 100000 in
theorem hammockref09_anew.calls (k : Nat) : ∀ (a0_0 : Int) (a0_1 : Int) (a0_2 : ByteArray) (A0_3 : Option Addr) (c0_3 : Nat) (l0_3 : List (S24)) (A1 : Option Addr) (c1 : Nat) (l1 : List Int) (r1 : Int) (r2 : Int) (r3 : ByteArray) (r4 : List (S24)) (w : World) (hr0_3 : Kd.C k24 w A0_3 l0_3.length l0_3) (hc0_3 : l0_3.length ≤ c0_3) (hr1 : Kd.C (Kd.int .i64) w A1 l1.length l1) (hc1 : l1.length ≤ c1) (h : hammockref09_anew.f k a0_0 a0_1 a0_2 l0_3 l1 = some (r1, r2, r3, r4)),
  Calls Tryd.prog 56 #[.agg #[.int .i64 a0_0, .int .i64 a0_1, .string a0_2, .slice A0_3 l0_3.length c0_3], .slice A1 l1.length c1] w fun e w' => ∃ v3_ : Value, e = .returned (.agg #[.int .i64 r1, .int .i64 r2, .string r3, v3_]) ∧ Kd.R k24 24 w' w.heap.size (fun _ => True) v3_ r4 ∧ Below w.heap.size w w' := by
 induction k using Nat.strongRecOn with
 | _ k ih =>
 intro a0_0 a0_1 a0_2 A0_3 c0_3 l0_3 A1 c1 l1 r1 r2 r3 r4 w hr0_3 hc0_3 hr1 hc1 h
 cases k with
 | zero => exact absurd h (by simp [hammockref09_anew.f])
 | succ k =>
 simp only [hammockref09_anew.f] at h
 have hu24 := Tryd.underlying24
 have HR0_3 := zG hr0_3
 have HC0_3 := zG hc0_3
 clear hr0_3 hc0_3
 have HR1 := zG hr1
 have HC1 := zG hc1
 clear hr1 hc1
 have HB := zG (Below.refl w.heap.size w)
 have H : (if a0_0 = 1 then ((hammockref09_at.f k l1 a0_1).bind fun t263 => ((hammockref09_Var.f t263).bind fun bt264 => (some (bt264.1, bt264.2.1, bt264.2.2.1, bt264.2.2.2)))) else (hammockref09_anew.l0 k l1 0 a0_0 a0_1 a0_2 l0_3 a0_0 a0_1 a0_2 ([] : List (S24)))) = some (r1, r2, r3, r4) := h
 clear h
 by_cases c3 : a0_0 = 1
 ·rw [if_pos c3] at H
  have c3b0 : (a0_0 == 1) = true := zW c3
  have c3b1 : (a0_0 != 1) = false := zX c3
  clear c3
  replace H := zT H
  obtain ⟨t263, A40, H⟩ := H
  replace H : ((hammockref09_Var.f t263).bind fun bt264 => (some (bt264.1, bt264.2.1, bt264.2.2.1, bt264.2.2.2))) = some (r1, r2, r3, r4) := H
  have A4 := zG A40
  clear A40
  replace H := zT H
  obtain ⟨⟨t264, t265, t266, t267⟩, A50, H⟩ := H
  replace H : (some (t264, t265, t266, t267)) = some (r1, r2, r3, r4) := H
  have A5 := zG A50
  clear A50
  simp only [Option.some.injEq, Prod.mk.injEq] at H
  obtain ⟨rfl, rfl, rfl, rfl⟩ := H
  go_enter Tryd.func56, Tryd.ntmps56
  go_wp2_with (first | ((with_reducible refine gate_dst (N := 2) rfl ?_); refine box_event ?hg (N := 2) ?hd (cs := #[.int .i64 a0_0, .int .i64 a0_1, .string a0_2, .slice A0_3 l0_3.length c0_3]) (t := 24) ?hr ?_; (case hd => rfl); (case hg => rfl); (case hr => first | (go_simp; done) | (go_simp; rfl)); intro gb261 hg w6 hbox hb; have n0_ := zG (zE (by repeat (first | (with_reducible first | exact HB.out | apply zA | apply zB | apply zC) | exact HB.out)) hb); have n1_ := zG (hbox); have n2_ := zG ((by rw [hg]; exact (zF (by repeat (first | (with_reducible first | exact HB.out | apply zA | apply zB | apply zC) | exact HB.out))) : w.heap.size ≤ gb261)); have n3_ := n2_; clear HB; have HB := n0_; have BK261 := n1_; have GW261 := n2_; have GE261 := n3_; clear n0_ n1_ n2_ n3_; clear hb hbox hg) | ((with_reducible refine gate_dst (N := 4) rfl ?_); refine box_event ?hg (N := 4) ?hd (cs := #[.int .i64 0, .int .i64 0, .string (⟨#[]⟩ : ByteArray), .slice none 0 0]) (t := 24) ?hr ?_; (case hd => rfl); (case hg => rfl); (case hr => first | (go_simp; done) | (go_simp; rfl)); intro gb262 hg w7 hbox hb; have n0_ := zG (zK (g := gb261) (by (with_reducible repeat (first | refine zH ?_ _ | refine zI ?_ | refine zJ ?_ _)); exact BK261.out) hb); have n1_ := zG (zE (by repeat (first | (with_reducible first | exact HB.out | apply zA | apply zB | apply zC | refine zD ?_ GE261.out) | exact HB.out)) hb); have n2_ := zG (hbox); have n3_ := zG ((by rw [hg]; exact (zF (by repeat (first | (with_reducible first | exact HB.out | apply zA | apply zB | apply zC | refine zD ?_ GE261.out) | exact HB.out))) : w.heap.size ≤ gb262)); have n4_ := n3_; have n5_ := zG ((by rw [hg]; exact Nat.ne_of_lt (zAD (g := gb261) (by (with_reducible repeat (first | refine zH ?_ _ | refine zI ?_ | refine zJ ?_ _)); exact BK261.out)) : gb261 ≠ gb262)); have n6_ := zG ((by rw [hg]; exact Nat.ne_of_gt (zAD (g := gb261) (by (with_reducible repeat (first | refine zH ?_ _ | refine zI ?_ | refine zJ ?_ _)); exact BK261.out)) : gb262 ≠ gb261)); clear BK261; clear HB; have BK261 := n0_; have HB := n1_; have BK262 := n2_; have GW262 := n3_; have GE262 := n4_; have NB261_262 := n5_; have NB262_261 := n6_; clear n0_ n1_ n2_ n3_ n4_ n5_ n6_; clear hb hbox hg; have hnb8 := NB261_262.out; have hnc8 := NB262_261.out; obtain ⟨hcz9_0, hcz9_1, hcz9_2, hcz9_3⟩ := zN BK261.out; have hfz9_0 := zM BK261.out 0; have hfz9_1 := zM BK261.out 1; have hfz9_2 := zM BK261.out 2; have hfz9_3 := zM BK261.out 3) | ((with_reducible refine gate_callee (f := 75) rfl ?_); refine goesL_ (some 13) rfl rfl Tryd.func75 (by kernel_rfl) rfl #[.slice A1 l1.length c1, .int .i64 a0_1] rfl (by (try simp only [List.map_toArray, List.map_cons, List.map_nil]); first | done | rfl | (simp only [List.length_drop, List.length_take]; rfl)) ?_; (with_reducible refine (hammockref09_at.calls k _ _ l1 a0_1 t263 _ ?side1 ?side2 A4.out).mono ?_); (case side1 => repeat (first | exact (zAC HR1.out HB.out) | (with_reducible refine zAE ?_ _) | (with_reducible refine zAF ?_ _) | (with_reducible refine zAG ?_))); (case side2 => exact HC1.out); rintro e w' ⟨rfl, ⟨nd, rfl⟩⟩; refine ⟨_, rfl, ?_⟩; (try (rw [drewN_self w7]; generalize hq_ : World.drewN w7 _ = w7; have n0_ : Aside0 (w7.heap[gb261]? = some (.cells #[.int .i64 a0_0, .int .i64 a0_1, .string a0_2, .slice A0_3 l0_3.length c0_3] 24 (0, 0))) := ⟨by rw [← hq_]; exact (by (with_reducible repeat (first | refine zH ?_ _ | refine zI ?_ | refine zJ ?_ _)); exact BK261.out)⟩; have n1_ : Aside0 (w7.heap[gb262]? = some (.cells #[.int .i64 0, .int .i64 0, .string (⟨#[]⟩ : ByteArray), .slice none 0 0] 24 (0, 0))) := ⟨by rw [← hq_]; exact (by (with_reducible repeat (first | refine zH ?_ _ | refine zI ?_ | refine zJ ?_ _)); exact BK262.out)⟩; have n2_ : Aside0 (Below w.heap.size w w7) := ⟨by rw [← hq_]; exact (by repeat (first | (with_reducible first | exact HB.out | apply zA | apply zB | apply zC | refine zD ?_ GE261.out | refine zD ?_ GE262.out) | exact HB.out))⟩; clear BK261 BK262 HB hq_; have BK261 := n0_; have BK262 := n1_; have HB := n2_; clear n0_ n1_ n2_))) | ((with_reducible refine gate_callee (f := 47) rfl ?_); refine goesL_ (some 14) rfl rfl Tryd.func47 (by kernel_rfl) rfl #[.int .i64 t263] rfl (by (try simp only [List.map_toArray, List.map_cons, List.map_nil]); first | done | rfl | (simp only [List.length_drop, List.length_take]; rfl)) ?_; (with_reducible refine (hammockref09_Var.calls t263 t264 t265 t266 t267 _ A5.out).mono ?_); rintro e w10 ⟨v268, rfl, ho0, hb⟩; refine ⟨_, rfl, ?_⟩; have n0_ := zG (Kd.R_lower (Kd.R_newB (Kd.R_newB ho0 (g := gb261) (o := .cells #[.int .i64 a0_0, .int .i64 a0_1, .string a0_2, .slice A0_3 l0_3.length c0_3] 24 (0, 0)) (by (with_reducible repeat (first | refine zH ?_ _ | refine zI ?_ | refine zJ ?_ _)); exact BK261.out)) (g := gb262) (o := .cells #[.int .i64 0, .int .i64 0, .string (⟨#[]⟩ : ByteArray), .slice none 0 0] 24 (0, 0)) (by (with_reducible repeat (first | refine zH ?_ _ | refine zI ?_ | refine zJ ?_ _)); exact BK262.out)) (zF (by repeat (first | (with_reducible first | exact HB.out | apply zA | apply zB | apply zC | refine zD ?_ GE261.out | refine zD ?_ GE262.out) | exact HB.out)))); have n1_ := zG (zK (g := gb261) (by (with_reducible repeat (first | refine zH ?_ _ | refine zI ?_ | refine zJ ?_ _)); exact BK261.out) hb); have n2_ := zG (zK (g := gb262) (by (with_reducible repeat (first | refine zH ?_ _ | refine zI ?_ | refine zJ ?_ _)); exact BK262.out) hb); have n3_ := zG (zE (by repeat (first | (with_reducible first | exact HB.out | apply zA | apply zB | apply zC | refine zD ?_ GE261.out | refine zD ?_ GE262.out) | exact HB.out)) hb); clear BK261; clear BK262; clear HB; have HO269 := n0_; have BK261 := n1_; have BK262 := n2_; have HB := n3_; clear n0_ n1_ n2_ n3_; (try clear hb); (try clear hb2); (try clear hk); (try clear hi); (try clear ho0); obtain ⟨hcz11_0, hcz11_1, hcz11_2, hcz11_3, hfz11_0, hfz11_1, hfz11_2, hfz11_3⟩ := zQ BK262.out; obtain ⟨Ao12, co12, eo12⟩ := Kd.R_slice HO269.out; subst eo12))
  refine bodyPost_ret (results_cell_row rfl _ _ gb262 24 #[.int .i64 t264, .int .i64 t265, .string t266, .slice Ao12 t267.length co12] (0, 0) _ rfl (by (with_reducible repeat (first | refine zH ?_ _ | refine zI ?_ | refine zJ ?_ _)); refine zAH (cs := #[.int .i64 t264, .int .i64 t265, .string t266, .slice none 0 0]) ?_ 3 _ rfl; (with_reducible repeat (first | refine zH ?_ _ | refine zI ?_ | refine zJ ?_ _)); refine zAH (cs := #[.int .i64 t264, .int .i64 t265, .string (⟨#[]⟩ : ByteArray), .slice none 0 0]) ?_ 2 _ rfl; (with_reducible repeat (first | refine zH ?_ _ | refine zI ?_ | refine zJ ?_ _)); refine zAH (cs := #[.int .i64 t264, .int .i64 0, .string (⟨#[]⟩ : ByteArray), .slice none 0 0]) ?_ 1 _ rfl; (with_reducible repeat (first | refine zH ?_ _ | refine zI ?_ | refine zJ ?_ _)); refine zAH (cs := #[.int .i64 0, .int .i64 0, .string (⟨#[]⟩ : ByteArray), .slice none 0 0]) ?_ 0 _ rfl; (with_reducible repeat (first | refine zH ?_ _ | refine zI ?_ | refine zJ ?_ _)); exact BK262.out) Tryd.underlying24 rfl (by kernel_rfl)) rfl ?_
  exact ⟨_, by first | rfl | (simp [errW_none, errW_some] <;> rfl) | (simp [*, errW_none, errW_some] <;> rfl), by (with_reducible repeat (first | apply Kd.R_alloc | apply Kd.R_drewN | apply Kd.R_drew)); exact Kd.R_mono (Kd.R_far (p := ⟨gb262, 3, none⟩) (Kd.R_far (p := ⟨gb262, 2, none⟩) (Kd.R_far (p := ⟨gb262, 1, none⟩) (Kd.R_far (p := ⟨gb262, 0, none⟩) (Kd.R_mono HO269.out (fun k_ hk => (⟨hk, hk.2⟩ : _ ∧ k_ ≠ gb262))) (fun _ hk => hk.2) (.int .i64 t264)) (fun _ hk => hk.2) (.int .i64 t265)) (fun _ hk => hk.2) (.string t266)) (fun _ hk => hk.2) (.slice Ao12 t267.length co12)) (fun _ hk => trivial), by repeat (first | (with_reducible first | exact HB.out | apply zA | apply zB | apply zC | refine zD ?_ GE261.out | refine zD ?_ GE262.out) | exact HB.out)⟩
 ·rw [if_neg c3] at H
  have c3b0 : (a0_0 == 1) = false := zY c3
  have c3b1 : (a0_0 != 1) = true := zZ c3
  have H' := zG H
  clear H
  go_enter Tryd.func56, Tryd.ntmps56
  go_wp2_with (first | ((with_reducible refine gate_dst (N := 2) rfl ?_); refine box_event ?hg (N := 2) ?hd (cs := #[.int .i64 a0_0, .int .i64 a0_1, .string a0_2, .slice A0_3 l0_3.length c0_3]) (t := 24) ?hr ?_; (case hd => rfl); (case hg => rfl); (case hr => first | (go_simp; done) | (go_simp; rfl)); intro gb261 hg w13 hbox hb; have n0_ := zG (zE HB.out hb); have n1_ := zG (hbox); have n2_ := zG ((by rw [hg]; exact (zF HB.out) : w.heap.size ≤ gb261)); have n3_ := n2_; clear HB; have HB := n0_; have BK261 := n1_; have GW261 := n2_; have GE261 := n3_; clear n0_ n1_ n2_ n3_; clear hb hbox hg) | ((with_reducible refine gate_dst (N := 4) rfl ?_); refine box_event ?hg (N := 4) ?hd (cs := #[.int .i64 0, .int .i64 0, .string (⟨#[]⟩ : ByteArray), .slice none 0 0]) (t := 24) ?hr ?_; (case hd => rfl); (case hg => rfl); (case hr => first | (go_simp; done) | (go_simp; rfl)); intro gb262 hg w14 hbox hb; have n0_ := zG (zK (g := gb261) BK261.out hb); have n1_ := zG (zE HB.out hb); have n2_ := zG (hbox); have n3_ := zG ((by rw [hg]; exact (zF HB.out) : w.heap.size ≤ gb262)); have n4_ := n3_; have n5_ := zG ((by rw [hg]; exact Nat.ne_of_lt (zAD (g := gb261) BK261.out) : gb261 ≠ gb262)); have n6_ := zG ((by rw [hg]; exact Nat.ne_of_gt (zAD (g := gb261) BK261.out) : gb262 ≠ gb261)); clear BK261; clear HB; have BK261 := n0_; have HB := n1_; have BK262 := n2_; have GW262 := n3_; have GE262 := n4_; have NB261_262 := n5_; have NB262_261 := n6_; clear n0_ n1_ n2_ n3_ n4_ n5_ n6_; clear hb hbox hg; have hnb15 := NB261_262.out; have hnc15 := NB262_261.out; obtain ⟨hcz16_0, hcz16_1, hcz16_2, hcz16_3⟩ := zN BK261.out; have hfz16_0 := zM BK261.out 0; have hfz16_1 := zM BK261.out 1; have hfz16_2 := zM BK261.out 2; have hfz16_3 := zM BK261.out 3) | ((with_reducible refine gate_dst (N := 5) rfl ?_); refine box_event ?hg (N := 5) ?hd (cs := #[.int .i64 0, .int .i64 0, .string (⟨#[]⟩ : ByteArray), .slice none 0 0]) (t := 24) ?hr ?_; (case hd => rfl); (case hg => rfl); (case hr => first | (go_simp; done) | (go_simp; rfl)); intro gb270 hg w17 hbox hb; have n0_ := zG (zK (g := gb261) BK261.out hb); have n1_ := zG (zK (g := gb262) BK262.out hb); have n2_ := zG (zE HB.out hb); have n3_ := zG (hbox); have n4_ := zG ((by rw [hg]; exact (zF HB.out) : w.heap.size ≤ gb270)); have n5_ := n4_; have n6_ := zG ((by rw [hg]; exact Nat.ne_of_lt (zAD (g := gb261) BK261.out) : gb261 ≠ gb270)); have n7_ := zG ((by rw [hg]; exact Nat.ne_of_gt (zAD (g := gb261) BK261.out) : gb270 ≠ gb261)); have n8_ := zG ((by rw [hg]; exact Nat.ne_of_lt (zAD (g := gb262) BK262.out) : gb262 ≠ gb270)); have n9_ := zG ((by rw [hg]; exact Nat.ne_of_gt (zAD (g := gb262) BK262.out) : gb270 ≠ gb262)); clear BK261; clear BK262; clear HB; have BK261 := n0_; have BK262 := n1_; have HB := n2_; have BK270 := n3_; have GW270 := n4_; have GE270 := n5_; have NB261_270 := n6_; have NB270_261 := n7_; have NB262_270 := n8_; have NB270_262 := n9_; clear n0_ n1_ n2_ n3_ n4_ n5_ n6_ n7_ n8_ n9_; clear hb hbox hg; have hnb18 := NB270_261.out; have hnc18 := NB261_270.out; have hnb19 := NB270_262.out; have hnc19 := NB262_270.out; obtain ⟨hcz20_0, hcz20_1, hcz20_2, hcz20_3⟩ := zN BK270.out; have hfz20_0 := zM BK270.out 0; have hfz20_1 := zM BK270.out 1; have hfz20_2 := zM BK270.out 2; have hfz20_3 := zM BK270.out 3))
  go_loopg [6] k (fun kq v6 w' => ∃ (x6_1 : Int) (x271003_1 : List (S24)) (u271003 : Value), v6 = .int .i64 x6_1 ∧ Aside0 (hammockref09_anew.l0 kq l1 x6_1 a0_0 a0_1 a0_2 l0_3 a0_0 a0_1 a0_2 x271003_1 = some (r1, r2, r3, r4)) ∧ Aside0 (kq ≤ k) ∧ Aside0 (Kd.R k24 24 w' w.heap.size (fun k_ => k_ ≠ gb261 ∧ k_ ≠ gb262 ∧ k_ ≠ gb270) u271003 x271003_1) ∧ Aside0 (w'.heap[gb261]? = some (.cells #[.int .i64 a0_0, .int .i64 a0_1, .string a0_2, (.slice A0_3 l0_3.length c0_3)] 24 (0, 0))) ∧ Aside0 (w'.heap[gb262]? = some (.cells #[.int .i64 0, .int .i64 0, .string (⟨#[]⟩ : ByteArray), (.slice none 0 0)] 24 (0, 0))) ∧ Aside0 (w'.heap[gb270]? = some (.cells #[.int .i64 a0_0, .int .i64 a0_1, .string a0_2, u271003] 24 (0, 0))) ∧ Aside0 (Below w.heap.size w w'))
  case atStart => exact ⟨(0), (([] : List (S24))), (.slice none 0 0), (by first | rfl | (simp; done) | (simp [*]; done)), H', ⟨Nat.le_refl _⟩, ⟨by first | exact Kd.R_nil _ _ _ _ _ | exact Kd.N_nil _ _ _ _ _ | exact Kd.V_nil _ _ _ _ _ | exact Kd.Q_nil _ _ _ _ _ | exact Kd.S_nil _ _ _ _ _⟩, ⟨by (with_reducible repeat (first | refine zH ?_ _ | refine zI ?_ | refine zJ ?_ _)); refine blk_far ?_ NB261_270.out _; (with_reducible repeat (first | refine zH ?_ _ | refine zI ?_ | refine zJ ?_ _)); refine blk_far ?_ NB261_270.out _; (with_reducible repeat (first | refine zH ?_ _ | refine zI ?_ | refine zJ ?_ _)); refine blk_far ?_ NB261_270.out _; (with_reducible repeat (first | refine zH ?_ _ | refine zI ?_ | refine zJ ?_ _)); refine blk_far ?_ NB261_270.out _; (with_reducible repeat (first | refine zH ?_ _ | refine zI ?_ | refine zJ ?_ _)); exact BK261.out⟩, ⟨by (with_reducible repeat (first | refine zH ?_ _ | refine zI ?_ | refine zJ ?_ _)); refine blk_far ?_ NB262_270.out _; (with_reducible repeat (first | refine zH ?_ _ | refine zI ?_ | refine zJ ?_ _)); refine blk_far ?_ NB262_270.out _; (with_reducible repeat (first | refine zH ?_ _ | refine zI ?_ | refine zJ ?_ _)); refine blk_far ?_ NB262_270.out _; (with_reducible repeat (first | refine zH ?_ _ | refine zI ?_ | refine zJ ?_ _)); refine blk_far ?_ NB262_270.out _; (with_reducible repeat (first | refine zH ?_ _ | refine zI ?_ | refine zJ ?_ _)); exact BK262.out⟩, ⟨by (with_reducible repeat (first | refine zH ?_ _ | refine zI ?_ | refine zJ ?_ _)); refine zAH (cs := #[.int .i64 a0_0, .int .i64 a0_1, .string a0_2, .slice none 0 0]) ?_ 3 _ rfl; (with_reducible repeat (first | refine zH ?_ _ | refine zI ?_ | refine zJ ?_ _)); refine zAH (cs := #[.int .i64 a0_0, .int .i64 a0_1, .string (⟨#[]⟩ : ByteArray), .slice none 0 0]) ?_ 2 _ rfl; (with_reducible repeat (first | refine zH ?_ _ | refine zI ?_ | refine zJ ?_ _)); refine zAH (cs := #[.int .i64 a0_0, .int .i64 0, .string (⟨#[]⟩ : ByteArray), .slice none 0 0]) ?_ 1 _ rfl; (with_reducible repeat (first | refine zH ?_ _ | refine zI ?_ | refine zJ ?_ _)); refine zAH (cs := #[.int .i64 0, .int .i64 0, .string (⟨#[]⟩ : ByteArray), .slice none 0 0]) ?_ 0 _ rfl; (with_reducible repeat (first | refine zH ?_ _ | refine zI ?_ | refine zJ ?_ _)); exact BK270.out⟩, ⟨by repeat (first | (with_reducible first | exact HB.out | apply zA | apply zB | apply zC | refine zD ?_ GE261.out | refine zD ?_ GE262.out | refine zD ?_ GE270.out) | exact HB.out)⟩⟩
  case round =>
   clear H'
   try clear c1
   try clear p2
   try clear c3
   try clear c3b0
   try clear c3b1
   try clear c4
   try clear c5
   try clear c7
   try clear c8
   try clear c15
   try clear c18
   try clear c19
   try clear hcz11_0
   try clear hcz11_1
   try clear hcz11_2
   try clear hcz11_3
   try clear hcz16_0
   try clear hcz16_1
   try clear hcz16_2
   try clear hcz16_3
   try clear hcz20_0
   try clear hcz20_1
   try clear hcz20_2
   try clear hcz20_3
   try clear hcz9_0
   try clear hcz9_1
   try clear hcz9_2
   try clear hcz9_3
   try clear hfz11_0
   try clear hfz11_1
   try clear hfz11_2
   try clear hfz11_3
   try clear hfz16_0
   try clear hfz16_1
   try clear hfz16_2
   try clear hfz16_3
   try clear hfz20_0
   try clear hfz20_1
   try clear hfz20_2
   try clear hfz20_3
   try clear hfz9_0
   try clear hfz9_1
   try clear hfz9_2
   try clear hfz9_3
   obtain ⟨x6_1, x271003_1, u271003, rfl, HA, HK1, HO_271003, BK261, BK262, BK270, HB⟩ := hrel
   cases gk with
   | zero => exact absurd HA.out (by simp [hammockref09_anew.l0])
   | succ k1 =>
    have H := HA.out
    clear HA
    simp only [hammockref09_anew.l0] at H
    by_cases c21 : x6_1 < (l0_3.length : Int)
    ·rw [if_pos c21] at H
     have c21b0 : decide (x6_1 < (l0_3.length : Int)) = true := zU c21
     clear c21
     by_cases c22 : 0 ≤ x6_1
     ·rw [if_pos c22] at H
      have c22b0 : decide (0 ≤ x6_1) = true := zU c22
      clear c22
      replace H := zT H
      obtain ⟨⟨t272, t273, t274, t275⟩, A230, H⟩ := H
      replace H : (if x271003_1.length < 2513169434916 then (hammockref09_anew.l0 k1 l1 (wrap64 (x6_1 + 1)) a0_0 a0_1 a0_2 l0_3 a0_0 a0_1 a0_2 (x271003_1 ++ [(⟨t272, t273, t274, t275⟩ : S24)])) else (none)) = some (r1, r2, r3, r4) := H
      have A23 := zG A230
      clear A230
      by_cases c24 : x271003_1.length < 2513169434916
      ·rw [if_pos c24] at H
       have LMc24 := zG c24
       clear c24
       obtain ⟨y278, hy278⟩ : ∃ y_ : List (S24), y_ = (x271003_1 ++ [(⟨t272, t273, t274, t275⟩ : S24)]) := ⟨_, rfl⟩
       replace H : (hammockref09_anew.l0 k1 l1 (wrap64 (x6_1 + 1)) a0_0 a0_1 a0_2 l0_3 a0_0 a0_1 a0_2 y278) = some (r1, r2, r3, r4) := by first | (rw [hy278]; with_reducible exact H) | (have H2_ := (Option.bind_some _ _).symm.trans H; rw [hy278]; with_reducible exact H2_) | (have H2_ := (Option.bind_some _ _).symm.trans H; with_reducible exact H2_) | with_reducible exact H | (rw [hy278]; exact H) | exact H
       have Ny278 := zG hy278
       clear hy278
       have H' := zG H
       clear H
       have hnb25 := NB261_262.out
       have hnc25 := NB262_261.out
       have hnb26 := NB261_270.out
       have hnc26 := NB270_261.out
       obtain ⟨hcz27_0, hcz27_1, hcz27_2, hcz27_3, hfz27_0, hfz27_1, hfz27_2, hfz27_3⟩ := zQ BK261.out
       try go_wp2
       have n0_ := zG (Kd.R_drew HO_271003.out)
       have n1_ := zG (zI BK261.out)
       have n2_ := zG (zI BK262.out)
       have n3_ := zG (zI BK270.out)
       have n4_ := zG (zC HB.out)
       clear HO_271003
       clear BK261
       clear BK262
       clear BK270
       clear HB
       have HO_271003 := n0_
       have BK261 := n1_
       have BK262 := n2_
       have BK270 := n3_
       have HB := n4_
       clear n0_ n1_ n2_ n3_ n4_
       have p271 : 0 ≤ (x6_1 : Int) := zAA (by assumption)
       have q271 : x6_1 < (l0_3.length : Int) := zAA (by assumption)
       obtain ⟨ad271, A271_3, c271_3, e271, hx271_0, hx271_1, hx271_2, hx271_3, hl271_3, hi271_3⟩ := at_T24 HR0_3.out x6_1 p271 q271
       have hw271_3 := hx271_3
       have hw271_2 := hx271_2
       have hw271_1 := hx271_1
       have hw271_0 := hx271_0
       cases e271
       replace hx271_0 := (HB.out.cell (zS w _ hx271_0)).trans hx271_0
       replace hx271_1 := (HB.out.cell (zS w _ hx271_1)).trans hx271_1
       replace hx271_2 := (HB.out.cell (zS w _ hx271_2)).trans hx271_2
       replace hx271_3 := (HB.out.cell (zS w _ hx271_3)).trans hx271_3
       have HR271_3 := zG hi271_3
       have HC271_3 := zG hl271_3
       clear hi271_3 hl271_3
       replace p271 := eq_true p271
       replace q271 := eq_true q271
       refine start_ (n := 13) (S := fun w' => w'.cell? ⟨gb270, 0, none⟩ = some (.int .i64 a0_0) ∧ w'.cell? ⟨gb270, 1, none⟩ = some (.int .i64 a0_1) ∧ w'.cell? ⟨gb270, 2, none⟩ = some (.string a0_2) ∧ w'.cell? ⟨gb270, 3, none⟩ = some (u271003) ∧ w'.cell? ⟨gb261, 0, none⟩ = some (.int .i64 a0_0) ∧ w'.cell? ⟨gb261, 1, none⟩ = some (.int .i64 a0_1) ∧ w'.cell? ⟨gb261, 2, none⟩ = some (.string a0_2) ∧ w'.cell? ⟨gb261, 3, none⟩ = some (.slice (some ad271) l0_3.length c0_3) ∧ w'.cell? (ad271.add ((x6_1).toNat * 4)) = some (.int .i64 ((rd_T24 l0_3 x6_1).f0)) ∧ w'.cell? ⟨(ad271.add ((x6_1).toNat * 4)).block, (ad271.add ((x6_1).toNat * 4)).off + 1, none⟩ = some (.int .i64 ((rd_T24 l0_3 x6_1).f1)) ∧ w'.cell? ⟨(ad271.add ((x6_1).toNat * 4)).block, (ad271.add ((x6_1).toNat * 4)).off + 2, none⟩ = some (.string ((rd_T24 l0_3 x6_1).f2)) ∧ w'.cell? ⟨(ad271.add ((x6_1).toNat * 4)).block, (ad271.add ((x6_1).toNat * 4)).off + 3, none⟩ = some (.slice A271_3 ((rd_T24 l0_3 x6_1).f3).length c271_3)) (ds := [12]) (zBM 13 0) (by kernel_rfl) rfl rfl ⟨zL BK270.out 0, zL BK270.out 1, zL BK270.out 2, zL BK270.out 3, zL BK261.out 0, zL BK261.out 1, zL BK261.out 2, zL BK261.out 3, ((HB.out.cell (zS w _ hw271_0)).trans hw271_0), ((HB.out.cell (zS w _ hw271_1)).trans hw271_1), ((HB.out.cell (zS w _ hw271_2)).trans hw271_2), ((HB.out.cell (zS w _ hw271_3)).trans hw271_3)⟩ (fun hHeld => ?_); refine with_tabW hammockref09_anew.tab7 hammockref09_anew.bits7 (fun HT_ HW_ => ?_)
       generalize wr.drew = w28 at HO_271003 BK261 BK262 BK270 HB HR271_3 hx271_0 hx271_1 hx271_2 hx271_3 hHeld ⊢
       refine pure_ (i := 0) (N := some 29) (v := ?_) (a' := ?_) (zBM 13 1) rfl rfl (any_of HT_.out (by kernel_rfl)) (fun _ _ _ h => h) (Or.inl ⟨by rfl, ?_⟩) ?_ ?_
       rotate_left
       ·intro w'
        go_simp
        with_reducible rfl
       rotate_left
       ·simp only [Act.put, zO, zP, zR, i64_w, i32_w]
        rfl
       refine pure_ (i := 2) (N := some 31) (v := ?_) (a' := ?_) (zBM 13 5) rfl rfl (any_of HT_.out (by kernel_rfl)) (fun _ _ _ h => h) (Or.inl ⟨by rfl, ?_⟩) ?_ ?_
       rotate_left
       ·intro w'
        go_simp
        with_reducible rfl
       rotate_left
       ·simp only [Act.put, zO, zP, zR, i64_w, i32_w]
        rfl
       refine pure_ (i := 4) (N := some 33) (v := ?_) (a' := ?_) (zBM 13 21) rfl rfl (any_of HT_.out (by kernel_rfl)) (fun _ _ _ h => h) (Or.inl ⟨by rfl, ?_⟩) ?_ ?_
       rotate_left
       ·intro w'
        go_simp
        with_reducible rfl
       rotate_left
       ·simp only [Act.put, zO, zP, zR, i64_w, i32_w]
        rfl
       refine pure_ (i := 7) (N := some 36) (v := ?_) (a' := ?_) (zBM 13 149) rfl rfl (any_of HT_.out (by kernel_rfl)) (fun _ _ _ h => h) (Or.inl ⟨by rfl, ?_⟩) ?_ ?_
       rotate_left
       ·intro w'
        go_simp
        with_reducible rfl
       rotate_left
       ·simp only [Act.put, zO, zP, zR, i64_w, i32_w]
        rfl
       refine take_ (i := 1) (N := some 30) (v := ?_) (a' := ?_) (zBM 13 151) rfl rfl (take_ofW HT_.out HW_.out (by kernel_rfl)) (fun _ _ _ h => h) (Or.inl ⟨by rfl, ?_⟩) hHeld ?_ ?_
       rotate_left
       ·rintro w' ⟨s0, s1, s2, s3, s4, s5, s6, s7, s8, s9, s10, s11⟩
        go_simp
        with_reducible rfl
       rotate_left
       ·simp only [Act.put, zO, zP, zR, i64_w, i32_w]
        rfl
       refine take_ (i := 3) (N := some 32) (v := ?_) (a' := ?_) (zBM 13 159) rfl rfl (take_ofW HT_.out HW_.out (by kernel_rfl)) (fun _ _ _ h => h) (Or.inl ⟨by rfl, ?_⟩) hHeld ?_ ?_
       rotate_left
       ·rintro w' ⟨s0, s1, s2, s3, s4, s5, s6, s7, s8, s9, s10, s11⟩
        go_simp
        with_reducible rfl
       rotate_left
       ·simp only [Act.put, zO, zP, zR, i64_w, i32_w]
        rfl
       refine pure_ (i := 5) (N := some 34) (v := ?_) (a' := ?_) (zBM 13 191) rfl rfl (any_of HT_.out (by kernel_rfl)) (fun _ _ _ h => h) (Or.inl ⟨by rfl, ?_⟩) ?_ ?_
       rotate_left
       ·intro w'
        go_simp
        with_reducible rfl
       rotate_left
       ·simp only [Act.put, zO, zP, zR, i64_w, i32_w]
        rfl
       refine take_ (i := 6) (N := some 35) (v := ?_) (a' := ?_) (zBM 13 255) rfl rfl (take_ofW HT_.out HW_.out (by kernel_rfl)) (fun _ _ _ h => h) (Or.inl ⟨by rfl, ?_⟩) hHeld ?_ ?_
       rotate_left
       ·rintro w' ⟨s0, s1, s2, s3, s4, s5, s6, s7, s8, s9, s10, s11⟩
        go_simp
        with_reducible rfl
       rotate_left
       ·simp only [Act.put, zO, zP, zR, i64_w, i32_w]
        rfl
       refine one_ (i := 8) (N := some 37) (zBM 13 511) rfl rfl (one_of HT_.out (by kernel_rfl)) (by decide) (fun K hK => ?_)
       refine goes_ Tryd.func56 (by kernel_rfl) rfl #[.agg #[.int .i64 ((rd_T24 l0_3 x6_1).f0), .int .i64 ((rd_T24 l0_3 x6_1).f1), .string ((rd_T24 l0_3 x6_1).f2), .slice A271_3 ((rd_T24 l0_3 x6_1).f3).length c271_3], .slice A1 l1.length c1] (by rfl) rfl rfl (by (try simp only [List.map_toArray, List.map_cons, List.map_nil]); first | done | rfl | (simp only [List.length_drop, List.length_take]; rfl)) ?_
       with_reducible refine (ih k1 (by have := HK1.out; omega) ((rd_T24 l0_3 x6_1).f0) ((rd_T24 l0_3 x6_1).f1) ((rd_T24 l0_3 x6_1).f2) _ _ ((rd_T24 l0_3 x6_1).f3) _ _ l1 t272 t273 t274 t275 _ ?side1 ?side2 ?side3 ?side4 A23.out).mono ?_
       (case side1 => exact zAC HR271_3.out HB.out)
       (case side2 => exact HC271_3.out)
       (case side3 => exact zAC HR1.out HB.out)
       (case side4 => exact HC1.out)
       rintro e w29 ⟨v276, rfl, ho0, hb⟩
       refine ⟨_, rfl, ?_⟩
       have n0_ := zG (Kd.R_elder' (by (with_reducible repeat (first | apply Kd.R_alloc | apply Kd.R_drewN | apply Kd.R_drew)); exact HO_271003.out) (Kd.R_base ho0) hb)
       have n1_ := zG (Kd.R_lower (Kd.R_newB (Kd.R_newB (Kd.R_newB (Kd.R_new' ho0 (Kd.R_lt (by (with_reducible repeat (first | apply Kd.R_alloc | apply Kd.R_drewN | apply Kd.R_drew)); exact HO_271003.out))) (g := gb261) (o := .cells #[.int .i64 a0_0, .int .i64 a0_1, .string a0_2, .slice (some ad271) l0_3.length c0_3] 24 (0, 0)) BK261.out) (g := gb262) (o := .cells #[.int .i64 0, .int .i64 0, .string (⟨#[]⟩ : ByteArray), .slice none 0 0] 24 (0, 0)) BK262.out) (g := gb270) (o := .cells #[.int .i64 a0_0, .int .i64 a0_1, .string a0_2, u271003] 24 (0, 0)) BK270.out) (zF HB.out))
       have n2_ := zG (zK (g := gb261) BK261.out hb)
       have n3_ := zG (zK (g := gb262) BK262.out hb)
       have n4_ := zG (zK (g := gb270) BK270.out hb)
       have n5_ := zG (zE HB.out hb)
       clear HO_271003
       clear BK261
       clear BK262
       clear BK270
       clear HB
       have HO_271003 := n0_
       have HO277 := n1_
       have BK261 := n2_
       have BK262 := n3_
       have BK270 := n4_
       have HB := n5_
       clear n0_ n1_ n2_ n3_ n4_ n5_
       (try clear hb)
       (try clear hb2)
       (try clear hk)
       (try clear hi)
       (try clear ho0)
       obtain ⟨Ao31, co31, eo31⟩ := Kd.R_slice HO277.out
       (first | subst eo31 | (injection eo31 with f1_ f2_ f3_; have f4_ := f1_.symm; have f5_ := f3_.symm; clear f1_ f2_ f3_; subst f4_; subst f5_))
       refine hK.out _ _ ⟨zL BK270.out 0, zL BK270.out 1, zL BK270.out 2, zL BK270.out 3, zL BK261.out 0, zL BK261.out 1, zL BK261.out 2, zL BK261.out 3, ((HB.out.cell (zS w _ hw271_0)).trans hw271_0), ((HB.out.cell (zS w _ hw271_1)).trans hw271_1), ((HB.out.cell (zS w _ hw271_2)).trans hw271_2), ((HB.out.cell (zS w _ hw271_3)).trans hw271_3)⟩ (fun hHeld => ?_)
       clear hK K
       refine norm_ (a' := ?_) ?_ ?_
       rotate_left
       ·show Act.put _ (some 37) _ = _
        simp only [Act.put, zO, zP, zR, i64_w, i32_w]
        rfl
       refine one_ (i := 9) (N := some 38) (zBM 13 1023) rfl rfl (one_of HT_.out (by kernel_rfl)) (by decide) (fun K hK => ?_)
       refine value_ (w1 := ?_) (v := ?_) (by rfl) rfl ?_ ?_
       rotate_left 2
       ·go_simp
        constructor
        ·rfl
        ·rfl
       refine hK.out _ _ ⟨zL (zJ BK270.out _) 0, zL (zJ BK270.out _) 1, zL (zJ BK270.out _) 2, zL (zJ BK270.out _) 3, zL (zJ BK261.out _) 0, zL (zJ BK261.out _) 1, zL (zJ BK261.out _) 2, zL (zJ BK261.out _) 3, (World.cell?_alloc_lt _ _ _ (zS _ _ (((HB.out.cell (zS w _ hw271_0)).trans hw271_0)))).trans (((HB.out.cell (zS w _ hw271_0)).trans hw271_0)), (World.cell?_alloc_lt _ _ _ (zS _ _ (((HB.out.cell (zS w _ hw271_1)).trans hw271_1)))).trans (((HB.out.cell (zS w _ hw271_1)).trans hw271_1)), (World.cell?_alloc_lt _ _ _ (zS _ _ (((HB.out.cell (zS w _ hw271_2)).trans hw271_2)))).trans (((HB.out.cell (zS w _ hw271_2)).trans hw271_2)), (World.cell?_alloc_lt _ _ _ (zS _ _ (((HB.out.cell (zS w _ hw271_3)).trans hw271_3)))).trans (((HB.out.cell (zS w _ hw271_3)).trans hw271_3))⟩ (fun hHeld => ?_)
       clear hK K
       refine norm_ (a' := ?_) ?_ ?_
       rotate_left
       ·show Act.put _ (some 38) _ = _
        simp only [Act.put, zO, zP, zR, i64_w, i32_w]
        rfl
       refine one_ (i := 10) (N := some 39) (zBM 13 2047) rfl rfl (one_of HT_.out (by kernel_rfl)) (by decide) (fun K hK => ?_)
       refine Kd.R_append_step k24 (w0 := w) w.heap.size (by rfl) (.tmp 30) (.tmp 38) 22 24 (.agg #[(.int .i64 0), (.int .i64 0), (.string ⟨#[]⟩), (.slice none 0 0)]) 56 rfl Tryd.underlying22 info24 rfl (by decide) (by omega) u271003 x271003_1 (⟨t272, t273, t274, t275⟩ : S24) [.int .i64 t272, .int .i64 t273, .string t274, .slice Ao31 t275.length co31] (fun k_ => k_ ≠ gb261 ∧ k_ ≠ gb262 ∧ k_ ≠ gb270) (fun k_ => ((fun k_ => k_ ≠ gb261 ∧ k_ ≠ gb262 ∧ k_ ≠ gb270)) k_ ∧ some k_ ≠ (u271003 : Value).ownBlock) rfl rfl ?aP (fun _ hk => hk) ?aF ?aO ?aB ?aS ?aL ?_
       (case aP => exact k24_mkM _ _ _ (⟨t272, t273, t274, t275⟩ : S24) (Kd.R_mono (HO277.out) (fun k_ hk => ⟨⟨hk.1.1.2, ⟨hk.1.2, hk.2⟩⟩, hk.1.1.1.2⟩)))
       (case aB => exact HB.out)
       (case aF => exact (fun k_ hk => ⟨Kd.freshB (g := gb261) (o := .cells #[.int .i64 a0_0, .int .i64 a0_1, .string a0_2, .slice (some ad271) l0_3.length c0_3] 24 (0, 0)) BK261.out k_ hk, Kd.freshB (g := gb262) (o := .cells #[.int .i64 0, .int .i64 0, .string (⟨#[]⟩ : ByteArray), .slice none 0 0] 24 (0, 0)) BK262.out k_ hk, Kd.freshB (g := gb270) (o := .cells #[.int .i64 a0_0, .int .i64 a0_1, .string a0_2, u271003] 24 (0, 0)) BK270.out k_ hk⟩))
       (case aO => exact (by (with_reducible repeat (first | apply Kd.R_alloc | apply Kd.R_drewN | apply Kd.R_drew)); exact Kd.R_mono HO_271003.out (fun _ hk => ⟨hk.1.1, ⟨hk.1.2.1, hk.1.2.2⟩⟩)))
       (case aS => exact (zF HB.out))
       (case aL => have := LMc24.out; omega)
       intro v279 w30 ho hb hg hat
       rw [← Ny278.out] at ho
       have n0_ := zG (blk_grown (g := gb261) (o := .cells #[.int .i64 a0_0, .int .i64 a0_1, .string a0_2, .slice (some ad271) l0_3.length c0_3] 24 (0, 0)) BK261.out hg (Kd.R_away HO_271003.out (fun _ hk => hk.1.1)))
       have n1_ := zG (blk_grown (g := gb262) (o := .cells #[.int .i64 0, .int .i64 0, .string (⟨#[]⟩ : ByteArray), .slice none 0 0] 24 (0, 0)) BK262.out hg (Kd.R_away HO_271003.out (fun _ hk => hk.1.2.1)))
       have n2_ := zG (blk_grown (g := gb270) (o := .cells #[.int .i64 a0_0, .int .i64 a0_1, .string a0_2, u271003] 24 (0, 0)) BK270.out hg (Kd.R_away HO_271003.out (fun _ hk => hk.1.2.2)))
       have n3_ := zG (hb)
       have n4_ := zG (ho)
       clear BK261
       clear BK262
       clear BK270
       clear HB
       clear HO_271003
       clear HO277
       have BK261 := n0_
       have BK262 := n1_
       have BK270 := n2_
       have HB := n3_
       have HO280 := n4_
       clear n0_ n1_ n2_ n3_ n4_
       clear ho hb hg hat
       obtain ⟨Ao32, co32, eo32⟩ := Kd.R_slice HO280.out
       (first | subst eo32 | (injection eo32 with f1_ f2_ f3_; have f4_ := f1_.symm; have f5_ := f3_.symm; clear f1_ f2_ f3_; subst f4_; subst f5_))
       refine hK.out _ _ ⟨zL BK270.out 0, zL BK270.out 1, zL BK270.out 2, zL BK270.out 3, zL BK261.out 0, zL BK261.out 1, zL BK261.out 2, zL BK261.out 3, ((HB.out.cell (zS w _ hw271_0)).trans hw271_0), ((HB.out.cell (zS w _ hw271_1)).trans hw271_1), ((HB.out.cell (zS w _ hw271_2)).trans hw271_2), ((HB.out.cell (zS w _ hw271_3)).trans hw271_3)⟩ (fun hHeld => ?_)
       clear hK K
       refine norm_ (a' := ?_) ?_ ?_
       rotate_left
       ·show Act.put _ (some 39) _ = _
        simp only [Act.put, zO, zP, zR, i64_w, i32_w]
        rfl
       refine pure_ (i := 11) (N := some 40) (v := ?_) (a' := ?_) (zBM 13 4095) rfl rfl (any_of HT_.out (by kernel_rfl)) (fun _ _ _ h => h) (Or.inl ⟨by rfl, ?_⟩) ?_ ?_
       rotate_left
       ·intro w'
        go_simp
        with_reducible rfl
       rotate_left
       ·simp only [Act.put, zO, zP, zR, i64_w, i32_w]
        rfl
       refine last_ (i := 12) (N := none) (zBM 13 8191) rfl rfl (one_of HT_.out (by kernel_rfl)) (by decide) (fun K hK => ?_)
       have hs33 : w30.cell? ⟨gb270, 3, none⟩ = some (u271003) := zL BK270.out 3
       have hfs33 := zM BK270.out 3
       have hns33_0 := NB261_270.out
       have hns33_1 := NB262_270.out
       have hms33_0 := NB270_261.out
       have hms33_1 := NB270_262.out
       refine skip_ (w1 := ?_) (by rfl) rfl ?_ ?_
       rotate_left
       ·go_simp
        rfl
       refine hK.out _ _ ?_
       clear hK K
       refine done_ (done_of HT_.out (by kernel_rfl)) ?_
       try go_wp2
       go_roundg k1
       case measure => have := HK1.out; omega
       case rel => exact ⟨(wrap64 (x6_1 + 1)), (y278), (.slice Ao32 y278.length co32), (by first | rfl | (simp; done) | (simp [*]; done)), H', ⟨by have := HK1.out; omega⟩, ⟨by (with_reducible repeat (first | apply Kd.R_alloc | apply Kd.R_drewN | apply Kd.R_drew)); exact Kd.R_mono (Kd.R_far (p := ⟨gb270, 3, none⟩) (Kd.R_mono HO280.out (fun k_ hk => (⟨hk, hk.2.2⟩ : _ ∧ k_ ≠ gb270))) (fun _ hk => hk.2) (.slice Ao32 y278.length co32)) (fun _ hk => ⟨hk.1.1, ⟨hk.1.2.1, hk.1.2.2⟩⟩)⟩, ⟨by (with_reducible repeat (first | refine zH ?_ _ | refine zI ?_ | refine zJ ?_ _)); refine blk_far ?_ NB261_270.out _; (with_reducible repeat (first | refine zH ?_ _ | refine zI ?_ | refine zJ ?_ _)); exact BK261.out⟩, ⟨by (with_reducible repeat (first | refine zH ?_ _ | refine zI ?_ | refine zJ ?_ _)); refine blk_far ?_ NB262_270.out _; (with_reducible repeat (first | refine zH ?_ _ | refine zI ?_ | refine zJ ?_ _)); exact BK262.out⟩, ⟨by (with_reducible repeat (first | refine zH ?_ _ | refine zI ?_ | refine zJ ?_ _)); refine zAH (cs := #[.int .i64 a0_0, .int .i64 a0_1, .string a0_2, u271003]) ?_ 3 _ rfl; (with_reducible repeat (first | refine zH ?_ _ | refine zI ?_ | refine zJ ?_ _)); exact BK270.out⟩, ⟨by repeat (first | (with_reducible first | exact HB.out | apply zA | apply zB | apply zC | refine zD ?_ GE261.out | refine zD ?_ GE262.out | refine zD ?_ GE270.out) | exact HB.out)⟩⟩
      ·rw [if_neg c24] at H
       exact absurd H (by simp)
     ·rw [if_neg c22] at H
      exact absurd H (by simp)
    ·rw [if_neg c21] at H
     have c21b0 : decide (x6_1 < (l0_3.length : Int)) = false := zV c21
     clear c21
     simp only [Option.some.injEq, Prod.mk.injEq] at H
     obtain ⟨rfl, rfl, rfl, rfl⟩ := H
     have hnb34 := NB261_262.out
     have hnc34 := NB262_261.out
     have hnb35 := NB261_270.out
     have hnc35 := NB270_261.out
     obtain ⟨hcz36_0, hcz36_1, hcz36_2, hcz36_3, hfz36_0, hfz36_1, hfz36_2, hfz36_3⟩ := zQ BK261.out
     have hnb37 := NB270_262.out
     have hnc37 := NB262_270.out
     obtain ⟨hcz38_0, hcz38_1, hcz38_2, hcz38_3, hfz38_0, hfz38_1, hfz38_2, hfz38_3⟩ := zQ BK270.out
     obtain ⟨hcz39_0, hcz39_1, hcz39_2, hcz39_3, hfz39_0, hfz39_1, hfz39_2, hfz39_3⟩ := zQ BK262.out
     obtain ⟨Ao40, co40, eo40⟩ := Kd.R_slice HO_271003.out
     subst eo40
     go_wp2
     refine bodyPost_ret (results_cell_row rfl _ _ gb262 24 #[.int .i64 a0_0, .int .i64 a0_1, .string a0_2, .slice Ao40 x271003_1.length co40] (0, 0) _ rfl (by (with_reducible repeat (first | refine zH ?_ _ | refine zI ?_ | refine zJ ?_ _)); refine zAH (cs := #[.int .i64 a0_0, .int .i64 a0_1, .string a0_2, .slice none 0 0]) ?_ 3 _ rfl; (with_reducible repeat (first | refine zH ?_ _ | refine zI ?_ | refine zJ ?_ _)); refine zAH (cs := #[.int .i64 a0_0, .int .i64 a0_1, .string (⟨#[]⟩ : ByteArray), .slice none 0 0]) ?_ 2 _ rfl; (with_reducible repeat (first | refine zH ?_ _ | refine zI ?_ | refine zJ ?_ _)); refine zAH (cs := #[.int .i64 a0_0, .int .i64 0, .string (⟨#[]⟩ : ByteArray), .slice none 0 0]) ?_ 1 _ rfl; (with_reducible repeat (first | refine zH ?_ _ | refine zI ?_ | refine zJ ?_ _)); refine zAH (cs := #[.int .i64 0, .int .i64 0, .string (⟨#[]⟩ : ByteArray), .slice none 0 0]) ?_ 0 _ rfl; (with_reducible repeat (first | refine zH ?_ _ | refine zI ?_ | refine zJ ?_ _)); exact BK262.out) Tryd.underlying24 rfl (by kernel_rfl)) rfl ?_
     exact ⟨_, by first | rfl | (simp [errW_none, errW_some] <;> rfl) | (simp [*, errW_none, errW_some] <;> rfl), by (with_reducible repeat (first | apply Kd.R_alloc | apply Kd.R_drewN | apply Kd.R_drew)); exact Kd.R_mono (Kd.R_far (p := ⟨gb262, 3, none⟩) (Kd.R_far (p := ⟨gb262, 2, none⟩) (Kd.R_far (p := ⟨gb262, 1, none⟩) (Kd.R_far (p := ⟨gb262, 0, none⟩) (Kd.R_mono HO_271003.out (fun k_ hk => (⟨hk, hk.2.1⟩ : _ ∧ k_ ≠ gb262))) (fun _ hk => hk.2) (.int .i64 a0_0)) (fun _ hk => hk.2) (.int .i64 a0_1)) (fun _ hk => hk.2) (.string a0_2)) (fun _ hk => hk.2) (.slice Ao40 x271003_1.length co40)) (fun _ hk => trivial), by repeat (first | (with_reducible first | exact HB.out | apply zA | apply zB | apply zC | refine zD ?_ GE261.out | refine zD ?_ GE262.out | refine zD ?_ GE270.out) | exact HB.out)⟩

def hammockref09_Scheme1.f (k : Nat) (a0_0 : Int) (a0_1 : Int) (a0_2 : ByteArray) (l0_3 : List (S24)) : Option (Int × Int × Int × ByteArray × (List (S24))) := (hammockref09_Right.f k a0_0 a0_1 a0_2 l0_3).bind fun t283 => (if t283 = true then ((hammockref09_Vars.f k a0_0 a0_1 a0_2 l0_3).bind fun t284 => ((hammockref09_anew.f k a0_0 a0_1 a0_2 l0_3 t284).bind fun bt287 => (some ((t284.length : Int), bt287.1, bt287.2.1, bt287.2.2.1, bt287.2.2.2)))) else (some (0, 0, 0, (⟨#[]⟩ : ByteArray), ([] : List (S24)))))
set_option maxHeartbeats 8000000 in
set_option maxRecDepth 100000 in
theorem hammockref09_Scheme1.calls (k : Nat) (a0_0 : Int) (a0_1 : Int) (a0_2 : ByteArray) (A0_3 : Option Addr) (c0_3 : Nat) (l0_3 : List (S24)) (r1 : Int) (r2 : Int) (r3 : Int) (r4 : ByteArray) (r5 : List (S24)) (w : World) (hr0_3 : Kd.C k24 w A0_3 l0_3.length l0_3) (hc0_3 : l0_3.length ≤ c0_3) (h : hammockref09_Scheme1.f k a0_0 a0_1 a0_2 l0_3 = some (r1, r2, r3, r4, r5)) :
  Calls Tryd.prog 25 #[.agg #[.int .i64 a0_0, .int .i64 a0_1, .string a0_2, .slice A0_3 l0_3.length c0_3]] w fun e w' => ∃ v4_ : Value, e = .returned (.agg #[.int .i64 r1, .int .i64 r2, .int .i64 r3, .string r4, v4_]) ∧ Kd.R k24 24 w' w.heap.size (fun _ => True) v4_ r5 ∧ Below w.heap.size w w' := by
 have hu24 := Tryd.underlying24
 have hu42 := Tryd.underlying42
 have HR0_3 := zG hr0_3
 have HC0_3 := zG hc0_3
 clear hr0_3 hc0_3
 have HB := zG (Below.refl w.heap.size w)
 have H : ((hammockref09_Right.f k a0_0 a0_1 a0_2 l0_3).bind fun t283 => (if t283 = true then ((hammockref09_Vars.f k a0_0 a0_1 a0_2 l0_3).bind fun t284 => ((hammockref09_anew.f k a0_0 a0_1 a0_2 l0_3 t284).bind fun bt287 => (some ((t284.length : Int), bt287.1, bt287.2.1, bt287.2.2.1, bt287.2.2.2)))) else (some (0, 0, 0, (⟨#[]⟩ : ByteArray), ([] : List (S24)))))) = some (r1, r2, r3, r4, r5) := h
 clear h
 replace H := zT H
 obtain ⟨t283, A20, H⟩ := H
 replace H : (if t283 = true then ((hammockref09_Vars.f k a0_0 a0_1 a0_2 l0_3).bind fun t284 => ((hammockref09_anew.f k a0_0 a0_1 a0_2 l0_3 t284).bind fun bt287 => (some ((t284.length : Int), bt287.1, bt287.2.1, bt287.2.2.1, bt287.2.2.2)))) else (some (0, 0, 0, (⟨#[]⟩ : ByteArray), ([] : List (S24))))) = some (r1, r2, r3, r4, r5) := H
 have A2 := zG A20
 clear A20
 by_cases c3 : t283 = true
 ·subst c3
  have H1 : ((hammockref09_Vars.f k a0_0 a0_1 a0_2 l0_3).bind fun t284 => ((hammockref09_anew.f k a0_0 a0_1 a0_2 l0_3 t284).bind fun bt287 => (some ((t284.length : Int), bt287.1, bt287.2.1, bt287.2.2.1, bt287.2.2.2)))) = some (r1, r2, r3, r4, r5) := by rw [if_pos rfl] at H; exact H
  clear H
  have H := H1
  clear H1
  replace H := zT H
  obtain ⟨t284, A40, H⟩ := H
  replace H : ((hammockref09_anew.f k a0_0 a0_1 a0_2 l0_3 t284).bind fun bt287 => (some ((t284.length : Int), bt287.1, bt287.2.1, bt287.2.2.1, bt287.2.2.2))) = some (r1, r2, r3, r4, r5) := H
  have A4 := zG A40
  clear A40
  replace H := zT H
  obtain ⟨⟨t287, t288, t289, t290⟩, A50, H⟩ := H
  replace H : (some ((t284.length : Int), t287, t288, t289, t290)) = some (r1, r2, r3, r4, r5) := H
  have A5 := zG A50
  clear A50
  simp only [Option.some.injEq, Prod.mk.injEq] at H
  obtain ⟨rfl, rfl, rfl, rfl, rfl⟩ := H
  go_enter Tryd.func25, Tryd.ntmps25
  go_wp2_with (first | ((with_reducible refine gate_dst (N := 1) rfl ?_); refine box_event ?hg (N := 1) ?hd (cs := #[.int .i64 a0_0, .int .i64 a0_1, .string a0_2, .slice A0_3 l0_3.length c0_3]) (t := 24) ?hr ?_; (case hd => rfl); (case hg => rfl); (case hr => first | (go_simp; done) | (go_simp; rfl)); intro gb281 hg w6 hbox hb; have n0_ := zG (zE (by repeat (first | (with_reducible first | exact HB.out | apply zA | apply zB | apply zC) | exact HB.out)) hb); have n1_ := zG (hbox); have n2_ := zG ((by rw [hg]; exact (zF (by repeat (first | (with_reducible first | exact HB.out | apply zA | apply zB | apply zC) | exact HB.out))) : w.heap.size ≤ gb281)); have n3_ := n2_; clear HB; have HB := n0_; have BK281 := n1_; have GW281 := n2_; have GE281 := n3_; clear n0_ n1_ n2_ n3_; clear hb hbox hg) | ((with_reducible refine gate_dst (N := 2) rfl ?_); refine box_event ?hg (N := 2) ?hd (cs := #[.int .i64 0, .int .i64 0, .int .i64 0, .string (⟨#[]⟩ : ByteArray), .slice none 0 0]) (t := 42) ?hr ?_; (case hd => rfl); (case hg => rfl); (case hr => first | (go_simp; done) | (go_simp; rfl)); intro gb282 hg w7 hbox hb; have n0_ := zG (zK (g := gb281) (by (with_reducible repeat (first | refine zH ?_ _ | refine zI ?_ | refine zJ ?_ _)); exact BK281.out) hb); have n1_ := zG (zE (by repeat (first | (with_reducible first | exact HB.out | apply zA | apply zB | apply zC | refine zD ?_ GE281.out) | exact HB.out)) hb); have n2_ := zG (hbox); have n3_ := zG ((by rw [hg]; exact (zF (by repeat (first | (with_reducible first | exact HB.out | apply zA | apply zB | apply zC | refine zD ?_ GE281.out) | exact HB.out))) : w.heap.size ≤ gb282)); have n4_ := n3_; have n5_ := zG ((by rw [hg]; exact Nat.ne_of_lt (zAD (g := gb281) (by (with_reducible repeat (first | refine zH ?_ _ | refine zI ?_ | refine zJ ?_ _)); exact BK281.out)) : gb281 ≠ gb282)); have n6_ := zG ((by rw [hg]; exact Nat.ne_of_gt (zAD (g := gb281) (by (with_reducible repeat (first | refine zH ?_ _ | refine zI ?_ | refine zJ ?_ _)); exact BK281.out)) : gb282 ≠ gb281)); clear BK281; clear HB; have BK281 := n0_; have HB := n1_; have BK282 := n2_; have GW282 := n3_; have GE282 := n4_; have NB281_282 := n5_; have NB282_281 := n6_; clear n0_ n1_ n2_ n3_ n4_ n5_ n6_; clear hb hbox hg; have hnb8 := NB281_282.out; have hnc8 := NB282_281.out; obtain ⟨hcz9_0, hcz9_1, hcz9_2, hcz9_3⟩ := zN BK281.out; have hfz9_0 := zM BK281.out 0; have hfz9_1 := zM BK281.out 1; have hfz9_2 := zM BK281.out 2; have hfz9_3 := zM BK281.out 3) | ((with_reducible refine gate_callee (f := 17) rfl ?_); refine goesL_ (some 5) rfl rfl Tryd.func17 (by kernel_rfl) rfl #[.agg #[.int .i64 a0_0, .int .i64 a0_1, .string a0_2, .slice A0_3 l0_3.length c0_3]] rfl (by (try simp only [List.map_toArray, List.map_cons, List.map_nil]); first | done | rfl | (simp only [List.length_drop, List.length_take]; rfl)) ?_; (with_reducible refine (hammockref09_Right.calls k a0_0 a0_1 a0_2 _ _ l0_3 true _ ?side1 ?side2 A2.out).mono ?_); (case side1 => repeat (first | exact (zAC HR0_3.out HB.out) | (with_reducible refine zAE ?_ _) | (with_reducible refine zAF ?_ _) | (with_reducible refine zAG ?_))); (case side2 => exact HC0_3.out); rintro e w10 ⟨rfl, hb⟩; refine ⟨_, rfl, ?_⟩; have n0_ := zG (zK (g := gb281) (by (with_reducible repeat (first | refine zH ?_ _ | refine zI ?_ | refine zJ ?_ _)); exact BK281.out) hb); have n1_ := zG (zK (g := gb282) (by (with_reducible repeat (first | refine zH ?_ _ | refine zI ?_ | refine zJ ?_ _)); exact BK282.out) hb); have n2_ := zG (zE (by repeat (first | (with_reducible first | exact HB.out | apply zA | apply zB | apply zC | refine zD ?_ GE281.out | refine zD ?_ GE282.out) | exact HB.out)) hb); clear BK281; clear BK282; clear HB; have BK281 := n0_; have BK282 := n1_; have HB := n2_; clear n0_ n1_ n2_; (try clear hb); (try clear hb2); (try clear hk); (try clear hi); obtain ⟨hcz11_0, hcz11_1, hcz11_2, hcz11_3⟩ := zN BK281.out; have hfz11_0 := zM BK281.out 0; have hfz11_1 := zM BK281.out 1; have hfz11_2 := zM BK281.out 2; have hfz11_3 := zM BK281.out 3) | ((with_reducible refine gate_callee (f := 31) rfl ?_); refine goesL_ (some 9) rfl rfl Tryd.func31 (by kernel_rfl) rfl #[.agg #[.int .i64 a0_0, .int .i64 a0_1, .string a0_2, .slice A0_3 l0_3.length c0_3]] rfl (by (try simp only [List.map_toArray, List.map_cons, List.map_nil]); first | done | rfl | (simp only [List.length_drop, List.length_take]; rfl)) ?_; (with_reducible refine (hammockref09_Vars.calls k a0_0 a0_1 a0_2 _ _ l0_3 t284 _ ?side1 ?side2 A4.out).mono ?_); (case side1 => repeat (first | exact (zAC HR0_3.out HB.out) | (with_reducible refine zAE ?_ _) | (with_reducible refine zAF ?_ _) | (with_reducible refine zAG ?_))); (case side2 => exact HC0_3.out); rintro e w12 ⟨v285, rfl, ho0, hb⟩; refine ⟨_, rfl, ?_⟩; have n0_ := zG (Kd.R_lower ho0 (zF (by repeat (first | (with_reducible first | exact HB.out | apply zA | apply zB | apply zC | refine zD ?_ GE281.out | refine zD ?_ GE282.out) | exact HB.out)))); have n1_ := zG (zK (g := gb281) (by (with_reducible repeat (first | refine zH ?_ _ | refine zI ?_ | refine zJ ?_ _)); exact BK281.out) hb); have n2_ := zG (zK (g := gb282) (by (with_reducible repeat (first | refine zH ?_ _ | refine zI ?_ | refine zJ ?_ _)); exact BK282.out) hb); have n3_ := zG (zE (by repeat (first | (with_reducible first | exact HB.out | apply zA | apply zB | apply zC | refine zD ?_ GE281.out | refine zD ?_ GE282.out) | exact HB.out)) hb); clear BK281; clear BK282; clear HB; have HO286 := n0_; have BK281 := n1_; have BK282 := n2_; have HB := n3_; clear n0_ n1_ n2_ n3_; (try clear hb); (try clear hb2); (try clear hk); (try clear hi); (try clear ho0); obtain ⟨Ao13, co13, eo13⟩ := Kd.R_slice HO286.out; subst eo13; obtain ⟨hcz14_0, hcz14_1, hcz14_2, hcz14_3⟩ := zN BK281.out; have hfz14_0 := zM BK281.out 0; have hfz14_1 := zM BK281.out 1; have hfz14_2 := zM BK281.out 2; have hfz14_3 := zM BK281.out 3) | ((with_reducible refine gate_callee (f := 56) rfl ?_); refine goesL_ (some 14) rfl rfl Tryd.func56 (by kernel_rfl) rfl #[.agg #[.int .i64 a0_0, .int .i64 a0_1, .string a0_2, .slice A0_3 l0_3.length c0_3], .slice Ao13 t284.length co13] rfl (by (try simp only [List.map_toArray, List.map_cons, List.map_nil]); first | done | rfl | (simp only [List.length_drop, List.length_take]; rfl)) ?_; (with_reducible refine (hammockref09_anew.calls k a0_0 a0_1 a0_2 _ _ l0_3 _ _ t284 t287 t288 t289 t290 _ ?side1 ?side2 ?side3 ?side4 A5.out).mono ?_); (case side1 => repeat (first | exact (zAC HR0_3.out HB.out) | (with_reducible refine zAE ?_ _) | (with_reducible refine zAF ?_ _) | (with_reducible refine zAG ?_))); (case side2 => exact HC0_3.out); (case side3 => repeat (first | exact (Kd.R_reads' HO286.out).2.2 | (with_reducible refine zAE ?_ _) | (with_reducible refine zAF ?_ _) | (with_reducible refine zAG ?_))); (case side4 => exact (Kd.R_reads' HO286.out).2.1); rintro e w15 ⟨v291, rfl, ho0, hb⟩; refine ⟨_, rfl, ?_⟩; have n0_ := zG (Kd.R_below (by (with_reducible repeat (first | apply Kd.R_alloc | apply Kd.R_drewN | apply Kd.R_drew)); exact HO286.out) hb); have n1_ := zG (Kd.R_lower (Kd.R_newB ho0 (g := gb281) (o := .cells #[.int .i64 a0_0, .int .i64 a0_1, .string a0_2, .slice A0_3 l0_3.length c0_3] 24 (0, 0)) (by (with_reducible repeat (first | refine zH ?_ _ | refine zI ?_ | refine zJ ?_ _)); exact BK281.out)) (zF (by repeat (first | (with_reducible first | exact HB.out | apply zA | apply zB | apply zC | refine zD ?_ GE281.out | refine zD ?_ GE282.out) | exact HB.out)))); have n2_ := zG (zK (g := gb281) (by (with_reducible repeat (first | refine zH ?_ _ | refine zI ?_ | refine zJ ?_ _)); exact BK281.out) hb); have n3_ := zG (zK (g := gb282) (by (with_reducible repeat (first | refine zH ?_ _ | refine zI ?_ | refine zJ ?_ _)); exact BK282.out) hb); have n4_ := zG (zE (by repeat (first | (with_reducible first | exact HB.out | apply zA | apply zB | apply zC | refine zD ?_ GE281.out | refine zD ?_ GE282.out) | exact HB.out)) hb); clear HO286; clear BK281; clear BK282; clear HB; have HO286 := n0_; have HO292 := n1_; have BK281 := n2_; have BK282 := n3_; have HB := n4_; clear n0_ n1_ n2_ n3_ n4_; (try clear hb); (try clear hb2); (try clear hk); (try clear hi); (try clear ho0); obtain ⟨Ao16, co16, eo16⟩ := Kd.R_slice HO292.out; subst eo16; have hcz17_0 : w15.cell? ⟨gb282, 0, none⟩ = some (.int .i64 0) := zL BK282.out 0; have hcz17_1 : w15.cell? ⟨gb282, 1, none⟩ = some (.int .i64 0) := zL BK282.out 1; have hcz17_2 : w15.cell? ⟨gb282, 2, none⟩ = some (.int .i64 0) := zL BK282.out 2; have hcz17_3 : w15.cell? ⟨gb282, 3, none⟩ = some (.string (⟨#[]⟩ : ByteArray)) := zL BK282.out 3; have hcz17_4 : w15.cell? ⟨gb282, 4, none⟩ = some (.slice none 0 0) := zL BK282.out 4; have hfz17_0 := zM BK282.out 0; have hfz17_1 := zM BK282.out 1; have hfz17_2 := zM BK282.out 2; have hfz17_3 := zM BK282.out 3; have hfz17_4 := zM BK282.out 4))
  refine bodyPost_ret (results_cell_row rfl _ _ gb282 42 #[.int .i64 (t284.length : Int), .int .i64 t287, .int .i64 t288, .string t289, .slice Ao16 t290.length co16] (0, 0) _ rfl (by (with_reducible repeat (first | refine zH ?_ _ | refine zI ?_ | refine zJ ?_ _)); refine zAH (cs := #[.int .i64 (t284.length : Int), .int .i64 t287, .int .i64 t288, .string t289, .slice none 0 0]) ?_ 4 _ rfl; (with_reducible repeat (first | refine zH ?_ _ | refine zI ?_ | refine zJ ?_ _)); refine zAH (cs := #[.int .i64 (t284.length : Int), .int .i64 t287, .int .i64 t288, .string (⟨#[]⟩ : ByteArray), .slice none 0 0]) ?_ 3 _ rfl; (with_reducible repeat (first | refine zH ?_ _ | refine zI ?_ | refine zJ ?_ _)); refine zAH (cs := #[.int .i64 (t284.length : Int), .int .i64 t287, .int .i64 0, .string (⟨#[]⟩ : ByteArray), .slice none 0 0]) ?_ 2 _ rfl; (with_reducible repeat (first | refine zH ?_ _ | refine zI ?_ | refine zJ ?_ _)); refine zAH (cs := #[.int .i64 (t284.length : Int), .int .i64 0, .int .i64 0, .string (⟨#[]⟩ : ByteArray), .slice none 0 0]) ?_ 1 _ rfl; (with_reducible repeat (first | refine zH ?_ _ | refine zI ?_ | refine zJ ?_ _)); refine zAH (cs := #[.int .i64 0, .int .i64 0, .int .i64 0, .string (⟨#[]⟩ : ByteArray), .slice none 0 0]) ?_ 0 _ rfl; (with_reducible repeat (first | refine zH ?_ _ | refine zI ?_ | refine zJ ?_ _)); exact BK282.out) Tryd.underlying42 rfl (by kernel_rfl)) rfl ?_
  exact ⟨_, by first | rfl | (simp [errW_none, errW_some] <;> rfl) | (simp [*, errW_none, errW_some] <;> rfl), by (with_reducible repeat (first | apply Kd.R_alloc | apply Kd.R_drewN | apply Kd.R_drew)); exact Kd.R_mono (Kd.R_far (p := ⟨gb282, 4, none⟩) (Kd.R_far (p := ⟨gb282, 3, none⟩) (Kd.R_far (p := ⟨gb282, 2, none⟩) (Kd.R_far (p := ⟨gb282, 1, none⟩) (Kd.R_far (p := ⟨gb282, 0, none⟩) (Kd.R_types HO292.out BK282.out (by decide)) (fun _ hk => hk.2) (.int .i64 (t284.length : Int))) (fun _ hk => hk.2) (.int .i64 t287)) (fun _ hk => hk.2) (.int .i64 t288)) (fun _ hk => hk.2) (.string t289)) (fun _ hk => hk.2) (.slice Ao16 t290.length co16)) (fun _ hk => trivial), by repeat (first | (with_reducible first | exact HB.out | apply zA | apply zB | apply zC | refine zD ?_ GE281.out | refine zD ?_ GE282.out) | exact HB.out)⟩
 ·replace c3 := zAB c3
  subst c3
  have H1 : (some (0, 0, 0, (⟨#[]⟩ : ByteArray), ([] : List (S24)))) = some (r1, r2, r3, r4, r5) := by rw [if_neg (show ¬ (false = true) by decide)] at H; exact H
  clear H
  have H := H1
  clear H1
  simp only [Option.some.injEq, Prod.mk.injEq] at H
  obtain ⟨rfl, rfl, rfl, rfl, rfl⟩ := H
  go_enter Tryd.func25, Tryd.ntmps25
  go_wp2_with (first | ((with_reducible refine gate_dst (N := 1) rfl ?_); refine box_event ?hg (N := 1) ?hd (cs := #[.int .i64 a0_0, .int .i64 a0_1, .string a0_2, .slice A0_3 l0_3.length c0_3]) (t := 24) ?hr ?_; (case hd => rfl); (case hg => rfl); (case hr => first | (go_simp; done) | (go_simp; rfl)); intro gb281 hg w18 hbox hb; have n0_ := zG (zE (by repeat (first | (with_reducible first | exact HB.out | apply zA | apply zB | apply zC) | exact HB.out)) hb); have n1_ := zG (hbox); have n2_ := zG ((by rw [hg]; exact (zF (by repeat (first | (with_reducible first | exact HB.out | apply zA | apply zB | apply zC) | exact HB.out))) : w.heap.size ≤ gb281)); have n3_ := n2_; clear HB; have HB := n0_; have BK281 := n1_; have GW281 := n2_; have GE281 := n3_; clear n0_ n1_ n2_ n3_; clear hb hbox hg) | ((with_reducible refine gate_dst (N := 2) rfl ?_); refine box_event ?hg (N := 2) ?hd (cs := #[.int .i64 0, .int .i64 0, .int .i64 0, .string (⟨#[]⟩ : ByteArray), .slice none 0 0]) (t := 42) ?hr ?_; (case hd => rfl); (case hg => rfl); (case hr => first | (go_simp; done) | (go_simp; rfl)); intro gb282 hg w19 hbox hb; have n0_ := zG (zK (g := gb281) (by (with_reducible repeat (first | refine zH ?_ _ | refine zI ?_ | refine zJ ?_ _)); exact BK281.out) hb); have n1_ := zG (zE (by repeat (first | (with_reducible first | exact HB.out | apply zA | apply zB | apply zC | refine zD ?_ GE281.out) | exact HB.out)) hb); have n2_ := zG (hbox); have n3_ := zG ((by rw [hg]; exact (zF (by repeat (first | (with_reducible first | exact HB.out | apply zA | apply zB | apply zC | refine zD ?_ GE281.out) | exact HB.out))) : w.heap.size ≤ gb282)); have n4_ := n3_; have n5_ := zG ((by rw [hg]; exact Nat.ne_of_lt (zAD (g := gb281) (by (with_reducible repeat (first | refine zH ?_ _ | refine zI ?_ | refine zJ ?_ _)); exact BK281.out)) : gb281 ≠ gb282)); have n6_ := zG ((by rw [hg]; exact Nat.ne_of_gt (zAD (g := gb281) (by (with_reducible repeat (first | refine zH ?_ _ | refine zI ?_ | refine zJ ?_ _)); exact BK281.out)) : gb282 ≠ gb281)); clear BK281; clear HB; have BK281 := n0_; have HB := n1_; have BK282 := n2_; have GW282 := n3_; have GE282 := n4_; have NB281_282 := n5_; have NB282_281 := n6_; clear n0_ n1_ n2_ n3_ n4_ n5_ n6_; clear hb hbox hg; have hnb20 := NB281_282.out; have hnc20 := NB282_281.out; obtain ⟨hcz21_0, hcz21_1, hcz21_2, hcz21_3⟩ := zN BK281.out; have hfz21_0 := zM BK281.out 0; have hfz21_1 := zM BK281.out 1; have hfz21_2 := zM BK281.out 2; have hfz21_3 := zM BK281.out 3) | ((with_reducible refine gate_callee (f := 17) rfl ?_); refine goesL_ (some 5) rfl rfl Tryd.func17 (by kernel_rfl) rfl #[.agg #[.int .i64 a0_0, .int .i64 a0_1, .string a0_2, .slice A0_3 l0_3.length c0_3]] rfl (by (try simp only [List.map_toArray, List.map_cons, List.map_nil]); first | done | rfl | (simp only [List.length_drop, List.length_take]; rfl)) ?_; (with_reducible refine (hammockref09_Right.calls k a0_0 a0_1 a0_2 _ _ l0_3 false _ ?side1 ?side2 A2.out).mono ?_); (case side1 => repeat (first | exact (zAC HR0_3.out HB.out) | (with_reducible refine zAE ?_ _) | (with_reducible refine zAF ?_ _) | (with_reducible refine zAG ?_))); (case side2 => exact HC0_3.out); rintro e w22 ⟨rfl, hb⟩; refine ⟨_, rfl, ?_⟩; have n0_ := zG (zK (g := gb281) (by (with_reducible repeat (first | refine zH ?_ _ | refine zI ?_ | refine zJ ?_ _)); exact BK281.out) hb); have n1_ := zG (zK (g := gb282) (by (with_reducible repeat (first | refine zH ?_ _ | refine zI ?_ | refine zJ ?_ _)); exact BK282.out) hb); have n2_ := zG (zE (by repeat (first | (with_reducible first | exact HB.out | apply zA | apply zB | apply zC | refine zD ?_ GE281.out | refine zD ?_ GE282.out) | exact HB.out)) hb); clear BK281; clear BK282; clear HB; have BK281 := n0_; have BK282 := n1_; have HB := n2_; clear n0_ n1_ n2_; (try clear hb); (try clear hb2); (try clear hk); (try clear hi); have hcz23_0 : w22.cell? ⟨gb282, 0, none⟩ = some (.int .i64 0) := zL BK282.out 0; have hcz23_1 : w22.cell? ⟨gb282, 1, none⟩ = some (.int .i64 0) := zL BK282.out 1; have hcz23_2 : w22.cell? ⟨gb282, 2, none⟩ = some (.int .i64 0) := zL BK282.out 2; have hcz23_3 : w22.cell? ⟨gb282, 3, none⟩ = some (.string (⟨#[]⟩ : ByteArray)) := zL BK282.out 3; have hcz23_4 : w22.cell? ⟨gb282, 4, none⟩ = some (.slice none 0 0) := zL BK282.out 4; have hfz23_0 := zM BK282.out 0; have hfz23_1 := zM BK282.out 1; have hfz23_2 := zM BK282.out 2; have hfz23_3 := zM BK282.out 3; have hfz23_4 := zM BK282.out 4))
  refine bodyPost_ret (results_cell_row rfl _ _ gb282 42 #[.int .i64 0, .int .i64 0, .int .i64 0, .string (⟨#[]⟩ : ByteArray), .slice none 0 0] (0, 0) _ rfl (by (with_reducible repeat (first | refine zH ?_ _ | refine zI ?_ | refine zJ ?_ _)); refine zAH (cs := #[.int .i64 0, .int .i64 0, .int .i64 0, .string (⟨#[]⟩ : ByteArray), .slice none 0 0]) ?_ 4 _ rfl; (with_reducible repeat (first | refine zH ?_ _ | refine zI ?_ | refine zJ ?_ _)); refine zAH (cs := #[.int .i64 0, .int .i64 0, .int .i64 0, .string (⟨#[]⟩ : ByteArray), .slice none 0 0]) ?_ 3 _ rfl; (with_reducible repeat (first | refine zH ?_ _ | refine zI ?_ | refine zJ ?_ _)); refine zAH (cs := #[.int .i64 0, .int .i64 0, .int .i64 0, .string (⟨#[]⟩ : ByteArray), .slice none 0 0]) ?_ 2 _ rfl; (with_reducible repeat (first | refine zH ?_ _ | refine zI ?_ | refine zJ ?_ _)); refine zAH (cs := #[.int .i64 0, .int .i64 0, .int .i64 0, .string (⟨#[]⟩ : ByteArray), .slice none 0 0]) ?_ 1 _ rfl; (with_reducible repeat (first | refine zH ?_ _ | refine zI ?_ | refine zJ ?_ _)); refine zAH (cs := #[.int .i64 0, .int .i64 0, .int .i64 0, .string (⟨#[]⟩ : ByteArray), .slice none 0 0]) ?_ 0 _ rfl; (with_reducible repeat (first | refine zH ?_ _ | refine zI ?_ | refine zJ ?_ _)); exact BK282.out) Tryd.underlying42 rfl (by kernel_rfl)) rfl ?_
  exact ⟨_, by first | rfl | (simp [errW_none, errW_some] <;> rfl) | (simp [*, errW_none, errW_some] <;> rfl), by first | exact Kd.R_nil _ _ _ _ _ | exact Kd.N_nil _ _ _ _ _ | exact Kd.V_nil _ _ _ _ _ | exact Kd.Q_nil _ _ _ _ _ | exact Kd.S_nil _ _ _ _ _, by repeat (first | (with_reducible first | exact HB.out | apply zA | apply zB | apply zC | refine zD ?_ GE281.out | refine zD ?_ GE282.out) | exact HB.out)⟩

theorem V_away24 {e base n c g : Nat} {ok : Nat → Prop} {W : World} {ad : Addr} {xs : List S24} (h : Kd.V k24 e W base ok (.slice (some ad) n c) xs) (hn : 0 < n) (hok : ∀ k, ok k → k ≠ g) : some g ≠ (Value.slice (some ad) n c).ownBlock := by
 obtain ⟨ad', cs, he, _, _, _, h5⟩ := Kd.F_get (Kd.V_F h) z24 0 (by omega) (by omega)
 injection he with he
 subst he
 intro e_
 refine hok ad.block (h5 (by show 0 < 4; omega)) ?_
 simpa [Value.ownBlock] using e_.symm
def hammockref09_Fun.f : Nat → List (S24) → Option (Int × Int × ByteArray × (List (S24)))
 | 0, _ => none
 | k + 1, l0 => if (l0.length : Int) = 0 then (some (0, 0, (⟨#[]⟩ : ByteArray), ([] : List (S24)))) else (if (l0.length : Int) = 1 then (if 0 < (l0.length : Int) then (some ((rd_T24 l0 0).f0, (rd_T24 l0 0).f1, (rd_T24 l0 0).f2, (rd_T24 l0 0).f3)) else (none)) else (if 0 < (l0.length : Int) then (if 1 ≤ (l0.length : Int) then ((hammockref09_Fun.f k (l0.drop 1)).bind fun bt301 => (some (3, 0, (⟨#[]⟩ : ByteArray), (([(⟨(rd_T24 l0 0).f0, (rd_T24 l0 0).f1, (rd_T24 l0 0).f2, (rd_T24 l0 0).f3⟩ : S24), (⟨bt301.1, bt301.2.1, bt301.2.2.1, bt301.2.2.2⟩ : S24)] : List (S24)))))) else (none)) else (none)))
def hammockref09_Fun.T5 : Bool × List (List Nat × List Nat) := (true, [([], []), ([0], [0]), ([1], [1]), ([], []), ([3], [3]), ([4], [4]), ([2, 5], [2, 5]), ([6], [6]), ([7, 5, 0, 1, 2, 3, 4, 5, 6, 7], [7])])
def hammockref09_Fun.B5 : List Nat := [0, 1, 3, 0, 8, 24, 63, 127, 255]
theorem hammockref09_Fun.tab5 : rtab .any (opsOf Tryd.f27 5) = hammockref09_Fun.T5 := by kernel_rfl
theorem hammockref09_Fun.bits5 : waitsOk hammockref09_Fun.T5.2 hammockref09_Fun.B5 = true := by kernel_rfl
set_option maxHeartbeats 8000000 in
set_option maxRecDepth 100000 in
theorem hammockref09_Fun.calls (k : Nat) : ∀ (P0_ : Nat → Prop) (A0 : Option Addr) (c0 : Nat) (l0 : List (S24)) (r1 : Int) (r2 : Int) (r3 : ByteArray) (r4 : List (S24)) (w : World) (hs0 : Kd.V k24 24 w w.heap.size (fun k_ => P0_ k_) (.slice A0 l0.length c0) l0) (h : hammockref09_Fun.f k l0 = some (r1, r2, r3, r4)),
  Calls Tryd.prog 27 #[.slice A0 l0.length c0] w fun e w' => ∃ v3_ : Value, e = .returned (.agg #[.int .i64 r1, .int .i64 r2, .string r3, v3_]) ∧ Kd.V k24 24 w' w.heap.size (fun k_ => (P0_ k_ ∨ w.heap.size ≤ k_)) v3_ r4 ∧ Below w.heap.size w w' := by
 induction k using Nat.strongRecOn with
 | _ k ih =>
 intro P0_ A0 c0 l0 r1 r2 r3 r4 w hs0 h
 cases k with
 | zero => exact absurd h (by simp [hammockref09_Fun.f])
 | succ k =>
 simp only [hammockref09_Fun.f] at h
 have hu24 := Tryd.underlying24
 have HO0 := zG (show Kd.V k24 24 w w.heap.size (fun k_ => (P0_ k_ ∨ w.heap.size ≤ k_)) (.slice A0 l0.length c0) l0 from Kd.V_mono hs0 (fun k_ hk => .inl hk))
 have HB := zG (Below.refl w.heap.size w)
 have H : (if (l0.length : Int) = 0 then (some (0, 0, (⟨#[]⟩ : ByteArray), ([] : List (S24)))) else (if (l0.length : Int) = 1 then (if 0 < (l0.length : Int) then (some ((rd_T24 l0 0).f0, (rd_T24 l0 0).f1, (rd_T24 l0 0).f2, (rd_T24 l0 0).f3)) else (none)) else (if 0 < (l0.length : Int) then (if 1 ≤ (l0.length : Int) then ((hammockref09_Fun.f k (l0.drop 1)).bind fun bt301 => (some (3, 0, (⟨#[]⟩ : ByteArray), (([(⟨(rd_T24 l0 0).f0, (rd_T24 l0 0).f1, (rd_T24 l0 0).f2, (rd_T24 l0 0).f3⟩ : S24), (⟨bt301.1, bt301.2.1, bt301.2.2.1, bt301.2.2.2⟩ : S24)] : List (S24)))))) else (none)) else (none)))) = some (r1, r2, r3, r4) := h
 clear h
 by_cases c2 : (l0.length : Int) = 0
 ·rw [if_pos c2] at H
  have c2b0 : ((l0.length : Int) == 0) = true := zW c2
  have c2b1 : ((l0.length : Int) != 0) = false := zX c2
  clear c2
  simp only [Option.some.injEq, Prod.mk.injEq] at H
  obtain ⟨rfl, rfl, rfl, rfl⟩ := H
  go_enter Tryd.func27, Tryd.ntmps27
  go_wp2_with (first | ((with_reducible refine gate_dst (N := 2) rfl ?_); refine box_event ?hg (N := 2) ?hd (cs := #[.int .i64 0, .int .i64 0, .string (⟨#[]⟩ : ByteArray), .slice none 0 0]) (t := 24) ?hr ?_; (case hd => rfl); (case hg => rfl); (case hr => first | (go_simp; done) | (go_simp; rfl)); intro gb293 hg w3 hbox hb; have n0_ := zG (Kd.V_below (Kd.V_elderB (by (with_reducible repeat (first | apply Kd.V_alloc | apply Kd.V_drewN | apply Kd.V_drew)); exact HO0.out) gb293 (Nat.le_of_eq hg.symm)) hb); have n1_ := zG (zE HB.out hb); have n2_ := zG (hbox); have n3_ := zG ((by rw [hg]; exact (zF HB.out) : w.heap.size ≤ gb293)); have n4_ := n3_; clear HO0; clear HB; have HO0 := n0_; have HB := n1_; have BK293 := n2_; have GW293 := n3_; have GE293 := n4_; clear n0_ n1_ n2_ n3_ n4_; clear hb hbox hg; obtain ⟨hcz4_0, hcz4_1, hcz4_2, hcz4_3⟩ := zN BK293.out; have hfz4_0 := zM BK293.out 0; have hfz4_1 := zM BK293.out 1; have hfz4_2 := zM BK293.out 2; have hfz4_3 := zM BK293.out 3))
  refine bodyPost_ret (results_cell_row rfl _ _ gb293 24 #[.int .i64 0, .int .i64 0, .string (⟨#[]⟩ : ByteArray), .slice none 0 0] (0, 0) _ rfl (by (with_reducible repeat (first | refine zH ?_ _ | refine zI ?_ | refine zJ ?_ _)); refine zAH (cs := #[.int .i64 0, .int .i64 0, .string (⟨#[]⟩ : ByteArray), .slice none 0 0]) ?_ 3 _ rfl; (with_reducible repeat (first | refine zH ?_ _ | refine zI ?_ | refine zJ ?_ _)); refine zAH (cs := #[.int .i64 0, .int .i64 0, .string (⟨#[]⟩ : ByteArray), .slice none 0 0]) ?_ 2 _ rfl; (with_reducible repeat (first | refine zH ?_ _ | refine zI ?_ | refine zJ ?_ _)); refine zAH (cs := #[.int .i64 0, .int .i64 0, .string (⟨#[]⟩ : ByteArray), .slice none 0 0]) ?_ 1 _ rfl; (with_reducible repeat (first | refine zH ?_ _ | refine zI ?_ | refine zJ ?_ _)); refine zAH (cs := #[.int .i64 0, .int .i64 0, .string (⟨#[]⟩ : ByteArray), .slice none 0 0]) ?_ 0 _ rfl; (with_reducible repeat (first | refine zH ?_ _ | refine zI ?_ | refine zJ ?_ _)); exact BK293.out) Tryd.underlying24 rfl (by kernel_rfl)) rfl ?_
  exact ⟨_, by first | rfl | (simp [errW_none, errW_some] <;> rfl) | (simp [*, errW_none, errW_some] <;> rfl), (by exact Kd.V_nil _ _ _ _ _), by repeat (first | (with_reducible first | exact HB.out | apply zA | apply zB | apply zC | refine zD ?_ GE293.out) | exact HB.out)⟩
 ·rw [if_neg c2] at H
  have c2b0 : ((l0.length : Int) == 0) = false := zY c2
  have c2b1 : ((l0.length : Int) != 0) = true := zZ c2
  have c2b2 : ¬ (l0 = []) := fun h_ => c2 (by rw [h_]; rfl)
  by_cases c5 : (l0.length : Int) = 1
  ·rw [if_pos c5] at H
   have c5b0 : ((l0.length : Int) == 1) = true := zW c5
   have c5b1 : ((l0.length : Int) != 1) = false := zX c5
   clear c5
   by_cases c6 : 0 < (l0.length : Int)
   ·rw [if_pos c6] at H
    have c6b0 : decide (0 < (l0.length : Int)) = true := zU c6
    have c6b1 : decide (0 < l0.length) = true := zU (by omega)
    clear c6
    simp only [Option.some.injEq, Prod.mk.injEq] at H
    obtain ⟨rfl, rfl, rfl, rfl⟩ := H
    go_enter Tryd.func27, Tryd.ntmps27
    go_wp2_with (first | ((with_reducible refine gate_dst (N := 2) rfl ?_); refine box_event ?hg (N := 2) ?hd (cs := #[.int .i64 0, .int .i64 0, .string (⟨#[]⟩ : ByteArray), .slice none 0 0]) (t := 24) ?hr ?_; (case hd => rfl); (case hg => rfl); (case hr => first | (go_simp; done) | (go_simp; rfl)); intro gb293 hg w7 hbox hb; have n0_ := zG (Kd.V_below (Kd.V_elderB (by (with_reducible repeat (first | apply Kd.V_alloc | apply Kd.V_drewN | apply Kd.V_drew)); exact HO0.out) gb293 (Nat.le_of_eq hg.symm)) hb); have n1_ := zG (zE HB.out hb); have n2_ := zG (hbox); have n3_ := zG ((by rw [hg]; exact (zF HB.out) : w.heap.size ≤ gb293)); have n4_ := n3_; clear HO0; clear HB; have HO0 := n0_; have HB := n1_; have BK293 := n2_; have GW293 := n3_; have GE293 := n4_; clear n0_ n1_ n2_ n3_ n4_; clear hb hbox hg; have p294 : 0 ≤ (0 : Int) := (by omega); have q294 : 0 < (l0.length : Int) := zAA (by assumption); obtain ⟨ad294, A294_3, c294_3, e294, hx294_0, hx294_1, hx294_2, hx294_3, hl294_3, hi294_3⟩ := at_T24 (Kd.V_reads' HO0.out).2.2 0 p294 q294; cases e294; obtain ⟨ce294, hce294, hMe294, hcc294⟩ := Kd.V_get HO0.out z24 0 p294 (by first | exact q294 | exact zAA (by assumption) | (have e_ := (Kd.V_reads' HO0.out).1; omega)); obtain ⟨ua294_3, uc294_3, rfl, ul294_3, ge294_3⟩ := k24_openF hMe294; have hv294_3 := hcc294 3 _ rfl; rw [add_field _ _ 3 (by omega)] at hv294_3; replace hv294_3 := Option.some.inj (hv294_3.symm.trans hx294_3); injection hv294_3 with hva_ hvn_ hvc_; rw [hva_] at ge294_3; rw [hvc_] at ul294_3; have HL294_3 := zG (show Kd.V k24 24 _ w.heap.size _ _ ((rd_T24 l0 0).f3) from Kd.V_mk ul294_3 ge294_3); clear hva_ hvn_ hvc_ ge294_3 ul294_3; clear hcc294 hce294; have qi294 : (0 < l0.length) = True := eq_true (by omega); (try rw [show ((0 : Int)).toNat = 0 from rfl] at hx294_0); (try rw [show 0 * 4 = 0 from rfl] at hx294_0); (try rw [Addr.add_zero'] at hx294_0); (try rw [show ((0 : Int)).toNat = 0 from rfl] at hx294_1); (try rw [show 0 * 4 = 0 from rfl] at hx294_1); (try rw [Addr.add_zero'] at hx294_1); (try rw [show ((0 : Int)).toNat = 0 from rfl] at hx294_2); (try rw [show 0 * 4 = 0 from rfl] at hx294_2); (try rw [Addr.add_zero'] at hx294_2); (try rw [show ((0 : Int)).toNat = 0 from rfl] at hx294_3); (try rw [show 0 * 4 = 0 from rfl] at hx294_3); (try rw [Addr.add_zero'] at hx294_3); have HR294_3 := zG hi294_3; have HC294_3 := zG hl294_3; clear hi294_3 hl294_3; replace p294 := eq_true p294; replace q294 := eq_true q294; obtain ⟨hcz8_0, hcz8_1, hcz8_2, hcz8_3⟩ := zN BK293.out; have hfz8_0 := zM BK293.out 0; have hfz8_1 := zM BK293.out 1; have hfz8_2 := zM BK293.out 2; have hfz8_3 := zM BK293.out 3))
    refine bodyPost_ret (results_cell_row rfl _ _ gb293 24 #[.int .i64 ((rd_T24 l0 0).f0), .int .i64 ((rd_T24 l0 0).f1), .string ((rd_T24 l0 0).f2), .slice A294_3 ((rd_T24 l0 0).f3).length c294_3] (0, 0) _ rfl (by (with_reducible repeat (first | refine zH ?_ _ | refine zI ?_ | refine zJ ?_ _)); refine zAH (cs := #[.int .i64 ((rd_T24 l0 0).f0), .int .i64 ((rd_T24 l0 0).f1), .string ((rd_T24 l0 0).f2), .slice none 0 0]) ?_ 3 _ rfl; (with_reducible repeat (first | refine zH ?_ _ | refine zI ?_ | refine zJ ?_ _)); refine zAH (cs := #[.int .i64 ((rd_T24 l0 0).f0), .int .i64 ((rd_T24 l0 0).f1), .string (⟨#[]⟩ : ByteArray), .slice none 0 0]) ?_ 2 _ rfl; (with_reducible repeat (first | refine zH ?_ _ | refine zI ?_ | refine zJ ?_ _)); refine zAH (cs := #[.int .i64 ((rd_T24 l0 0).f0), .int .i64 0, .string (⟨#[]⟩ : ByteArray), .slice none 0 0]) ?_ 1 _ rfl; (with_reducible repeat (first | refine zH ?_ _ | refine zI ?_ | refine zJ ?_ _)); refine zAH (cs := #[.int .i64 0, .int .i64 0, .string (⟨#[]⟩ : ByteArray), .slice none 0 0]) ?_ 0 _ rfl; (with_reducible repeat (first | refine zH ?_ _ | refine zI ?_ | refine zJ ?_ _)); exact BK293.out) Tryd.underlying24 rfl (by kernel_rfl)) rfl ?_
    exact ⟨_, by first | rfl | (simp [errW_none, errW_some] <;> rfl) | (simp [*, errW_none, errW_some] <;> rfl), by (with_reducible repeat (first | apply Kd.V_alloc | apply Kd.V_drewN | apply Kd.V_drew)); exact Kd.V_mono (Kd.V_far (p := ⟨gb293, 3, none⟩) (Kd.V_far (p := ⟨gb293, 2, none⟩) (Kd.V_far (p := ⟨gb293, 1, none⟩) (Kd.V_far (p := ⟨gb293, 0, none⟩) (Kd.V_mono HL294_3.out (fun k_ hk => (⟨hk, hk.2⟩ : _ ∧ k_ ≠ gb293))) (fun _ hk => hk.2) (.int .i64 ((rd_T24 l0 0).f0))) (fun _ hk => hk.2) (.int .i64 ((rd_T24 l0 0).f1))) (fun _ hk => hk.2) (.string ((rd_T24 l0 0).f2))) (fun _ hk => hk.2) (.slice A294_3 ((rd_T24 l0 0).f3).length c294_3)) (fun _ hk => hk.1.1), by repeat (first | (with_reducible first | exact HB.out | apply zA | apply zB | apply zC | refine zD ?_ GE293.out) | exact HB.out)⟩
   ·rw [if_neg c6] at H
    exact absurd H (by simp)
  ·rw [if_neg c5] at H
   have c5b0 : ((l0.length : Int) == 1) = false := zY c5
   have c5b1 : ((l0.length : Int) != 1) = true := zZ c5
   by_cases c9 : 0 < (l0.length : Int)
   ·rw [if_pos c9] at H
    have c9b0 : decide (0 < (l0.length : Int)) = true := zU c9
    have c9b1 : decide (0 < l0.length) = true := zU (by omega)
    clear c9
    by_cases c10 : 1 ≤ (l0.length : Int)
    ·rw [if_pos c10] at H
     have c10b0 := eq_true c10
     have c10b1 : decide (1 ≤ (l0.length : Int)) = true := zU c10
     clear c10
     obtain ⟨y296, hy296⟩ : ∃ y_ : List (S24), y_ = (l0.drop 1) := ⟨_, rfl⟩
     replace H : ((hammockref09_Fun.f k y296).bind fun bt301 => (some (3, 0, (⟨#[]⟩ : ByteArray), (([(⟨(rd_T24 l0 0).f0, (rd_T24 l0 0).f1, (rd_T24 l0 0).f2, (rd_T24 l0 0).f3⟩ : S24), (⟨bt301.1, bt301.2.1, bt301.2.2.1, bt301.2.2.2⟩ : S24)] : List (S24)))))) = some (r1, r2, r3, r4) := by first | (rw [hy296]; with_reducible exact H) | (have H2_ := (Option.bind_some _ _).symm.trans H; rw [hy296]; with_reducible exact H2_) | (have H2_ := (Option.bind_some _ _).symm.trans H; with_reducible exact H2_) | with_reducible exact H | (rw [hy296]; exact H) | exact H
     have Ny296 := zG hy296
     clear hy296
     replace H := zT H
     obtain ⟨⟨t301, t302, t303, t304⟩, A110, H⟩ := H
     replace H : (some (3, 0, (⟨#[]⟩ : ByteArray), (([(⟨(rd_T24 l0 0).f0, (rd_T24 l0 0).f1, (rd_T24 l0 0).f2, (rd_T24 l0 0).f3⟩ : S24), (⟨t301, t302, t303, t304⟩ : S24)] : List (S24))))) = some (r1, r2, r3, r4) := H
     have A11 := zG A110
     clear A110
     obtain ⟨y307, hy307⟩ : ∃ y_ : List (S24), y_ = (([(⟨(rd_T24 l0 0).f0, (rd_T24 l0 0).f1, (rd_T24 l0 0).f2, (rd_T24 l0 0).f3⟩ : S24), (⟨t301, t302, t303, t304⟩ : S24)] : List (S24))) := ⟨_, rfl⟩
     replace H : (some (3, 0, (⟨#[]⟩ : ByteArray), y307)) = some (r1, r2, r3, r4) := by first | (rw [hy307]; with_reducible exact H) | (have H2_ := (Option.bind_some _ _).symm.trans H; rw [hy307]; with_reducible exact H2_) | (have H2_ := (Option.bind_some _ _).symm.trans H; with_reducible exact H2_) | with_reducible exact H | (rw [hy307]; exact H) | exact H
     have Ny307 := zG hy307
     clear hy307
     simp only [Option.some.injEq, Prod.mk.injEq] at H
     obtain ⟨rfl, rfl, rfl, rfl⟩ := H
     go_enter Tryd.func27, Tryd.ntmps27
     try go_wp2_with (first | ((with_reducible refine gate_dst (N := 2) rfl ?_); refine box_event ?hg (N := 2) ?hd (cs := #[.int .i64 0, .int .i64 0, .string (⟨#[]⟩ : ByteArray), .slice none 0 0]) (t := 24) ?hr ?_; (case hd => rfl); (case hg => rfl); (case hr => first | (go_simp; done) | (go_simp; rfl)); intro gb293 hg w12 hbox hb; have n0_ := zG (Kd.V_below (Kd.V_elderB (by (with_reducible repeat (first | apply Kd.V_alloc | apply Kd.V_drewN | apply Kd.V_drew)); exact HO0.out) gb293 (Nat.le_of_eq hg.symm)) hb); have n1_ := zG (zE HB.out hb); have n2_ := zG (hbox); have n3_ := zG ((by rw [hg]; exact (zF HB.out) : w.heap.size ≤ gb293)); have n4_ := n3_; clear HO0; clear HB; have HO0 := n0_; have HB := n1_; have BK293 := n2_; have GW293 := n3_; have GE293 := n4_; clear n0_ n1_ n2_ n3_ n4_; clear hb hbox hg))
     have n0_ := zG (Kd.V_drew HO0.out)
     have n1_ := zG (zI BK293.out)
     have n2_ := zG (zC HB.out)
     clear HO0
     clear BK293
     clear HB
     have HO0 := n0_
     have BK293 := n1_
     have HB := n2_
     clear n0_ n1_ n2_
     have p295 : 0 ≤ (0 : Int) := (by omega)
     have q295 : 0 < (l0.length : Int) := zAA (by assumption)
     obtain ⟨ad295, A295_3, c295_3, e295, hx295_0, hx295_1, hx295_2, hx295_3, hl295_3, hi295_3⟩ := at_T24 (Kd.V_reads' HO0.out).2.2 0 p295 q295
     cases e295
     obtain ⟨ce295, hce295, hMe295, hcc295⟩ := Kd.V_get HO0.out z24 0 p295 (by first | exact q295 | exact zAA (by assumption) | (have e_ := (Kd.V_reads' HO0.out).1; omega))
     obtain ⟨ua295_3, uc295_3, rfl, ul295_3, ge295_3⟩ := k24_openF hMe295
     have hv295_3 := hcc295 3 _ rfl
     rw [add_field _ _ 3 (by omega)] at hv295_3
     replace hv295_3 := Option.some.inj (hv295_3.symm.trans hx295_3)
     injection hv295_3 with hva_ hvn_ hvc_
     rw [hva_] at ge295_3
     rw [hvc_] at ul295_3
     have HL295_3 := zG (show Kd.V k24 24 _ w.heap.size _ _ ((rd_T24 l0 0).f3) from Kd.V_mk ul295_3 ge295_3)
     clear hva_ hvn_ hvc_ ge295_3 ul295_3
     clear hcc295 hce295
     have qi295 : (0 < l0.length) = True := eq_true (by omega)
     (try rw [show ((0 : Int)).toNat = 0 from rfl] at hx295_0)
     (try rw [show 0 * 4 = 0 from rfl] at hx295_0)
     (try rw [Addr.add_zero'] at hx295_0)
     (try rw [show ((0 : Int)).toNat = 0 from rfl] at hx295_1)
     (try rw [show 0 * 4 = 0 from rfl] at hx295_1)
     (try rw [Addr.add_zero'] at hx295_1)
     (try rw [show ((0 : Int)).toNat = 0 from rfl] at hx295_2)
     (try rw [show 0 * 4 = 0 from rfl] at hx295_2)
     (try rw [Addr.add_zero'] at hx295_2)
     (try rw [show ((0 : Int)).toNat = 0 from rfl] at hx295_3)
     (try rw [show 0 * 4 = 0 from rfl] at hx295_3)
     (try rw [Addr.add_zero'] at hx295_3)
     have HR295_3 := zG hi295_3
     have HC295_3 := zG hl295_3
     clear hi295_3 hl295_3
     have qv_ : 0 < l0.length := by omega
     replace p295 := eq_true p295
     replace q295 := eq_true q295
     have q14 : (1 : Int) ≤ ((l0.length : Int) : Int) := zAA (by assumption)
     obtain ⟨i014, hi014, _, hsz14, _⟩ := info_parts info24
     have hroom14 : l0.length ≤ c0 := (Kd.V_reads' HO0.out).2.1
     have hC14 : Kd.F k24 _ _ (some ad295) l0.length l0 := (Kd.V_at (base := w.heap.size) HO0.out).2.2
     have hcut14 := cut_from (P := Tryd.prog) 22 24 .i64 Tryd.underlying22 hi014 4 hsz14 (some ad295) l0.length c0 1 (by omega) q14
     have hr14 := Kd.F_cut (m := (1 : Int).toNat) (c := c0) hC14 (by omega) hroom14
     obtain ⟨A14, hA14⟩ : ∃ A1, A1 = (if c0 = (1 : Int).toNat then (some ad295) else ((some ad295) : Option Addr).map (·.add ((1 : Int).toNat * 4))) := ⟨_, rfl⟩
     obtain ⟨c14, hc14⟩ : ∃ c1, c1 = c0 - (1 : Int).toNat := ⟨_, rfl⟩
     have hy14 : y296.length = l0.length - (1 : Int).toNat := (by rw [Ny296.out, List.length_drop] <;> omega)
     rw [show (l0).drop (1 : Int).toNat = y296 from Ny296.out.symm] at hr14
     replace hr14 : Kd.F k24 _ _ A14 y296.length y296 := (by rw [hA14]; exact hr14)
     rw [← hy14, ← hA14, ← hc14] at hcut14
     have HO300 := zG (show Kd.V k24 24 _ w.heap.size _ (.slice A14 y296.length c14) y296 from Kd.V_mk (by rw [hy14, hc14]; exact Nat.sub_le_sub_right hroom14 _) hr14)
     have HC300 := zG (show y296.length ≤ c14 from by rw [hy14, hc14]; exact Nat.sub_le_sub_right hroom14 _)
     clear hr14 hC14 hroom14 hi014 hsz14 hc14
     have KY14 := zG hy14
     have KA14 := zG hA14
     clear hy14 hA14
     replace q14 := eq_true q14
     refine start_ (n := 9) (S := fun w' => w'.cell? ad295 = some (.int .i64 ((rd_T24 l0 0).f0)) ∧ w'.cell? ⟨ad295.block, ad295.off + 1, none⟩ = some (.int .i64 ((rd_T24 l0 0).f1)) ∧ w'.cell? ⟨ad295.block, ad295.off + 2, none⟩ = some (.string ((rd_T24 l0 0).f2)) ∧ w'.cell? ⟨ad295.block, ad295.off + 3, none⟩ = some (.slice A295_3 ((rd_T24 l0 0).f3).length c295_3)) (ds := []) #[false, false, false, false, false, false, false, false, false] (by kernel_rfl) rfl rfl ⟨hx295_0, hx295_1, hx295_2, hx295_3⟩ (fun hHeld => ?_); refine with_tabW hammockref09_Fun.tab5 hammockref09_Fun.bits5 (fun HT_ HW_ => ?_)
     generalize w12.drew = w13 at HO0 BK293 HB HL295_3 HO300 HR295_3 hx295_0 hx295_1 hx295_2 hx295_3 hHeld ⊢
     refine pure_ (i := 0) (N := some 13) (v := ?_) (a' := ?_) (zBM 9 1) rfl rfl (any_of HT_.out (by kernel_rfl)) (fun _ _ _ h => h) (Or.inl ⟨by rfl, ?_⟩) ?_ ?_
     rotate_left
     ·intro w'
      go_simp
      with_reducible rfl
     rotate_left
     ·simp only [Act.put, zO, zP, zR, i64_w, i32_w]
      rfl
     refine pure_ (i := 1) (N := some 14) (v := ?_) (a' := ?_) (zBM 9 3) rfl rfl (any_of HT_.out (by kernel_rfl)) (fun _ _ _ h => h) (Or.inl ⟨by rfl, ?_⟩) ?_ ?_
     rotate_left
     ·intro w'
      go_simp
      with_reducible rfl
     rotate_left
     ·simp only [Act.put, zO, zP, zR, i64_w, i32_w]
      rfl
     refine pure_ (i := 3) (N := some 16) (v := ?_) (a' := ?_) (zBM 9 11) rfl rfl (any_of HT_.out (by kernel_rfl)) (fun _ _ _ h => h) (Or.inl ⟨by rfl, ?_⟩) ?_ ?_
     rotate_left
     ·intro w'
      go_simp
      with_reducible rfl
     rotate_left
     ·simp only [Act.put, zO, zP, zR, i64_w, i32_w]
      rfl
     refine pure_ (i := 4) (N := some 17) (v := ?_) (a' := ?_) (zBM 9 27) rfl rfl (any_of HT_.out (by kernel_rfl)) (fun _ _ _ h => h) (Or.inl ⟨by rfl, ?_⟩) ?_ ?_
     rotate_left
     ·intro w'
      go_simp
      with_reducible rfl
     rotate_left
     ·simp only [Act.put, zO, zP, zR, i64_w, i32_w]
      rfl
     refine take_ (i := 2) (N := some 15) (v := ?_) (a' := ?_) (zBM 9 31) rfl rfl (take_ofW HT_.out HW_.out (by kernel_rfl)) (fun _ _ _ h => h) (Or.inl ⟨by rfl, ?_⟩) hHeld ?_ ?_
     rotate_left
     ·rintro w' ⟨s0, s1, s2, s3⟩
      go_simp
      with_reducible rfl
     rotate_left
     ·simp only [Act.put, zO, zP, zR, i64_w, i32_w]
      rfl
     refine one_ (i := 5) (N := some 18) (zBM 9 63) rfl rfl (one_of HT_.out (by kernel_rfl)) (by decide) (fun K hK => ?_)
     refine goes_ Tryd.func27 (by kernel_rfl) rfl #[.slice A14 y296.length c14] (by rfl) rfl rfl (by (try simp only [List.map_toArray, List.map_cons, List.map_nil]); first | done | rfl | (simp only [List.length_drop, List.length_take]; rfl)) ?_
     with_reducible refine (ih k (by omega) (fun k_ => ((P0_ k_ ∨ w.heap.size ≤ k_) ∧ k_ ≠ gb293)) _ _ y296 t301 t302 t303 t304 _ ?side1 A11.out).mono ?_
     (case side1 => exact HO300.out)
     rintro e w15 ⟨v305, rfl, ho0, hb⟩
     have HS0_ := (hb.cell (zS _ _ (hHeld.1))).trans (hHeld.1)
     have HS1_ := (hb.cell (zS _ _ (hHeld.2.1))).trans (hHeld.2.1)
     have HS2_ := (hb.cell (zS _ _ (hHeld.2.2.1))).trans (hHeld.2.2.1)
     have HS3_ := (hb.cell (zS _ _ (hHeld.2.2.2))).trans (hHeld.2.2.2)
     refine ⟨_, rfl, ?_⟩
     have n0_ := zG (Kd.V_below (by (with_reducible repeat (first | apply Kd.V_alloc | apply Kd.V_drewN | apply Kd.V_drew)); exact HO0.out) hb)
     have n1_ := zG (Kd.V_below (by (with_reducible repeat (first | apply Kd.V_alloc | apply Kd.V_drewN | apply Kd.V_drew)); exact HL295_3.out) hb)
     have n2_ := zG (Kd.V_below (by (with_reducible repeat (first | apply Kd.V_alloc | apply Kd.V_drewN | apply Kd.V_drew)); exact HO300.out) hb)
     have n3_ := zG (Kd.V_lower (Kd.V_mono (ok' := fun k_ => (P0_ k_ ∨ w.heap.size ≤ k_) ∧ k_ ≠ gb293) ho0 (fun k_ hk_ => ⟨Or.elim hk_ (fun hs_ => hs_.1) (fun hn_ => (.inr (Nat.le_trans (zF HB.out) hn_))), Or.elim hk_ (fun hs_ => hs_.2) (fun hn_ => (Kd.freshB (g := gb293) (o := .cells #[.int .i64 0, .int .i64 0, .string (⟨#[]⟩ : ByteArray), .slice none 0 0] 24 (0, 0)) BK293.out k_ hn_))⟩)) (zF HB.out))
     have n4_ := zG (zK (g := gb293) BK293.out hb)
     have n5_ := zG (zAC (by repeat (first | (with_reducible exact HR295_3.out) | (with_reducible refine zAE ?_ _) | (with_reducible refine zAF ?_ _) | (with_reducible refine zAG ?_) | exact HR295_3.out)) hb)
     have n6_ := zG (zE HB.out hb)
     clear HO0
     clear HL295_3
     clear HO300
     clear BK293
     clear HR295_3
     clear HB
     have HO0 := n0_
     have HL295_3 := n1_
     have HO300 := n2_
     have HO306 := n3_
     have BK293 := n4_
     have HR295_3 := n5_
     have HB := n6_
     clear n0_ n1_ n2_ n3_ n4_ n5_ n6_
     (try clear hb)
     (try clear hb2)
     (try clear hk)
     (try clear hi)
     (try clear ho0)
     obtain ⟨Ao16, co16, eo16⟩ := Kd.V_slice HO306.out
     (first | subst eo16 | (injection eo16 with f1_ f2_ f3_; have f4_ := f1_.symm; have f5_ := f3_.symm; clear f1_ f2_ f3_; subst f4_; subst f5_))
     refine hK.out _ _ ⟨HS0_, HS1_, HS2_, HS3_⟩ (fun hHeld => ?_)
     clear hK K
     refine norm_ (a' := ?_) ?_ ?_
     rotate_left
     ·show Act.put _ (some 18) _ = _
      simp only [Act.put, zO, zP, zR, i64_w, i32_w]
      rfl
     refine one_ (i := 6) (N := some 19) (zBM 9 127) rfl rfl (one_of HT_.out (by kernel_rfl)) (by decide) (fun K hK => ?_)
     refine Kd.N_lit_step k24 _ 24 ?hg (N' := 19) ?hd (xs := ([(⟨(rd_T24 l0 0).f0, (rd_T24 l0 0).f1, (rd_T24 l0 0).f2, (rd_T24 l0 0).f3⟩ : S24), (⟨t301, t302, t303, t304⟩ : S24)] : List (S24))) (inner := [.int .i64 ((rd_T24 l0 0).f0), .int .i64 ((rd_T24 l0 0).f1), .string ((rd_T24 l0 0).f2), .slice A295_3 ((rd_T24 l0 0).f3).length c295_3, .int .i64 t301, .int .i64 t302, .string t303, .slice Ao16 t304.length co16]) (ok := (fun k_ => (P0_ k_ ∨ w.heap.size ≤ k_) ∧ k_ ≠ gb293)) (okp := (fun k_ => (P0_ k_ ∨ w.heap.size ≤ k_) ∧ k_ ≠ gb293)) ?hr ?hp (fun _ hk => hk) ((show ∀ k_, w15.heap.size ≤ k_ → (fun k_ => (P0_ k_ ∨ w.heap.size ≤ k_) ∧ k_ ≠ gb293) k_ from fun k_ hk => ⟨(.inr (Nat.le_trans (zF HB.out) hk)), Kd.freshB (g := gb293) (o := .cells #[.int .i64 0, .int .i64 0, .string (⟨#[]⟩ : ByteArray), .slice none 0 0] 24 (0, 0)) BK293.out k_ hk⟩) _ (Nat.le_refl _)) (Below.refl _ _) (Nat.le_refl _) (by simp) ?_; (case hd => rfl); (case hg => rfl); (case hr => first | (go_simp; done) | (go_simp; rfl)); (case hp => exact (Reps.c4 (show Kd.FK k24 _ _ (⟨(rd_T24 l0 0).f0, (rd_T24 l0 0).f1, (rd_T24 l0 0).f2, (rd_T24 l0 0).f3⟩ : S24) [.int .i64 ((rd_T24 l0 0).f0), .int .i64 ((rd_T24 l0 0).f1), .string ((rd_T24 l0 0).f2), .slice A295_3 ((rd_T24 l0 0).f3).length c295_3] from (k24_mkF _ _ (⟨(rd_T24 l0 0).f0, (rd_T24 l0 0).f1, (rd_T24 l0 0).f2, (rd_T24 l0 0).f3⟩ : S24) (Kd.V_reads' (Kd.V_mono (ok' := (fun k_ => (P0_ k_ ∨ w.heap.size ≤ k_) ∧ k_ ≠ gb293)) (HL295_3.out) (fun k_ hk => ⟨hk.1, hk.2⟩))).2.1 (Kd.V_F (Kd.V_mono (ok' := (fun k_ => (P0_ k_ ∨ w.heap.size ≤ k_) ∧ k_ ≠ gb293)) (HL295_3.out) (fun k_ hk => ⟨hk.1, hk.2⟩))))) (Reps.c4 (show Kd.FK k24 _ _ (⟨t301, t302, t303, t304⟩ : S24) [.int .i64 t301, .int .i64 t302, .string t303, .slice Ao16 t304.length co16] from (k24_mkF _ _ (⟨t301, t302, t303, t304⟩ : S24) (Kd.V_reads' (Kd.V_mono (ok' := (fun k_ => (P0_ k_ ∨ w.heap.size ≤ k_) ∧ k_ ≠ gb293)) (HO306.out) (fun k_ hk => ⟨hk.1, hk.2⟩))).2.1 (Kd.V_F (Kd.V_mono (ok' := (fun k_ => (P0_ k_ ∨ w.heap.size ≤ k_) ∧ k_ ≠ gb293)) (HO306.out) (fun k_ hk => ⟨hk.1, hk.2⟩))))) (Reps.none _ _))))
     intro v308 w17 ho18 hb hg_ hnew_
     have HS0_ := (hb.cell (zS _ _ (hHeld.1))).trans (hHeld.1)
     have HS1_ := (hb.cell (zS _ _ (hHeld.2.1))).trans (hHeld.2.1)
     have HS2_ := (hb.cell (zS _ _ (hHeld.2.2.1))).trans (hHeld.2.2.1)
     have HS3_ := (hb.cell (zS _ _ (hHeld.2.2.2))).trans (hHeld.2.2.2)
     clear hg_ hnew_
     (first | rw [← Ny307.out] at ho18 | (simp only [Int.reduceToNat] at ho18; rw [← Ny307.out] at ho18))
     have n0_ := zG (Kd.V_elder' (by (with_reducible repeat (first | apply Kd.V_alloc | apply Kd.V_drewN | apply Kd.V_drew)); exact HO0.out) (Kd.N_base ho18) hb)
     have n1_ := zG (Kd.V_elder' (by (with_reducible repeat (first | apply Kd.V_alloc | apply Kd.V_drewN | apply Kd.V_drew)); exact HL295_3.out) (Kd.N_base ho18) hb)
     have n2_ := zG (Kd.V_elder' (by (with_reducible repeat (first | apply Kd.V_alloc | apply Kd.V_drewN | apply Kd.V_drew)); exact HO300.out) (Kd.N_base ho18) hb)
     have n3_ := zG (Kd.V_elder' (by (with_reducible repeat (first | apply Kd.V_alloc | apply Kd.V_drewN | apply Kd.V_drew)); exact HO306.out) (Kd.N_base ho18) hb)
     have n4_ := zG (Kd.N_lower ho18 (zF HB.out))
     have n5_ := zG (zK (g := gb293) BK293.out hb)
     have n6_ := zG (zAC (by repeat (first | (with_reducible exact HR295_3.out) | (with_reducible refine zAE ?_ _) | (with_reducible refine zAF ?_ _) | (with_reducible refine zAG ?_) | exact HR295_3.out)) hb)
     have n7_ := zG (zE HB.out hb)
     clear HO0
     clear HL295_3
     clear HO300
     clear HO306
     clear BK293
     clear HR295_3
     clear HB
     have HO0 := n0_
     have HL295_3 := n1_
     have HO300 := n2_
     have HO306 := n3_
     have HO309 := n4_
     have BK293 := n5_
     have HR295_3 := n6_
     have HB := n7_
     clear n0_ n1_ n2_ n3_ n4_ n5_ n6_ n7_
     clear hb ho18
     obtain ⟨Ao19, co19, eo19⟩ := Kd.N_slice HO309.out
     (first | subst eo19 | (injection eo19 with f1_ f2_ f3_; have f4_ := f1_.symm; have f5_ := f3_.symm; clear f1_ f2_ f3_; subst f4_; subst f5_))
     refine hK.out _ _ ⟨HS0_, HS1_, HS2_, HS3_⟩ (fun hHeld => ?_)
     clear hK K
     refine norm_ (a' := ?_) ?_ ?_
     rotate_left
     ·show Act.put _ (some 19) _ = _
      simp only [Act.put, zO, zP, zR, i64_w, i32_w]
      rfl
     refine pure_ (i := 7) (N := some 20) (v := ?_) (a' := ?_) (zBM 9 255) rfl rfl (any_of HT_.out (by kernel_rfl)) (fun _ _ _ h => h) (Or.inl ⟨by rfl, ?_⟩) ?_ ?_
     rotate_left
     ·intro w'
      go_simp
      with_reducible rfl
     rotate_left
     ·simp only [Act.put, zO, zP, zR, i64_w, i32_w]
      rfl
     refine one_ (i := 8) (N := none) (zBM 9 511) rfl rfl (one_of HT_.out (by kernel_rfl)) (by decide) (fun K hK => ?_)
     have hs20 : w17.cell? ⟨gb293, 0, none⟩ = some (.int .i64 0) := zL BK293.out 0
     have hfs20 := zM BK293.out 0
     have hs21 : w17.cell? ⟨gb293, 1, none⟩ = some (.int .i64 0) := zL BK293.out 1
     have hfs21 := zM BK293.out 1
     have hs22 : w17.cell? ⟨gb293, 2, none⟩ = some (.string (⟨#[]⟩ : ByteArray)) := zL BK293.out 2
     have hfs22 := zM BK293.out 2
     have hs23 : w17.cell? ⟨gb293, 3, none⟩ = some (.slice none 0 0) := zL BK293.out 3
     have hfs23 := zM BK293.out 3
     refine skip_ (w1 := ?_) (by rfl) rfl ?_ ?_
     rotate_left
     ·go_simp
      rfl
     refine hK.out _ _ ⟨((cell_far (p := ⟨gb293, _, none⟩) (by first | exact Kd.own_blk (V_away24 HO0.out qv_ (fun _ hk => hk.1.2)) | (rw [add_block]; exact Kd.own_blk (V_away24 HO0.out qv_ (fun _ hk => hk.1.2))) | (show (Addr.add _ _).block ≠ _; rw [add_block]; exact Kd.own_blk (V_away24 HO0.out qv_ (fun _ hk => hk.1.2))) | (dsimp only; exact Kd.own_blk (V_away24 HO0.out qv_ (fun _ hk => hk.1.2)))) _).trans (((cell_far (p := ⟨gb293, _, none⟩) (by first | exact Kd.own_blk (V_away24 HO0.out qv_ (fun _ hk => hk.1.2)) | (rw [add_block]; exact Kd.own_blk (V_away24 HO0.out qv_ (fun _ hk => hk.1.2))) | (show (Addr.add _ _).block ≠ _; rw [add_block]; exact Kd.own_blk (V_away24 HO0.out qv_ (fun _ hk => hk.1.2))) | (dsimp only; exact Kd.own_blk (V_away24 HO0.out qv_ (fun _ hk => hk.1.2)))) _).trans (((cell_far (p := ⟨gb293, _, none⟩) (by first | exact Kd.own_blk (V_away24 HO0.out qv_ (fun _ hk => hk.1.2)) | (rw [add_block]; exact Kd.own_blk (V_away24 HO0.out qv_ (fun _ hk => hk.1.2))) | (show (Addr.add _ _).block ≠ _; rw [add_block]; exact Kd.own_blk (V_away24 HO0.out qv_ (fun _ hk => hk.1.2))) | (dsimp only; exact Kd.own_blk (V_away24 HO0.out qv_ (fun _ hk => hk.1.2)))) _).trans (((cell_far (p := ⟨gb293, _, none⟩) (by first | exact Kd.own_blk (V_away24 HO0.out qv_ (fun _ hk => hk.1.2)) | (rw [add_block]; exact Kd.own_blk (V_away24 HO0.out qv_ (fun _ hk => hk.1.2))) | (show (Addr.add _ _).block ≠ _; rw [add_block]; exact Kd.own_blk (V_away24 HO0.out qv_ (fun _ hk => hk.1.2))) | (dsimp only; exact Kd.own_blk (V_away24 HO0.out qv_ (fun _ hk => hk.1.2)))) _).trans (hHeld.1)))))))), ((cell_far (p := ⟨gb293, _, none⟩) (by first | exact Kd.own_blk (V_away24 HO0.out qv_ (fun _ hk => hk.1.2)) | (rw [add_block]; exact Kd.own_blk (V_away24 HO0.out qv_ (fun _ hk => hk.1.2))) | (show (Addr.add _ _).block ≠ _; rw [add_block]; exact Kd.own_blk (V_away24 HO0.out qv_ (fun _ hk => hk.1.2))) | (dsimp only; exact Kd.own_blk (V_away24 HO0.out qv_ (fun _ hk => hk.1.2)))) _).trans (((cell_far (p := ⟨gb293, _, none⟩) (by first | exact Kd.own_blk (V_away24 HO0.out qv_ (fun _ hk => hk.1.2)) | (rw [add_block]; exact Kd.own_blk (V_away24 HO0.out qv_ (fun _ hk => hk.1.2))) | (show (Addr.add _ _).block ≠ _; rw [add_block]; exact Kd.own_blk (V_away24 HO0.out qv_ (fun _ hk => hk.1.2))) | (dsimp only; exact Kd.own_blk (V_away24 HO0.out qv_ (fun _ hk => hk.1.2)))) _).trans (((cell_far (p := ⟨gb293, _, none⟩) (by first | exact Kd.own_blk (V_away24 HO0.out qv_ (fun _ hk => hk.1.2)) | (rw [add_block]; exact Kd.own_blk (V_away24 HO0.out qv_ (fun _ hk => hk.1.2))) | (show (Addr.add _ _).block ≠ _; rw [add_block]; exact Kd.own_blk (V_away24 HO0.out qv_ (fun _ hk => hk.1.2))) | (dsimp only; exact Kd.own_blk (V_away24 HO0.out qv_ (fun _ hk => hk.1.2)))) _).trans (((cell_far (p := ⟨gb293, _, none⟩) (by first | exact Kd.own_blk (V_away24 HO0.out qv_ (fun _ hk => hk.1.2)) | (rw [add_block]; exact Kd.own_blk (V_away24 HO0.out qv_ (fun _ hk => hk.1.2))) | (show (Addr.add _ _).block ≠ _; rw [add_block]; exact Kd.own_blk (V_away24 HO0.out qv_ (fun _ hk => hk.1.2))) | (dsimp only; exact Kd.own_blk (V_away24 HO0.out qv_ (fun _ hk => hk.1.2)))) _).trans (hHeld.2.1)))))))), ((cell_far (p := ⟨gb293, _, none⟩) (by first | exact Kd.own_blk (V_away24 HO0.out qv_ (fun _ hk => hk.1.2)) | (rw [add_block]; exact Kd.own_blk (V_away24 HO0.out qv_ (fun _ hk => hk.1.2))) | (show (Addr.add _ _).block ≠ _; rw [add_block]; exact Kd.own_blk (V_away24 HO0.out qv_ (fun _ hk => hk.1.2))) | (dsimp only; exact Kd.own_blk (V_away24 HO0.out qv_ (fun _ hk => hk.1.2)))) _).trans (((cell_far (p := ⟨gb293, _, none⟩) (by first | exact Kd.own_blk (V_away24 HO0.out qv_ (fun _ hk => hk.1.2)) | (rw [add_block]; exact Kd.own_blk (V_away24 HO0.out qv_ (fun _ hk => hk.1.2))) | (show (Addr.add _ _).block ≠ _; rw [add_block]; exact Kd.own_blk (V_away24 HO0.out qv_ (fun _ hk => hk.1.2))) | (dsimp only; exact Kd.own_blk (V_away24 HO0.out qv_ (fun _ hk => hk.1.2)))) _).trans (((cell_far (p := ⟨gb293, _, none⟩) (by first | exact Kd.own_blk (V_away24 HO0.out qv_ (fun _ hk => hk.1.2)) | (rw [add_block]; exact Kd.own_blk (V_away24 HO0.out qv_ (fun _ hk => hk.1.2))) | (show (Addr.add _ _).block ≠ _; rw [add_block]; exact Kd.own_blk (V_away24 HO0.out qv_ (fun _ hk => hk.1.2))) | (dsimp only; exact Kd.own_blk (V_away24 HO0.out qv_ (fun _ hk => hk.1.2)))) _).trans (((cell_far (p := ⟨gb293, _, none⟩) (by first | exact Kd.own_blk (V_away24 HO0.out qv_ (fun _ hk => hk.1.2)) | (rw [add_block]; exact Kd.own_blk (V_away24 HO0.out qv_ (fun _ hk => hk.1.2))) | (show (Addr.add _ _).block ≠ _; rw [add_block]; exact Kd.own_blk (V_away24 HO0.out qv_ (fun _ hk => hk.1.2))) | (dsimp only; exact Kd.own_blk (V_away24 HO0.out qv_ (fun _ hk => hk.1.2)))) _).trans (hHeld.2.2.1)))))))), ((cell_far (p := ⟨gb293, _, none⟩) (by first | exact Kd.own_blk (V_away24 HO0.out qv_ (fun _ hk => hk.1.2)) | (rw [add_block]; exact Kd.own_blk (V_away24 HO0.out qv_ (fun _ hk => hk.1.2))) | (show (Addr.add _ _).block ≠ _; rw [add_block]; exact Kd.own_blk (V_away24 HO0.out qv_ (fun _ hk => hk.1.2))) | (dsimp only; exact Kd.own_blk (V_away24 HO0.out qv_ (fun _ hk => hk.1.2)))) _).trans (((cell_far (p := ⟨gb293, _, none⟩) (by first | exact Kd.own_blk (V_away24 HO0.out qv_ (fun _ hk => hk.1.2)) | (rw [add_block]; exact Kd.own_blk (V_away24 HO0.out qv_ (fun _ hk => hk.1.2))) | (show (Addr.add _ _).block ≠ _; rw [add_block]; exact Kd.own_blk (V_away24 HO0.out qv_ (fun _ hk => hk.1.2))) | (dsimp only; exact Kd.own_blk (V_away24 HO0.out qv_ (fun _ hk => hk.1.2)))) _).trans (((cell_far (p := ⟨gb293, _, none⟩) (by first | exact Kd.own_blk (V_away24 HO0.out qv_ (fun _ hk => hk.1.2)) | (rw [add_block]; exact Kd.own_blk (V_away24 HO0.out qv_ (fun _ hk => hk.1.2))) | (show (Addr.add _ _).block ≠ _; rw [add_block]; exact Kd.own_blk (V_away24 HO0.out qv_ (fun _ hk => hk.1.2))) | (dsimp only; exact Kd.own_blk (V_away24 HO0.out qv_ (fun _ hk => hk.1.2)))) _).trans (((cell_far (p := ⟨gb293, _, none⟩) (by first | exact Kd.own_blk (V_away24 HO0.out qv_ (fun _ hk => hk.1.2)) | (rw [add_block]; exact Kd.own_blk (V_away24 HO0.out qv_ (fun _ hk => hk.1.2))) | (show (Addr.add _ _).block ≠ _; rw [add_block]; exact Kd.own_blk (V_away24 HO0.out qv_ (fun _ hk => hk.1.2))) | (dsimp only; exact Kd.own_blk (V_away24 HO0.out qv_ (fun _ hk => hk.1.2)))) _).trans (hHeld.2.2.2))))))))⟩ (fun hHeld => ?_)
     clear hK K
     refine done_ (done_of HT_.out (by kernel_rfl)) ?_
     try go_wp2
     refine bodyPost_ret (results_cell_row rfl _ _ gb293 24 #[.int .i64 3, .int .i64 0, .string (⟨#[]⟩ : ByteArray), .slice Ao19 y307.length co19] (0, 0) _ rfl (by (with_reducible repeat (first | refine zH ?_ _ | refine zI ?_ | refine zJ ?_ _)); refine zAH (cs := #[.int .i64 3, .int .i64 0, .string (⟨#[]⟩ : ByteArray), .slice none 0 0]) ?_ 3 _ rfl; (with_reducible repeat (first | refine zH ?_ _ | refine zI ?_ | refine zJ ?_ _)); refine zAH (cs := #[.int .i64 3, .int .i64 0, .string (⟨#[]⟩ : ByteArray), .slice none 0 0]) ?_ 2 _ rfl; (with_reducible repeat (first | refine zH ?_ _ | refine zI ?_ | refine zJ ?_ _)); refine zAH (cs := #[.int .i64 3, .int .i64 0, .string (⟨#[]⟩ : ByteArray), .slice none 0 0]) ?_ 1 _ rfl; (with_reducible repeat (first | refine zH ?_ _ | refine zI ?_ | refine zJ ?_ _)); refine zAH (cs := #[.int .i64 0, .int .i64 0, .string (⟨#[]⟩ : ByteArray), .slice none 0 0]) ?_ 0 _ rfl; (with_reducible repeat (first | refine zH ?_ _ | refine zI ?_ | refine zJ ?_ _)); exact BK293.out) Tryd.underlying24 rfl (by kernel_rfl)) rfl ?_
     exact ⟨_, by first | rfl | (simp [errW_none, errW_some] <;> rfl) | (simp [*, errW_none, errW_some] <;> rfl), Kd.N_V (by (with_reducible repeat (first | apply Kd.N_alloc | apply Kd.N_drewN | apply Kd.N_drew)); exact Kd.N_mono (Kd.N_far (p := ⟨gb293, 3, none⟩) (Kd.N_far (p := ⟨gb293, 2, none⟩) (Kd.N_far (p := ⟨gb293, 1, none⟩) (Kd.N_far (p := ⟨gb293, 0, none⟩) (Kd.N_mono HO309.out (fun k_ hk => (⟨hk, hk.2⟩ : _ ∧ k_ ≠ gb293))) (fun _ hk => hk.2) (.int .i64 3)) (fun _ hk => hk.2) (.int .i64 0)) (fun _ hk => hk.2) (.string (⟨#[]⟩ : ByteArray))) (fun _ hk => hk.2) (.slice Ao19 y307.length co19)) (fun _ hk => hk.1.1)), by repeat (first | (with_reducible first | exact HB.out | apply zA | apply zB | apply zC | refine zD ?_ GE293.out) | exact HB.out)⟩
    ·rw [if_neg c10] at H
     exact absurd H (by simp)
   ·rw [if_neg c9] at H
    exact absurd H (by simp)

def hammockref09_Con.f (a0 : ByteArray) (l1 : List (S24)) : Option (Int × Int × ByteArray × (List (S24))) := (some (([] : List (S24)) : List (S24))).bind fun y311 => (if y311.length + l1.length < 2513169434916 then (some (2, 0, a0, (y311 ++ l1))) else (none))
set_option maxHeartbeats 8000000 in
set_option maxRecDepth 100000 in
theorem hammockref09_Con.calls (a0 : ByteArray) (P1_ : Nat → Prop) (A1 : Option Addr) (c1 : Nat) (l1 : List (S24)) (r1 : Int) (r2 : Int) (r3 : ByteArray) (r4 : List (S24)) (w : World) (hs1 : Kd.V k24 24 w w.heap.size (fun k_ => P1_ k_) (.slice A1 l1.length c1) l1) (h : hammockref09_Con.f a0 l1 = some (r1, r2, r3, r4)) :
  Calls Tryd.prog 29 #[.string a0, .slice A1 l1.length c1] w fun e w' => ∃ v3_ : Value, e = .returned (.agg #[.int .i64 r1, .int .i64 r2, .string r3, v3_]) ∧ Kd.N k24 24 w' w.heap.size (fun k_ => (P1_ k_ ∨ w.heap.size ≤ k_)) v3_ r4 ∧ Below w.heap.size w w' := by
 have hu24 := Tryd.underlying24
 have HO1 := zG (show Kd.V k24 24 w w.heap.size (fun k_ => (P1_ k_ ∨ w.heap.size ≤ k_)) (.slice A1 l1.length c1) l1 from Kd.V_mono hs1 (fun k_ hk => .inl hk))
 have HB := zG (Below.refl w.heap.size w)
 have H : ((some (([] : List (S24)) : List (S24))).bind fun y311 => (if y311.length + l1.length < 2513169434916 then (some (2, 0, a0, (y311 ++ l1))) else (none))) = some (r1, r2, r3, r4) := h
 clear h
 obtain ⟨y311, hy311⟩ : ∃ y_ : List (S24), y_ = (([] : List (S24))) := ⟨_, rfl⟩
 replace H : (if y311.length + l1.length < 2513169434916 then (some (2, 0, a0, (y311 ++ l1))) else (none)) = some (r1, r2, r3, r4) := by first | (rw [hy311]; with_reducible exact H) | (have H2_ := (Option.bind_some _ _).symm.trans H; rw [hy311]; with_reducible exact H2_) | (have H2_ := (Option.bind_some _ _).symm.trans H; with_reducible exact H2_) | with_reducible exact H | (rw [hy311]; exact H) | exact H
 have Ny311 := zG hy311
 clear hy311
 by_cases c3 : y311.length + l1.length < 2513169434916
 ·rw [if_pos c3] at H
  have LMc3 := zG c3
  clear c3
  obtain ⟨y314, hy314⟩ : ∃ y_ : List (S24), y_ = (y311 ++ l1) := ⟨_, rfl⟩
  replace H : (some (2, 0, a0, y314)) = some (r1, r2, r3, r4) := by first | (rw [hy314]; with_reducible exact H) | (have H2_ := (Option.bind_some _ _).symm.trans H; rw [hy314]; with_reducible exact H2_) | (have H2_ := (Option.bind_some _ _).symm.trans H; with_reducible exact H2_) | with_reducible exact H | (rw [hy314]; exact H) | exact H
  have Ny314 := zG hy314
  clear hy314
  simp only [Option.some.injEq, Prod.mk.injEq] at H
  obtain ⟨rfl, rfl, rfl, rfl⟩ := H
  go_enter Tryd.func29, Tryd.ntmps29
  go_wp2_with (first | ((with_reducible refine gate_dst (N := 4) rfl ?_); refine box_event ?hg (N := 4) ?hd (cs := #[.int .i64 0, .int .i64 0, .string (⟨#[]⟩ : ByteArray), .slice none 0 0]) (t := 24) ?hr ?_; (case hd => rfl); (case hg => rfl); (case hr => first | (go_simp; done) | (go_simp; rfl)); intro gb310 hg w4 hbox hb; have n0_ := zG (Kd.V_below (Kd.V_elderB (by (with_reducible repeat (first | apply Kd.V_alloc | apply Kd.V_drewN | apply Kd.V_drew)); exact HO1.out) gb310 (Nat.le_of_eq hg.symm)) hb); have n1_ := zG (zE HB.out hb); have n2_ := zG (hbox); have n3_ := zG ((by rw [hg]; exact (zF HB.out) : w.heap.size ≤ gb310)); have n4_ := n3_; clear HO1; clear HB; have HO1 := n0_; have HB := n1_; have BK310 := n2_; have GW310 := n3_; have GE310 := n4_; clear n0_ n1_ n2_ n3_ n4_; clear hb hbox hg) | ((with_reducible refine gate_dst (N := 6) rfl ?_); refine Kd.N_lit k24 _ 24 ?hg (N' := 6) ?hd (xs := ([] : List (S24))) (inner := []) (ok := (fun k_ => (P1_ k_ ∨ w.heap.size ≤ k_) ∧ k_ ≠ gb310)) (okp := (fun k_ => (P1_ k_ ∨ w.heap.size ≤ k_) ∧ k_ ≠ gb310)) ?hr ?hp (fun _ hk => hk) ((show ∀ k_, w4.heap.size ≤ k_ → (fun k_ => (P1_ k_ ∨ w.heap.size ≤ k_) ∧ k_ ≠ gb310) k_ from fun k_ hk => ⟨(.inr (Nat.le_trans (zF HB.out) hk)), Kd.freshB (g := gb310) (o := .cells #[.int .i64 0, .int .i64 0, .string (⟨#[]⟩ : ByteArray), .slice none 0 0] 24 (0, 0)) BK310.out k_ hk⟩) _ (Nat.le_refl _)) (Below.refl _ _) (Nat.le_refl _) (by simp) ?_; (case hd => rfl); (case hg => rfl); (case hr => first | (go_simp; done) | (go_simp; rfl)); (case hp => exact (Reps.none _ _)); intro v312 w5 ho6 hb hg_ hnew_; clear hg_ hnew_; (first | rw [← Ny311.out] at ho6 | (simp only [Int.reduceToNat] at ho6; rw [← Ny311.out] at ho6)); have n0_ := zG (Kd.V_elder' (by (with_reducible repeat (first | apply Kd.V_alloc | apply Kd.V_drewN | apply Kd.V_drew)); exact HO1.out) (Kd.N_base ho6) hb); have n1_ := zG (Kd.N_lower ho6 (zF HB.out)); have n2_ := zG (zK (g := gb310) BK310.out hb); have n3_ := zG (zE HB.out hb); clear HO1; clear BK310; clear HB; have HO1 := n0_; have HO313 := n1_; have BK310 := n2_; have HB := n3_; clear n0_ n1_ n2_ n3_; clear hb ho6) | ((with_reducible refine gate_builtin (b := .append) (xs := #[.tmp 6, .tmp 7]) rfl ?_); at_builtin; refine Kd.N_append_rows k24 (w0 := w) w.heap.size rfl (.tmp 6) (.tmp 7) 22 24 (.agg #[(.int .i64 0), (.int .i64 0), (.string ⟨#[]⟩), (.slice none 0 0)]) 56 rfl Tryd.underlying22 info24 rfl (by decide) (by omega) v312 y311 l1 _ _ _ (fun k_ => (P1_ k_ ∨ w.heap.size ≤ k_) ∧ k_ ≠ gb310) (fun k_ => ((fun k_ => (P1_ k_ ∨ w.heap.size ≤ k_) ∧ k_ ≠ gb310)) k_ ∧ some k_ ≠ (v312 : Value).ownBlock) rfl rfl ?aO ?aR (fun _ hk => hk) ?aF ?aB ?aS ?aL ?_; (case aR => exact (by skip; exact Kd.V_F (Kd.V_mono (ok' := (fun k_ => ((fun k_ => (P1_ k_ ∨ w.heap.size ≤ k_) ∧ k_ ≠ gb310)) k_ ∧ some k_ ≠ (v312 : Value).ownBlock)) (HO1.out) (fun k_ hk => ⟨⟨hk.1.1, hk.1.2⟩, hk.2⟩)))); (case aB => exact HB.out); (case aF => exact (fun k_ hk => ⟨(.inr (Nat.le_trans (zF HB.out) hk)), Kd.freshB (g := gb310) (o := .cells #[.int .i64 0, .int .i64 0, .string (⟨#[]⟩ : ByteArray), .slice none 0 0] 24 (0, 0)) BK310.out k_ hk⟩)); (case aO => exact (by (with_reducible repeat (first | apply Kd.N_alloc | apply Kd.N_drewN | apply Kd.N_drew)); exact HO313.out)); (case aS => exact (zF HB.out)); (case aL => have := LMc3.out; omega); intro v315 w7 ho hb hg hat; rw [← Ny314.out] at ho; have n0_ := zG (Kd.V_afterv (ok := (fun k_ => (P1_ k_ ∨ w.heap.size ≤ k_) ∧ k_ ≠ gb310)) (by (with_reducible repeat (first | apply Kd.V_alloc | apply Kd.V_drewN | apply Kd.V_drew)); exact HO1.out) hg hat); have n1_ := zG (blk_grown (g := gb310) (o := .cells #[.int .i64 0, .int .i64 0, .string (⟨#[]⟩ : ByteArray), .slice none 0 0] 24 (0, 0)) BK310.out hg (Kd.N_away HO313.out (fun _ hk => hk.2))); have n2_ := zG (hb); have n3_ := zG (ho); clear HO1; clear BK310; clear HB; clear HO313; have HO1 := n0_; have BK310 := n1_; have HB := n2_; have HO316 := n3_; clear n0_ n1_ n2_ n3_; clear ho hb hg hat; obtain ⟨Ao8, co8, eo8⟩ := Kd.N_slice HO316.out; subst eo8; obtain ⟨hcz9_0, hcz9_1, hcz9_2, hcz9_3⟩ := zN BK310.out; have hfz9_0 := zM BK310.out 0; have hfz9_1 := zM BK310.out 1; have hfz9_2 := zM BK310.out 2; have hfz9_3 := zM BK310.out 3))
  refine bodyPost_ret (results_cell_row rfl _ _ gb310 24 #[.int .i64 2, .int .i64 0, .string a0, .slice Ao8 y314.length co8] (0, 0) _ rfl (by (with_reducible repeat (first | refine zH ?_ _ | refine zI ?_ | refine zJ ?_ _)); refine zAH (cs := #[.int .i64 2, .int .i64 0, .string a0, .slice none 0 0]) ?_ 3 _ rfl; (with_reducible repeat (first | refine zH ?_ _ | refine zI ?_ | refine zJ ?_ _)); refine zAH (cs := #[.int .i64 2, .int .i64 0, .string (⟨#[]⟩ : ByteArray), .slice none 0 0]) ?_ 2 _ rfl; (with_reducible repeat (first | refine zH ?_ _ | refine zI ?_ | refine zJ ?_ _)); refine zAH (cs := #[.int .i64 2, .int .i64 0, .string (⟨#[]⟩ : ByteArray), .slice none 0 0]) ?_ 1 _ rfl; (with_reducible repeat (first | refine zH ?_ _ | refine zI ?_ | refine zJ ?_ _)); refine zAH (cs := #[.int .i64 0, .int .i64 0, .string (⟨#[]⟩ : ByteArray), .slice none 0 0]) ?_ 0 _ rfl; (with_reducible repeat (first | refine zH ?_ _ | refine zI ?_ | refine zJ ?_ _)); exact BK310.out) Tryd.underlying24 rfl (by kernel_rfl)) rfl ?_
  exact ⟨_, by first | rfl | (simp [errW_none, errW_some] <;> rfl) | (simp [*, errW_none, errW_some] <;> rfl), by (with_reducible repeat (first | apply Kd.N_alloc | apply Kd.N_drewN | apply Kd.N_drew)); exact Kd.N_mono (Kd.N_far (p := ⟨gb310, 3, none⟩) (Kd.N_far (p := ⟨gb310, 2, none⟩) (Kd.N_far (p := ⟨gb310, 1, none⟩) (Kd.N_far (p := ⟨gb310, 0, none⟩) (Kd.N_mono HO316.out (fun k_ hk => (⟨hk, hk.2⟩ : _ ∧ k_ ≠ gb310))) (fun _ hk => hk.2) (.int .i64 2)) (fun _ hk => hk.2) (.int .i64 0)) (fun _ hk => hk.2) (.string a0)) (fun _ hk => hk.2) (.slice Ao8 y314.length co8)) (fun _ hk => hk.1.1), by repeat (first | (with_reducible first | exact HB.out | apply zA | apply zB | apply zC | refine zD ?_ GE310.out) | exact HB.out)⟩
 ·rw [if_neg c3] at H
  exact absurd H (by simp)

end Go.Proofs.YtddmdiaopaoekaaDoor.P
