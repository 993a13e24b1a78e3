-- written by a program of this session's (wip/tools/extprint.py) over the kit's print
import Derived.Test.YtddmdiaopaoekaaDoorPx0
import Derived.Test.YtddmdiaopaoekaaDoorPx2
import Derived.Test.YtddmdiaopaoekaaDoorPx7
import Derived.Test.YtddmdiaopaoekaaDoorSq
namespace Go.Proofs.YtddmdiaopaoekaaDoor.P
open Go.RowKit Go.Proofs.YtddmdiaopaoekaaDoorW.PrintWords Go.Proofs.YtddmdiaopaoekaaDoorW.PrintLast Go.Proofs.YtddmdiaopaoekaaDoorW.PrintMore
attribute [local go_sem] max2_int min2_int max_two min_two max_three min_three max_four min_four   -- for this text's walks alone
set_option linter.unusedVariables false
set_option linter.unusedSimpArgs false

def hammockref09_Subst.f (k : Nat) (a0_0 : Int) (a0_1 : Int) (a0_2 : ByteArray) (l0_3 : List (S24)) (l1 : List (S24)) : Option (Int × Int × ByteArray × (List (S24))) := (hammockref09_Right.f k a0_0 a0_1 a0_2 l0_3).bind fun t335 => (if t335 = true then ((hammockref09_subst.f k a0_0 a0_1 a0_2 l0_3 l1).bind fun bt336 => (some (bt336.1, bt336.2.1, bt336.2.2.1, bt336.2.2.2))) else (some (0, 0, (⟨#[]⟩ : ByteArray), ([] : List (S24)))))
set_option maxHeartbeats 8000000 in
set_option maxRecDepth 100000 in
theorem hammockref09_Subst.calls (k : Nat) (a0_0 : Int) (a0_1 : Int) (a0_2 : ByteArray) (A0_3 : Option Addr) (c0_3 : Nat) (l0_3 : List (S24)) (P1_ : Nat → Prop) (A1 : Option Addr) (c1 : Nat) (l1 : List (S24)) (r1 : Int) (r2 : Int) (r3 : ByteArray) (r4 : List (S24)) (w : World) (hr0_3 : Kd.C k24 w A0_3 l0_3.length l0_3) (hc0_3 : l0_3.length ≤ c0_3) (hs1 : Kd.V k24 24 w w.heap.size (fun k_ => P1_ k_) (.slice A1 l1.length c1) l1) (h : hammockref09_Subst.f k a0_0 a0_1 a0_2 l0_3 l1 = some (r1, r2, r3, r4)) :
  Calls Tryd.prog 32 #[.agg #[.int .i64 a0_0, .int .i64 a0_1, .string a0_2, .slice A0_3 l0_3.length c0_3], .slice A1 l1.length c1] w fun e w' => ∃ v3_ : Value, e = .returned (.agg #[.int .i64 r1, .int .i64 r2, .string r3, v3_]) ∧ Kd.V k24 24 w' w.heap.size (fun k_ => (P1_ k_ ∨ w.heap.size ≤ k_)) v3_ r4 ∧ Below w.heap.size w w' := by
 have hu24 := Tryd.underlying24
 have HR0_3 := zG hr0_3
 have HC0_3 := zG hc0_3
 clear hr0_3 hc0_3
 have HO1 := zG (show Kd.V k24 24 w w.heap.size (fun k_ => (P1_ k_ ∨ w.heap.size ≤ k_)) (.slice A1 l1.length c1) l1 from Kd.V_mono hs1 (fun k_ hk => .inl hk))
 have HB := zG (Below.refl w.heap.size w)
 have H : ((hammockref09_Right.f k a0_0 a0_1 a0_2 l0_3).bind fun t335 => (if t335 = true then ((hammockref09_subst.f k a0_0 a0_1 a0_2 l0_3 l1).bind fun bt336 => (some (bt336.1, bt336.2.1, bt336.2.2.1, bt336.2.2.2))) else (some (0, 0, (⟨#[]⟩ : ByteArray), ([] : List (S24)))))) = some (r1, r2, r3, r4) := h
 clear h
 replace H := zT H
 obtain ⟨t335, A30, H⟩ := H
 replace H : (if t335 = true then ((hammockref09_subst.f k a0_0 a0_1 a0_2 l0_3 l1).bind fun bt336 => (some (bt336.1, bt336.2.1, bt336.2.2.1, bt336.2.2.2))) else (some (0, 0, (⟨#[]⟩ : ByteArray), ([] : List (S24))))) = some (r1, r2, r3, r4) := H
 have A3 := zG A30
 clear A30
 by_cases c4 : t335 = true
 ·subst c4
  have H1 : ((hammockref09_subst.f k a0_0 a0_1 a0_2 l0_3 l1).bind fun bt336 => (some (bt336.1, bt336.2.1, bt336.2.2.1, bt336.2.2.2))) = some (r1, r2, r3, r4) := by rw [if_pos rfl] at H; exact H
  clear H
  have H := H1
  clear H1
  replace H := zT H
  obtain ⟨⟨t336, t337, t338, t339⟩, A50, H⟩ := H
  replace H : (some (t336, t337, t338, t339)) = some (r1, r2, r3, r4) := H
  have A5 := zG A50
  clear A50
  simp only [Option.some.injEq, Prod.mk.injEq] at H
  obtain ⟨rfl, rfl, rfl, rfl⟩ := H
  go_enter Tryd.func32, Tryd.ntmps32
  go_wp2_with (first | ((with_reducible refine gate_dst (N := 2) rfl ?_); refine box_event ?hg (N := 2) ?hd (cs := #[.int .i64 a0_0, .int .i64 a0_1, .string a0_2, .slice A0_3 l0_3.length c0_3]) (t := 24) ?hr ?_; (case hd => rfl); (case hg => rfl); (case hr => first | (go_simp; done) | (go_simp; rfl)); intro gb333 hg w6 hbox hb; have n0_ := zG (Kd.V_below (Kd.V_elderB (by (with_reducible repeat (first | apply Kd.V_alloc | apply Kd.V_drewN | apply Kd.V_drew)); exact HO1.out) gb333 (Nat.le_of_eq hg.symm)) hb); have n1_ := zG (zE (by repeat (first | (with_reducible first | exact HB.out | apply zA | apply zB | apply zC) | exact HB.out)) hb); have n2_ := zG (hbox); have n3_ := zG ((by rw [hg]; exact (zF (by repeat (first | (with_reducible first | exact HB.out | apply zA | apply zB | apply zC) | exact HB.out))) : w.heap.size ≤ gb333)); have n4_ := n3_; clear HO1; clear HB; have HO1 := n0_; have HB := n1_; have BK333 := n2_; have GW333 := n3_; have GE333 := n4_; clear n0_ n1_ n2_ n3_ n4_; clear hb hbox hg) | ((with_reducible refine gate_dst (N := 4) rfl ?_); refine box_event ?hg (N := 4) ?hd (cs := #[.int .i64 0, .int .i64 0, .string (⟨#[]⟩ : ByteArray), .slice none 0 0]) (t := 24) ?hr ?_; (case hd => rfl); (case hg => rfl); (case hr => first | (go_simp; done) | (go_simp; rfl)); intro gb334 hg w7 hbox hb; have n0_ := zG (Kd.V_below (Kd.V_elderB (by (with_reducible repeat (first | apply Kd.V_alloc | apply Kd.V_drewN | apply Kd.V_drew)); exact HO1.out) gb334 (Nat.le_of_eq hg.symm)) hb); have n1_ := zG (zK (g := gb333) (by (with_reducible repeat (first | refine zH ?_ _ | refine zI ?_ | refine zJ ?_ _)); exact BK333.out) hb); have n2_ := zG (zE (by repeat (first | (with_reducible first | exact HB.out | apply zA | apply zB | apply zC | refine zD ?_ GE333.out) | exact HB.out)) hb); have n3_ := zG (hbox); have n4_ := zG ((by rw [hg]; exact (zF (by repeat (first | (with_reducible first | exact HB.out | apply zA | apply zB | apply zC | refine zD ?_ GE333.out) | exact HB.out))) : w.heap.size ≤ gb334)); have n5_ := n4_; have n6_ := zG ((by rw [hg]; exact Nat.ne_of_lt (zAD (g := gb333) (by (with_reducible repeat (first | refine zH ?_ _ | refine zI ?_ | refine zJ ?_ _)); exact BK333.out)) : gb333 ≠ gb334)); have n7_ := zG ((by rw [hg]; exact Nat.ne_of_gt (zAD (g := gb333) (by (with_reducible repeat (first | refine zH ?_ _ | refine zI ?_ | refine zJ ?_ _)); exact BK333.out)) : gb334 ≠ gb333)); clear HO1; clear BK333; clear HB; have HO1 := n0_; have BK333 := n1_; have HB := n2_; have BK334 := n3_; have GW334 := n4_; have GE334 := n5_; have NB333_334 := n6_; have NB334_333 := n7_; clear n0_ n1_ n2_ n3_ n4_ n5_ n6_ n7_; clear hb hbox hg; have hnb8 := NB333_334.out; have hnc8 := NB334_333.out; obtain ⟨hcz9_0, hcz9_1, hcz9_2, hcz9_3⟩ := zN BK333.out; have hfz9_0 := zM BK333.out 0; have hfz9_1 := zM BK333.out 1; have hfz9_2 := zM BK333.out 2; have hfz9_3 := zM BK333.out 3) | ((with_reducible refine gate_callee (f := 17) rfl ?_); refine goesL_ (some 6) rfl rfl Tryd.func17 (by kernel_rfl) rfl #[.agg #[.int .i64 a0_0, .int .i64 a0_1, .string a0_2, .slice A0_3 l0_3.length c0_3]] rfl (by (try simp only [List.map_toArray, List.map_cons, List.map_nil]); first | done | rfl | (simp only [List.length_drop, List.length_take]; rfl)) ?_; (with_reducible refine (hammockref09_Right.calls k a0_0 a0_1 a0_2 _ _ l0_3 true _ ?side1 ?side2 A3.out).mono ?_); (case side1 => repeat (first | exact (zAC HR0_3.out HB.out) | (with_reducible refine zAE ?_ _) | (with_reducible refine zAF ?_ _) | (with_reducible refine zAG ?_))); (case side2 => exact HC0_3.out); rintro e w10 ⟨rfl, hb⟩; refine ⟨_, rfl, ?_⟩; have n0_ := zG (Kd.V_below (by (with_reducible repeat (first | apply Kd.V_alloc | apply Kd.V_drewN | apply Kd.V_drew)); exact HO1.out) hb); have n1_ := zG (zK (g := gb333) (by (with_reducible repeat (first | refine zH ?_ _ | refine zI ?_ | refine zJ ?_ _)); exact BK333.out) hb); have n2_ := zG (zK (g := gb334) (by (with_reducible repeat (first | refine zH ?_ _ | refine zI ?_ | refine zJ ?_ _)); exact BK334.out) hb); have n3_ := zG (zE (by repeat (first | (with_reducible first | exact HB.out | apply zA | apply zB | apply zC | refine zD ?_ GE333.out | refine zD ?_ GE334.out) | exact HB.out)) hb); clear HO1; clear BK333; clear BK334; clear HB; have HO1 := n0_; have BK333 := n1_; have BK334 := n2_; have HB := n3_; clear n0_ n1_ n2_ n3_; (try clear hb); (try clear hb2); (try clear hk); (try clear hi); obtain ⟨hcz11_0, hcz11_1, hcz11_2, hcz11_3⟩ := zN BK333.out; have hfz11_0 := zM BK333.out 0; have hfz11_1 := zM BK333.out 1; have hfz11_2 := zM BK333.out 2; have hfz11_3 := zM BK333.out 3) | ((with_reducible refine gate_callee (f := 59) rfl ?_); refine goesL_ (some 11) rfl rfl Tryd.func59 (by kernel_rfl) rfl #[.agg #[.int .i64 a0_0, .int .i64 a0_1, .string a0_2, .slice A0_3 l0_3.length c0_3], .slice A1 l1.length c1] rfl (by (try simp only [List.map_toArray, List.map_cons, List.map_nil]); first | done | rfl | (simp only [List.length_drop, List.length_take]; rfl)) ?_; (with_reducible refine (hammockref09_subst.calls k a0_0 a0_1 a0_2 _ _ l0_3 (fun k_ => (((P1_ k_ ∨ w.heap.size ≤ k_) ∧ k_ ≠ gb333) ∧ k_ ≠ gb334)) _ _ l1 t336 t337 t338 t339 _ ?side1 ?side2 ?side3 A5.out).mono ?_); (case side1 => repeat (first | exact (zAC HR0_3.out HB.out) | (with_reducible refine zAE ?_ _) | (with_reducible refine zAF ?_ _) | (with_reducible refine zAG ?_))); (case side2 => exact HC0_3.out); (case side3 => exact HO1.out); rintro e w12 ⟨v340, rfl, ho0, hb⟩; refine ⟨_, rfl, ?_⟩; have n0_ := zG (Kd.V_below (by (with_reducible repeat (first | apply Kd.V_alloc | apply Kd.V_drewN | apply Kd.V_drew)); exact HO1.out) hb); have n1_ := zG (Kd.V_lower (Kd.V_mono (ok' := fun k_ => (P1_ k_ ∨ w.heap.size ≤ k_) ∧ k_ ≠ gb333 ∧ k_ ≠ gb334) ho0 (fun k_ hk_ => ⟨Or.elim hk_ (fun hs_ => hs_.1.1) (fun hn_ => (.inr (Nat.le_trans (zF (by repeat (first | (with_reducible first | exact HB.out | apply zA | apply zB | apply zC | refine zD ?_ GE333.out | refine zD ?_ GE334.out) | exact HB.out))) hn_))), Or.elim hk_ (fun hs_ => hs_.1.2) (fun hn_ => (Kd.freshB (g := gb333) (o := .cells #[.int .i64 a0_0, .int .i64 a0_1, .string a0_2, .slice A0_3 l0_3.length c0_3] 24 (0, 0)) (by (with_reducible repeat (first | refine zH ?_ _ | refine zI ?_ | refine zJ ?_ _)); exact BK333.out) k_ hn_)), Or.elim hk_ (fun hs_ => hs_.2) (fun hn_ => (Kd.freshB (g := gb334) (o := .cells #[.int .i64 0, .int .i64 0, .string (⟨#[]⟩ : ByteArray), .slice none 0 0] 24 (0, 0)) (by (with_reducible repeat (first | refine zH ?_ _ | refine zI ?_ | refine zJ ?_ _)); exact BK334.out) k_ hn_))⟩)) (zF (by repeat (first | (with_reducible first | exact HB.out | apply zA | apply zB | apply zC | refine zD ?_ GE333.out | refine zD ?_ GE334.out) | exact HB.out)))); have n2_ := zG (zK (g := gb333) (by (with_reducible repeat (first | refine zH ?_ _ | refine zI ?_ | refine zJ ?_ _)); exact BK333.out) hb); have n3_ := zG (zK (g := gb334) (by (with_reducible repeat (first | refine zH ?_ _ | refine zI ?_ | refine zJ ?_ _)); exact BK334.out) hb); have n4_ := zG (zE (by repeat (first | (with_reducible first | exact HB.out | apply zA | apply zB | apply zC | refine zD ?_ GE333.out | refine zD ?_ GE334.out) | exact HB.out)) hb); clear HO1; clear BK333; clear BK334; clear HB; have HO1 := n0_; have HO341 := n1_; have BK333 := n2_; have BK334 := n3_; have HB := n4_; clear n0_ n1_ n2_ n3_ n4_; (try clear hb); (try clear hb2); (try clear hk); (try clear hi); (try clear ho0); obtain ⟨hcz13_0, hcz13_1, hcz13_2, hcz13_3, hfz13_0, hfz13_1, hfz13_2, hfz13_3⟩ := zQ BK334.out; obtain ⟨Ao14, co14, eo14⟩ := Kd.V_slice HO341.out; subst eo14))
  refine bodyPost_ret (results_cell_row rfl _ _ gb334 24 #[.int .i64 t336, .int .i64 t337, .string t338, .slice Ao14 t339.length co14] (0, 0) _ rfl (by (with_reducible repeat (first | refine zH ?_ _ | refine zI ?_ | refine zJ ?_ _)); refine zAH (cs := #[.int .i64 t336, .int .i64 t337, .string t338, .slice none 0 0]) ?_ 3 _ rfl; (with_reducible repeat (first | refine zH ?_ _ | refine zI ?_ | refine zJ ?_ _)); refine zAH (cs := #[.int .i64 t336, .int .i64 t337, .string (⟨#[]⟩ : ByteArray), .slice none 0 0]) ?_ 2 _ rfl; (with_reducible repeat (first | refine zH ?_ _ | refine zI ?_ | refine zJ ?_ _)); refine zAH (cs := #[.int .i64 t336, .int .i64 0, .string (⟨#[]⟩ : ByteArray), .slice none 0 0]) ?_ 1 _ rfl; (with_reducible repeat (first | refine zH ?_ _ | refine zI ?_ | refine zJ ?_ _)); refine zAH (cs := #[.int .i64 0, .int .i64 0, .string (⟨#[]⟩ : ByteArray), .slice none 0 0]) ?_ 0 _ rfl; (with_reducible repeat (first | refine zH ?_ _ | refine zI ?_ | refine zJ ?_ _)); exact BK334.out) Tryd.underlying24 rfl (by kernel_rfl)) rfl ?_
  exact ⟨_, by first | rfl | (simp [errW_none, errW_some] <;> rfl) | (simp [*, errW_none, errW_some] <;> rfl), by (with_reducible repeat (first | apply Kd.V_alloc | apply Kd.V_drewN | apply Kd.V_drew)); exact Kd.V_mono (Kd.V_far (p := ⟨gb334, 3, none⟩) (Kd.V_far (p := ⟨gb334, 2, none⟩) (Kd.V_far (p := ⟨gb334, 1, none⟩) (Kd.V_far (p := ⟨gb334, 0, none⟩) (Kd.V_mono HO341.out (fun k_ hk => (⟨hk, hk.2.2⟩ : _ ∧ k_ ≠ gb334))) (fun _ hk => hk.2) (.int .i64 t336)) (fun _ hk => hk.2) (.int .i64 t337)) (fun _ hk => hk.2) (.string t338)) (fun _ hk => hk.2) (.slice Ao14 t339.length co14)) (fun _ hk => hk.1.1), by repeat (first | (with_reducible first | exact HB.out | apply zA | apply zB | apply zC | refine zD ?_ GE333.out | refine zD ?_ GE334.out) | exact HB.out)⟩
 ·replace c4 := zAB c4
  subst c4
  have H1 : (some (0, 0, (⟨#[]⟩ : ByteArray), ([] : List (S24)))) = some (r1, r2, r3, r4) := by rw [if_neg (show ¬ (false = true) by decide)] at H; exact H
  clear H
  have H := H1
  clear H1
  simp only [Option.some.injEq, Prod.mk.injEq] at H
  obtain ⟨rfl, rfl, rfl, rfl⟩ := H
  go_enter Tryd.func32, Tryd.ntmps32
  go_wp2_with (first | ((with_reducible refine gate_dst (N := 2) rfl ?_); refine box_event ?hg (N := 2) ?hd (cs := #[.int .i64 a0_0, .int .i64 a0_1, .string a0_2, .slice A0_3 l0_3.length c0_3]) (t := 24) ?hr ?_; (case hd => rfl); (case hg => rfl); (case hr => first | (go_simp; done) | (go_simp; rfl)); intro gb333 hg w15 hbox hb; have n0_ := zG (Kd.V_below (Kd.V_elderB (by (with_reducible repeat (first | apply Kd.V_alloc | apply Kd.V_drewN | apply Kd.V_drew)); exact HO1.out) gb333 (Nat.le_of_eq hg.symm)) hb); have n1_ := zG (zE (by repeat (first | (with_reducible first | exact HB.out | apply zA | apply zB | apply zC) | exact HB.out)) hb); have n2_ := zG (hbox); have n3_ := zG ((by rw [hg]; exact (zF (by repeat (first | (with_reducible first | exact HB.out | apply zA | apply zB | apply zC) | exact HB.out))) : w.heap.size ≤ gb333)); have n4_ := n3_; clear HO1; clear HB; have HO1 := n0_; have HB := n1_; have BK333 := n2_; have GW333 := n3_; have GE333 := n4_; clear n0_ n1_ n2_ n3_ n4_; clear hb hbox hg) | ((with_reducible refine gate_dst (N := 4) rfl ?_); refine box_event ?hg (N := 4) ?hd (cs := #[.int .i64 0, .int .i64 0, .string (⟨#[]⟩ : ByteArray), .slice none 0 0]) (t := 24) ?hr ?_; (case hd => rfl); (case hg => rfl); (case hr => first | (go_simp; done) | (go_simp; rfl)); intro gb334 hg w16 hbox hb; have n0_ := zG (Kd.V_below (Kd.V_elderB (by (with_reducible repeat (first | apply Kd.V_alloc | apply Kd.V_drewN | apply Kd.V_drew)); exact HO1.out) gb334 (Nat.le_of_eq hg.symm)) hb); have n1_ := zG (zK (g := gb333) (by (with_reducible repeat (first | refine zH ?_ _ | refine zI ?_ | refine zJ ?_ _)); exact BK333.out) hb); have n2_ := zG (zE (by repeat (first | (with_reducible first | exact HB.out | apply zA | apply zB | apply zC | refine zD ?_ GE333.out) | exact HB.out)) hb); have n3_ := zG (hbox); have n4_ := zG ((by rw [hg]; exact (zF (by repeat (first | (with_reducible first | exact HB.out | apply zA | apply zB | apply zC | refine zD ?_ GE333.out) | exact HB.out))) : w.heap.size ≤ gb334)); have n5_ := n4_; have n6_ := zG ((by rw [hg]; exact Nat.ne_of_lt (zAD (g := gb333) (by (with_reducible repeat (first | refine zH ?_ _ | refine zI ?_ | refine zJ ?_ _)); exact BK333.out)) : gb333 ≠ gb334)); have n7_ := zG ((by rw [hg]; exact Nat.ne_of_gt (zAD (g := gb333) (by (with_reducible repeat (first | refine zH ?_ _ | refine zI ?_ | refine zJ ?_ _)); exact BK333.out)) : gb334 ≠ gb333)); clear HO1; clear BK333; clear HB; have HO1 := n0_; have BK333 := n1_; have HB := n2_; have BK334 := n3_; have GW334 := n4_; have GE334 := n5_; have NB333_334 := n6_; have NB334_333 := n7_; clear n0_ n1_ n2_ n3_ n4_ n5_ n6_ n7_; clear hb hbox hg; have hnb17 := NB333_334.out; have hnc17 := NB334_333.out; obtain ⟨hcz18_0, hcz18_1, hcz18_2, hcz18_3⟩ := zN BK333.out; have hfz18_0 := zM BK333.out 0; have hfz18_1 := zM BK333.out 1; have hfz18_2 := zM BK333.out 2; have hfz18_3 := zM BK333.out 3) | ((with_reducible refine gate_callee (f := 17) rfl ?_); refine goesL_ (some 6) rfl rfl Tryd.func17 (by kernel_rfl) rfl #[.agg #[.int .i64 a0_0, .int .i64 a0_1, .string a0_2, .slice A0_3 l0_3.length c0_3]] rfl (by (try simp only [List.map_toArray, List.map_cons, List.map_nil]); first | done | rfl | (simp only [List.length_drop, List.length_take]; rfl)) ?_; (with_reducible refine (hammockref09_Right.calls k a0_0 a0_1 a0_2 _ _ l0_3 false _ ?side1 ?side2 A3.out).mono ?_); (case side1 => repeat (first | exact (zAC HR0_3.out HB.out) | (with_reducible refine zAE ?_ _) | (with_reducible refine zAF ?_ _) | (with_reducible refine zAG ?_))); (case side2 => exact HC0_3.out); rintro e w19 ⟨rfl, hb⟩; refine ⟨_, rfl, ?_⟩; have n0_ := zG (Kd.V_below (by (with_reducible repeat (first | apply Kd.V_alloc | apply Kd.V_drewN | apply Kd.V_drew)); exact HO1.out) hb); have n1_ := zG (zK (g := gb333) (by (with_reducible repeat (first | refine zH ?_ _ | refine zI ?_ | refine zJ ?_ _)); exact BK333.out) hb); have n2_ := zG (zK (g := gb334) (by (with_reducible repeat (first | refine zH ?_ _ | refine zI ?_ | refine zJ ?_ _)); exact BK334.out) hb); have n3_ := zG (zE (by repeat (first | (with_reducible first | exact HB.out | apply zA | apply zB | apply zC | refine zD ?_ GE333.out | refine zD ?_ GE334.out) | exact HB.out)) hb); clear HO1; clear BK333; clear BK334; clear HB; have HO1 := n0_; have BK333 := n1_; have BK334 := n2_; have HB := n3_; clear n0_ n1_ n2_ n3_; (try clear hb); (try clear hb2); (try clear hk); (try clear hi); obtain ⟨hcz20_0, hcz20_1, hcz20_2, hcz20_3⟩ := zN BK334.out; have hfz20_0 := zM BK334.out 0; have hfz20_1 := zM BK334.out 1; have hfz20_2 := zM BK334.out 2; have hfz20_3 := zM BK334.out 3))
  refine bodyPost_ret (results_cell_row rfl _ _ gb334 24 #[.int .i64 0, .int .i64 0, .string (⟨#[]⟩ : ByteArray), .slice none 0 0] (0, 0) _ rfl (by (with_reducible repeat (first | refine zH ?_ _ | refine zI ?_ | refine zJ ?_ _)); refine zAH (cs := #[.int .i64 0, .int .i64 0, .string (⟨#[]⟩ : ByteArray), .slice none 0 0]) ?_ 3 _ rfl; (with_reducible repeat (first | refine zH ?_ _ | refine zI ?_ | refine zJ ?_ _)); refine zAH (cs := #[.int .i64 0, .int .i64 0, .string (⟨#[]⟩ : ByteArray), .slice none 0 0]) ?_ 2 _ rfl; (with_reducible repeat (first | refine zH ?_ _ | refine zI ?_ | refine zJ ?_ _)); refine zAH (cs := #[.int .i64 0, .int .i64 0, .string (⟨#[]⟩ : ByteArray), .slice none 0 0]) ?_ 1 _ rfl; (with_reducible repeat (first | refine zH ?_ _ | refine zI ?_ | refine zJ ?_ _)); refine zAH (cs := #[.int .i64 0, .int .i64 0, .string (⟨#[]⟩ : ByteArray), .slice none 0 0]) ?_ 0 _ rfl; (with_reducible repeat (first | refine zH ?_ _ | refine zI ?_ | refine zJ ?_ _)); exact BK334.out) Tryd.underlying24 rfl (by kernel_rfl)) rfl ?_
  exact ⟨_, by first | rfl | (simp [errW_none, errW_some] <;> rfl) | (simp [*, errW_none, errW_some] <;> rfl), (by exact Kd.V_nil _ _ _ _ _), by repeat (first | (with_reducible first | exact HB.out | apply zA | apply zB | apply zC | refine zD ?_ GE333.out | refine zD ?_ GE334.out) | exact HB.out)⟩

mutual
def hammocklaw09_lists.j0 : Nat → Bool → Int → Int → ByteArray → List (S24) → Option (Bool)
 | 0, _, _, _, _, _ => none
 | k + 1, x3, x343000, x343001, x343002, x343003 => hammocklaw09_lists.l0 k x3 0 x343000 x343001 x343002 x343003
def hammocklaw09_lists.l0 : Nat → Bool → Int → Int → Int → ByteArray → List (S24) → Option (Bool)
 | 0, _, _, _, _, _, _ => none
 | k + 1, x3, x4, x343000, x343001, x343002, x343003 => if x4 < (x343003.length : Int) then (if x3 = true then (if 0 ≤ x4 then ((hammocklaw09_lists.f k ((rd_T24 x343003 x4).f0) ((rd_T24 x343003 x4).f1) ((rd_T24 x343003 x4).f2) ((rd_T24 x343003 x4).f3)).bind fun t344 => (hammocklaw09_lists.l0 k t344 (wrap64 (x4 + 1)) x343000 x343001 x343002 x343003)) else (none)) else (hammocklaw09_lists.l0 k false (wrap64 (x4 + 1)) x343000 x343001 x343002 x343003)) else (some x3)
def hammocklaw09_lists.f : Nat → Int → Int → ByteArray → List (S24) → Option (Bool)
 | 0, _, _, _, _ => none
 | k + 1, a0_0, a0_1, a0_2, l0_3 => if a0_0 = 2 then (if a0_2.toList = ([91, 93] : List UInt8) then (hammocklaw09_lists.j0 k ((l0_3.length : Int) == 1) a0_0 a0_1 a0_2 l0_3) else (hammocklaw09_lists.j0 k true a0_0 a0_1 a0_2 l0_3)) else (hammocklaw09_lists.j0 k true a0_0 a0_1 a0_2 l0_3)
end
theorem hammocklaw09_lists.mono_l : ∀ k, (∀ y0 y1 y2 y3, LeO (hammocklaw09_lists.f k y0 y1 y2 y3) (hammocklaw09_lists.f (k + 1) y0 y1 y2 y3)) ∧ (∀ y0 y1 y2 y3 y4, LeO (hammocklaw09_lists.j0 k y0 y1 y2 y3 y4) (hammocklaw09_lists.j0 (k + 1) y0 y1 y2 y3 y4)) ∧ (∀ y0 y1 y2 y3 y4 y5, LeO (hammocklaw09_lists.l0 k y0 y1 y2 y3 y4 y5) (hammocklaw09_lists.l0 (k + 1) y0 y1 y2 y3 y4 y5))
 | 0 => ⟨fun _ _ _ _ r h => by simp [hammocklaw09_lists.f] at h, fun _ _ _ _ _ r h => by simp [hammocklaw09_lists.j0] at h, fun _ _ _ _ _ _ r h => by simp [hammocklaw09_lists.l0] at h⟩
 | k + 1 => by
  obtain ⟨ih0, ih1, ih2⟩ := hammocklaw09_lists.mono_l k
  refine ⟨?_, ?_, ?_⟩
  ·intro y0 y1 y2 y3
   unfold hammocklaw09_lists.f
   repeat' first
   | (with_reducible exact ih0 _ _ _ _)
   | (with_reducible exact ih1 _ _ _ _ _)
   | (with_reducible exact ih2 _ _ _ _ _ _)
   | (with_reducible exact LeO.refl _)
   | (with_reducible exact LeO.none _)
   | (with_reducible refine LeO.ite ?_ ?_)
   | (with_reducible refine LeO.bind ?_ (fun _ => ?_))
  ·intro y0 y1 y2 y3 y4
   unfold hammocklaw09_lists.j0
   repeat' first
   | (with_reducible exact ih0 _ _ _ _)
   | (with_reducible exact ih1 _ _ _ _ _)
   | (with_reducible exact ih2 _ _ _ _ _ _)
   | (with_reducible exact LeO.refl _)
   | (with_reducible exact LeO.none _)
   | (with_reducible refine LeO.ite ?_ ?_)
   | (with_reducible refine LeO.bind ?_ (fun _ => ?_))
  ·intro y0 y1 y2 y3 y4 y5
   unfold hammocklaw09_lists.l0
   repeat' first
   | (with_reducible exact ih0 _ _ _ _)
   | (with_reducible exact ih1 _ _ _ _ _)
   | (with_reducible exact ih2 _ _ _ _ _ _)
   | (with_reducible exact LeO.refl _)
   | (with_reducible exact LeO.none _)
   | (with_reducible refine LeO.ite ?_ ?_)
   | (with_reducible refine LeO.bind ?_ (fun _ => ?_))
set_option maxHeartbeats 8000000 in
set_option maxRecDepth 100000 in
theorem hammocklaw09_lists.calls (k : Nat) : ∀ (a0_0 : Int) (a0_1 : Int) (a0_2 : ByteArray) (A0_3 : Option Addr) (c0_3 : Nat) (l0_3 : List (S24)) (r : Bool) (w : World) (hr0_3 : Kd.C k24 w A0_3 l0_3.length l0_3) (hc0_3 : l0_3.length ≤ c0_3) (h : hammocklaw09_lists.f k a0_0 a0_1 a0_2 l0_3 = some r),
  Calls Tryd.prog 33 #[.agg #[.int .i64 a0_0, .int .i64 a0_1, .string a0_2, .slice A0_3 l0_3.length c0_3]] w fun e w' => e = .returned (.bool r) ∧ Below w.heap.size w w' := by
 induction k using Nat.strongRecOn with
 | _ k ih =>
 intro a0_0 a0_1 a0_2 A0_3 c0_3 l0_3 r w hr0_3 hc0_3 h
 cases k with
 | zero => exact absurd h (by simp [hammocklaw09_lists.f])
 | succ k =>
 simp only [hammocklaw09_lists.f] at h
 have hu24 := Tryd.underlying24
 have HR0_3 := zG hr0_3
 have HC0_3 := zG hc0_3
 clear hr0_3 hc0_3
 have HB := zG (Below.refl w.heap.size w)
 have H : (if a0_0 = 2 then (if a0_2.toList = ([91, 93] : List UInt8) then (hammocklaw09_lists.j0 k ((l0_3.length : Int) == 1) a0_0 a0_1 a0_2 l0_3) else (hammocklaw09_lists.j0 k true a0_0 a0_1 a0_2 l0_3)) else (hammocklaw09_lists.j0 k true a0_0 a0_1 a0_2 l0_3)) = some r := h
 clear h
 have HC2 := zG H
 clear H
 go_enter Tryd.func33, Tryd.ntmps33
 go_upto_region 1 with (first | ((with_reducible refine gate_dst (N := 1) rfl ?_); (try (refine gate_guard (by rfl) ?_; dsimp only)); refine box_event ?hg (N := 1) ?hd (cs := #[.int .i64 a0_0, .int .i64 a0_1, .string a0_2, .slice A0_3 l0_3.length c0_3]) (t := 24) ?hr ?_; (case hd => rfl); (case hg => rfl); (case hr => first | (go_simp; done) | (go_simp; rfl)); intro gb342 hg w3 hbox hb; have n0_ := zG (zE HB.out hb); have n1_ := zG (hbox); have n2_ := zG ((by rw [hg]; exact (zF HB.out) : w.heap.size ≤ gb342)); have n3_ := n2_; clear HB; have HB := n0_; have BK342 := n1_; have GW342 := n2_; have GE342 := n3_; clear n0_ n1_ n2_ n3_; clear hb hbox hg))
 (try simp only [Act.put, zO, zP, zR])
 go_cut [3] (fun v3 wc => ∃ (kq : Nat) (x3_1 : Bool), v3 = .bool x3_1 ∧ Aside0 (hammocklaw09_lists.j0 kq x3_1 a0_0 a0_1 a0_2 l0_3 = some r) ∧ Aside0 (kq ≤ k) ∧ Aside0 (wc.heap[gb342]? = some (.cells #[.int .i64 a0_0, .int .i64 a0_1, .string a0_2, (.slice A0_3 l0_3.length c0_3)] 24 (0, 0))) ∧ Aside0 (Below w.heap.size w wc))
 case first =>
  have H := HC2.out
  clear HC2
  by_cases c4 : a0_0 = 2
  ·rw [if_pos c4] at H
   have c4b0 : (a0_0 == 2) = true := zW c4
   have c4b1 : (a0_0 != 2) = false := zX c4
   clear c4
   (first | rw [c4b0] | (simp only [i64_w, i32_w]; rw [c4b0]) | skip)
   by_cases c5 : a0_2.toList = ([91, 93] : List UInt8)
   ·rw [if_pos c5] at H
    have c5b0 : (a0_2.toList == ([91, 93] : List UInt8)) = true := zW c5
    have c5b1 : (a0_2.toList != ([91, 93] : List UInt8)) = false := zX c5
    clear c5
    have H' := zG H
    clear H
    obtain ⟨hcz6_0, hcz6_1, hcz6_2, hcz6_3, hfz6_0, hfz6_1, hfz6_2, hfz6_3⟩ := zQ BK342.out
    go_wp2
    go_meet
    case rel => exact ⟨_, (((l0_3.length : Int) == 1)), (by first | rfl | (simp; done) | (simp [*]; done)), H', ⟨by first | omega | exact Nat.le_refl _⟩, ⟨BK342.out⟩, ⟨HB.out⟩⟩
   ·rw [if_neg c5] at H
    have c5b0 : (a0_2.toList == ([91, 93] : List UInt8)) = false := zY c5
    have c5b1 : (a0_2.toList != ([91, 93] : List UInt8)) = true := zZ c5
    have H' := zG H
    clear H
    obtain ⟨hcz7_0, hcz7_1, hcz7_2, hcz7_3, hfz7_0, hfz7_1, hfz7_2, hfz7_3⟩ := zQ BK342.out
    go_wp2
    go_meet
    case rel => exact ⟨_, (true), (by first | rfl | (simp; done) | (simp [*]; done)), H', ⟨by first | omega | exact Nat.le_refl _⟩, ⟨BK342.out⟩, ⟨HB.out⟩⟩
  ·rw [if_neg c4] at H
   have c4b0 : (a0_0 == 2) = false := zY c4
   have c4b1 : (a0_0 != 2) = true := zZ c4
   (first | rw [c4b0] | (simp only [i64_w, i32_w]; rw [c4b0]) | skip)
   have H' := zG H
   clear H
   obtain ⟨hcz8_0, hcz8_1, hcz8_2, hcz8_3, hfz8_0, hfz8_1, hfz8_2, hfz8_3⟩ := zQ BK342.out
   go_wp2
   go_meet
   case rel => exact ⟨_, (true), (by first | rfl | (simp; done) | (simp [*]; done)), H', ⟨by first | omega | exact Nat.le_refl _⟩, ⟨BK342.out⟩, ⟨HB.out⟩⟩
 case rest =>
  clear HC2
  try clear p2
  try clear c3
  try clear c4
  try clear c4b0
  try clear c4b1
  try clear c5
  try clear c5b0
  try clear c5b1
  try clear hcz6_0
  try clear hcz6_1
  try clear hcz6_2
  try clear hcz6_3
  try clear hcz7_0
  try clear hcz7_1
  try clear hcz7_2
  try clear hcz7_3
  try clear hcz8_0
  try clear hcz8_1
  try clear hcz8_2
  try clear hcz8_3
  try clear hfz6_0
  try clear hfz6_1
  try clear hfz6_2
  try clear hfz6_3
  try clear hfz7_0
  try clear hfz7_1
  try clear hfz7_2
  try clear hfz7_3
  try clear hfz8_0
  try clear hfz8_1
  try clear hfz8_2
  try clear hfz8_3
  obtain ⟨kq, x3_1, rfl, HA, HJ1, BK342, HB⟩ := hcut
  cases kq with
  | zero => exact absurd HA.out (by simp [hammocklaw09_lists.j0])
  | succ kj1 =>
   have H := HA.out
   clear HA
   simp only [hammocklaw09_lists.j0] at H
   have H' := zG H
   clear H
   go_wp2
   go_loopg [3, 4] kj1 (fun kq v3 v4 w' => ∃ (x3_2 : Bool) (x4_2 : Int), v3 = .bool x3_2 ∧ v4 = .int .i64 x4_2 ∧ Aside0 (hammocklaw09_lists.l0 kq x3_2 x4_2 a0_0 a0_1 a0_2 l0_3 = some r) ∧ Aside0 (kq ≤ kj1) ∧ Aside0 (w'.heap[gb342]? = some (.cells #[.int .i64 a0_0, .int .i64 a0_1, .string a0_2, (.slice A0_3 l0_3.length c0_3)] 24 (0, 0))) ∧ Aside0 (Below w.heap.size w w'))
   case atStart => exact ⟨(x3_1), (0), (by first | rfl | (simp; done) | (simp [*]; done)), (by first | rfl | (simp; done) | (simp [*]; done)), H', ⟨Nat.le_refl _⟩, ⟨BK342.out⟩, ⟨HB.out⟩⟩
   case round =>
    clear H'
    try clear p2
    try clear c3
    try clear c4
    try clear c4b0
    try clear c4b1
    try clear c5
    try clear c5b0
    try clear c5b1
    try clear hcz6_0
    try clear hcz6_1
    try clear hcz6_2
    try clear hcz6_3
    try clear hcz7_0
    try clear hcz7_1
    try clear hcz7_2
    try clear hcz7_3
    try clear hcz8_0
    try clear hcz8_1
    try clear hcz8_2
    try clear hcz8_3
    try clear hfz6_0
    try clear hfz6_1
    try clear hfz6_2
    try clear hfz6_3
    try clear hfz7_0
    try clear hfz7_1
    try clear hfz7_2
    try clear hfz7_3
    try clear hfz8_0
    try clear hfz8_1
    try clear hfz8_2
    try clear hfz8_3
    try clear p2
    obtain ⟨x3_2, x4_2, rfl, rfl, HA, HK2, BK342, HB⟩ := hrel
    cases gk with
    | zero => exact absurd HA.out (by simp [hammocklaw09_lists.l0])
    | succ k2 =>
     have H := HA.out
     clear HA
     simp only [hammocklaw09_lists.l0] at H
     by_cases c9 : x4_2 < (l0_3.length : Int)
     ·rw [if_pos c9] at H
      have c9b0 : decide (x4_2 < (l0_3.length : Int)) = true := zU c9
      clear c9
      by_cases c10 : x3_2 = true
      ·subst c10
       have H1 : (if 0 ≤ x4_2 then ((hammocklaw09_lists.f k2 ((rd_T24 l0_3 x4_2).f0) ((rd_T24 l0_3 x4_2).f1) ((rd_T24 l0_3 x4_2).f2) ((rd_T24 l0_3 x4_2).f3)).bind fun t344 => (hammocklaw09_lists.l0 k2 t344 (wrap64 (x4_2 + 1)) a0_0 a0_1 a0_2 l0_3)) else (none)) = some r := by rw [if_pos rfl] at H; exact H
       clear H
       have H := H1
       clear H1
       by_cases c11 : 0 ≤ x4_2
       ·rw [if_pos c11] at H
        have c11b0 : decide (0 ≤ x4_2) = true := zU c11
        clear c11
        replace H := zT H
        obtain ⟨t344, A120, H⟩ := H
        replace H : (hammocklaw09_lists.l0 k2 t344 (wrap64 (x4_2 + 1)) a0_0 a0_1 a0_2 l0_3) = some r := H
        have A12 := zG A120
        clear A120
        have H' := zG H
        clear H
        obtain ⟨hcz13_0, hcz13_1, hcz13_2, hcz13_3, hfz13_0, hfz13_1, hfz13_2, hfz13_3⟩ := zQ BK342.out
        have p343 : 0 ≤ (x4_2 : Int) := zAA (by assumption)
        have q343 : x4_2 < (l0_3.length : Int) := zAA (by assumption)
        obtain ⟨ad343, A343_3, c343_3, e343, hx343_0, hx343_1, hx343_2, hx343_3, hl343_3, hi343_3⟩ := at_T24 HR0_3.out x4_2 p343 q343
        cases e343
        replace hx343_0 := (HB.out.cell (zS w _ hx343_0)).trans hx343_0
        replace hx343_1 := (HB.out.cell (zS w _ hx343_1)).trans hx343_1
        replace hx343_2 := (HB.out.cell (zS w _ hx343_2)).trans hx343_2
        replace hx343_3 := (HB.out.cell (zS w _ hx343_3)).trans hx343_3
        have HR343_3 := zG hi343_3
        have HC343_3 := zG hl343_3
        clear hi343_3 hl343_3
        replace p343 := eq_true p343
        replace q343 := eq_true q343
        go_wp2_with (first | (go_at_call 33; (with_reducible refine (ih k2 (by have := HJ1.out; have := HK2.out; omega) ((rd_T24 l0_3 x4_2).f0) ((rd_T24 l0_3 x4_2).f1) ((rd_T24 l0_3 x4_2).f2) _ _ ((rd_T24 l0_3 x4_2).f3) t344 _ ?side1 ?side2 A12.out).mono ?_); (case side1 => exact zAC HR343_3.out HB.out); (case side2 => exact HC343_3.out); rintro e w14 ⟨rfl, hb⟩; have n0_ := zG (zK (g := gb342) BK342.out hb); have n1_ := zG (zE HB.out hb); clear BK342; clear HB; have BK342 := n0_; have HB := n1_; clear n0_ n1_; (try clear hb); (try clear hb2); (try clear hk); (try clear hi)))
        go_roundg k2
        case measure => have := HJ1.out; have := HK2.out; omega
        case rel => exact ⟨(t344), (wrap64 (x4_2 + 1)), (by first | rfl | (simp; done) | (simp [*]; done)), (by first | rfl | (simp; done) | (simp [*]; done)), H', ⟨by have := HJ1.out; have := HK2.out; omega⟩, ⟨BK342.out⟩, ⟨HB.out⟩⟩
       ·rw [if_neg c11] at H
        exact absurd H (by simp)
      ·replace c10 := zAB c10
       subst c10
       have H1 : (hammocklaw09_lists.l0 k2 false (wrap64 (x4_2 + 1)) a0_0 a0_1 a0_2 l0_3) = some r := by rw [if_neg (show ¬ (false = true) by decide)] at H; exact H
       clear H
       have H := H1
       clear H1
       have H' := zG H
       clear H
       obtain ⟨hcz15_0, hcz15_1, hcz15_2, hcz15_3, hfz15_0, hfz15_1, hfz15_2, hfz15_3⟩ := zQ BK342.out
       go_wp2
       go_roundg k2
       case measure => have := HJ1.out; have := HK2.out; omega
       case rel => exact ⟨(false), (wrap64 (x4_2 + 1)), (by first | rfl | (simp; done) | (simp [*]; done)), (by first | rfl | (simp; done) | (simp [*]; done)), H', ⟨by have := HJ1.out; have := HK2.out; omega⟩, ⟨BK342.out⟩, ⟨HB.out⟩⟩
     ·rw [if_neg c9] at H
      have c9b0 : decide (x4_2 < (l0_3.length : Int)) = false := zV c9
      clear c9
      obtain rfl := Option.some.inj H
      obtain ⟨hcz16_0, hcz16_1, hcz16_2, hcz16_3, hfz16_0, hfz16_1, hfz16_2, hfz16_3⟩ := zQ BK342.out
      go_wp2
      go_ret
      exact ⟨rfl, HB.out⟩

def hammockref05_wrap.f (a0 : ByteArray) (a1 : Bool) : Option (ByteArray) := if a1 = true then (if 1 + a0.size ≤ 9223372036854775807 then (if ((⟨#[40]⟩ : ByteArray) ++ a0).size + 1 ≤ 9223372036854775807 then (some (((⟨#[40]⟩ : ByteArray) ++ a0) ++ (⟨#[41]⟩ : ByteArray))) else (none)) else (none)) else (some a0)
set_option maxHeartbeats 8000000 in
set_option maxRecDepth 100000 in
theorem hammockref05_wrap.calls (a0 : ByteArray) (a1 : Bool) (r : ByteArray) (w : World) (h : hammockref05_wrap.f a0 a1 = some r) :
  Calls Tryd.prog 85 #[.string a0, .bool a1] w fun e w' => e = .returned (.string r) ∧ Drawn0 w w' := by
 have H : (if a1 = true then (if 1 + a0.size ≤ 9223372036854775807 then (if ((⟨#[40]⟩ : ByteArray) ++ a0).size + 1 ≤ 9223372036854775807 then (some (((⟨#[40]⟩ : ByteArray) ++ a0) ++ (⟨#[41]⟩ : ByteArray))) else (none)) else (none)) else (some a0)) = some r := h
 clear h
 by_cases c3 : a1 = true
 ·subst c3
  have H1 : (if 1 + a0.size ≤ 9223372036854775807 then (if ((⟨#[40]⟩ : ByteArray) ++ a0).size + 1 ≤ 9223372036854775807 then (some (((⟨#[40]⟩ : ByteArray) ++ a0) ++ (⟨#[41]⟩ : ByteArray))) else (none)) else (none)) = some r := by rw [if_pos rfl] at H; exact H
  clear H
  have H := H1
  clear H1
  by_cases c4 : 1 + a0.size ≤ 9223372036854775807
  ·rw [if_pos c4] at H
   have c4b0 := eq_true c4
   have c4b1 : decide (1 + a0.size ≤ 9223372036854775807) = true := zU c4
   try have c4b2 : (9223372036854775807 < 1 + a0.size) = False := eq_false (Nat.not_lt.2 c4)
   by_cases c5 : ((⟨#[40]⟩ : ByteArray) ++ a0).size + 1 ≤ 9223372036854775807
   ·rw [if_pos c5] at H
    have c5b0 := eq_true c5
    have c5b1 : decide (((⟨#[40]⟩ : ByteArray) ++ a0).size + 1 ≤ 9223372036854775807) = true := zU c5
    try have c5b2 : (9223372036854775807 < ((⟨#[40]⟩ : ByteArray) ++ a0).size + 1) = False := eq_false (Nat.not_lt.2 c5)
    have e5_ : ((⟨#[40]⟩ : ByteArray) ++ a0).size = 1 + a0.size := by rw [ByteArray.size_append]; rfl
    have c5b3 : (9223372036854775807 < 1 + a0.size + 1) = False := eq_false (by omega)
    have c5b4 : (1 + a0.size + 1 ≤ 9223372036854775807) = True := eq_true (by omega)
    obtain rfl := Option.some.inj H
    go_enter Tryd.func85, Tryd.ntmps85
    go_wp2
    go_ret
    exact ⟨by first | rfl | (simp; done) | (simp [*]; done), by repeat (first | exact Drawn0.refl _ | apply Drawn0.step)⟩
   ·rw [if_neg c5] at H
    exact absurd H (by simp)
  ·rw [if_neg c4] at H
   exact absurd H (by simp)
 ·replace c3 := zAB c3
  subst c3
  have H1 : (some a0) = some r := by rw [if_neg (show ¬ (false = true) by decide)] at H; exact H
  clear H
  have H := H1
  clear H1
  obtain rfl := Option.some.inj H
  go_enter Tryd.func85, Tryd.ntmps85
  go_wp2
  go_ret
  exact ⟨by first | rfl | (simp; done) | (simp [*]; done), by repeat (first | exact Drawn0.refl _ | apply Drawn0.step)⟩

end Go.Proofs.YtddmdiaopaoekaaDoor.P
