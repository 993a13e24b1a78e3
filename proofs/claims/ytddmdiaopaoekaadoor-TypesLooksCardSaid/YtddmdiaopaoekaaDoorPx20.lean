-- written by a program of this session's (wip/tools/extprint.py) over the kit's print
import Derived.Test.YtddmdiaopaoekaaDoorPx0
import Derived.Test.YtddmdiaopaoekaaDoorTyT2
import Derived.Test.YtddmdiaopaoekaaDoorTyV
import Derived.Test.YtddmdiaopaoekaaDoorSq
namespace Go.Proofs.YtddmdiaopaoekaaDoor.P
open Go.RowKit Go.Proofs.YtddmdiaopaoekaaDoorW.PrintWords Go.Proofs.YtddmdiaopaoekaaDoorW.PrintLast Go.Proofs.YtddmdiaopaoekaaDoorW.PrintMore
attribute [local go_sem] max2_int min2_int max_two min_two max_three min_three max_four min_four   -- for this text's walks alone
set_option linter.unusedVariables false
set_option linter.unusedSimpArgs false

theorem info72 : (Tryd.prog.info? 72).map (fun i => (i.zero, i.size, i.bytes)) = some (some (.agg #[(.int .i64 0), (.int .i64 0), (.string ⟨#[]⟩), (.slice none 0 0)]), 4, 56) := by kernel_rfl
mutual
def types_Type_tree.j0 : Nat → Int → Int → ByteArray → List (S31) → Int → Int → ByteArray → Option (Int × Int × ByteArray × (List (S72)))
 | 0, _, _, _, _, _, _, _ => none
 | k + 1, x186000, x186001, x186002, x186003, x188000, x188001, x188002 => types_Type_tree.l0 k x186003 (x186003.length : Int) 0 x188000 x188001 x188002 ([] : List (S72))
def types_Type_tree.l0 : Nat → List (S31) → Int → Int → Int → Int → ByteArray → List (S72) → Option (Int × Int × ByteArray × (List (S72)))
 | 0, _, _, _, _, _, _, _ => none
 | k + 1, x19, x20, x21, x188000, x188001, x188002, x188003 => if x21 < x20 then (if 0 ≤ x21 then (if x21 < (x19.length : Int) then ((types_Type_tree.f k ((rd_T31 x19 x21).f0) ((rd_T31 x19 x21).f1) ((rd_T31 x19 x21).f2) ((rd_T31 x19 x21).f3)).bind fun bt191 => (if x188003.length < 2513169434916 then (types_Type_tree.l0 k x19 x20 (wrap64 (x21 + 1)) x188000 x188001 x188002 (x188003 ++ [(⟨bt191.1, bt191.2.1, bt191.2.2.1, bt191.2.2.2⟩ : S72)])) else (none))) else (none)) else (none)) else (some (x188000, x188001, x188002, x188003))
def types_Type_tree.f : Nat → Int → Int → ByteArray → List (S31) → Option (Int × Int × ByteArray × (List (S72)))
 | 0, _, _, _, _ => none
 | k + 1, a0_0, a0_1, a0_2, l0_3 => if a0_0 = 1 then ((types_letter.f a0_1).bind fun t188 => (types_Type_tree.j0 k a0_0 a0_1 a0_2 l0_3 a0_0 0 t188)) else (types_Type_tree.j0 k a0_0 a0_1 a0_2 l0_3 a0_0 0 a0_2)
end
theorem types_Type_tree.mono_l : ∀ k, (∀ y0 y1 y2 y3, LeO (types_Type_tree.f k y0 y1 y2 y3) (types_Type_tree.f (k + 1) y0 y1 y2 y3)) ∧ (∀ y0 y1 y2 y3 y4 y5 y6, LeO (types_Type_tree.j0 k y0 y1 y2 y3 y4 y5 y6) (types_Type_tree.j0 (k + 1) y0 y1 y2 y3 y4 y5 y6)) ∧ (∀ y0 y1 y2 y3 y4 y5 y6, LeO (types_Type_tree.l0 k y0 y1 y2 y3 y4 y5 y6) (types_Type_tree.l0 (k + 1) y0 y1 y2 y3 y4 y5 y6))
 | 0 => ⟨fun _ _ _ _ r h => by simp [types_Type_tree.f] at h, fun _ _ _ _ _ _ _ r h => by simp [types_Type_tree.j0] at h, fun _ _ _ _ _ _ _ r h => by simp [types_Type_tree.l0] at h⟩
 | k + 1 => by
  obtain ⟨ih0, ih1, ih2⟩ := types_Type_tree.mono_l k
  refine ⟨?_, ?_, ?_⟩
  ·intro y0 y1 y2 y3
   unfold types_Type_tree.f
   repeat' first
   | (with_reducible exact ih0 _ _ _ _)
   | (with_reducible exact ih1 _ _ _ _ _ _ _)
   | (with_reducible exact ih2 _ _ _ _ _ _ _)
   | (with_reducible exact LeO.refl _)
   | (with_reducible exact LeO.none _)
   | (with_reducible refine LeO.ite ?_ ?_)
   | (with_reducible refine LeO.bind ?_ (fun _ => ?_))
  ·intro y0 y1 y2 y3 y4 y5 y6
   unfold types_Type_tree.j0
   repeat' first
   | (with_reducible exact ih0 _ _ _ _)
   | (with_reducible exact ih1 _ _ _ _ _ _ _)
   | (with_reducible exact ih2 _ _ _ _ _ _ _)
   | (with_reducible exact LeO.refl _)
   | (with_reducible exact LeO.none _)
   | (with_reducible refine LeO.ite ?_ ?_)
   | (with_reducible refine LeO.bind ?_ (fun _ => ?_))
  ·intro y0 y1 y2 y3 y4 y5 y6
   unfold types_Type_tree.l0
   repeat' first
   | (with_reducible exact ih0 _ _ _ _)
   | (with_reducible exact ih1 _ _ _ _ _ _ _)
   | (with_reducible exact ih2 _ _ _ _ _ _ _)
   | (with_reducible exact LeO.refl _)
   | (with_reducible exact LeO.none _)
   | (with_reducible refine LeO.ite ?_ ?_)
   | (with_reducible refine LeO.bind ?_ (fun _ => ?_))
def types_Type_tree.T7 : Bool × List (List Nat × List Nat) := (true, [([], []), ([0], [0]), ([], []), ([2], [2]), ([3], [3]), ([1, 4, 3], [1, 4]), ([0, 1, 2, 3, 4, 5], []), ([6, 5, 5, 0, 1, 2, 3, 4, 5], [5, 6])])
def types_Type_tree.B7 : List Nat := [0, 1, 0, 4, 12, 31, 63, 127]
theorem types_Type_tree.tab7 : rtab .any (opsOf Tryd.f65 7) = types_Type_tree.T7 := by kernel_rfl
theorem types_Type_tree.bits7 : waitsOk types_Type_tree.T7.2 types_Type_tree.B7 = true := by kernel_rfl
set_option maxHeartbeats 8000000 in
set_option maxRecDepth 100000 in
theorem types_Type_tree.calls (k : Nat) : ∀ (a0_0 : Int) (a0_1 : Int) (a0_2 : ByteArray) (A0_3 : Option Addr) (c0_3 : Nat) (l0_3 : List (S31)) (r1 : Int) (r2 : Int) (r3 : ByteArray) (r4 : List (S72)) (w : World) (hr0_3 : Kd.C k31 w A0_3 l0_3.length l0_3) (hc0_3 : l0_3.length ≤ c0_3) (h : types_Type_tree.f k a0_0 a0_1 a0_2 l0_3 = some (r1, r2, r3, r4)) (hG : Hid (TabOK w)),
  Calls Tryd.prog 65 #[.agg #[.int .i64 a0_0, .int .i64 a0_1, .string a0_2, .slice A0_3 l0_3.length c0_3]] w fun e w' => ∃ v3_ : Value, e = .returned (.agg #[.int .i64 r1, .int .i64 r2, .string r3, v3_]) ∧ Kd.R k72 72 w' w.heap.size (fun _ => True) v3_ r4 ∧ Below w.heap.size w w' := by
 induction k using Nat.strongRecOn with
 | _ k ih =>
 intro a0_0 a0_1 a0_2 A0_3 c0_3 l0_3 r1 r2 r3 r4 w hr0_3 hc0_3 h hG
 cases k with
 | zero => exact absurd h (by simp [types_Type_tree.f])
 | succ k =>
 simp only [types_Type_tree.f] at h
 have hu31 := Tryd.underlying31
 have hu72 := Tryd.underlying72
 have HR0_3 := zG hr0_3
 have HC0_3 := zG hc0_3
 clear hr0_3 hc0_3
 have HB := zG (Below.refl w.heap.size w)
 have H : (if a0_0 = 1 then ((types_letter.f a0_1).bind fun t188 => (types_Type_tree.j0 k a0_0 a0_1 a0_2 l0_3 a0_0 0 t188)) else (types_Type_tree.j0 k a0_0 a0_1 a0_2 l0_3 a0_0 0 a0_2)) = some (r1, r2, r3, r4) := h
 clear h
 have HC2 := zG H
 clear H
 go_enter Tryd.func65, Tryd.ntmps65
 go_upto_if 13 with (first | ((with_reducible refine gate_dst (N := 1) rfl ?_); refine box_event ?hg (N := 1) ?hd (cs := #[.int .i64 a0_0, .int .i64 a0_1, .string a0_2, .slice A0_3 l0_3.length c0_3]) (t := 31) ?hr ?_; (case hd => rfl); (case hg => rfl); (case hr => first | (go_simp; done) | (go_simp; rfl)); intro gb185 hg w3 hbox hb; have n0_ := zG (zE HB.out hb); have n1_ := zG (hbox); have n2_ := zG ((by rw [hg]; exact (zF HB.out) : w.heap.size ≤ gb185)); have n3_ := n2_; clear HB; have HB := n0_; have BK185 := n1_; have GW185 := n2_; have GE185 := n3_; clear n0_ n1_ n2_ n3_; clear hb hbox hg) | ((with_reducible refine gate_dst (N := 2) rfl ?_); refine box_event ?hg (N := 2) ?hd (cs := #[.int .i64 0, .int .i64 0, .string (⟨#[]⟩ : ByteArray), .slice none 0 0]) (t := 72) ?hr ?_; (case hd => rfl); (case hg => rfl); (case hr => first | (go_simp; done) | (go_simp; rfl)); intro gb186 hg w4 hbox hb; have n0_ := zG (zK (g := gb185) BK185.out hb); have n1_ := zG (zE HB.out hb); have n2_ := zG (hbox); have n3_ := zG ((by rw [hg]; exact (zF HB.out) : w.heap.size ≤ gb186)); have n4_ := n3_; have n5_ := zG ((by rw [hg]; exact Nat.ne_of_lt (zAD (g := gb185) BK185.out) : gb185 ≠ gb186)); have n6_ := zG ((by rw [hg]; exact Nat.ne_of_gt (zAD (g := gb185) BK185.out) : gb186 ≠ gb185)); clear BK185; clear HB; have BK185 := n0_; have HB := n1_; have BK186 := n2_; have GW186 := n3_; have GE186 := n4_; have NB185_186 := n5_; have NB186_185 := n6_; clear n0_ n1_ n2_ n3_ n4_ n5_ n6_; clear hb hbox hg; have hnb5 := NB185_186.out; have hnc5 := NB186_185.out; obtain ⟨hcz6_0, hcz6_1, hcz6_2, hcz6_3⟩ := zN BK185.out; have hfz6_0 := zM BK185.out 0; have hfz6_1 := zM BK185.out 1; have hfz6_2 := zM BK185.out 2; have hfz6_3 := zM BK185.out 3) | ((with_reducible refine gate_dst (N := 3) rfl ?_); refine box_event ?hg (N := 3) ?hd (cs := #[.int .i64 0, .int .i64 0, .string (⟨#[]⟩ : ByteArray), .slice none 0 0]) (t := 72) ?hr ?_; (case hd => rfl); (case hg => rfl); (case hr => first | (go_simp; done) | (go_simp; rfl)); intro gb187 hg w7 hbox hb; have n0_ := zG (zK (g := gb185) BK185.out hb); have n1_ := zG (zK (g := gb186) BK186.out hb); have n2_ := zG (zE HB.out hb); have n3_ := zG (hbox); have n4_ := zG ((by rw [hg]; exact (zF HB.out) : w.heap.size ≤ gb187)); have n5_ := n4_; have n6_ := zG ((by rw [hg]; exact Nat.ne_of_lt (zAD (g := gb185) BK185.out) : gb185 ≠ gb187)); have n7_ := zG ((by rw [hg]; exact Nat.ne_of_gt (zAD (g := gb185) BK185.out) : gb187 ≠ gb185)); have n8_ := zG ((by rw [hg]; exact Nat.ne_of_lt (zAD (g := gb186) BK186.out) : gb186 ≠ gb187)); have n9_ := zG ((by rw [hg]; exact Nat.ne_of_gt (zAD (g := gb186) BK186.out) : gb187 ≠ gb186)); clear BK185; clear BK186; clear HB; have BK185 := n0_; have BK186 := n1_; have HB := n2_; have BK187 := n3_; have GW187 := n4_; have GE187 := n5_; have NB185_187 := n6_; have NB187_185 := n7_; have NB186_187 := n8_; have NB187_186 := n9_; clear n0_ n1_ n2_ n3_ n4_ n5_ n6_ n7_ n8_ n9_; clear hb hbox hg; have hnb8 := NB187_185.out; have hnc8 := NB185_187.out; have hnb9 := NB187_186.out; have hnc9 := NB186_187.out; obtain ⟨hcz10_0, hcz10_1, hcz10_2, hcz10_3, hfz10_0, hfz10_1, hfz10_2, hfz10_3⟩ := zQ BK187.out; obtain ⟨hcz11_0, hcz11_1, hcz11_2, hcz11_3⟩ := zN BK185.out; have hfz11_0 := zM BK185.out 0; have hfz11_1 := zM BK185.out 1; have hfz11_2 := zM BK185.out 2; have hfz11_3 := zM BK185.out 3))
 (try simp only [Act.put, zO, zP, zR])
 go_cut [] (fun wc => ∃ (kq : Nat) (x188002_1 : ByteArray), Aside0 (types_Type_tree.j0 kq a0_0 a0_1 a0_2 l0_3 a0_0 0 x188002_1 = some (r1, r2, r3, r4)) ∧ Aside0 (kq ≤ k) ∧ Aside0 (wc.heap[gb185]? = some (.cells #[.int .i64 a0_0, .int .i64 a0_1, .string a0_2, (.slice A0_3 l0_3.length c0_3)] 31 (0, 0))) ∧ Aside0 (wc.heap[gb186]? = some (.cells #[.int .i64 0, .int .i64 0, .string (⟨#[]⟩ : ByteArray), (.slice none 0 0)] 72 (0, 0))) ∧ Aside0 (wc.heap[gb187]? = some (.cells #[.int .i64 a0_0, .int .i64 0, .string x188002_1, (.slice none 0 0)] 72 (0, 0))) ∧ Aside0 (Below w.heap.size w wc))
 case first =>
  have H := HC2.out
  clear HC2
  by_cases c12 : a0_0 = 1
  ·rw [if_pos c12] at H
   have c12b0 : (a0_0 == 1) = true := zW c12
   have c12b1 : (a0_0 != 1) = false := zX c12
   clear c12
   (first | rw [c12b0] | (simp only [i64_w, i32_w]; rw [c12b0]) | skip)
   replace H := zT H
   obtain ⟨t188, A130, H⟩ := H
   replace H : (types_Type_tree.j0 k a0_0 a0_1 a0_2 l0_3 a0_0 0 t188) = some (r1, r2, r3, r4) := H
   have A13 := zG A130
   clear A130
   have H' := zG H
   clear H
   have hnb14 := NB185_186.out
   have hnc14 := NB186_185.out
   have hnb15 := NB185_187.out
   have hnc15 := NB187_185.out
   obtain ⟨hcz16_0, hcz16_1, hcz16_2, hcz16_3, hfz16_0, hfz16_1, hfz16_2, hfz16_3⟩ := zQ BK185.out
   go_wp2_with (first | ((with_reducible refine gate_callee (f := 79) rfl ?_); refine goesL_ (some 16) rfl rfl Tryd.func79 (by kernel_rfl) rfl #[.int .i64 a0_1] rfl (by (try simp only [List.map_toArray, List.map_cons, List.map_nil]); first | done | rfl | (simp only [List.length_drop, List.length_take]; rfl)) ?_; (with_reducible refine (types_letter.calls a0_1 t188 _ A13.out (Lib.hid (TabOK.below hG.out (by repeat (first | (with_reducible first | exact HB.out | apply zA | apply zB | apply zC | refine zD ?_ GE185.out | refine zD ?_ GE186.out | refine zD ?_ GE187.out) | exact HB.out))))).mono ?_); rintro e w17 ⟨rfl, hb⟩; refine ⟨_, rfl, ?_⟩; have n0_ := zG (zK (g := gb185) (o := .cells #[.int .i64 a0_0, .int .i64 a0_1, .string a0_2, .slice A0_3 l0_3.length c0_3] 31 (0, 0)) (by (with_reducible repeat (first | refine zH ?_ _ | refine zI ?_ | refine zJ ?_ _)); refine blk_far ?_ NB185_187.out _; (with_reducible repeat (first | refine zH ?_ _ | refine zI ?_ | refine zJ ?_ _)); refine blk_far ?_ NB185_187.out _; (with_reducible repeat (first | refine zH ?_ _ | refine zI ?_ | refine zJ ?_ _)); refine blk_far ?_ NB185_187.out _; (with_reducible repeat (first | refine zH ?_ _ | refine zI ?_ | refine zJ ?_ _)); refine blk_far ?_ NB185_187.out _; (with_reducible repeat (first | refine zH ?_ _ | refine zI ?_ | refine zJ ?_ _)); exact BK185.out) hb); have n1_ := zG (zK (g := gb186) (o := .cells #[.int .i64 0, .int .i64 0, .string (⟨#[]⟩ : ByteArray), .slice none 0 0] 72 (0, 0)) (by (with_reducible repeat (first | refine zH ?_ _ | refine zI ?_ | refine zJ ?_ _)); refine blk_far ?_ NB186_187.out _; (with_reducible repeat (first | refine zH ?_ _ | refine zI ?_ | refine zJ ?_ _)); refine blk_far ?_ NB186_187.out _; (with_reducible repeat (first | refine zH ?_ _ | refine zI ?_ | refine zJ ?_ _)); refine blk_far ?_ NB186_187.out _; (with_reducible repeat (first | refine zH ?_ _ | refine zI ?_ | refine zJ ?_ _)); refine blk_far ?_ NB186_187.out _; (with_reducible repeat (first | refine zH ?_ _ | refine zI ?_ | refine zJ ?_ _)); exact BK186.out) hb); have n2_ := zG (zK (g := gb187) (o := .cells #[.int .i64 a0_0, .int .i64 0, .string a0_2, .slice none 0 0] 72 (0, 0)) (by (with_reducible repeat (first | refine zH ?_ _ | refine zI ?_ | refine zJ ?_ _)); refine zAH (cs := #[.int .i64 a0_0, .int .i64 0, .string a0_2, .slice none 0 0]) ?_ 3 _ rfl; (with_reducible repeat (first | refine zH ?_ _ | refine zI ?_ | refine zJ ?_ _)); refine zAH (cs := #[.int .i64 a0_0, .int .i64 0, .string (⟨#[]⟩ : ByteArray), .slice none 0 0]) ?_ 2 _ rfl; (with_reducible repeat (first | refine zH ?_ _ | refine zI ?_ | refine zJ ?_ _)); refine zAH (cs := #[.int .i64 a0_0, .int .i64 0, .string (⟨#[]⟩ : ByteArray), .slice none 0 0]) ?_ 1 _ rfl; (with_reducible repeat (first | refine zH ?_ _ | refine zI ?_ | refine zJ ?_ _)); refine zAH (cs := #[.int .i64 0, .int .i64 0, .string (⟨#[]⟩ : ByteArray), .slice none 0 0]) ?_ 0 _ rfl; (with_reducible repeat (first | refine zH ?_ _ | refine zI ?_ | refine zJ ?_ _)); exact BK187.out) hb); have n3_ := zG (zE (by repeat (first | (with_reducible first | exact HB.out | apply zA | apply zB | apply zC | refine zD ?_ GE185.out | refine zD ?_ GE186.out | refine zD ?_ GE187.out) | exact HB.out)) hb); clear BK185; clear BK186; clear BK187; clear HB; have BK185 := n0_; have BK186 := n1_; have BK187 := n2_; have HB := n3_; clear n0_ n1_ n2_ n3_; (try clear hb); (try clear hb2); (try clear hk); (try clear hi); have hnb18 := NB187_186.out; have hnc18 := NB186_187.out; obtain ⟨hcz19_0, hcz19_1, hcz19_2, hcz19_3⟩ := zN BK187.out; have hfz19_0 := zM BK187.out 0; have hfz19_1 := zM BK187.out 1; have hfz19_2 := zM BK187.out 2; have hfz19_3 := zM BK187.out 3))
   go_meet
   case rel => exact ⟨_, (t188), H', ⟨by first | omega | exact Nat.le_refl _⟩, ⟨by (with_reducible repeat (first | refine zH ?_ _ | refine zI ?_ | refine zJ ?_ _)); refine blk_far ?_ NB185_187.out _; (with_reducible repeat (first | refine zH ?_ _ | refine zI ?_ | refine zJ ?_ _)); exact BK185.out⟩, ⟨by (with_reducible repeat (first | refine zH ?_ _ | refine zI ?_ | refine zJ ?_ _)); refine blk_far ?_ NB186_187.out _; (with_reducible repeat (first | refine zH ?_ _ | refine zI ?_ | refine zJ ?_ _)); exact BK186.out⟩, ⟨by (with_reducible repeat (first | refine zH ?_ _ | refine zI ?_ | refine zJ ?_ _)); refine zAH (cs := #[.int .i64 a0_0, .int .i64 0, .string a0_2, .slice none 0 0]) ?_ 2 _ rfl; (with_reducible repeat (first | refine zH ?_ _ | refine zI ?_ | refine zJ ?_ _)); exact BK187.out⟩, ⟨by repeat (first | (with_reducible first | exact HB.out | apply zA | apply zB | apply zC | refine zD ?_ GE185.out | refine zD ?_ GE186.out | refine zD ?_ GE187.out) | exact HB.out)⟩⟩
  ·rw [if_neg c12] at H
   have c12b0 : (a0_0 == 1) = false := zY c12
   have c12b1 : (a0_0 != 1) = true := zZ c12
   (first | rw [c12b0] | (simp only [i64_w, i32_w]; rw [c12b0]) | skip)
   have H' := zG H
   clear H
   go_wp2
   go_meet
   case rel => exact ⟨_, (a0_2), H', ⟨by first | omega | exact Nat.le_refl _⟩, ⟨by (with_reducible repeat (first | refine zH ?_ _ | refine zI ?_ | refine zJ ?_ _)); refine blk_far ?_ NB185_187.out _; (with_reducible repeat (first | refine zH ?_ _ | refine zI ?_ | refine zJ ?_ _)); refine blk_far ?_ NB185_187.out _; (with_reducible repeat (first | refine zH ?_ _ | refine zI ?_ | refine zJ ?_ _)); refine blk_far ?_ NB185_187.out _; (with_reducible repeat (first | refine zH ?_ _ | refine zI ?_ | refine zJ ?_ _)); refine blk_far ?_ NB185_187.out _; (with_reducible repeat (first | refine zH ?_ _ | refine zI ?_ | refine zJ ?_ _)); exact BK185.out⟩, ⟨by (with_reducible repeat (first | refine zH ?_ _ | refine zI ?_ | refine zJ ?_ _)); refine blk_far ?_ NB186_187.out _; (with_reducible repeat (first | refine zH ?_ _ | refine zI ?_ | refine zJ ?_ _)); refine blk_far ?_ NB186_187.out _; (with_reducible repeat (first | refine zH ?_ _ | refine zI ?_ | refine zJ ?_ _)); refine blk_far ?_ NB186_187.out _; (with_reducible repeat (first | refine zH ?_ _ | refine zI ?_ | refine zJ ?_ _)); refine blk_far ?_ NB186_187.out _; (with_reducible repeat (first | refine zH ?_ _ | refine zI ?_ | refine zJ ?_ _)); exact BK186.out⟩, ⟨by (with_reducible repeat (first | refine zH ?_ _ | refine zI ?_ | refine zJ ?_ _)); refine zAH (cs := #[.int .i64 a0_0, .int .i64 0, .string a0_2, .slice none 0 0]) ?_ 3 _ rfl; (with_reducible repeat (first | refine zH ?_ _ | refine zI ?_ | refine zJ ?_ _)); refine zAH (cs := #[.int .i64 a0_0, .int .i64 0, .string (⟨#[]⟩ : ByteArray), .slice none 0 0]) ?_ 2 _ rfl; (with_reducible repeat (first | refine zH ?_ _ | refine zI ?_ | refine zJ ?_ _)); refine zAH (cs := #[.int .i64 a0_0, .int .i64 0, .string (⟨#[]⟩ : ByteArray), .slice none 0 0]) ?_ 1 _ rfl; (with_reducible repeat (first | refine zH ?_ _ | refine zI ?_ | refine zJ ?_ _)); refine zAH (cs := #[.int .i64 0, .int .i64 0, .string (⟨#[]⟩ : ByteArray), .slice none 0 0]) ?_ 0 _ rfl; (with_reducible repeat (first | refine zH ?_ _ | refine zI ?_ | refine zJ ?_ _)); exact BK187.out⟩, ⟨by repeat (first | (with_reducible first | exact HB.out | apply zA | apply zB | apply zC | refine zD ?_ GE185.out | refine zD ?_ GE186.out | refine zD ?_ GE187.out) | exact HB.out)⟩⟩
 case rest =>
  clear HC2
  try clear c1
  try clear p2
  try clear c5
  try clear c6
  try clear c7
  try clear c8
  try clear c9
  try clear c12
  try clear c12b0
  try clear c12b1
  try clear c14
  try clear c15
  try clear c18
  try clear hcz10_0
  try clear hcz10_1
  try clear hcz10_2
  try clear hcz10_3
  try clear hcz11_0
  try clear hcz11_1
  try clear hcz11_2
  try clear hcz11_3
  try clear hcz16_0
  try clear hcz16_1
  try clear hcz16_2
  try clear hcz16_3
  try clear hcz19_0
  try clear hcz19_1
  try clear hcz19_2
  try clear hcz19_3
  try clear hcz6_0
  try clear hcz6_1
  try clear hcz6_2
  try clear hcz6_3
  try clear hfz10_0
  try clear hfz10_1
  try clear hfz10_2
  try clear hfz10_3
  try clear hfz11_0
  try clear hfz11_1
  try clear hfz11_2
  try clear hfz11_3
  try clear hfz16_0
  try clear hfz16_1
  try clear hfz16_2
  try clear hfz16_3
  try clear hfz19_0
  try clear hfz19_1
  try clear hfz19_2
  try clear hfz19_3
  try clear hfz6_0
  try clear hfz6_1
  try clear hfz6_2
  try clear hfz6_3
  obtain ⟨kq, x188002_1, HA, HJ1, BK185, BK186, BK187, HB⟩ := hcut
  cases kq with
  | zero => exact absurd HA.out (by simp [types_Type_tree.j0])
  | succ kj1 =>
   have H := HA.out
   clear HA
   simp only [types_Type_tree.j0] at H
   have H' := zG H
   clear H
   have hnb20 := NB185_186.out
   have hnc20 := NB186_185.out
   have hnb21 := NB185_187.out
   have hnc21 := NB187_185.out
   obtain ⟨hcz22_0, hcz22_1, hcz22_2, hcz22_3, hfz22_0, hfz22_1, hfz22_2, hfz22_3⟩ := zQ BK185.out
   go_wp2
   go_loopg [21] kj1 (fun kq v21 w' => ∃ (x21_2 : Int) (x188003_2 : List (S72)) (u188003 : Value), v21 = .int .i64 x21_2 ∧ Aside0 (types_Type_tree.l0 kq l0_3 (l0_3.length : Int) x21_2 a0_0 0 x188002_1 x188003_2 = some (r1, r2, r3, r4)) ∧ Aside0 (kq ≤ kj1) ∧ Aside0 (Kd.R k72 72 w' w.heap.size (fun k_ => k_ ≠ gb186 ∧ k_ ≠ gb187) u188003 x188003_2) ∧ Aside0 (w'.heap[gb185]? = some (.cells #[.int .i64 a0_0, .int .i64 a0_1, .string a0_2, (.slice A0_3 l0_3.length c0_3)] 31 (0, 0))) ∧ Aside0 (w'.heap[gb186]? = some (.cells #[.int .i64 0, .int .i64 0, .string (⟨#[]⟩ : ByteArray), (.slice none 0 0)] 72 (0, 0))) ∧ Aside0 (w'.heap[gb187]? = some (.cells #[.int .i64 a0_0, .int .i64 0, .string x188002_1, u188003] 72 (0, 0))) ∧ Aside0 (Below w.heap.size w w'))
   case atStart => exact ⟨(0), (([] : List (S72))), (.slice none 0 0), (by first | rfl | (simp; done) | (simp [*]; done)), H', ⟨Nat.le_refl _⟩, ⟨by first | exact Kd.R_nil _ _ _ _ _ | exact Kd.N_nil _ _ _ _ _ | exact Kd.V_nil _ _ _ _ _ | exact Kd.Q_nil _ _ _ _ _ | exact Kd.S_nil _ _ _ _ _⟩, ⟨BK185.out⟩, ⟨BK186.out⟩, ⟨BK187.out⟩, ⟨HB.out⟩⟩
   case round =>
    clear H'
    try clear c1
    try clear c2
    try clear p2
    try clear c5
    try clear c6
    try clear c7
    try clear c8
    try clear c9
    try clear c12
    try clear c12b0
    try clear c12b1
    try clear c14
    try clear c15
    try clear c18
    try clear c20
    try clear c21
    try clear hcz10_0
    try clear hcz10_1
    try clear hcz10_2
    try clear hcz10_3
    try clear hcz11_0
    try clear hcz11_1
    try clear hcz11_2
    try clear hcz11_3
    try clear hcz16_0
    try clear hcz16_1
    try clear hcz16_2
    try clear hcz16_3
    try clear hcz19_0
    try clear hcz19_1
    try clear hcz19_2
    try clear hcz19_3
    try clear hcz22_0
    try clear hcz22_1
    try clear hcz22_2
    try clear hcz22_3
    try clear hcz6_0
    try clear hcz6_1
    try clear hcz6_2
    try clear hcz6_3
    try clear hfz10_0
    try clear hfz10_1
    try clear hfz10_2
    try clear hfz10_3
    try clear hfz11_0
    try clear hfz11_1
    try clear hfz11_2
    try clear hfz11_3
    try clear hfz16_0
    try clear hfz16_1
    try clear hfz16_2
    try clear hfz16_3
    try clear hfz19_0
    try clear hfz19_1
    try clear hfz19_2
    try clear hfz19_3
    try clear hfz22_0
    try clear hfz22_1
    try clear hfz22_2
    try clear hfz22_3
    try clear hfz6_0
    try clear hfz6_1
    try clear hfz6_2
    try clear hfz6_3
    try clear p2
    obtain ⟨x21_2, x188003_2, u188003, rfl, HA, HK2, HO_188003, BK185, BK186, BK187, HB⟩ := hrel
    cases gk with
    | zero => exact absurd HA.out (by simp [types_Type_tree.l0])
    | succ k2 =>
     have H := HA.out
     clear HA
     simp only [types_Type_tree.l0] at H
     by_cases c23 : x21_2 < (l0_3.length : Int)
     ·rw [if_pos c23] at H
      have c23b0 : decide (x21_2 < (l0_3.length : Int)) = true := zU c23
      clear c23
      by_cases c24 : 0 ≤ x21_2
      ·rw [if_pos c24] at H
       have c24b0 : decide (0 ≤ x21_2) = true := zU c24
       clear c24
       by_cases c25 : x21_2 < (l0_3.length : Int)
       ·rw [if_pos c25] at H
        have c25b0 : decide (x21_2 < (l0_3.length : Int)) = true := zU c25
        clear c25
        replace H := zT H
        obtain ⟨⟨t191, t192, t193, t194⟩, A260, H⟩ := H
        replace H : (if x188003_2.length < 2513169434916 then (types_Type_tree.l0 k2 l0_3 (l0_3.length : Int) (wrap64 (x21_2 + 1)) a0_0 0 x188002_1 (x188003_2 ++ [(⟨t191, t192, t193, t194⟩ : S72)])) else (none)) = some (r1, r2, r3, r4) := H
        have A26 := zG A260
        clear A260
        by_cases c27 : x188003_2.length < 2513169434916
        ·rw [if_pos c27] at H
         have LMc27 := zG c27
         clear c27
         obtain ⟨y197, hy197⟩ : ∃ y_ : List (S72), y_ = (x188003_2 ++ [(⟨t191, t192, t193, t194⟩ : S72)]) := ⟨_, rfl⟩
         replace H : (types_Type_tree.l0 k2 l0_3 (l0_3.length : Int) (wrap64 (x21_2 + 1)) a0_0 0 x188002_1 y197) = some (r1, r2, r3, r4) := by first | (rw [hy197]; with_reducible exact H) | (have H2_ := (Option.bind_some _ _).symm.trans H; rw [hy197]; with_reducible exact H2_) | (have H2_ := (Option.bind_some _ _).symm.trans H; with_reducible exact H2_) | with_reducible exact H | (rw [hy197]; exact H) | exact H
         have Ny197 := zG hy197
         clear hy197
         have H' := zG H
         clear H
         have p189 : 0 ≤ (x21_2 : Int) := zAA (by assumption)
         have q189 : x21_2 < (l0_3.length : Int) := zAA (by assumption)
         obtain ⟨ad189, A189_3, c189_3, e189, hx189_0, hx189_1, hx189_2, hx189_3, hl189_3, hi189_3⟩ := at_T31 HR0_3.out x21_2 p189 q189
         cases e189
         replace hx189_0 := (HB.out.cell (zS w _ hx189_0)).trans hx189_0
         replace hx189_1 := (HB.out.cell (zS w _ hx189_1)).trans hx189_1
         replace hx189_2 := (HB.out.cell (zS w _ hx189_2)).trans hx189_2
         replace hx189_3 := (HB.out.cell (zS w _ hx189_3)).trans hx189_3
         have HR189_3 := zG hi189_3
         have HC189_3 := zG hl189_3
         clear hi189_3 hl189_3
         replace p189 := eq_true p189
         replace q189 := eq_true q189
         try go_wp2_with (first | ((with_reducible refine gate_dst (N := 5) rfl ?_); refine box_event ?hg (N := 5) ?hd (cs := #[.int .i64 0, .int .i64 0, .string (⟨#[]⟩ : ByteArray), .slice none 0 0]) (t := 31) ?hr ?_; (case hd => rfl); (case hg => rfl); (case hr => first | (go_simp; done) | (go_simp; rfl)); intro gb190 hg w28 hbox hb; have n0_ := zG (Kd.R_below (by (with_reducible repeat (first | apply Kd.R_alloc | apply Kd.R_drewN | apply Kd.R_drew)); exact HO_188003.out) hb); have n1_ := zG (zK (g := gb185) BK185.out hb); have n2_ := zG (zK (g := gb186) BK186.out hb); have n3_ := zG (zK (g := gb187) BK187.out hb); have n4_ := zG (zE HB.out hb); have n5_ := zG (hbox); have n6_ := zG ((by rw [hg]; exact (zF HB.out) : w.heap.size ≤ gb190)); have n7_ := n6_; have n8_ := zG ((by rw [hg]; exact Nat.ne_of_lt (zAD (g := gb185) BK185.out) : gb185 ≠ gb190)); have n9_ := zG ((by rw [hg]; exact Nat.ne_of_gt (zAD (g := gb185) BK185.out) : gb190 ≠ gb185)); have n10_ := zG ((by rw [hg]; exact Nat.ne_of_lt (zAD (g := gb186) BK186.out) : gb186 ≠ gb190)); have n11_ := zG ((by rw [hg]; exact Nat.ne_of_gt (zAD (g := gb186) BK186.out) : gb190 ≠ gb186)); have n12_ := zG ((by rw [hg]; exact Nat.ne_of_lt (zAD (g := gb187) BK187.out) : gb187 ≠ gb190)); have n13_ := zG ((by rw [hg]; exact Nat.ne_of_gt (zAD (g := gb187) BK187.out) : gb190 ≠ gb187)); clear HO_188003; clear BK185; clear BK186; clear BK187; clear HB; have HO_188003 := n0_; have BK185 := n1_; have BK186 := n2_; have BK187 := n3_; have HB := n4_; have BK190 := n5_; have GW190 := n6_; have GE190 := n7_; have NB185_190 := n8_; have NB190_185 := n9_; have NB186_190 := n10_; have NB190_186 := n11_; have NB187_190 := n12_; have NB190_187 := n13_; clear n0_ n1_ n2_ n3_ n4_ n5_ n6_ n7_ n8_ n9_ n10_ n11_ n12_ n13_; clear hb hbox hg; have hnb29 := NB190_185.out; have hnc29 := NB185_190.out; have hnb30 := NB190_186.out; have hnc30 := NB186_190.out; have hnb31 := NB190_187.out; have hnc31 := NB187_190.out; obtain ⟨hcz32_0, hcz32_1, hcz32_2, hcz32_3⟩ := zN BK190.out; have hfz32_0 := zM BK190.out 0; have hfz32_1 := zM BK190.out 1; have hfz32_2 := zM BK190.out 2; have hfz32_3 := zM BK190.out 3))
         have n0_ : Aside0 (Kd.R k72 72 ((((w28.setCell ⟨gb190, 0, none⟩ (.int .i64 ((rd_T31 l0_3 x21_2).f0))).setCell ⟨gb190, 1, none⟩ (.int .i64 ((rd_T31 l0_3 x21_2).f1))).setCell ⟨gb190, 2, none⟩ (.string ((rd_T31 l0_3 x21_2).f2))).setCell ⟨gb190, 3, none⟩ (.slice A189_3 ((rd_T31 l0_3 x21_2).f3).length c189_3)) w.heap.size (fun k_ => k_ ≠ gb186 ∧ k_ ≠ gb187) u188003 x188003_2) := ⟨by (with_reducible repeat (first | apply Kd.R_alloc | apply Kd.R_drewN | apply Kd.R_drew)); exact Kd.R_mono (Kd.R_far (p := ⟨gb190, 3, none⟩) (Kd.R_far (p := ⟨gb190, 2, none⟩) (Kd.R_far (p := ⟨gb190, 1, none⟩) (Kd.R_far (p := ⟨gb190, 0, none⟩) (Kd.R_types HO_188003.out BK190.out (by decide)) (fun _ hk => hk.2) (.int .i64 ((rd_T31 l0_3 x21_2).f0))) (fun _ hk => hk.2) (.int .i64 ((rd_T31 l0_3 x21_2).f1))) (fun _ hk => hk.2) (.string ((rd_T31 l0_3 x21_2).f2))) (fun _ hk => hk.2) (.slice A189_3 ((rd_T31 l0_3 x21_2).f3).length c189_3)) (fun _ hk => ⟨hk.1.1, hk.1.2⟩)⟩
         have n1_ : Aside0 (((((w28.setCell ⟨gb190, 0, none⟩ (.int .i64 ((rd_T31 l0_3 x21_2).f0))).setCell ⟨gb190, 1, none⟩ (.int .i64 ((rd_T31 l0_3 x21_2).f1))).setCell ⟨gb190, 2, none⟩ (.string ((rd_T31 l0_3 x21_2).f2))).setCell ⟨gb190, 3, none⟩ (.slice A189_3 ((rd_T31 l0_3 x21_2).f3).length c189_3)).heap[gb185]? = some (.cells #[.int .i64 a0_0, .int .i64 a0_1, .string a0_2, .slice (some ad189) l0_3.length c0_3] 31 (0, 0))) := ⟨by (with_reducible repeat (first | refine zH ?_ _ | refine zI ?_ | refine zJ ?_ _)); refine blk_far ?_ NB185_190.out _; (with_reducible repeat (first | refine zH ?_ _ | refine zI ?_ | refine zJ ?_ _)); refine blk_far ?_ NB185_190.out _; (with_reducible repeat (first | refine zH ?_ _ | refine zI ?_ | refine zJ ?_ _)); refine blk_far ?_ NB185_190.out _; (with_reducible repeat (first | refine zH ?_ _ | refine zI ?_ | refine zJ ?_ _)); refine blk_far ?_ NB185_190.out _; (with_reducible repeat (first | refine zH ?_ _ | refine zI ?_ | refine zJ ?_ _)); exact BK185.out⟩
         have n2_ : Aside0 (((((w28.setCell ⟨gb190, 0, none⟩ (.int .i64 ((rd_T31 l0_3 x21_2).f0))).setCell ⟨gb190, 1, none⟩ (.int .i64 ((rd_T31 l0_3 x21_2).f1))).setCell ⟨gb190, 2, none⟩ (.string ((rd_T31 l0_3 x21_2).f2))).setCell ⟨gb190, 3, none⟩ (.slice A189_3 ((rd_T31 l0_3 x21_2).f3).length c189_3)).heap[gb186]? = some (.cells #[.int .i64 0, .int .i64 0, .string (⟨#[]⟩ : ByteArray), .slice none 0 0] 72 (0, 0))) := ⟨by (with_reducible repeat (first | refine zH ?_ _ | refine zI ?_ | refine zJ ?_ _)); refine blk_far ?_ NB186_190.out _; (with_reducible repeat (first | refine zH ?_ _ | refine zI ?_ | refine zJ ?_ _)); refine blk_far ?_ NB186_190.out _; (with_reducible repeat (first | refine zH ?_ _ | refine zI ?_ | refine zJ ?_ _)); refine blk_far ?_ NB186_190.out _; (with_reducible repeat (first | refine zH ?_ _ | refine zI ?_ | refine zJ ?_ _)); refine blk_far ?_ NB186_190.out _; (with_reducible repeat (first | refine zH ?_ _ | refine zI ?_ | refine zJ ?_ _)); exact BK186.out⟩
         have n3_ : Aside0 (((((w28.setCell ⟨gb190, 0, none⟩ (.int .i64 ((rd_T31 l0_3 x21_2).f0))).setCell ⟨gb190, 1, none⟩ (.int .i64 ((rd_T31 l0_3 x21_2).f1))).setCell ⟨gb190, 2, none⟩ (.string ((rd_T31 l0_3 x21_2).f2))).setCell ⟨gb190, 3, none⟩ (.slice A189_3 ((rd_T31 l0_3 x21_2).f3).length c189_3)).heap[gb187]? = some (.cells #[.int .i64 a0_0, .int .i64 0, .string x188002_1, u188003] 72 (0, 0))) := ⟨by (with_reducible repeat (first | refine zH ?_ _ | refine zI ?_ | refine zJ ?_ _)); refine blk_far ?_ NB187_190.out _; (with_reducible repeat (first | refine zH ?_ _ | refine zI ?_ | refine zJ ?_ _)); refine blk_far ?_ NB187_190.out _; (with_reducible repeat (first | refine zH ?_ _ | refine zI ?_ | refine zJ ?_ _)); refine blk_far ?_ NB187_190.out _; (with_reducible repeat (first | refine zH ?_ _ | refine zI ?_ | refine zJ ?_ _)); refine blk_far ?_ NB187_190.out _; (with_reducible repeat (first | refine zH ?_ _ | refine zI ?_ | refine zJ ?_ _)); exact BK187.out⟩
         have n4_ : Aside0 (((((w28.setCell ⟨gb190, 0, none⟩ (.int .i64 ((rd_T31 l0_3 x21_2).f0))).setCell ⟨gb190, 1, none⟩ (.int .i64 ((rd_T31 l0_3 x21_2).f1))).setCell ⟨gb190, 2, none⟩ (.string ((rd_T31 l0_3 x21_2).f2))).setCell ⟨gb190, 3, none⟩ (.slice A189_3 ((rd_T31 l0_3 x21_2).f3).length c189_3)).heap[gb190]? = some (.cells #[.int .i64 ((rd_T31 l0_3 x21_2).f0), .int .i64 ((rd_T31 l0_3 x21_2).f1), .string ((rd_T31 l0_3 x21_2).f2), .slice A189_3 ((rd_T31 l0_3 x21_2).f3).length c189_3] 31 (0, 0))) := ⟨by (with_reducible repeat (first | refine zH ?_ _ | refine zI ?_ | refine zJ ?_ _)); refine zAH (cs := #[.int .i64 ((rd_T31 l0_3 x21_2).f0), .int .i64 ((rd_T31 l0_3 x21_2).f1), .string ((rd_T31 l0_3 x21_2).f2), .slice none 0 0]) ?_ 3 _ rfl; (with_reducible repeat (first | refine zH ?_ _ | refine zI ?_ | refine zJ ?_ _)); refine zAH (cs := #[.int .i64 ((rd_T31 l0_3 x21_2).f0), .int .i64 ((rd_T31 l0_3 x21_2).f1), .string (⟨#[]⟩ : ByteArray), .slice none 0 0]) ?_ 2 _ rfl; (with_reducible repeat (first | refine zH ?_ _ | refine zI ?_ | refine zJ ?_ _)); refine zAH (cs := #[.int .i64 ((rd_T31 l0_3 x21_2).f0), .int .i64 0, .string (⟨#[]⟩ : ByteArray), .slice none 0 0]) ?_ 1 _ rfl; (with_reducible repeat (first | refine zH ?_ _ | refine zI ?_ | refine zJ ?_ _)); refine zAH (cs := #[.int .i64 0, .int .i64 0, .string (⟨#[]⟩ : ByteArray), .slice none 0 0]) ?_ 0 _ rfl; (with_reducible repeat (first | refine zH ?_ _ | refine zI ?_ | refine zJ ?_ _)); exact BK190.out⟩
         have n5_ : Aside0 (Below w.heap.size w ((((w28.setCell ⟨gb190, 0, none⟩ (.int .i64 ((rd_T31 l0_3 x21_2).f0))).setCell ⟨gb190, 1, none⟩ (.int .i64 ((rd_T31 l0_3 x21_2).f1))).setCell ⟨gb190, 2, none⟩ (.string ((rd_T31 l0_3 x21_2).f2))).setCell ⟨gb190, 3, none⟩ (.slice A189_3 ((rd_T31 l0_3 x21_2).f3).length c189_3))) := ⟨by repeat (first | (with_reducible first | exact HB.out | apply zA | apply zB | apply zC | refine zD ?_ GE185.out | refine zD ?_ GE186.out | refine zD ?_ GE187.out | refine zD ?_ GE190.out) | exact HB.out)⟩
         (try clear HO_188003)
         (try clear BK185)
         (try clear BK186)
         (try clear BK187)
         (try clear BK190)
         (try clear HB)
         generalize ((((w28.setCell ⟨gb190, 0, none⟩ (.int .i64 ((rd_T31 l0_3 x21_2).f0))).setCell ⟨gb190, 1, none⟩ (.int .i64 ((rd_T31 l0_3 x21_2).f1))).setCell ⟨gb190, 2, none⟩ (.string ((rd_T31 l0_3 x21_2).f2))).setCell ⟨gb190, 3, none⟩ (.slice A189_3 ((rd_T31 l0_3 x21_2).f3).length c189_3)) = w33 at n0_ n1_ n2_ n3_ n4_ n5_ ⊢
         have HO_188003 := n0_
         have BK185 := n1_
         have BK186 := n2_
         have BK187 := n3_
         have BK190 := n4_
         have HB := n5_
         clear n0_ n1_ n2_ n3_ n4_ n5_
         have n0_ := zG (Kd.R_drew HO_188003.out)
         have n1_ := zG (zI BK185.out)
         have n2_ := zG (zI BK186.out)
         have n3_ := zG (zI BK187.out)
         have n4_ := zG (zI BK190.out)
         have n5_ := zG (zC HB.out)
         clear HO_188003
         clear BK185
         clear BK186
         clear BK187
         clear BK190
         clear HB
         have HO_188003 := n0_
         have BK185 := n1_
         have BK186 := n2_
         have BK187 := n3_
         have BK190 := n4_
         have HB := n5_
         clear n0_ n1_ n2_ n3_ n4_ n5_
         refine start_ (n := 8) (S := fun w' => w'.cell? ⟨gb187, 0, none⟩ = some (.int .i64 a0_0) ∧ w'.cell? ⟨gb187, 1, none⟩ = some (.int .i64 0) ∧ w'.cell? ⟨gb187, 2, none⟩ = some (.string x188002_1) ∧ w'.cell? ⟨gb187, 3, none⟩ = some (u188003) ∧ w'.cell? ⟨gb190, 0, none⟩ = some (.int .i64 ((rd_T31 l0_3 x21_2).f0)) ∧ w'.cell? ⟨gb190, 1, none⟩ = some (.int .i64 ((rd_T31 l0_3 x21_2).f1)) ∧ w'.cell? ⟨gb190, 2, none⟩ = some (.string ((rd_T31 l0_3 x21_2).f2)) ∧ w'.cell? ⟨gb190, 3, none⟩ = some (.slice A189_3 ((rd_T31 l0_3 x21_2).f3).length c189_3)) (ds := [7]) (zBM 8 0) (by kernel_rfl) rfl rfl ⟨zL BK187.out 0, zL BK187.out 1, zL BK187.out 2, zL BK187.out 3, zL BK190.out 0, zL BK190.out 1, zL BK190.out 2, zL BK190.out 3⟩ (fun hHeld => ?_); refine with_tabW types_Type_tree.tab7 types_Type_tree.bits7 (fun HT_ HW_ => ?_)
         generalize w33.drew = w34 at HO_188003 BK185 BK186 BK187 BK190 HB hHeld ⊢
         refine pure_ (i := 0) (N := some 25) (v := ?_) (a' := ?_) (zBM 8 1) rfl rfl (any_of HT_.out (by kernel_rfl)) (fun _ _ _ h => h) (Or.inl ⟨by rfl, ?_⟩) ?_ ?_
         rotate_left
         ·intro w'
          go_simp
          with_reducible rfl
         rotate_left
         ·simp only [Act.put, zO, zP, zR, i64_w, i32_w]
          rfl
         refine take_ (i := 1) (N := some 26) (v := ?_) (a' := ?_) (zBM 8 3) rfl rfl (take_ofW HT_.out HW_.out (by kernel_rfl)) (fun _ _ _ h => h) (Or.inl ⟨by rfl, ?_⟩) hHeld ?_ ?_
         rotate_left
         ·rintro w' ⟨s0, s1, s2, s3, s4, s5, s6, s7⟩
          go_simp
          with_reducible rfl
         rotate_left
         ·simp only [Act.put, zO, zP, zR, i64_w, i32_w]
          rfl
         refine take_ (i := 2) (N := some 27) (v := ?_) (a' := ?_) (zBM 8 7) rfl rfl (take_ofW HT_.out HW_.out (by kernel_rfl)) (fun _ _ _ h => h) (Or.inl ⟨by rfl, ?_⟩) hHeld ?_ ?_
         rotate_left
         ·rintro w' ⟨s0, s1, s2, s3, s4, s5, s6, s7⟩
          go_simp
          with_reducible rfl
         rotate_left
         ·simp only [Act.put, zO, zP, zR, i64_w, i32_w]
          rfl
         refine one_ (i := 3) (N := some 28) (zBM 8 15) rfl rfl (one_of HT_.out (by kernel_rfl)) (by decide) (fun K hK => ?_)
         refine goes_ Tryd.func65 (by kernel_rfl) rfl #[.agg #[.int .i64 ((rd_T31 l0_3 x21_2).f0), .int .i64 ((rd_T31 l0_3 x21_2).f1), .string ((rd_T31 l0_3 x21_2).f2), .slice A189_3 ((rd_T31 l0_3 x21_2).f3).length c189_3]] (by rfl) rfl rfl (by (try simp only [List.map_toArray, List.map_cons, List.map_nil]); first | done | rfl | (simp only [List.length_drop, List.length_take]; rfl)) ?_
         with_reducible refine (ih k2 (by have := HJ1.out; have := HK2.out; omega) ((rd_T31 l0_3 x21_2).f0) ((rd_T31 l0_3 x21_2).f1) ((rd_T31 l0_3 x21_2).f2) _ _ ((rd_T31 l0_3 x21_2).f3) t191 t192 t193 t194 _ ?side1 ?side2 A26.out (Lib.hid (TabOK.below hG.out HB.out))).mono ?_
         (case side1 => exact zAC HR189_3.out HB.out)
         (case side2 => exact HC189_3.out)
         rintro e w35 ⟨v195, rfl, ho0, hb⟩
         refine ⟨_, rfl, ?_⟩
         have n0_ := zG (Kd.R_elder' (by (with_reducible repeat (first | apply Kd.R_alloc | apply Kd.R_drewN | apply Kd.R_drew)); exact HO_188003.out) (Kd.R_base ho0) hb)
         have n1_ := zG (Kd.R_lower (Kd.R_newB (Kd.R_newB (Kd.R_new' ho0 (Kd.R_lt (by (with_reducible repeat (first | apply Kd.R_alloc | apply Kd.R_drewN | apply Kd.R_drew)); exact HO_188003.out))) (g := gb186) (o := .cells #[.int .i64 0, .int .i64 0, .string (⟨#[]⟩ : ByteArray), .slice none 0 0] 72 (0, 0)) BK186.out) (g := gb187) (o := .cells #[.int .i64 a0_0, .int .i64 0, .string x188002_1, u188003] 72 (0, 0)) BK187.out) (zF HB.out))
         have n2_ := zG (zK (g := gb185) BK185.out hb)
         have n3_ := zG (zK (g := gb186) BK186.out hb)
         have n4_ := zG (zK (g := gb187) BK187.out hb)
         have n5_ := zG (zK (g := gb190) BK190.out hb)
         have n6_ := zG (zE HB.out hb)
         clear HO_188003
         clear BK185
         clear BK186
         clear BK187
         clear BK190
         clear HB
         have HO_188003 := n0_
         have HO196 := n1_
         have BK185 := n2_
         have BK186 := n3_
         have BK187 := n4_
         have BK190 := n5_
         have HB := n6_
         clear n0_ n1_ n2_ n3_ n4_ n5_ n6_
         (try clear hb)
         (try clear hb2)
         (try clear hk)
         (try clear hi)
         (try clear ho0)
         obtain ⟨Ao37, co37, eo37⟩ := Kd.R_slice HO196.out
         (first | subst eo37 | (injection eo37 with f1_ f2_ f3_; have f4_ := f1_.symm; have f5_ := f3_.symm; clear f1_ f2_ f3_; subst f4_; subst f5_))
         refine hK.out _ _ ⟨zL BK187.out 0, zL BK187.out 1, zL BK187.out 2, zL BK187.out 3, zL BK190.out 0, zL BK190.out 1, zL BK190.out 2, zL BK190.out 3⟩ (fun hHeld => ?_)
         clear hK K
         refine norm_ (a' := ?_) ?_ ?_
         rotate_left
         ·show Act.put _ (some 28) _ = _
          simp only [Act.put, zO, zP, zR, i64_w, i32_w]
          rfl
         refine one_ (i := 4) (N := some 29) (zBM 8 31) rfl rfl (one_of HT_.out (by kernel_rfl)) (by decide) (fun K hK => ?_)
         refine value_ (w1 := ?_) (v := ?_) (by rfl) rfl ?_ ?_
         rotate_left 2
         ·go_simp
          constructor
          ·rfl
          ·rfl
         refine hK.out _ _ ⟨zL (zJ BK187.out _) 0, zL (zJ BK187.out _) 1, zL (zJ BK187.out _) 2, zL (zJ BK187.out _) 3, zL (zJ BK190.out _) 0, zL (zJ BK190.out _) 1, zL (zJ BK190.out _) 2, zL (zJ BK190.out _) 3⟩ (fun hHeld => ?_)
         clear hK K
         refine norm_ (a' := ?_) ?_ ?_
         rotate_left
         ·show Act.put _ (some 29) _ = _
          simp only [Act.put, zO, zP, zR, i64_w, i32_w]
          rfl
         refine one_ (i := 5) (N := some 30) (zBM 8 63) rfl rfl (one_of HT_.out (by kernel_rfl)) (by decide) (fun K hK => ?_)
         refine Kd.R_append_step k72 (w0 := w) w.heap.size (by rfl) (.tmp 26) (.tmp 29) 70 72 (.agg #[(.int .i64 0), (.int .i64 0), (.string ⟨#[]⟩), (.slice none 0 0)]) 56 rfl Tryd.underlying70 info72 rfl (by decide) (by omega) u188003 x188003_2 (⟨t191, t192, t193, t194⟩ : S72) [.int .i64 t191, .int .i64 t192, .string t193, .slice Ao37 t194.length co37] (fun k_ => k_ ≠ gb186 ∧ k_ ≠ gb187) (fun k_ => ((fun k_ => k_ ≠ gb186 ∧ k_ ≠ gb187)) k_ ∧ some k_ ≠ (u188003 : Value).ownBlock) rfl rfl ?aP (fun _ hk => hk) ?aF ?aO ?aB ?aS ?aL ?_
         (case aP => exact k72_mkM _ _ _ (⟨t191, t192, t193, t194⟩ : S72) (Kd.R_mono (HO196.out) (fun k_ hk => ⟨⟨hk.1.2, hk.2⟩, hk.1.1.2⟩)))
         (case aB => exact HB.out)
         (case aF => exact (fun k_ hk => ⟨Kd.freshB (g := gb186) (o := .cells #[.int .i64 0, .int .i64 0, .string (⟨#[]⟩ : ByteArray), .slice none 0 0] 72 (0, 0)) BK186.out k_ hk, Kd.freshB (g := gb187) (o := .cells #[.int .i64 a0_0, .int .i64 0, .string x188002_1, u188003] 72 (0, 0)) BK187.out k_ hk⟩))
         (case aO => exact (by (with_reducible repeat (first | apply Kd.R_alloc | apply Kd.R_drewN | apply Kd.R_drew)); exact Kd.R_mono HO_188003.out (fun _ hk => ⟨hk.1.1, hk.1.2⟩)))
         (case aS => exact (zF HB.out))
         (case aL => have := LMc27.out; omega)
         intro v198 w36 ho hb hg hat
         rw [← Ny197.out] at ho
         have n0_ := zG (blk_grown (g := gb185) (o := .cells #[.int .i64 a0_0, .int .i64 a0_1, .string a0_2, .slice (some ad189) l0_3.length c0_3] 31 (0, 0)) BK185.out hg (Kd.R_ne HO_188003.out BK185.out (by decide)))
         have n1_ := zG (blk_grown (g := gb186) (o := .cells #[.int .i64 0, .int .i64 0, .string (⟨#[]⟩ : ByteArray), .slice none 0 0] 72 (0, 0)) BK186.out hg (Kd.R_away HO_188003.out (fun _ hk => hk.1.1)))
         have n2_ := zG (blk_grown (g := gb187) (o := .cells #[.int .i64 a0_0, .int .i64 0, .string x188002_1, u188003] 72 (0, 0)) BK187.out hg (Kd.R_away HO_188003.out (fun _ hk => hk.1.2)))
         have n3_ := zG (blk_grown (g := gb190) (o := .cells #[.int .i64 ((rd_T31 l0_3 x21_2).f0), .int .i64 ((rd_T31 l0_3 x21_2).f1), .string ((rd_T31 l0_3 x21_2).f2), .slice A189_3 ((rd_T31 l0_3 x21_2).f3).length c189_3] 31 (0, 0)) BK190.out hg (Kd.R_ne HO_188003.out BK190.out (by decide)))
         have n4_ := zG (hb)
         have n5_ := zG (ho)
         clear BK185
         clear BK186
         clear BK187
         clear BK190
         clear HB
         clear HO_188003
         clear HO196
         have BK185 := n0_
         have BK186 := n1_
         have BK187 := n2_
         have BK190 := n3_
         have HB := n4_
         have HO199 := n5_
         clear n0_ n1_ n2_ n3_ n4_ n5_
         clear ho hb hg hat
         obtain ⟨Ao38, co38, eo38⟩ := Kd.R_slice HO199.out
         (first | subst eo38 | (injection eo38 with f1_ f2_ f3_; have f4_ := f1_.symm; have f5_ := f3_.symm; clear f1_ f2_ f3_; subst f4_; subst f5_))
         refine hK.out _ _ ⟨zL BK187.out 0, zL BK187.out 1, zL BK187.out 2, zL BK187.out 3, zL BK190.out 0, zL BK190.out 1, zL BK190.out 2, zL BK190.out 3⟩ (fun hHeld => ?_)
         clear hK K
         refine norm_ (a' := ?_) ?_ ?_
         rotate_left
         ·show Act.put _ (some 30) _ = _
          simp only [Act.put, zO, zP, zR, i64_w, i32_w]
          rfl
         refine pure_ (i := 6) (N := some 31) (v := ?_) (a' := ?_) (zBM 8 127) rfl rfl (any_of HT_.out (by kernel_rfl)) (fun _ _ _ h => h) (Or.inl ⟨by rfl, ?_⟩) ?_ ?_
         rotate_left
         ·intro w'
          go_simp
          with_reducible rfl
         rotate_left
         ·simp only [Act.put, zO, zP, zR, i64_w, i32_w]
          rfl
         refine last_ (i := 7) (N := none) (zBM 8 255) rfl rfl (one_of HT_.out (by kernel_rfl)) (by decide) (fun K hK => ?_)
         have hs39 : w36.cell? ⟨gb187, 3, none⟩ = some (u188003) := zL BK187.out 3
         have hfs39 := zM BK187.out 3
         have hns39_0 := NB185_187.out
         have hns39_1 := NB186_187.out
         have hns39_3 := NB190_187.out
         have hms39_0 := NB187_185.out
         have hms39_1 := NB187_186.out
         have hms39_3 := NB187_190.out
         refine skip_ (w1 := ?_) (by rfl) rfl ?_ ?_
         rotate_left
         ·go_simp
          rfl
         refine hK.out _ _ ?_
         clear hK K
         refine done_ (done_of HT_.out (by kernel_rfl)) ?_
         try go_wp2
         go_roundg k2
         case measure => have := HJ1.out; have := HK2.out; omega
         case rel => exact ⟨(wrap64 (x21_2 + 1)), (y197), (.slice Ao38 y197.length co38), (by first | rfl | (simp; done) | (simp [*]; done)), H', ⟨by have := HJ1.out; have := HK2.out; omega⟩, ⟨by (with_reducible repeat (first | apply Kd.R_alloc | apply Kd.R_drewN | apply Kd.R_drew)); exact Kd.R_mono (Kd.R_far (p := ⟨gb187, 3, none⟩) (Kd.R_mono HO199.out (fun k_ hk => (⟨hk, hk.2⟩ : _ ∧ k_ ≠ gb187))) (fun _ hk => hk.2) (.slice Ao38 y197.length co38)) (fun _ hk => ⟨hk.1.1, hk.1.2⟩)⟩, ⟨by (with_reducible repeat (first | refine zH ?_ _ | refine zI ?_ | refine zJ ?_ _)); refine blk_far ?_ NB185_187.out _; (with_reducible repeat (first | refine zH ?_ _ | refine zI ?_ | refine zJ ?_ _)); exact BK185.out⟩, ⟨by (with_reducible repeat (first | refine zH ?_ _ | refine zI ?_ | refine zJ ?_ _)); refine blk_far ?_ NB186_187.out _; (with_reducible repeat (first | refine zH ?_ _ | refine zI ?_ | refine zJ ?_ _)); exact BK186.out⟩, ⟨by (with_reducible repeat (first | refine zH ?_ _ | refine zI ?_ | refine zJ ?_ _)); refine zAH (cs := #[.int .i64 a0_0, .int .i64 0, .string x188002_1, u188003]) ?_ 3 _ rfl; (with_reducible repeat (first | refine zH ?_ _ | refine zI ?_ | refine zJ ?_ _)); exact BK187.out⟩, ⟨by repeat (first | (with_reducible first | exact HB.out | apply zA | apply zB | apply zC | refine zD ?_ GE185.out | refine zD ?_ GE186.out | refine zD ?_ GE187.out | refine zD ?_ GE190.out) | exact HB.out)⟩⟩
        ·rw [if_neg c27] at H
         exact absurd H (by simp)
       ·rw [if_neg c25] at H
        exact absurd H (by simp)
      ·rw [if_neg c24] at H
       exact absurd H (by simp)
     ·rw [if_neg c23] at H
      have c23b0 : decide (x21_2 < (l0_3.length : Int)) = false := zV c23
      clear c23
      simp only [Option.some.injEq, Prod.mk.injEq] at H
      obtain ⟨rfl, rfl, rfl, rfl⟩ := H
      have hnb40 := NB187_185.out
      have hnc40 := NB185_187.out
      have hnb41 := NB187_186.out
      have hnc41 := NB186_187.out
      obtain ⟨hcz42_0, hcz42_1, hcz42_2, hcz42_3, hfz42_0, hfz42_1, hfz42_2, hfz42_3⟩ := zQ BK187.out
      have hnb43 := NB186_185.out
      have hnc43 := NB185_186.out
      obtain ⟨hcz44_0, hcz44_1, hcz44_2, hcz44_3, hfz44_0, hfz44_1, hfz44_2, hfz44_3⟩ := zQ BK186.out
      obtain ⟨Ao45, co45, eo45⟩ := Kd.R_slice HO_188003.out
      subst eo45
      go_wp2
      refine bodyPost_ret (results_cell_row rfl _ _ gb186 72 #[.int .i64 a0_0, .int .i64 0, .string x188002_1, .slice Ao45 x188003_2.length co45] (0, 0) _ rfl (by (with_reducible repeat (first | refine zH ?_ _ | refine zI ?_ | refine zJ ?_ _)); refine zAH (cs := #[.int .i64 a0_0, .int .i64 0, .string x188002_1, .slice none 0 0]) ?_ 3 _ rfl; (with_reducible repeat (first | refine zH ?_ _ | refine zI ?_ | refine zJ ?_ _)); refine zAH (cs := #[.int .i64 a0_0, .int .i64 0, .string (⟨#[]⟩ : ByteArray), .slice none 0 0]) ?_ 2 _ rfl; (with_reducible repeat (first | refine zH ?_ _ | refine zI ?_ | refine zJ ?_ _)); refine zAH (cs := #[.int .i64 a0_0, .int .i64 0, .string (⟨#[]⟩ : ByteArray), .slice none 0 0]) ?_ 1 _ rfl; (with_reducible repeat (first | refine zH ?_ _ | refine zI ?_ | refine zJ ?_ _)); refine zAH (cs := #[.int .i64 0, .int .i64 0, .string (⟨#[]⟩ : ByteArray), .slice none 0 0]) ?_ 0 _ rfl; (with_reducible repeat (first | refine zH ?_ _ | refine zI ?_ | refine zJ ?_ _)); exact BK186.out) Tryd.underlying72 rfl (by kernel_rfl)) rfl ?_
      exact ⟨_, by first | rfl | (simp [errW_none, errW_some] <;> rfl) | (simp [*, errW_none, errW_some] <;> rfl), by (with_reducible repeat (first | apply Kd.R_alloc | apply Kd.R_drewN | apply Kd.R_drew)); exact Kd.R_mono (Kd.R_far (p := ⟨gb186, 3, none⟩) (Kd.R_far (p := ⟨gb186, 2, none⟩) (Kd.R_far (p := ⟨gb186, 1, none⟩) (Kd.R_far (p := ⟨gb186, 0, none⟩) (Kd.R_mono HO_188003.out (fun k_ hk => (⟨hk, hk.1⟩ : _ ∧ k_ ≠ gb186))) (fun _ hk => hk.2) (.int .i64 a0_0)) (fun _ hk => hk.2) (.int .i64 0)) (fun _ hk => hk.2) (.string x188002_1)) (fun _ hk => hk.2) (.slice Ao45 x188003_2.length co45)) (fun _ hk => trivial), by repeat (first | (with_reducible first | exact HB.out | apply zA | apply zB | apply zC | refine zD ?_ GE185.out | refine zD ?_ GE186.out | refine zD ?_ GE187.out) | exact HB.out)⟩

def types_Tree.f (k : Nat) (a0_0 : Int) (a0_1 : Int) (a0_2 : ByteArray) (l0_3 : List (S31)) : Option (Int × Int × ByteArray × (List (S72))) := (types_Right.f a0_0 a0_1 a0_2 l0_3).bind fun t202 => (if t202 = true then ((types_Type_tree.f k a0_0 a0_1 a0_2 l0_3).bind fun bt203 => (some (bt203.1, bt203.2.1, bt203.2.2.1, bt203.2.2.2))) else (some (0, 0, (⟨#[]⟩ : ByteArray), ([] : List (S72)))))
set_option maxHeartbeats 8000000 in
set_option maxRecDepth 100000 in
theorem types_Tree.calls (k : Nat) (a0_0 : Int) (a0_1 : Int) (a0_2 : ByteArray) (A0_3 : Option Addr) (c0_3 : Nat) (l0_3 : List (S31)) (r1 : Int) (r2 : Int) (r3 : ByteArray) (r4 : List (S72)) (w : World) (hr0_3 : Kd.C k31 w A0_3 l0_3.length l0_3) (hc0_3 : l0_3.length ≤ c0_3) (h : types_Tree.f k a0_0 a0_1 a0_2 l0_3 = some (r1, r2, r3, r4)) (hG : Hid (TabOK w)) :
  Calls Tryd.prog 38 #[.agg #[.int .i64 a0_0, .int .i64 a0_1, .string a0_2, .slice A0_3 l0_3.length c0_3]] w fun e w' => ∃ v3_ : Value, e = .returned (.agg #[.int .i64 r1, .int .i64 r2, .string r3, v3_]) ∧ Kd.R k72 72 w' w.heap.size (fun _ => True) v3_ r4 ∧ Below w.heap.size w w' := by
 have hu31 := Tryd.underlying31
 have hu72 := Tryd.underlying72
 have HR0_3 := zG hr0_3
 have HC0_3 := zG hc0_3
 clear hr0_3 hc0_3
 have HB := zG (Below.refl w.heap.size w)
 have H : ((types_Right.f a0_0 a0_1 a0_2 l0_3).bind fun t202 => (if t202 = true then ((types_Type_tree.f k a0_0 a0_1 a0_2 l0_3).bind fun bt203 => (some (bt203.1, bt203.2.1, bt203.2.2.1, bt203.2.2.2))) else (some (0, 0, (⟨#[]⟩ : ByteArray), ([] : List (S72)))))) = some (r1, r2, r3, r4) := h
 clear h
 replace H := zT H
 obtain ⟨t202, A20, H⟩ := H
 replace H : (if t202 = true then ((types_Type_tree.f k a0_0 a0_1 a0_2 l0_3).bind fun bt203 => (some (bt203.1, bt203.2.1, bt203.2.2.1, bt203.2.2.2))) else (some (0, 0, (⟨#[]⟩ : ByteArray), ([] : List (S72))))) = some (r1, r2, r3, r4) := H
 have A2 := zG A20
 clear A20
 by_cases c3 : t202 = true
 ·subst c3
  have H1 : ((types_Type_tree.f k a0_0 a0_1 a0_2 l0_3).bind fun bt203 => (some (bt203.1, bt203.2.1, bt203.2.2.1, bt203.2.2.2))) = some (r1, r2, r3, r4) := by rw [if_pos rfl] at H; exact H
  clear H
  have H := H1
  clear H1
  replace H := zT H
  obtain ⟨⟨t203, t204, t205, t206⟩, A40, H⟩ := H
  replace H : (some (t203, t204, t205, t206)) = some (r1, r2, r3, r4) := H
  have A4 := zG A40
  clear A40
  simp only [Option.some.injEq, Prod.mk.injEq] at H
  obtain ⟨rfl, rfl, rfl, rfl⟩ := H
  go_enter Tryd.func38, Tryd.ntmps38
  go_wp2_with (first | ((with_reducible refine gate_dst (N := 1) rfl ?_); refine box_event ?hg (N := 1) ?hd (cs := #[.int .i64 a0_0, .int .i64 a0_1, .string a0_2, .slice A0_3 l0_3.length c0_3]) (t := 31) ?hr ?_; (case hd => rfl); (case hg => rfl); (case hr => first | (go_simp; done) | (go_simp; rfl)); intro gb200 hg w5 hbox hb; have n0_ := zG (zE (by repeat (first | (with_reducible first | exact HB.out | apply zA | apply zB | apply zC) | exact HB.out)) hb); have n1_ := zG (hbox); have n2_ := zG ((by rw [hg]; exact (zF (by repeat (first | (with_reducible first | exact HB.out | apply zA | apply zB | apply zC) | exact HB.out))) : w.heap.size ≤ gb200)); have n3_ := n2_; clear HB; have HB := n0_; have BK200 := n1_; have GW200 := n2_; have GE200 := n3_; clear n0_ n1_ n2_ n3_; clear hb hbox hg) | ((with_reducible refine gate_dst (N := 2) rfl ?_); refine box_event ?hg (N := 2) ?hd (cs := #[.int .i64 0, .int .i64 0, .string (⟨#[]⟩ : ByteArray), .slice none 0 0]) (t := 72) ?hr ?_; (case hd => rfl); (case hg => rfl); (case hr => first | (go_simp; done) | (go_simp; rfl)); intro gb201 hg w6 hbox hb; have n0_ := zG (zK (g := gb200) (by (with_reducible repeat (first | refine zH ?_ _ | refine zI ?_ | refine zJ ?_ _)); exact BK200.out) hb); have n1_ := zG (zE (by repeat (first | (with_reducible first | exact HB.out | apply zA | apply zB | apply zC | refine zD ?_ GE200.out) | exact HB.out)) hb); have n2_ := zG (hbox); have n3_ := zG ((by rw [hg]; exact (zF (by repeat (first | (with_reducible first | exact HB.out | apply zA | apply zB | apply zC | refine zD ?_ GE200.out) | exact HB.out))) : w.heap.size ≤ gb201)); have n4_ := n3_; have n5_ := zG ((by rw [hg]; exact Nat.ne_of_lt (zAD (g := gb200) (by (with_reducible repeat (first | refine zH ?_ _ | refine zI ?_ | refine zJ ?_ _)); exact BK200.out)) : gb200 ≠ gb201)); have n6_ := zG ((by rw [hg]; exact Nat.ne_of_gt (zAD (g := gb200) (by (with_reducible repeat (first | refine zH ?_ _ | refine zI ?_ | refine zJ ?_ _)); exact BK200.out)) : gb201 ≠ gb200)); clear BK200; clear HB; have BK200 := n0_; have HB := n1_; have BK201 := n2_; have GW201 := n3_; have GE201 := n4_; have NB200_201 := n5_; have NB201_200 := n6_; clear n0_ n1_ n2_ n3_ n4_ n5_ n6_; clear hb hbox hg; have hnb7 := NB200_201.out; have hnc7 := NB201_200.out; obtain ⟨hcz8_0, hcz8_1, hcz8_2, hcz8_3⟩ := zN BK200.out; have hfz8_0 := zM BK200.out 0; have hfz8_1 := zM BK200.out 1; have hfz8_2 := zM BK200.out 2; have hfz8_3 := zM BK200.out 3) | ((with_reducible refine gate_callee (f := 21) rfl ?_); refine goesL_ (some 4) rfl rfl Tryd.func21 (by kernel_rfl) rfl #[.agg #[.int .i64 a0_0, .int .i64 a0_1, .string a0_2, .slice A0_3 l0_3.length c0_3]] rfl (by (try simp only [List.map_toArray, List.map_cons, List.map_nil]); first | done | rfl | (simp only [List.length_drop, List.length_take]; rfl)) ?_; (with_reducible refine (types_Right.calls a0_0 a0_1 a0_2 _ _ l0_3 true _ ?side1 ?side2 A2.out).mono ?_); (case side1 => repeat (first | exact (zAC HR0_3.out HB.out) | (with_reducible refine zAE ?_ _) | (with_reducible refine zAF ?_ _) | (with_reducible refine zAG ?_))); (case side2 => exact HC0_3.out); rintro e w9 ⟨rfl, hb⟩; refine ⟨_, rfl, ?_⟩; have n0_ := zG (zK (g := gb200) (by (with_reducible repeat (first | refine zH ?_ _ | refine zI ?_ | refine zJ ?_ _)); exact BK200.out) hb); have n1_ := zG (zK (g := gb201) (by (with_reducible repeat (first | refine zH ?_ _ | refine zI ?_ | refine zJ ?_ _)); exact BK201.out) hb); have n2_ := zG (zE (by repeat (first | (with_reducible first | exact HB.out | apply zA | apply zB | apply zC | refine zD ?_ GE200.out | refine zD ?_ GE201.out) | exact HB.out)) hb); clear BK200; clear BK201; clear HB; have BK200 := n0_; have BK201 := n1_; have HB := n2_; clear n0_ n1_ n2_; (try clear hb); (try clear hb2); (try clear hk); (try clear hi); obtain ⟨hcz10_0, hcz10_1, hcz10_2, hcz10_3⟩ := zN BK200.out; have hfz10_0 := zM BK200.out 0; have hfz10_1 := zM BK200.out 1; have hfz10_2 := zM BK200.out 2; have hfz10_3 := zM BK200.out 3) | ((with_reducible refine gate_callee (f := 65) rfl ?_); refine goesL_ (some 8) rfl rfl Tryd.func65 (by kernel_rfl) rfl #[.agg #[.int .i64 a0_0, .int .i64 a0_1, .string a0_2, .slice A0_3 l0_3.length c0_3]] rfl (by (try simp only [List.map_toArray, List.map_cons, List.map_nil]); first | done | rfl | (simp only [List.length_drop, List.length_take]; rfl)) ?_; (with_reducible refine (types_Type_tree.calls k a0_0 a0_1 a0_2 _ _ l0_3 t203 t204 t205 t206 _ ?side1 ?side2 A4.out (Lib.hid (TabOK.below hG.out (by repeat (first | (with_reducible first | exact HB.out | apply zA | apply zB | apply zC | refine zD ?_ GE200.out | refine zD ?_ GE201.out) | exact HB.out))))).mono ?_); (case side1 => repeat (first | exact (zAC HR0_3.out HB.out) | (with_reducible refine zAE ?_ _) | (with_reducible refine zAF ?_ _) | (with_reducible refine zAG ?_))); (case side2 => exact HC0_3.out); rintro e w11 ⟨v207, rfl, ho0, hb⟩; refine ⟨_, rfl, ?_⟩; have n0_ := zG (Kd.R_lower (Kd.R_newB ho0 (g := gb201) (o := .cells #[.int .i64 0, .int .i64 0, .string (⟨#[]⟩ : ByteArray), .slice none 0 0] 72 (0, 0)) (by (with_reducible repeat (first | refine zH ?_ _ | refine zI ?_ | refine zJ ?_ _)); exact BK201.out)) (zF (by repeat (first | (with_reducible first | exact HB.out | apply zA | apply zB | apply zC | refine zD ?_ GE200.out | refine zD ?_ GE201.out) | exact HB.out)))); have n1_ := zG (zK (g := gb200) (by (with_reducible repeat (first | refine zH ?_ _ | refine zI ?_ | refine zJ ?_ _)); exact BK200.out) hb); have n2_ := zG (zK (g := gb201) (by (with_reducible repeat (first | refine zH ?_ _ | refine zI ?_ | refine zJ ?_ _)); exact BK201.out) hb); have n3_ := zG (zE (by repeat (first | (with_reducible first | exact HB.out | apply zA | apply zB | apply zC | refine zD ?_ GE200.out | refine zD ?_ GE201.out) | exact HB.out)) hb); clear BK200; clear BK201; clear HB; have HO208 := n0_; have BK200 := n1_; have BK201 := n2_; have HB := n3_; clear n0_ n1_ n2_ n3_; (try clear hb); (try clear hb2); (try clear hk); (try clear hi); (try clear ho0); obtain ⟨hcz12_0, hcz12_1, hcz12_2, hcz12_3, hfz12_0, hfz12_1, hfz12_2, hfz12_3⟩ := zQ BK201.out; obtain ⟨Ao13, co13, eo13⟩ := Kd.R_slice HO208.out; subst eo13))
  refine bodyPost_ret (results_cell_row rfl _ _ gb201 72 #[.int .i64 t203, .int .i64 t204, .string t205, .slice Ao13 t206.length co13] (0, 0) _ rfl (by (with_reducible repeat (first | refine zH ?_ _ | refine zI ?_ | refine zJ ?_ _)); refine zAH (cs := #[.int .i64 t203, .int .i64 t204, .string t205, .slice none 0 0]) ?_ 3 _ rfl; (with_reducible repeat (first | refine zH ?_ _ | refine zI ?_ | refine zJ ?_ _)); refine zAH (cs := #[.int .i64 t203, .int .i64 t204, .string (⟨#[]⟩ : ByteArray), .slice none 0 0]) ?_ 2 _ rfl; (with_reducible repeat (first | refine zH ?_ _ | refine zI ?_ | refine zJ ?_ _)); refine zAH (cs := #[.int .i64 t203, .int .i64 0, .string (⟨#[]⟩ : ByteArray), .slice none 0 0]) ?_ 1 _ rfl; (with_reducible repeat (first | refine zH ?_ _ | refine zI ?_ | refine zJ ?_ _)); refine zAH (cs := #[.int .i64 0, .int .i64 0, .string (⟨#[]⟩ : ByteArray), .slice none 0 0]) ?_ 0 _ rfl; (with_reducible repeat (first | refine zH ?_ _ | refine zI ?_ | refine zJ ?_ _)); exact BK201.out) Tryd.underlying72 rfl (by kernel_rfl)) rfl ?_
  exact ⟨_, by first | rfl | (simp [errW_none, errW_some] <;> rfl) | (simp [*, errW_none, errW_some] <;> rfl), by (with_reducible repeat (first | apply Kd.R_alloc | apply Kd.R_drewN | apply Kd.R_drew)); exact Kd.R_mono (Kd.R_far (p := ⟨gb201, 3, none⟩) (Kd.R_far (p := ⟨gb201, 2, none⟩) (Kd.R_far (p := ⟨gb201, 1, none⟩) (Kd.R_far (p := ⟨gb201, 0, none⟩) (Kd.R_mono HO208.out (fun k_ hk => (⟨hk, hk.2⟩ : _ ∧ k_ ≠ gb201))) (fun _ hk => hk.2) (.int .i64 t203)) (fun _ hk => hk.2) (.int .i64 t204)) (fun _ hk => hk.2) (.string t205)) (fun _ hk => hk.2) (.slice Ao13 t206.length co13)) (fun _ hk => trivial), by repeat (first | (with_reducible first | exact HB.out | apply zA | apply zB | apply zC | refine zD ?_ GE200.out | refine zD ?_ GE201.out) | exact HB.out)⟩
 ·replace c3 := zAB c3
  subst c3
  have H1 : (some (0, 0, (⟨#[]⟩ : ByteArray), ([] : List (S72)))) = some (r1, r2, r3, r4) := by rw [if_neg (show ¬ (false = true) by decide)] at H; exact H
  clear H
  have H := H1
  clear H1
  simp only [Option.some.injEq, Prod.mk.injEq] at H
  obtain ⟨rfl, rfl, rfl, rfl⟩ := H
  go_enter Tryd.func38, Tryd.ntmps38
  go_wp2_with (first | ((with_reducible refine gate_dst (N := 1) rfl ?_); refine box_event ?hg (N := 1) ?hd (cs := #[.int .i64 a0_0, .int .i64 a0_1, .string a0_2, .slice A0_3 l0_3.length c0_3]) (t := 31) ?hr ?_; (case hd => rfl); (case hg => rfl); (case hr => first | (go_simp; done) | (go_simp; rfl)); intro gb200 hg w14 hbox hb; have n0_ := zG (zE (by repeat (first | (with_reducible first | exact HB.out | apply zA | apply zB | apply zC) | exact HB.out)) hb); have n1_ := zG (hbox); have n2_ := zG ((by rw [hg]; exact (zF (by repeat (first | (with_reducible first | exact HB.out | apply zA | apply zB | apply zC) | exact HB.out))) : w.heap.size ≤ gb200)); have n3_ := n2_; clear HB; have HB := n0_; have BK200 := n1_; have GW200 := n2_; have GE200 := n3_; clear n0_ n1_ n2_ n3_; clear hb hbox hg) | ((with_reducible refine gate_dst (N := 2) rfl ?_); refine box_event ?hg (N := 2) ?hd (cs := #[.int .i64 0, .int .i64 0, .string (⟨#[]⟩ : ByteArray), .slice none 0 0]) (t := 72) ?hr ?_; (case hd => rfl); (case hg => rfl); (case hr => first | (go_simp; done) | (go_simp; rfl)); intro gb201 hg w15 hbox hb; have n0_ := zG (zK (g := gb200) (by (with_reducible repeat (first | refine zH ?_ _ | refine zI ?_ | refine zJ ?_ _)); exact BK200.out) hb); have n1_ := zG (zE (by repeat (first | (with_reducible first | exact HB.out | apply zA | apply zB | apply zC | refine zD ?_ GE200.out) | exact HB.out)) hb); have n2_ := zG (hbox); have n3_ := zG ((by rw [hg]; exact (zF (by repeat (first | (with_reducible first | exact HB.out | apply zA | apply zB | apply zC | refine zD ?_ GE200.out) | exact HB.out))) : w.heap.size ≤ gb201)); have n4_ := n3_; have n5_ := zG ((by rw [hg]; exact Nat.ne_of_lt (zAD (g := gb200) (by (with_reducible repeat (first | refine zH ?_ _ | refine zI ?_ | refine zJ ?_ _)); exact BK200.out)) : gb200 ≠ gb201)); have n6_ := zG ((by rw [hg]; exact Nat.ne_of_gt (zAD (g := gb200) (by (with_reducible repeat (first | refine zH ?_ _ | refine zI ?_ | refine zJ ?_ _)); exact BK200.out)) : gb201 ≠ gb200)); clear BK200; clear HB; have BK200 := n0_; have HB := n1_; have BK201 := n2_; have GW201 := n3_; have GE201 := n4_; have NB200_201 := n5_; have NB201_200 := n6_; clear n0_ n1_ n2_ n3_ n4_ n5_ n6_; clear hb hbox hg; have hnb16 := NB200_201.out; have hnc16 := NB201_200.out; obtain ⟨hcz17_0, hcz17_1, hcz17_2, hcz17_3⟩ := zN BK200.out; have hfz17_0 := zM BK200.out 0; have hfz17_1 := zM BK200.out 1; have hfz17_2 := zM BK200.out 2; have hfz17_3 := zM BK200.out 3) | ((with_reducible refine gate_callee (f := 21) rfl ?_); refine goesL_ (some 4) rfl rfl Tryd.func21 (by kernel_rfl) rfl #[.agg #[.int .i64 a0_0, .int .i64 a0_1, .string a0_2, .slice A0_3 l0_3.length c0_3]] rfl (by (try simp only [List.map_toArray, List.map_cons, List.map_nil]); first | done | rfl | (simp only [List.length_drop, List.length_take]; rfl)) ?_; (with_reducible refine (types_Right.calls a0_0 a0_1 a0_2 _ _ l0_3 false _ ?side1 ?side2 A2.out).mono ?_); (case side1 => repeat (first | exact (zAC HR0_3.out HB.out) | (with_reducible refine zAE ?_ _) | (with_reducible refine zAF ?_ _) | (with_reducible refine zAG ?_))); (case side2 => exact HC0_3.out); rintro e w18 ⟨rfl, hb⟩; refine ⟨_, rfl, ?_⟩; have n0_ := zG (zK (g := gb200) (by (with_reducible repeat (first | refine zH ?_ _ | refine zI ?_ | refine zJ ?_ _)); exact BK200.out) hb); have n1_ := zG (zK (g := gb201) (by (with_reducible repeat (first | refine zH ?_ _ | refine zI ?_ | refine zJ ?_ _)); exact BK201.out) hb); have n2_ := zG (zE (by repeat (first | (with_reducible first | exact HB.out | apply zA | apply zB | apply zC | refine zD ?_ GE200.out | refine zD ?_ GE201.out) | exact HB.out)) hb); clear BK200; clear BK201; clear HB; have BK200 := n0_; have BK201 := n1_; have HB := n2_; clear n0_ n1_ n2_; (try clear hb); (try clear hb2); (try clear hk); (try clear hi); obtain ⟨hcz19_0, hcz19_1, hcz19_2, hcz19_3⟩ := zN BK201.out; have hfz19_0 := zM BK201.out 0; have hfz19_1 := zM BK201.out 1; have hfz19_2 := zM BK201.out 2; have hfz19_3 := zM BK201.out 3))
  refine bodyPost_ret (results_cell_row rfl _ _ gb201 72 #[.int .i64 0, .int .i64 0, .string (⟨#[]⟩ : ByteArray), .slice none 0 0] (0, 0) _ rfl (by (with_reducible repeat (first | refine zH ?_ _ | refine zI ?_ | refine zJ ?_ _)); refine zAH (cs := #[.int .i64 0, .int .i64 0, .string (⟨#[]⟩ : ByteArray), .slice none 0 0]) ?_ 3 _ rfl; (with_reducible repeat (first | refine zH ?_ _ | refine zI ?_ | refine zJ ?_ _)); refine zAH (cs := #[.int .i64 0, .int .i64 0, .string (⟨#[]⟩ : ByteArray), .slice none 0 0]) ?_ 2 _ rfl; (with_reducible repeat (first | refine zH ?_ _ | refine zI ?_ | refine zJ ?_ _)); refine zAH (cs := #[.int .i64 0, .int .i64 0, .string (⟨#[]⟩ : ByteArray), .slice none 0 0]) ?_ 1 _ rfl; (with_reducible repeat (first | refine zH ?_ _ | refine zI ?_ | refine zJ ?_ _)); refine zAH (cs := #[.int .i64 0, .int .i64 0, .string (⟨#[]⟩ : ByteArray), .slice none 0 0]) ?_ 0 _ rfl; (with_reducible repeat (first | refine zH ?_ _ | refine zI ?_ | refine zJ ?_ _)); exact BK201.out) Tryd.underlying72 rfl (by kernel_rfl)) rfl ?_
  exact ⟨_, by first | rfl | (simp [errW_none, errW_some] <;> rfl) | (simp [*, errW_none, errW_some] <;> rfl), by first | exact Kd.R_nil _ _ _ _ _ | exact Kd.N_nil _ _ _ _ _ | exact Kd.V_nil _ _ _ _ _ | exact Kd.Q_nil _ _ _ _ _ | exact Kd.S_nil _ _ _ _ _, by repeat (first | (with_reducible first | exact HB.out | apply zA | apply zB | apply zC | refine zD ?_ GE200.out | refine zD ?_ GE201.out) | exact HB.out)⟩

-- NOT PRINTED: function 66 (slices_Clone_string_string)

-- NOT PRINTED: function 40 (types_Of)

-- NOT PRINTED: function 7 (hammocklaw09_TypesBack)

end Go.Proofs.YtddmdiaopaoekaaDoor.P
