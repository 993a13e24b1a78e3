-- written by a program of this session's (wip/tools/extprint.py) over the kit's print
import Derived.Test.YtddmdiaopaoekaaDoorPx0
import Derived.Test.YtddmdiaopaoekaaDoorPx2
import Derived.Test.YtddmdiaopaoekaaDoorPx9
import Derived.Test.YtddmdiaopaoekaaDoorSq
namespace Go.Proofs.YtddmdiaopaoekaaDoor.P
open Go.RowKit Go.Proofs.YtddmdiaopaoekaaDoorW.PrintWords Go.Proofs.YtddmdiaopaoekaaDoorW.PrintLast Go.Proofs.YtddmdiaopaoekaaDoorW.PrintMore
attribute [local go_sem] max2_int min2_int max_two min_two max_three min_three max_four min_four   -- for this text's walks alone
set_option linter.unusedVariables false
set_option linter.unusedSimpArgs false

def hammockref05_Show.f (k : Nat) (a0_0 : Int) (a0_1 : Int) (a0_2 : ByteArray) (l0_3 : List (S68)) : Option (ByteArray) := (hammockref05_typ.f k a0_0 a0_1 a0_2 l0_3 false).bind fun t359 => (some t359)
set_option maxHeartbeats 8000000 in
set_option maxRecDepth 100000 in
theorem hammockref05_Show.calls (k : Nat) (a0_0 : Int) (a0_1 : Int) (a0_2 : ByteArray) (A0_3 : Option Addr) (c0_3 : Nat) (l0_3 : List (S68)) (r : ByteArray) (w : World) (hr0_3 : Kd.C k68 w A0_3 l0_3.length l0_3) (hc0_3 : l0_3.length ≤ c0_3) (h : hammockref05_Show.f k a0_0 a0_1 a0_2 l0_3 = some r) :
  Calls Tryd.prog 62 #[.agg #[.int .i64 a0_0, .int .i64 a0_1, .string a0_2, .slice A0_3 l0_3.length c0_3]] w fun e w' => e = .returned (.string r) ∧ Below w.heap.size w w' := by
 have hu68 := Tryd.underlying68
 have HR0_3 := zG hr0_3
 have HC0_3 := zG hc0_3
 clear hr0_3 hc0_3
 have HB := zG (Below.refl w.heap.size w)
 have H : ((hammockref05_typ.f k a0_0 a0_1 a0_2 l0_3 false).bind fun t359 => (some t359)) = some r := h
 clear h
 replace H := zT H
 obtain ⟨t359, A20, H⟩ := H
 replace H : (some t359) = some r := H
 have A2 := zG A20
 clear A20
 obtain rfl := Option.some.inj H
 go_enter Tryd.func62, Tryd.ntmps62
 go_wp2_with (first | ((with_reducible refine gate_dst (N := 1) rfl ?_); refine box_event ?hg (N := 1) ?hd (cs := #[.int .i64 a0_0, .int .i64 a0_1, .string a0_2, .slice A0_3 l0_3.length c0_3]) (t := 68) ?hr ?_; (case hd => rfl); (case hg => rfl); (case hr => first | (go_simp; done) | (go_simp; rfl)); intro gb358 hg w3 hbox hb; have n0_ := zG (zE (by repeat (first | (with_reducible first | exact HB.out | apply zA | apply zB | apply zC) | exact HB.out)) hb); have n1_ := zG (hbox); have n2_ := zG ((by rw [hg]; exact (zF (by repeat (first | (with_reducible first | exact HB.out | apply zA | apply zB | apply zC) | exact HB.out))) : w.heap.size ≤ gb358)); have n3_ := n2_; clear HB; have HB := n0_; have BK358 := n1_; have GW358 := n2_; have GE358 := n3_; clear n0_ n1_ n2_ n3_; clear hb hbox hg; obtain ⟨hcz4_0, hcz4_1, hcz4_2, hcz4_3⟩ := zN BK358.out; have hfz4_0 := zM BK358.out 0; have hfz4_1 := zM BK358.out 1; have hfz4_2 := zM BK358.out 2; have hfz4_3 := zM BK358.out 3) | ((with_reducible refine gate_callee (f := 80) rfl ?_); refine goesL_ (some 4) rfl rfl Tryd.func80 (by kernel_rfl) rfl #[.agg #[.int .i64 a0_0, .int .i64 a0_1, .string a0_2, .slice A0_3 l0_3.length c0_3], .bool false] rfl (by (try simp only [List.map_toArray, List.map_cons, List.map_nil]); first | done | rfl | (simp only [List.length_drop, List.length_take]; rfl)) ?_; (with_reducible refine (hammockref05_typ.calls k a0_0 a0_1 a0_2 _ _ l0_3 false t359 _ ?side1 ?side2 A2.out).mono ?_); (case side1 => repeat (first | exact (zAC HR0_3.out HB.out) | (with_reducible refine zAE ?_ _) | (with_reducible refine zAF ?_ _) | (with_reducible refine zAG ?_))); (case side2 => exact HC0_3.out); rintro e w5 ⟨rfl, hb⟩; refine ⟨_, rfl, ?_⟩; have n0_ := zG (zK (g := gb358) (by (with_reducible repeat (first | refine zH ?_ _ | refine zI ?_ | refine zJ ?_ _)); exact BK358.out) hb); have n1_ := zG (zE (by repeat (first | (with_reducible first | exact HB.out | apply zA | apply zB | apply zC | refine zD ?_ GE358.out) | exact HB.out)) hb); clear BK358; clear HB; have BK358 := n0_; have HB := n1_; clear n0_ n1_; (try clear hb); (try clear hb2); (try clear hk); (try clear hi)))
 go_ret
 exact ⟨rfl, HB.out⟩

def hammockref02_Digits.l0 : Nat → Int → ByteArray → Option (ByteArray)
 | 0, _, _ => none
 | k + 1, x0, x3 => if x0 ≥ 10 then ((some (([(wrap64 (48 + (Int.tmod x0 10))) % 256] : List Int) : List Int)).bind fun y360 => (if (strOfNums y360).size + x3.size ≤ 9223372036854775807 then (hammockref02_Digits.l0 k (wrap64 (Int.tdiv x0 10)) ((strOfNums y360) ++ x3)) else (none))) else ((some (([(wrap64 (48 + x0)) % 256] : List Int) : List Int)).bind fun y363 => (if (strOfNums y363).size + x3.size ≤ 9223372036854775807 then (some ((strOfNums y363) ++ x3)) else (none)))
def hammockref02_Digits.f (k : Nat) (a0 : Int) : Option (ByteArray) := hammockref02_Digits.l0 k a0 (⟨#[]⟩ : ByteArray)
theorem hammockref02_Digits.mono_l : ∀ k, (∀ y0 y1, LeO (hammockref02_Digits.l0 k y0 y1) (hammockref02_Digits.l0 (k + 1) y0 y1))
 | 0 => fun _ _ r h => by simp [hammockref02_Digits.l0] at h
 | k + 1 => by
  have ih0 := hammockref02_Digits.mono_l k
  ·intro y0 y1
   unfold hammockref02_Digits.l0
   repeat' first
   | (with_reducible exact ih0 _ _)
   | (with_reducible exact LeO.refl _)
   | (with_reducible exact LeO.none _)
   | (with_reducible refine LeO.ite ?_ ?_)
   | (with_reducible refine LeO.bind ?_ (fun _ => ?_))
theorem hammockref02_Digits.mono : ∀ a0 k, LeO (hammockref02_Digits.f k a0) (hammockref02_Digits.f (k + 1) a0) := by
 intro a0 k
 have ih0 := hammockref02_Digits.mono_l k
 unfold hammockref02_Digits.f
 repeat' first
   | (with_reducible exact ih0 _ _)
   | (with_reducible exact LeO.refl _)
   | (with_reducible exact LeO.none _)
   | (with_reducible refine LeO.ite ?_ ?_)
   | (with_reducible refine LeO.bind ?_ (fun _ => ?_))
set_option maxHeartbeats 8000000 in
set_option maxRecDepth 100000 in
theorem hammockref02_Digits.calls (k : Nat) (a0 : Int) (r : ByteArray) (w : World) (h : hammockref02_Digits.f k a0 = some r) :
  Calls Tryd.prog 86 #[.int .i64 a0] w fun e w' => e = .returned (.string r) ∧ Below w.heap.size w w' := by
 have HB := zG (Below.refl w.heap.size w)
 have H : (hammockref02_Digits.l0 k a0 (⟨#[]⟩ : ByteArray)) = some r := h
 clear h
 have H' := zG H
 clear H
 go_enter Tryd.func86, Tryd.ntmps86
 go_wp2
 go_loopg [0, 3] k (fun kq v0 v3 w' => ∃ (x0_1 : Int) (x3_1 : ByteArray), v0 = .int .i64 x0_1 ∧ v3 = .string x3_1 ∧ Aside0 (hammockref02_Digits.l0 kq x0_1 x3_1 = some r) ∧ Aside0 (kq ≤ k) ∧ Aside0 (Below w.heap.size w w'))
 case atStart => exact ⟨(a0), ((⟨#[]⟩ : ByteArray)), (by first | rfl | (simp; done) | (simp [*]; done)), (by first | rfl | (simp; done) | (simp [*]; done)), H', ⟨Nat.le_refl _⟩, ⟨HB.out⟩⟩
 case round =>
  clear H'
  obtain ⟨x0_1, x3_1, rfl, rfl, HA, HK1, HB⟩ := hrel
  cases gk with
  | zero => exact absurd HA.out (by simp [hammockref02_Digits.l0])
  | succ k1 =>
   have H := HA.out
   clear HA
   simp only [hammockref02_Digits.l0] at H
   by_cases c2 : x0_1 ≥ 10
   ·rw [if_pos c2] at H
    have c2b0 : decide (10 ≤ x0_1) = true := zU c2
    clear c2
    obtain ⟨y360, hy360⟩ : ∃ y_ : List Int, y_ = (([(wrap64 (48 + (Int.tmod x0_1 10))) % 256] : List Int)) := ⟨_, rfl⟩
    replace H : (if (strOfNums y360).size + x3_1.size ≤ 9223372036854775807 then (hammockref02_Digits.l0 k1 (wrap64 (Int.tdiv x0_1 10)) ((strOfNums y360) ++ x3_1)) else (none)) = some r := by first | (rw [hy360]; with_reducible exact H) | (have H2_ := (Option.bind_some _ _).symm.trans H; rw [hy360]; with_reducible exact H2_) | (have H2_ := (Option.bind_some _ _).symm.trans H; with_reducible exact H2_) | with_reducible exact H | (rw [hy360]; exact H) | exact H
    have Ny360 := zG hy360
    clear hy360
    by_cases c3 : (strOfNums y360).size + x3_1.size ≤ 9223372036854775807
    ·rw [if_pos c3] at H
     have c3b0 := eq_true c3
     have c3b1 : decide ((strOfNums y360).size + x3_1.size ≤ 9223372036854775807) = true := zU c3
     try have c3b2 : (9223372036854775807 < (strOfNums y360).size + x3_1.size) = False := eq_false (Nat.not_lt.2 c3)
     have H' := zG H
     clear H
     go_wp2_with (first | ((with_reducible refine gate_dst (N := 10) rfl ?_); refine Kd.R_lit (Kd.int .u8) _ 5 ?hg (N := 10) ?hd (xs := ([(wrap64 (48 + (Int.tmod x0_1 10))) % 256] : List Int)) (inner := [.int .u8 ((wrap64 (48 + (Int.tmod x0_1 10))) % 256)]) (ok := fun _ => True) (okp := fun _ => True) ?hr ?hp (fun _ hk => hk) trivial (Below.refl _ _) (Nat.le_refl _) (by simp) ?_; (case hd => rfl); (case hg => rfl); (case hr => first | (go_simp; done) | (go_simp; rfl)); (case hp => exact (Reps.one (show Kd.M (Kd.int .u8) _ _ _ ((wrap64 (48 + (Int.tmod x0_1 10))) % 256) [.int .u8 ((wrap64 (48 + (Int.tmod x0_1 10))) % 256)] from rfl) (Reps.none _ _))); intro v361 w4 ho5 hb hg_ hnew_; clear hg_ hnew_; (first | rw [← Ny360.out] at ho5 | (simp only [Int.reduceToNat] at ho5; rw [← Ny360.out] at ho5)); have n0_ := zG (Kd.R_lower ho5 (zF HB.out)); have n1_ := zG (zE HB.out hb); clear HB; have HO362 := n0_; have HB := n1_; clear n0_ n1_; clear hb ho5; have hcv6 := own_string (P := Tryd.prog) Tryd.underlying96 Tryd.underlying5 Tryd.underlying9 (Kd.own_of_R HO362.out)))
     go_roundg k1
     case measure => have := HK1.out; omega
     case rel => exact ⟨(wrap64 (Int.tdiv x0_1 10)), ((strOfNums y360) ++ x3_1), (by first | rfl | (simp; done) | (simp [*]; done)), (by first | rfl | (simp; done) | (simp [*]; done)), H', ⟨by have := HK1.out; omega⟩, ⟨HB.out⟩⟩
    ·rw [if_neg c3] at H
     exact absurd H (by simp)
   ·rw [if_neg c2] at H
    have c2b0 : decide (10 ≤ x0_1) = false := zV c2
    clear c2
    obtain ⟨y363, hy363⟩ : ∃ y_ : List Int, y_ = (([(wrap64 (48 + x0_1)) % 256] : List Int)) := ⟨_, rfl⟩
    replace H : (if (strOfNums y363).size + x3_1.size ≤ 9223372036854775807 then (some ((strOfNums y363) ++ x3_1)) else (none)) = some r := by first | (rw [hy363]; with_reducible exact H) | (have H2_ := (Option.bind_some _ _).symm.trans H; rw [hy363]; with_reducible exact H2_) | (have H2_ := (Option.bind_some _ _).symm.trans H; with_reducible exact H2_) | with_reducible exact H | (rw [hy363]; exact H) | exact H
    have Ny363 := zG hy363
    clear hy363
    by_cases c7 : (strOfNums y363).size + x3_1.size ≤ 9223372036854775807
    ·rw [if_pos c7] at H
     have c7b0 := eq_true c7
     have c7b1 : decide ((strOfNums y363).size + x3_1.size ≤ 9223372036854775807) = true := zU c7
     try have c7b2 : (9223372036854775807 < (strOfNums y363).size + x3_1.size) = False := eq_false (Nat.not_lt.2 c7)
     obtain rfl := Option.some.inj H
     go_wp2_with (first | ((with_reducible refine gate_dst (N := 19) rfl ?_); refine Kd.R_lit (Kd.int .u8) _ 5 ?hg (N := 19) ?hd (xs := ([(wrap64 (48 + x0_1)) % 256] : List Int)) (inner := [.int .u8 ((wrap64 (48 + x0_1)) % 256)]) (ok := fun _ => True) (okp := fun _ => True) ?hr ?hp (fun _ hk => hk) trivial (Below.refl _ _) (Nat.le_refl _) (by simp) ?_; (case hd => rfl); (case hg => rfl); (case hr => first | (go_simp; done) | (go_simp; rfl)); (case hp => exact (Reps.one (show Kd.M (Kd.int .u8) _ _ _ ((wrap64 (48 + x0_1)) % 256) [.int .u8 ((wrap64 (48 + x0_1)) % 256)] from rfl) (Reps.none _ _))); intro v364 w8 ho9 hb hg_ hnew_; clear hg_ hnew_; (first | rw [← Ny363.out] at ho9 | (simp only [Int.reduceToNat] at ho9; rw [← Ny363.out] at ho9)); have n0_ := zG (Kd.R_lower ho9 (zF HB.out)); have n1_ := zG (zE HB.out hb); clear HB; have HO365 := n0_; have HB := n1_; clear n0_ n1_; clear hb ho9; have hcv10 := own_string (P := Tryd.prog) Tryd.underlying96 Tryd.underlying5 Tryd.underlying9 (Kd.own_of_R HO365.out)))
     go_ret
     exact ⟨rfl, HB.out⟩
    ·rw [if_neg c7] at H
     exact absurd H (by simp)

def hammockref09_Letter.f (k : Nat) (a0 : Int) : Option (ByteArray) := if a0 < 26 then (some (strOfNums (([(wrap64 (97 + a0)) % 256] : List Int)))) else ((hammockref02_Digits.f k (wrap64 (a0 - 25))).bind fun t369 => (if 1 + t369.size ≤ 9223372036854775807 then (some ((⟨#[97]⟩ : ByteArray) ++ t369)) else (none)))
theorem hammockref09_Letter.mono : ∀ a0 k, LeO (hammockref09_Letter.f k a0) (hammockref09_Letter.f (k + 1) a0) := by
 intro a0 k
 unfold hammockref09_Letter.f
 repeat' first
   | (with_reducible exact hammockref02_Digits.mono _ _)
   | (with_reducible exact LeO.refl _)
   | (with_reducible exact LeO.none _)
   | (with_reducible refine LeO.ite ?_ ?_)
   | (with_reducible refine LeO.bind ?_ (fun _ => ?_))
set_option maxHeartbeats 8000000 in
set_option maxRecDepth 100000 in
theorem hammockref09_Letter.calls (k : Nat) (a0 : Int) (r : ByteArray) (w : World) (h : hammockref09_Letter.f k a0 = some r) :
  Calls Tryd.prog 81 #[.int .i64 a0] w fun e w' => e = .returned (.string r) ∧ Below w.heap.size w w' := by
 have HB := zG (Below.refl w.heap.size w)
 have H : (if a0 < 26 then (some (strOfNums (([(wrap64 (97 + a0)) % 256] : List Int)))) else ((hammockref02_Digits.f k (wrap64 (a0 - 25))).bind fun t369 => (if 1 + t369.size ≤ 9223372036854775807 then (some ((⟨#[97]⟩ : ByteArray) ++ t369)) else (none)))) = some r := h
 clear h
 by_cases c2 : a0 < 26
 ·rw [if_pos c2] at H
  have c2b0 : decide (a0 < 26) = true := zU c2
  clear c2
  obtain ⟨y366, hy366⟩ : ∃ y_ : List Int, y_ = (([(wrap64 (97 + a0)) % 256] : List Int)) := ⟨_, rfl⟩
  replace H : (some (strOfNums y366)) = some r := by first | (rw [hy366]; with_reducible exact H) | (have H2_ := (Option.bind_some _ _).symm.trans H; rw [hy366]; with_reducible exact H2_) | (have H2_ := (Option.bind_some _ _).symm.trans H; with_reducible exact H2_) | with_reducible exact H | (rw [hy366]; exact H) | exact H
  have Ny366 := zG hy366
  clear hy366
  obtain rfl := Option.some.inj H
  go_enter Tryd.func81, Tryd.ntmps81
  go_wp2_with (first | ((with_reducible refine gate_dst (N := 8) rfl ?_); refine Kd.R_lit (Kd.int .u8) _ 5 ?hg (N := 8) ?hd (xs := ([(wrap64 (97 + a0)) % 256] : List Int)) (inner := [.int .u8 ((wrap64 (97 + a0)) % 256)]) (ok := fun _ => True) (okp := fun _ => True) ?hr ?hp (fun _ hk => hk) trivial (Below.refl _ _) (Nat.le_refl _) (by simp) ?_; (case hd => rfl); (case hg => rfl); (case hr => first | (go_simp; done) | (go_simp; rfl)); (case hp => exact (Reps.one (show Kd.M (Kd.int .u8) _ _ _ ((wrap64 (97 + a0)) % 256) [.int .u8 ((wrap64 (97 + a0)) % 256)] from rfl) (Reps.none _ _))); intro v367 w3 ho4 hb hg_ hnew_; clear hg_ hnew_; (first | rw [← Ny366.out] at ho4 | (simp only [Int.reduceToNat] at ho4; rw [← Ny366.out] at ho4)); have n0_ := zG (Kd.R_lower ho4 (zF HB.out)); have n1_ := zG (zE HB.out hb); clear HB; have HO368 := n0_; have HB := n1_; clear n0_ n1_; clear hb ho4; have hcv5 := own_string (P := Tryd.prog) Tryd.underlying96 Tryd.underlying5 Tryd.underlying9 (Kd.own_of_R HO368.out)))
  go_ret
  exact ⟨rfl, HB.out⟩
 ·rw [if_neg c2] at H
  have c2b0 : decide (a0 < 26) = false := zV c2
  clear c2
  replace H := zT H
  obtain ⟨t369, A60, H⟩ := H
  replace H : (if 1 + t369.size ≤ 9223372036854775807 then (some ((⟨#[97]⟩ : ByteArray) ++ t369)) else (none)) = some r := H
  have A6 := zG A60
  clear A60
  by_cases c7 : 1 + t369.size ≤ 9223372036854775807
  ·rw [if_pos c7] at H
   have c7b0 := eq_true c7
   have c7b1 : decide (1 + t369.size ≤ 9223372036854775807) = true := zU c7
   try have c7b2 : (9223372036854775807 < 1 + t369.size) = False := eq_false (Nat.not_lt.2 c7)
   obtain rfl := Option.some.inj H
   go_enter Tryd.func81, Tryd.ntmps81
   go_wp2_with (first | ((with_reducible refine gate_callee (f := 86) rfl ?_); refine goesL_ (some 12) rfl rfl Tryd.func86 (by kernel_rfl) rfl #[.int .i64 (wrap64 (a0 - 25))] rfl (by (try simp only [List.map_toArray, List.map_cons, List.map_nil]); first | done | rfl | (simp only [List.length_drop, List.length_take]; rfl)) ?_; (with_reducible refine (hammockref02_Digits.calls k (wrap64 (a0 - 25)) t369 _ A6.out).mono ?_); rintro e w8 ⟨rfl, hb⟩; refine ⟨_, rfl, ?_⟩; have n0_ := zG (zE (by repeat (first | (with_reducible first | exact HB.out | apply zA | apply zB | apply zC) | exact HB.out)) hb); clear HB; have HB := n0_; clear n0_; (try clear hb); (try clear hb2); (try clear hk); (try clear hi)))
   go_ret
   exact ⟨rfl, HB.out⟩
  ·rw [if_neg c7] at H
   exact absurd H (by simp)

mutual
def hammockref09_tree.j0 : Nat → Int → Int → ByteArray → List (S24) → Int → Int → ByteArray → Option (Int × Int × ByteArray × (List (S68)))
 | 0, _, _, _, _, _, _, _ => none
 | k + 1, x371000, x371001, x371002, x371003, x373000, x373001, x373002 => hammockref09_tree.l0 k 0 x371000 x371001 x371002 x371003 x373000 x373001 x373002 ([] : List (S68))
def hammockref09_tree.l0 : Nat → Int → Int → Int → ByteArray → List (S24) → Int → Int → ByteArray → List (S68) → Option (Int × Int × ByteArray × (List (S68)))
 | 0, _, _, _, _, _, _, _, _, _ => none
 | k + 1, x4, x371000, x371001, x371002, x371003, x373000, x373001, x373002, x373003 => if x4 < (x371003.length : Int) then (if 0 ≤ x4 then ((hammockref09_tree.f k ((rd_T24 x371003 x4).f0) ((rd_T24 x371003 x4).f1) ((rd_T24 x371003 x4).f2) ((rd_T24 x371003 x4).f3)).bind fun bt375 => (if x373003.length < 2513169434916 then (hammockref09_tree.l0 k (wrap64 (x4 + 1)) x371000 x371001 x371002 x371003 x373000 x373001 x373002 (x373003 ++ [(⟨bt375.1, bt375.2.1, bt375.2.2.1, bt375.2.2.2⟩ : S68)])) else (none))) else (none)) else (some (x373000, x373001, x373002, x373003))
def hammockref09_tree.f : Nat → Int → Int → ByteArray → List (S24) → Option (Int × Int × ByteArray × (List (S68)))
 | 0, _, _, _, _ => none
 | k + 1, a0_0, a0_1, a0_2, l0_3 => if a0_0 = 1 then ((hammockref09_Letter.f k a0_1).bind fun t373 => (hammockref09_tree.j0 k a0_0 a0_1 a0_2 l0_3 a0_0 0 t373)) else (hammockref09_tree.j0 k a0_0 a0_1 a0_2 l0_3 a0_0 0 a0_2)
end
theorem hammockref09_tree.mono_l : ∀ k, (∀ y0 y1 y2 y3, LeO (hammockref09_tree.f k y0 y1 y2 y3) (hammockref09_tree.f (k + 1) y0 y1 y2 y3)) ∧ (∀ y0 y1 y2 y3 y4 y5 y6, LeO (hammockref09_tree.j0 k y0 y1 y2 y3 y4 y5 y6) (hammockref09_tree.j0 (k + 1) y0 y1 y2 y3 y4 y5 y6)) ∧ (∀ y0 y1 y2 y3 y4 y5 y6 y7 y8, LeO (hammockref09_tree.l0 k y0 y1 y2 y3 y4 y5 y6 y7 y8) (hammockref09_tree.l0 (k + 1) y0 y1 y2 y3 y4 y5 y6 y7 y8))
 | 0 => ⟨fun _ _ _ _ r h => by simp [hammockref09_tree.f] at h, fun _ _ _ _ _ _ _ r h => by simp [hammockref09_tree.j0] at h, fun _ _ _ _ _ _ _ _ _ r h => by simp [hammockref09_tree.l0] at h⟩
 | k + 1 => by
  obtain ⟨ih0, ih1, ih2⟩ := hammockref09_tree.mono_l k
  refine ⟨?_, ?_, ?_⟩
  ·intro y0 y1 y2 y3
   unfold hammockref09_tree.f
   repeat' first
   | (with_reducible exact ih0 _ _ _ _)
   | (with_reducible exact ih1 _ _ _ _ _ _ _)
   | (with_reducible exact ih2 _ _ _ _ _ _ _ _ _)
   | (with_reducible exact hammockref09_Letter.mono _ _)
   | (with_reducible exact LeO.refl _)
   | (with_reducible exact LeO.none _)
   | (with_reducible refine LeO.ite ?_ ?_)
   | (with_reducible refine LeO.bind ?_ (fun _ => ?_))
  ·intro y0 y1 y2 y3 y4 y5 y6
   unfold hammockref09_tree.j0
   repeat' first
   | (with_reducible exact ih0 _ _ _ _)
   | (with_reducible exact ih1 _ _ _ _ _ _ _)
   | (with_reducible exact ih2 _ _ _ _ _ _ _ _ _)
   | (with_reducible exact hammockref09_Letter.mono _ _)
   | (with_reducible exact LeO.refl _)
   | (with_reducible exact LeO.none _)
   | (with_reducible refine LeO.ite ?_ ?_)
   | (with_reducible refine LeO.bind ?_ (fun _ => ?_))
  ·intro y0 y1 y2 y3 y4 y5 y6 y7 y8
   unfold hammockref09_tree.l0
   repeat' first
   | (with_reducible exact ih0 _ _ _ _)
   | (with_reducible exact ih1 _ _ _ _ _ _ _)
   | (with_reducible exact ih2 _ _ _ _ _ _ _ _ _)
   | (with_reducible exact hammockref09_Letter.mono _ _)
   | (with_reducible exact LeO.refl _)
   | (with_reducible exact LeO.none _)
   | (with_reducible refine LeO.ite ?_ ?_)
   | (with_reducible refine LeO.bind ?_ (fun _ => ?_))
def hammockref09_tree.T7 : Bool × List (List Nat × List Nat) := (true, [([], []), ([0], [0]), ([], []), ([2], [2]), ([], []), ([3, 4], [3, 4]), ([5], [5]), ([6], [6]), ([7], [7]), ([1, 8, 7], [1, 8]), ([0, 1, 2, 3, 4, 5, 6, 7, 8, 9], []), ([10, 9, 9, 0, 1, 2, 3, 4, 5, 6, 7, 8, 9], [9, 10])])
def hammockref09_tree.B7 : List Nat := [0, 1, 0, 4, 0, 28, 60, 124, 252, 511, 1023, 2047]
theorem hammockref09_tree.tab7 : rtab .any (opsOf Tryd.f63 7) = hammockref09_tree.T7 := by kernel_rfl
theorem hammockref09_tree.bits7 : waitsOk hammockref09_tree.T7.2 hammockref09_tree.B7 = true := by kernel_rfl
set_option maxHeartbeats 8000000 in
set_option maxRecDepth 100000 in
theorem hammockref09_tree.calls (k : Nat) : ∀ (a0_0 : Int) (a0_1 : Int) (a0_2 : ByteArray) (A0_3 : Option Addr) (c0_3 : Nat) (l0_3 : List (S24)) (r1 : Int) (r2 : Int) (r3 : ByteArray) (r4 : List (S68)) (w : World) (hr0_3 : Kd.C k24 w A0_3 l0_3.length l0_3) (hc0_3 : l0_3.length ≤ c0_3) (h : hammockref09_tree.f k a0_0 a0_1 a0_2 l0_3 = some (r1, r2, r3, r4)),
  Calls Tryd.prog 63 #[.agg #[.int .i64 a0_0, .int .i64 a0_1, .string a0_2, .slice A0_3 l0_3.length c0_3]] w fun e w' => ∃ v3_ : Value, e = .returned (.agg #[.int .i64 r1, .int .i64 r2, .string r3, v3_]) ∧ Kd.R k68 68 w' w.heap.size (fun _ => True) v3_ r4 ∧ Below w.heap.size w w' := by
 induction k using Nat.strongRecOn with
 | _ k ih =>
 intro a0_0 a0_1 a0_2 A0_3 c0_3 l0_3 r1 r2 r3 r4 w hr0_3 hc0_3 h
 cases k with
 | zero => exact absurd h (by simp [hammockref09_tree.f])
 | succ k =>
 simp only [hammockref09_tree.f] at h
 have hu24 := Tryd.underlying24
 have hu68 := Tryd.underlying68
 have HR0_3 := zG hr0_3
 have HC0_3 := zG hc0_3
 clear hr0_3 hc0_3
 have HB := zG (Below.refl w.heap.size w)
 have H : (if a0_0 = 1 then ((hammockref09_Letter.f k a0_1).bind fun t373 => (hammockref09_tree.j0 k a0_0 a0_1 a0_2 l0_3 a0_0 0 t373)) else (hammockref09_tree.j0 k a0_0 a0_1 a0_2 l0_3 a0_0 0 a0_2)) = some (r1, r2, r3, r4) := h
 clear h
 have HC2 := zG H
 clear H
 go_enter Tryd.func63, Tryd.ntmps63
 go_upto_if 12 with (first | ((with_reducible refine gate_dst (N := 1) rfl ?_); refine box_event ?hg (N := 1) ?hd (cs := #[.int .i64 a0_0, .int .i64 a0_1, .string a0_2, .slice A0_3 l0_3.length c0_3]) (t := 24) ?hr ?_; (case hd => rfl); (case hg => rfl); (case hr => first | (go_simp; done) | (go_simp; rfl)); intro gb370 hg w3 hbox hb; have n0_ := zG (zE HB.out hb); have n1_ := zG (hbox); have n2_ := zG ((by rw [hg]; exact (zF HB.out) : w.heap.size ≤ gb370)); have n3_ := n2_; clear HB; have HB := n0_; have BK370 := n1_; have GW370 := n2_; have GE370 := n3_; clear n0_ n1_ n2_ n3_; clear hb hbox hg) | ((with_reducible refine gate_dst (N := 2) rfl ?_); refine box_event ?hg (N := 2) ?hd (cs := #[.int .i64 0, .int .i64 0, .string (⟨#[]⟩ : ByteArray), .slice none 0 0]) (t := 68) ?hr ?_; (case hd => rfl); (case hg => rfl); (case hr => first | (go_simp; done) | (go_simp; rfl)); intro gb371 hg w4 hbox hb; have n0_ := zG (zK (g := gb370) BK370.out hb); have n1_ := zG (zE HB.out hb); have n2_ := zG (hbox); have n3_ := zG ((by rw [hg]; exact (zF HB.out) : w.heap.size ≤ gb371)); have n4_ := n3_; have n5_ := zG ((by rw [hg]; exact Nat.ne_of_lt (zAD (g := gb370) BK370.out) : gb370 ≠ gb371)); have n6_ := zG ((by rw [hg]; exact Nat.ne_of_gt (zAD (g := gb370) BK370.out) : gb371 ≠ gb370)); clear BK370; clear HB; have BK370 := n0_; have HB := n1_; have BK371 := n2_; have GW371 := n3_; have GE371 := n4_; have NB370_371 := n5_; have NB371_370 := n6_; clear n0_ n1_ n2_ n3_ n4_ n5_ n6_; clear hb hbox hg; have hnb5 := NB370_371.out; have hnc5 := NB371_370.out; obtain ⟨hcz6_0, hcz6_1, hcz6_2, hcz6_3⟩ := zN BK370.out; have hfz6_0 := zM BK370.out 0; have hfz6_1 := zM BK370.out 1; have hfz6_2 := zM BK370.out 2; have hfz6_3 := zM BK370.out 3) | ((with_reducible refine gate_dst (N := 3) rfl ?_); refine box_event ?hg (N := 3) ?hd (cs := #[.int .i64 0, .int .i64 0, .string (⟨#[]⟩ : ByteArray), .slice none 0 0]) (t := 68) ?hr ?_; (case hd => rfl); (case hg => rfl); (case hr => first | (go_simp; done) | (go_simp; rfl)); intro gb372 hg w7 hbox hb; have n0_ := zG (zK (g := gb370) BK370.out hb); have n1_ := zG (zK (g := gb371) BK371.out hb); have n2_ := zG (zE HB.out hb); have n3_ := zG (hbox); have n4_ := zG ((by rw [hg]; exact (zF HB.out) : w.heap.size ≤ gb372)); have n5_ := n4_; have n6_ := zG ((by rw [hg]; exact Nat.ne_of_lt (zAD (g := gb370) BK370.out) : gb370 ≠ gb372)); have n7_ := zG ((by rw [hg]; exact Nat.ne_of_gt (zAD (g := gb370) BK370.out) : gb372 ≠ gb370)); have n8_ := zG ((by rw [hg]; exact Nat.ne_of_lt (zAD (g := gb371) BK371.out) : gb371 ≠ gb372)); have n9_ := zG ((by rw [hg]; exact Nat.ne_of_gt (zAD (g := gb371) BK371.out) : gb372 ≠ gb371)); clear BK370; clear BK371; clear HB; have BK370 := n0_; have BK371 := n1_; have HB := n2_; have BK372 := n3_; have GW372 := n4_; have GE372 := n5_; have NB370_372 := n6_; have NB372_370 := n7_; have NB371_372 := n8_; have NB372_371 := n9_; clear n0_ n1_ n2_ n3_ n4_ n5_ n6_ n7_ n8_ n9_; clear hb hbox hg; have hnb8 := NB372_370.out; have hnc8 := NB370_372.out; have hnb9 := NB372_371.out; have hnc9 := NB371_372.out; obtain ⟨hcz10_0, hcz10_1, hcz10_2, hcz10_3, hfz10_0, hfz10_1, hfz10_2, hfz10_3⟩ := zQ BK372.out; obtain ⟨hcz11_0, hcz11_1, hcz11_2, hcz11_3⟩ := zN BK370.out; have hfz11_0 := zM BK370.out 0; have hfz11_1 := zM BK370.out 1; have hfz11_2 := zM BK370.out 2; have hfz11_3 := zM BK370.out 3))
 (try simp only [Act.put, zO, zP, zR])
 go_cut [] (fun wc => ∃ (kq : Nat) (x373002_1 : ByteArray), Aside0 (hammockref09_tree.j0 kq a0_0 a0_1 a0_2 l0_3 a0_0 0 x373002_1 = some (r1, r2, r3, r4)) ∧ Aside0 (kq ≤ k) ∧ Aside0 (wc.heap[gb370]? = some (.cells #[.int .i64 a0_0, .int .i64 a0_1, .string a0_2, (.slice A0_3 l0_3.length c0_3)] 24 (0, 0))) ∧ Aside0 (wc.heap[gb371]? = some (.cells #[.int .i64 0, .int .i64 0, .string (⟨#[]⟩ : ByteArray), (.slice none 0 0)] 68 (0, 0))) ∧ Aside0 (wc.heap[gb372]? = some (.cells #[.int .i64 a0_0, .int .i64 0, .string x373002_1, (.slice none 0 0)] 68 (0, 0))) ∧ Aside0 (Below w.heap.size w wc))
 case first =>
  have H := HC2.out
  clear HC2
  by_cases c12 : a0_0 = 1
  ·rw [if_pos c12] at H
   have c12b0 : (a0_0 == 1) = true := zW c12
   have c12b1 : (a0_0 != 1) = false := zX c12
   clear c12
   (first | rw [c12b0] | (simp only [i64_w, i32_w]; rw [c12b0]) | skip)
   replace H := zT H
   obtain ⟨t373, A130, H⟩ := H
   replace H : (hammockref09_tree.j0 k a0_0 a0_1 a0_2 l0_3 a0_0 0 t373) = some (r1, r2, r3, r4) := H
   have A13 := zG A130
   clear A130
   have H' := zG H
   clear H
   have hnb14 := NB370_371.out
   have hnc14 := NB371_370.out
   have hnb15 := NB370_372.out
   have hnc15 := NB372_370.out
   obtain ⟨hcz16_0, hcz16_1, hcz16_2, hcz16_3, hfz16_0, hfz16_1, hfz16_2, hfz16_3⟩ := zQ BK370.out
   go_wp2_with (first | ((with_reducible refine gate_callee (f := 81) rfl ?_); refine goesL_ (some 15) rfl rfl Tryd.func81 (by kernel_rfl) rfl #[.int .i64 a0_1] rfl (by (try simp only [List.map_toArray, List.map_cons, List.map_nil]); first | done | rfl | (simp only [List.length_drop, List.length_take]; rfl)) ?_; (with_reducible refine (hammockref09_Letter.calls k a0_1 t373 _ A13.out).mono ?_); rintro e w17 ⟨rfl, hb⟩; refine ⟨_, rfl, ?_⟩; have n0_ := zG (zK (g := gb370) (o := .cells #[.int .i64 a0_0, .int .i64 a0_1, .string a0_2, .slice A0_3 l0_3.length c0_3] 24 (0, 0)) (by (with_reducible repeat (first | refine zH ?_ _ | refine zI ?_ | refine zJ ?_ _)); refine blk_far ?_ NB370_372.out _; (with_reducible repeat (first | refine zH ?_ _ | refine zI ?_ | refine zJ ?_ _)); refine blk_far ?_ NB370_372.out _; (with_reducible repeat (first | refine zH ?_ _ | refine zI ?_ | refine zJ ?_ _)); refine blk_far ?_ NB370_372.out _; (with_reducible repeat (first | refine zH ?_ _ | refine zI ?_ | refine zJ ?_ _)); refine blk_far ?_ NB370_372.out _; (with_reducible repeat (first | refine zH ?_ _ | refine zI ?_ | refine zJ ?_ _)); exact BK370.out) hb); have n1_ := zG (zK (g := gb371) (o := .cells #[.int .i64 0, .int .i64 0, .string (⟨#[]⟩ : ByteArray), .slice none 0 0] 68 (0, 0)) (by (with_reducible repeat (first | refine zH ?_ _ | refine zI ?_ | refine zJ ?_ _)); refine blk_far ?_ NB371_372.out _; (with_reducible repeat (first | refine zH ?_ _ | refine zI ?_ | refine zJ ?_ _)); refine blk_far ?_ NB371_372.out _; (with_reducible repeat (first | refine zH ?_ _ | refine zI ?_ | refine zJ ?_ _)); refine blk_far ?_ NB371_372.out _; (with_reducible repeat (first | refine zH ?_ _ | refine zI ?_ | refine zJ ?_ _)); refine blk_far ?_ NB371_372.out _; (with_reducible repeat (first | refine zH ?_ _ | refine zI ?_ | refine zJ ?_ _)); exact BK371.out) hb); have n2_ := zG (zK (g := gb372) (o := .cells #[.int .i64 a0_0, .int .i64 0, .string a0_2, .slice none 0 0] 68 (0, 0)) (by (with_reducible repeat (first | refine zH ?_ _ | refine zI ?_ | refine zJ ?_ _)); refine zAH (cs := #[.int .i64 a0_0, .int .i64 0, .string a0_2, .slice none 0 0]) ?_ 3 _ rfl; (with_reducible repeat (first | refine zH ?_ _ | refine zI ?_ | refine zJ ?_ _)); refine zAH (cs := #[.int .i64 a0_0, .int .i64 0, .string (⟨#[]⟩ : ByteArray), .slice none 0 0]) ?_ 2 _ rfl; (with_reducible repeat (first | refine zH ?_ _ | refine zI ?_ | refine zJ ?_ _)); refine zAH (cs := #[.int .i64 a0_0, .int .i64 0, .string (⟨#[]⟩ : ByteArray), .slice none 0 0]) ?_ 1 _ rfl; (with_reducible repeat (first | refine zH ?_ _ | refine zI ?_ | refine zJ ?_ _)); refine zAH (cs := #[.int .i64 0, .int .i64 0, .string (⟨#[]⟩ : ByteArray), .slice none 0 0]) ?_ 0 _ rfl; (with_reducible repeat (first | refine zH ?_ _ | refine zI ?_ | refine zJ ?_ _)); exact BK372.out) hb); have n3_ := zG (zE (by repeat (first | (with_reducible first | exact HB.out | apply zA | apply zB | apply zC | refine zD ?_ GE370.out | refine zD ?_ GE371.out | refine zD ?_ GE372.out) | exact HB.out)) hb); clear BK370; clear BK371; clear BK372; clear HB; have BK370 := n0_; have BK371 := n1_; have BK372 := n2_; have HB := n3_; clear n0_ n1_ n2_ n3_; (try clear hb); (try clear hb2); (try clear hk); (try clear hi); have hnb18 := NB372_371.out; have hnc18 := NB371_372.out; obtain ⟨hcz19_0, hcz19_1, hcz19_2, hcz19_3⟩ := zN BK372.out; have hfz19_0 := zM BK372.out 0; have hfz19_1 := zM BK372.out 1; have hfz19_2 := zM BK372.out 2; have hfz19_3 := zM BK372.out 3))
   go_meet
   case rel => exact ⟨_, (t373), H', ⟨by first | omega | exact Nat.le_refl _⟩, ⟨by (with_reducible repeat (first | refine zH ?_ _ | refine zI ?_ | refine zJ ?_ _)); refine blk_far ?_ NB370_372.out _; (with_reducible repeat (first | refine zH ?_ _ | refine zI ?_ | refine zJ ?_ _)); exact BK370.out⟩, ⟨by (with_reducible repeat (first | refine zH ?_ _ | refine zI ?_ | refine zJ ?_ _)); refine blk_far ?_ NB371_372.out _; (with_reducible repeat (first | refine zH ?_ _ | refine zI ?_ | refine zJ ?_ _)); exact BK371.out⟩, ⟨by (with_reducible repeat (first | refine zH ?_ _ | refine zI ?_ | refine zJ ?_ _)); refine zAH (cs := #[.int .i64 a0_0, .int .i64 0, .string a0_2, .slice none 0 0]) ?_ 2 _ rfl; (with_reducible repeat (first | refine zH ?_ _ | refine zI ?_ | refine zJ ?_ _)); exact BK372.out⟩, ⟨by repeat (first | (with_reducible first | exact HB.out | apply zA | apply zB | apply zC | refine zD ?_ GE370.out | refine zD ?_ GE371.out | refine zD ?_ GE372.out) | exact HB.out)⟩⟩
  ·rw [if_neg c12] at H
   have c12b0 : (a0_0 == 1) = false := zY c12
   have c12b1 : (a0_0 != 1) = true := zZ c12
   (first | rw [c12b0] | (simp only [i64_w, i32_w]; rw [c12b0]) | skip)
   have H' := zG H
   clear H
   go_wp2
   go_meet
   case rel => exact ⟨_, (a0_2), H', ⟨by first | omega | exact Nat.le_refl _⟩, ⟨by (with_reducible repeat (first | refine zH ?_ _ | refine zI ?_ | refine zJ ?_ _)); refine blk_far ?_ NB370_372.out _; (with_reducible repeat (first | refine zH ?_ _ | refine zI ?_ | refine zJ ?_ _)); refine blk_far ?_ NB370_372.out _; (with_reducible repeat (first | refine zH ?_ _ | refine zI ?_ | refine zJ ?_ _)); refine blk_far ?_ NB370_372.out _; (with_reducible repeat (first | refine zH ?_ _ | refine zI ?_ | refine zJ ?_ _)); refine blk_far ?_ NB370_372.out _; (with_reducible repeat (first | refine zH ?_ _ | refine zI ?_ | refine zJ ?_ _)); exact BK370.out⟩, ⟨by (with_reducible repeat (first | refine zH ?_ _ | refine zI ?_ | refine zJ ?_ _)); refine blk_far ?_ NB371_372.out _; (with_reducible repeat (first | refine zH ?_ _ | refine zI ?_ | refine zJ ?_ _)); refine blk_far ?_ NB371_372.out _; (with_reducible repeat (first | refine zH ?_ _ | refine zI ?_ | refine zJ ?_ _)); refine blk_far ?_ NB371_372.out _; (with_reducible repeat (first | refine zH ?_ _ | refine zI ?_ | refine zJ ?_ _)); refine blk_far ?_ NB371_372.out _; (with_reducible repeat (first | refine zH ?_ _ | refine zI ?_ | refine zJ ?_ _)); exact BK371.out⟩, ⟨by (with_reducible repeat (first | refine zH ?_ _ | refine zI ?_ | refine zJ ?_ _)); refine zAH (cs := #[.int .i64 a0_0, .int .i64 0, .string a0_2, .slice none 0 0]) ?_ 3 _ rfl; (with_reducible repeat (first | refine zH ?_ _ | refine zI ?_ | refine zJ ?_ _)); refine zAH (cs := #[.int .i64 a0_0, .int .i64 0, .string (⟨#[]⟩ : ByteArray), .slice none 0 0]) ?_ 2 _ rfl; (with_reducible repeat (first | refine zH ?_ _ | refine zI ?_ | refine zJ ?_ _)); refine zAH (cs := #[.int .i64 a0_0, .int .i64 0, .string (⟨#[]⟩ : ByteArray), .slice none 0 0]) ?_ 1 _ rfl; (with_reducible repeat (first | refine zH ?_ _ | refine zI ?_ | refine zJ ?_ _)); refine zAH (cs := #[.int .i64 0, .int .i64 0, .string (⟨#[]⟩ : ByteArray), .slice none 0 0]) ?_ 0 _ rfl; (with_reducible repeat (first | refine zH ?_ _ | refine zI ?_ | refine zJ ?_ _)); exact BK372.out⟩, ⟨by repeat (first | (with_reducible first | exact HB.out | apply zA | apply zB | apply zC | refine zD ?_ GE370.out | refine zD ?_ GE371.out | refine zD ?_ GE372.out) | exact HB.out)⟩⟩
 case rest =>
  clear HC2
  try clear c1
  try clear p2
  try clear c5
  try clear c6
  try clear c8
  try clear c9
  try clear c12
  try clear c12b0
  try clear c12b1
  try clear c14
  try clear c15
  try clear c18
  try clear hcz10_0
  try clear hcz10_1
  try clear hcz10_2
  try clear hcz10_3
  try clear hcz11_0
  try clear hcz11_1
  try clear hcz11_2
  try clear hcz11_3
  try clear hcz16_0
  try clear hcz16_1
  try clear hcz16_2
  try clear hcz16_3
  try clear hcz19_0
  try clear hcz19_1
  try clear hcz19_2
  try clear hcz19_3
  try clear hcz6_0
  try clear hcz6_1
  try clear hcz6_2
  try clear hcz6_3
  try clear hfz10_0
  try clear hfz10_1
  try clear hfz10_2
  try clear hfz10_3
  try clear hfz11_0
  try clear hfz11_1
  try clear hfz11_2
  try clear hfz11_3
  try clear hfz16_0
  try clear hfz16_1
  try clear hfz16_2
  try clear hfz16_3
  try clear hfz19_0
  try clear hfz19_1
  try clear hfz19_2
  try clear hfz19_3
  try clear hfz6_0
  try clear hfz6_1
  try clear hfz6_2
  try clear hfz6_3
  obtain ⟨kq, x373002_1, HA, HJ1, BK370, BK371, BK372, HB⟩ := hcut
  cases kq with
  | zero => exact absurd HA.out (by simp [hammockref09_tree.j0])
  | succ kj1 =>
   have H := HA.out
   clear HA
   simp only [hammockref09_tree.j0] at H
   have H' := zG H
   clear H
   go_wp2
   go_loopg [4] kj1 (fun kq v4 w' => ∃ (x4_2 : Int) (x373003_2 : List (S68)) (u373003 : Value), v4 = .int .i64 x4_2 ∧ Aside0 (hammockref09_tree.l0 kq x4_2 a0_0 a0_1 a0_2 l0_3 a0_0 0 x373002_1 x373003_2 = some (r1, r2, r3, r4)) ∧ Aside0 (kq ≤ kj1) ∧ Aside0 (Kd.R k68 68 w' w.heap.size (fun k_ => k_ ≠ gb371 ∧ k_ ≠ gb372) u373003 x373003_2) ∧ Aside0 (w'.heap[gb370]? = some (.cells #[.int .i64 a0_0, .int .i64 a0_1, .string a0_2, (.slice A0_3 l0_3.length c0_3)] 24 (0, 0))) ∧ Aside0 (w'.heap[gb371]? = some (.cells #[.int .i64 0, .int .i64 0, .string (⟨#[]⟩ : ByteArray), (.slice none 0 0)] 68 (0, 0))) ∧ Aside0 (w'.heap[gb372]? = some (.cells #[.int .i64 a0_0, .int .i64 0, .string x373002_1, u373003] 68 (0, 0))) ∧ Aside0 (Below w.heap.size w w'))
   case atStart => exact ⟨(0), (([] : List (S68))), (.slice none 0 0), (by first | rfl | (simp; done) | (simp [*]; done)), H', ⟨Nat.le_refl _⟩, ⟨by first | exact Kd.R_nil _ _ _ _ _ | exact Kd.N_nil _ _ _ _ _ | exact Kd.V_nil _ _ _ _ _ | exact Kd.Q_nil _ _ _ _ _ | exact Kd.S_nil _ _ _ _ _⟩, ⟨BK370.out⟩, ⟨BK371.out⟩, ⟨BK372.out⟩, ⟨HB.out⟩⟩
   case round =>
    clear H'
    try clear c1
    try clear p2
    try clear c5
    try clear c6
    try clear c8
    try clear c9
    try clear c12
    try clear c12b0
    try clear c12b1
    try clear c14
    try clear c15
    try clear c18
    try clear hcz10_0
    try clear hcz10_1
    try clear hcz10_2
    try clear hcz10_3
    try clear hcz11_0
    try clear hcz11_1
    try clear hcz11_2
    try clear hcz11_3
    try clear hcz16_0
    try clear hcz16_1
    try clear hcz16_2
    try clear hcz16_3
    try clear hcz19_0
    try clear hcz19_1
    try clear hcz19_2
    try clear hcz19_3
    try clear hcz6_0
    try clear hcz6_1
    try clear hcz6_2
    try clear hcz6_3
    try clear hfz10_0
    try clear hfz10_1
    try clear hfz10_2
    try clear hfz10_3
    try clear hfz11_0
    try clear hfz11_1
    try clear hfz11_2
    try clear hfz11_3
    try clear hfz16_0
    try clear hfz16_1
    try clear hfz16_2
    try clear hfz16_3
    try clear hfz19_0
    try clear hfz19_1
    try clear hfz19_2
    try clear hfz19_3
    try clear hfz6_0
    try clear hfz6_1
    try clear hfz6_2
    try clear hfz6_3
    try clear p2
    obtain ⟨x4_2, x373003_2, u373003, rfl, HA, HK2, HO_373003, BK370, BK371, BK372, HB⟩ := hrel
    cases gk with
    | zero => exact absurd HA.out (by simp [hammockref09_tree.l0])
    | succ k2 =>
     have H := HA.out
     clear HA
     simp only [hammockref09_tree.l0] at H
     by_cases c20 : x4_2 < (l0_3.length : Int)
     ·rw [if_pos c20] at H
      have c20b0 : decide (x4_2 < (l0_3.length : Int)) = true := zU c20
      clear c20
      by_cases c21 : 0 ≤ x4_2
      ·rw [if_pos c21] at H
       have c21b0 : decide (0 ≤ x4_2) = true := zU c21
       clear c21
       replace H := zT H
       obtain ⟨⟨t375, t376, t377, t378⟩, A220, H⟩ := H
       replace H : (if x373003_2.length < 2513169434916 then (hammockref09_tree.l0 k2 (wrap64 (x4_2 + 1)) a0_0 a0_1 a0_2 l0_3 a0_0 0 x373002_1 (x373003_2 ++ [(⟨t375, t376, t377, t378⟩ : S68)])) else (none)) = some (r1, r2, r3, r4) := H
       have A22 := zG A220
       clear A220
       by_cases c23 : x373003_2.length < 2513169434916
       ·rw [if_pos c23] at H
        have LMc23 := zG c23
        clear c23
        obtain ⟨y381, hy381⟩ : ∃ y_ : List (S68), y_ = (x373003_2 ++ [(⟨t375, t376, t377, t378⟩ : S68)]) := ⟨_, rfl⟩
        replace H : (hammockref09_tree.l0 k2 (wrap64 (x4_2 + 1)) a0_0 a0_1 a0_2 l0_3 a0_0 0 x373002_1 y381) = some (r1, r2, r3, r4) := by first | (rw [hy381]; with_reducible exact H) | (have H2_ := (Option.bind_some _ _).symm.trans H; rw [hy381]; with_reducible exact H2_) | (have H2_ := (Option.bind_some _ _).symm.trans H; with_reducible exact H2_) | with_reducible exact H | (rw [hy381]; exact H) | exact H
        have Ny381 := zG hy381
        clear hy381
        have H' := zG H
        clear H
        have hnb24 := NB370_371.out
        have hnc24 := NB371_370.out
        have hnb25 := NB370_372.out
        have hnc25 := NB372_370.out
        obtain ⟨hcz26_0, hcz26_1, hcz26_2, hcz26_3, hfz26_0, hfz26_1, hfz26_2, hfz26_3⟩ := zQ BK370.out
        try go_wp2
        have n0_ := zG (Kd.R_drew HO_373003.out)
        have n1_ := zG (zI BK370.out)
        have n2_ := zG (zI BK371.out)
        have n3_ := zG (zI BK372.out)
        have n4_ := zG (zC HB.out)
        clear HO_373003
        clear BK370
        clear BK371
        clear BK372
        clear HB
        have HO_373003 := n0_
        have BK370 := n1_
        have BK371 := n2_
        have BK372 := n3_
        have HB := n4_
        clear n0_ n1_ n2_ n3_ n4_
        have p374 : 0 ≤ (x4_2 : Int) := zAA (by assumption)
        have q374 : x4_2 < (l0_3.length : Int) := zAA (by assumption)
        obtain ⟨ad374, A374_3, c374_3, e374, hx374_0, hx374_1, hx374_2, hx374_3, hl374_3, hi374_3⟩ := at_T24 HR0_3.out x4_2 p374 q374
        have hw374_3 := hx374_3
        have hw374_2 := hx374_2
        have hw374_1 := hx374_1
        have hw374_0 := hx374_0
        cases e374
        replace hx374_0 := (HB.out.cell (zS w _ hx374_0)).trans hx374_0
        replace hx374_1 := (HB.out.cell (zS w _ hx374_1)).trans hx374_1
        replace hx374_2 := (HB.out.cell (zS w _ hx374_2)).trans hx374_2
        replace hx374_3 := (HB.out.cell (zS w _ hx374_3)).trans hx374_3
        have HR374_3 := zG hi374_3
        have HC374_3 := zG hl374_3
        clear hi374_3 hl374_3
        replace p374 := eq_true p374
        replace q374 := eq_true q374
        refine start_ (n := 12) (S := fun w' => w'.cell? ⟨gb372, 0, none⟩ = some (.int .i64 a0_0) ∧ w'.cell? ⟨gb372, 1, none⟩ = some (.int .i64 0) ∧ w'.cell? ⟨gb372, 2, none⟩ = some (.string x373002_1) ∧ w'.cell? ⟨gb372, 3, none⟩ = some (u373003) ∧ w'.cell? ⟨gb370, 0, none⟩ = some (.int .i64 a0_0) ∧ w'.cell? ⟨gb370, 1, none⟩ = some (.int .i64 a0_1) ∧ w'.cell? ⟨gb370, 2, none⟩ = some (.string a0_2) ∧ w'.cell? ⟨gb370, 3, none⟩ = some (.slice (some ad374) l0_3.length c0_3) ∧ w'.cell? (ad374.add ((x4_2).toNat * 4)) = some (.int .i64 ((rd_T24 l0_3 x4_2).f0)) ∧ w'.cell? ⟨(ad374.add ((x4_2).toNat * 4)).block, (ad374.add ((x4_2).toNat * 4)).off + 1, none⟩ = some (.int .i64 ((rd_T24 l0_3 x4_2).f1)) ∧ w'.cell? ⟨(ad374.add ((x4_2).toNat * 4)).block, (ad374.add ((x4_2).toNat * 4)).off + 2, none⟩ = some (.string ((rd_T24 l0_3 x4_2).f2)) ∧ w'.cell? ⟨(ad374.add ((x4_2).toNat * 4)).block, (ad374.add ((x4_2).toNat * 4)).off + 3, none⟩ = some (.slice A374_3 ((rd_T24 l0_3 x4_2).f3).length c374_3)) (ds := [11]) (zBM 12 0) (by kernel_rfl) rfl rfl ⟨zL BK372.out 0, zL BK372.out 1, zL BK372.out 2, zL BK372.out 3, zL BK370.out 0, zL BK370.out 1, zL BK370.out 2, zL BK370.out 3, ((HB.out.cell (zS w _ hw374_0)).trans hw374_0), ((HB.out.cell (zS w _ hw374_1)).trans hw374_1), ((HB.out.cell (zS w _ hw374_2)).trans hw374_2), ((HB.out.cell (zS w _ hw374_3)).trans hw374_3)⟩ (fun hHeld => ?_); refine with_tabW hammockref09_tree.tab7 hammockref09_tree.bits7 (fun HT_ HW_ => ?_)
        generalize wr.drew = w27 at HO_373003 BK370 BK371 BK372 HB HR374_3 hx374_0 hx374_1 hx374_2 hx374_3 hHeld ⊢
        refine pure_ (i := 0) (N := some 24) (v := ?_) (a' := ?_) (zBM 12 1) rfl rfl (any_of HT_.out (by kernel_rfl)) (fun _ _ _ h => h) (Or.inl ⟨by rfl, ?_⟩) ?_ ?_
        rotate_left
        ·intro w'
         go_simp
         with_reducible rfl
        rotate_left
        ·simp only [Act.put, zO, zP, zR, i64_w, i32_w]
         rfl
        refine pure_ (i := 2) (N := some 26) (v := ?_) (a' := ?_) (zBM 12 5) rfl rfl (any_of HT_.out (by kernel_rfl)) (fun _ _ _ h => h) (Or.inl ⟨by rfl, ?_⟩) ?_ ?_
        rotate_left
        ·intro w'
         go_simp
         with_reducible rfl
        rotate_left
        ·simp only [Act.put, zO, zP, zR, i64_w, i32_w]
         rfl
        refine pure_ (i := 4) (N := some 28) (v := ?_) (a' := ?_) (zBM 12 21) rfl rfl (any_of HT_.out (by kernel_rfl)) (fun _ _ _ h => h) (Or.inl ⟨by rfl, ?_⟩) ?_ ?_
        rotate_left
        ·intro w'
         go_simp
         with_reducible rfl
        rotate_left
        ·simp only [Act.put, zO, zP, zR, i64_w, i32_w]
         rfl
        refine take_ (i := 1) (N := some 25) (v := ?_) (a' := ?_) (zBM 12 23) rfl rfl (take_ofW HT_.out HW_.out (by kernel_rfl)) (fun _ _ _ h => h) (Or.inl ⟨by rfl, ?_⟩) hHeld ?_ ?_
        rotate_left
        ·rintro w' ⟨s0, s1, s2, s3, s4, s5, s6, s7, s8, s9, s10, s11⟩
         go_simp
         with_reducible rfl
        rotate_left
        ·simp only [Act.put, zO, zP, zR, i64_w, i32_w]
         rfl
        refine take_ (i := 3) (N := some 27) (v := ?_) (a' := ?_) (zBM 12 31) rfl rfl (take_ofW HT_.out HW_.out (by kernel_rfl)) (fun _ _ _ h => h) (Or.inl ⟨by rfl, ?_⟩) hHeld ?_ ?_
        rotate_left
        ·rintro w' ⟨s0, s1, s2, s3, s4, s5, s6, s7, s8, s9, s10, s11⟩
         go_simp
         with_reducible rfl
        rotate_left
        ·simp only [Act.put, zO, zP, zR, i64_w, i32_w]
         rfl
        refine pure_ (i := 5) (N := some 29) (v := ?_) (a' := ?_) (zBM 12 63) rfl rfl (any_of HT_.out (by kernel_rfl)) (fun _ _ _ h => h) (Or.inl ⟨by rfl, ?_⟩) ?_ ?_
        rotate_left
        ·intro w'
         go_simp
         with_reducible rfl
        rotate_left
        ·simp only [Act.put, zO, zP, zR, i64_w, i32_w]
         rfl
        refine take_ (i := 6) (N := some 30) (v := ?_) (a' := ?_) (zBM 12 127) rfl rfl (take_ofW HT_.out HW_.out (by kernel_rfl)) (fun _ _ _ h => h) (Or.inl ⟨by rfl, ?_⟩) hHeld ?_ ?_
        rotate_left
        ·rintro w' ⟨s0, s1, s2, s3, s4, s5, s6, s7, s8, s9, s10, s11⟩
         go_simp
         with_reducible rfl
        rotate_left
        ·simp only [Act.put, zO, zP, zR, i64_w, i32_w]
         rfl
        refine one_ (i := 7) (N := some 31) (zBM 12 255) rfl rfl (one_of HT_.out (by kernel_rfl)) (by decide) (fun K hK => ?_)
        refine goes_ Tryd.func63 (by kernel_rfl) rfl #[.agg #[.int .i64 ((rd_T24 l0_3 x4_2).f0), .int .i64 ((rd_T24 l0_3 x4_2).f1), .string ((rd_T24 l0_3 x4_2).f2), .slice A374_3 ((rd_T24 l0_3 x4_2).f3).length c374_3]] (by rfl) rfl rfl (by (try simp only [List.map_toArray, List.map_cons, List.map_nil]); first | done | rfl | (simp only [List.length_drop, List.length_take]; rfl)) ?_
        with_reducible refine (ih k2 (by have := HJ1.out; have := HK2.out; omega) ((rd_T24 l0_3 x4_2).f0) ((rd_T24 l0_3 x4_2).f1) ((rd_T24 l0_3 x4_2).f2) _ _ ((rd_T24 l0_3 x4_2).f3) t375 t376 t377 t378 _ ?side1 ?side2 A22.out).mono ?_
        (case side1 => exact zAC HR374_3.out HB.out)
        (case side2 => exact HC374_3.out)
        rintro e w28 ⟨v379, rfl, ho0, hb⟩
        refine ⟨_, rfl, ?_⟩
        have n0_ := zG (Kd.R_elder' (by (with_reducible repeat (first | apply Kd.R_alloc | apply Kd.R_drewN | apply Kd.R_drew)); exact HO_373003.out) (Kd.R_base ho0) hb)
        have n1_ := zG (Kd.R_lower (Kd.R_newB (Kd.R_newB (Kd.R_new' ho0 (Kd.R_lt (by (with_reducible repeat (first | apply Kd.R_alloc | apply Kd.R_drewN | apply Kd.R_drew)); exact HO_373003.out))) (g := gb371) (o := .cells #[.int .i64 0, .int .i64 0, .string (⟨#[]⟩ : ByteArray), .slice none 0 0] 68 (0, 0)) BK371.out) (g := gb372) (o := .cells #[.int .i64 a0_0, .int .i64 0, .string x373002_1, u373003] 68 (0, 0)) BK372.out) (zF HB.out))
        have n2_ := zG (zK (g := gb370) BK370.out hb)
        have n3_ := zG (zK (g := gb371) BK371.out hb)
        have n4_ := zG (zK (g := gb372) BK372.out hb)
        have n5_ := zG (zE HB.out hb)
        clear HO_373003
        clear BK370
        clear BK371
        clear BK372
        clear HB
        have HO_373003 := n0_
        have HO380 := n1_
        have BK370 := n2_
        have BK371 := n3_
        have BK372 := n4_
        have HB := n5_
        clear n0_ n1_ n2_ n3_ n4_ n5_
        (try clear hb)
        (try clear hb2)
        (try clear hk)
        (try clear hi)
        (try clear ho0)
        obtain ⟨Ao30, co30, eo30⟩ := Kd.R_slice HO380.out
        (first | subst eo30 | (injection eo30 with f1_ f2_ f3_; have f4_ := f1_.symm; have f5_ := f3_.symm; clear f1_ f2_ f3_; subst f4_; subst f5_))
        refine hK.out _ _ ⟨zL BK372.out 0, zL BK372.out 1, zL BK372.out 2, zL BK372.out 3, zL BK370.out 0, zL BK370.out 1, zL BK370.out 2, zL BK370.out 3, ((HB.out.cell (zS w _ hw374_0)).trans hw374_0), ((HB.out.cell (zS w _ hw374_1)).trans hw374_1), ((HB.out.cell (zS w _ hw374_2)).trans hw374_2), ((HB.out.cell (zS w _ hw374_3)).trans hw374_3)⟩ (fun hHeld => ?_)
        clear hK K
        refine norm_ (a' := ?_) ?_ ?_
        rotate_left
        ·show Act.put _ (some 31) _ = _
         simp only [Act.put, zO, zP, zR, i64_w, i32_w]
         rfl
        refine one_ (i := 8) (N := some 32) (zBM 12 511) rfl rfl (one_of HT_.out (by kernel_rfl)) (by decide) (fun K hK => ?_)
        refine value_ (w1 := ?_) (v := ?_) (by rfl) rfl ?_ ?_
        rotate_left 2
        ·go_simp
         constructor
         ·rfl
         ·rfl
        refine hK.out _ _ ⟨zL (zJ BK372.out _) 0, zL (zJ BK372.out _) 1, zL (zJ BK372.out _) 2, zL (zJ BK372.out _) 3, zL (zJ BK370.out _) 0, zL (zJ BK370.out _) 1, zL (zJ BK370.out _) 2, zL (zJ BK370.out _) 3, (World.cell?_alloc_lt _ _ _ (zS _ _ (((HB.out.cell (zS w _ hw374_0)).trans hw374_0)))).trans (((HB.out.cell (zS w _ hw374_0)).trans hw374_0)), (World.cell?_alloc_lt _ _ _ (zS _ _ (((HB.out.cell (zS w _ hw374_1)).trans hw374_1)))).trans (((HB.out.cell (zS w _ hw374_1)).trans hw374_1)), (World.cell?_alloc_lt _ _ _ (zS _ _ (((HB.out.cell (zS w _ hw374_2)).trans hw374_2)))).trans (((HB.out.cell (zS w _ hw374_2)).trans hw374_2)), (World.cell?_alloc_lt _ _ _ (zS _ _ (((HB.out.cell (zS w _ hw374_3)).trans hw374_3)))).trans (((HB.out.cell (zS w _ hw374_3)).trans hw374_3))⟩ (fun hHeld => ?_)
        clear hK K
        refine norm_ (a' := ?_) ?_ ?_
        rotate_left
        ·show Act.put _ (some 32) _ = _
         simp only [Act.put, zO, zP, zR, i64_w, i32_w]
         rfl
        refine one_ (i := 9) (N := some 33) (zBM 12 1023) rfl rfl (one_of HT_.out (by kernel_rfl)) (by decide) (fun K hK => ?_)
        refine Kd.R_append_step k68 (w0 := w) w.heap.size (by rfl) (.tmp 25) (.tmp 32) 66 68 (.agg #[(.int .i64 0), (.int .i64 0), (.string ⟨#[]⟩), (.slice none 0 0)]) 56 rfl Tryd.underlying66 info68 rfl (by decide) (by omega) u373003 x373003_2 (⟨t375, t376, t377, t378⟩ : S68) [.int .i64 t375, .int .i64 t376, .string t377, .slice Ao30 t378.length co30] (fun k_ => k_ ≠ gb371 ∧ k_ ≠ gb372) (fun k_ => ((fun k_ => k_ ≠ gb371 ∧ k_ ≠ gb372)) k_ ∧ some k_ ≠ (u373003 : Value).ownBlock) rfl rfl ?aP (fun _ hk => hk) ?aF ?aO ?aB ?aS ?aL ?_
        (case aP => exact k68_mkM _ _ _ (⟨t375, t376, t377, t378⟩ : S68) (Kd.R_mono (HO380.out) (fun k_ hk => ⟨⟨hk.1.2, hk.2⟩, hk.1.1.2⟩)))
        (case aB => exact HB.out)
        (case aF => exact (fun k_ hk => ⟨Kd.freshB (g := gb371) (o := .cells #[.int .i64 0, .int .i64 0, .string (⟨#[]⟩ : ByteArray), .slice none 0 0] 68 (0, 0)) BK371.out k_ hk, Kd.freshB (g := gb372) (o := .cells #[.int .i64 a0_0, .int .i64 0, .string x373002_1, u373003] 68 (0, 0)) BK372.out k_ hk⟩))
        (case aO => exact (by (with_reducible repeat (first | apply Kd.R_alloc | apply Kd.R_drewN | apply Kd.R_drew)); exact Kd.R_mono HO_373003.out (fun _ hk => ⟨hk.1.1, hk.1.2⟩)))
        (case aS => exact (zF HB.out))
        (case aL => have := LMc23.out; omega)
        intro v382 w29 ho hb hg hat
        rw [← Ny381.out] at ho
        have n0_ := zG (blk_grown (g := gb370) (o := .cells #[.int .i64 a0_0, .int .i64 a0_1, .string a0_2, .slice (some ad374) l0_3.length c0_3] 24 (0, 0)) BK370.out hg (Kd.R_ne HO_373003.out BK370.out (by decide)))
        have n1_ := zG (blk_grown (g := gb371) (o := .cells #[.int .i64 0, .int .i64 0, .string (⟨#[]⟩ : ByteArray), .slice none 0 0] 68 (0, 0)) BK371.out hg (Kd.R_away HO_373003.out (fun _ hk => hk.1.1)))
        have n2_ := zG (blk_grown (g := gb372) (o := .cells #[.int .i64 a0_0, .int .i64 0, .string x373002_1, u373003] 68 (0, 0)) BK372.out hg (Kd.R_away HO_373003.out (fun _ hk => hk.1.2)))
        have n3_ := zG (hb)
        have n4_ := zG (ho)
        clear BK370
        clear BK371
        clear BK372
        clear HB
        clear HO_373003
        clear HO380
        have BK370 := n0_
        have BK371 := n1_
        have BK372 := n2_
        have HB := n3_
        have HO383 := n4_
        clear n0_ n1_ n2_ n3_ n4_
        clear ho hb hg hat
        obtain ⟨Ao31, co31, eo31⟩ := Kd.R_slice HO383.out
        (first | subst eo31 | (injection eo31 with f1_ f2_ f3_; have f4_ := f1_.symm; have f5_ := f3_.symm; clear f1_ f2_ f3_; subst f4_; subst f5_))
        refine hK.out _ _ ⟨zL BK372.out 0, zL BK372.out 1, zL BK372.out 2, zL BK372.out 3, zL BK370.out 0, zL BK370.out 1, zL BK370.out 2, zL BK370.out 3, ((HB.out.cell (zS w _ hw374_0)).trans hw374_0), ((HB.out.cell (zS w _ hw374_1)).trans hw374_1), ((HB.out.cell (zS w _ hw374_2)).trans hw374_2), ((HB.out.cell (zS w _ hw374_3)).trans hw374_3)⟩ (fun hHeld => ?_)
        clear hK K
        refine norm_ (a' := ?_) ?_ ?_
        rotate_left
        ·show Act.put _ (some 33) _ = _
         simp only [Act.put, zO, zP, zR, i64_w, i32_w]
         rfl
        refine pure_ (i := 10) (N := some 34) (v := ?_) (a' := ?_) (zBM 12 2047) rfl rfl (any_of HT_.out (by kernel_rfl)) (fun _ _ _ h => h) (Or.inl ⟨by rfl, ?_⟩) ?_ ?_
        rotate_left
        ·intro w'
         go_simp
         with_reducible rfl
        rotate_left
        ·simp only [Act.put, zO, zP, zR, i64_w, i32_w]
         rfl
        refine last_ (i := 11) (N := none) (zBM 12 4095) rfl rfl (one_of HT_.out (by kernel_rfl)) (by decide) (fun K hK => ?_)
        have hs32 : w29.cell? ⟨gb372, 3, none⟩ = some (u373003) := zL BK372.out 3
        have hfs32 := zM BK372.out 3
        have hns32_0 := NB370_372.out
        have hns32_1 := NB371_372.out
        have hms32_0 := NB372_370.out
        have hms32_1 := NB372_371.out
        refine skip_ (w1 := ?_) (by rfl) rfl ?_ ?_
        rotate_left
        ·go_simp
         rfl
        refine hK.out _ _ ?_
        clear hK K
        refine done_ (done_of HT_.out (by kernel_rfl)) ?_
        try go_wp2
        go_roundg k2
        case measure => have := HJ1.out; have := HK2.out; omega
        case rel => exact ⟨(wrap64 (x4_2 + 1)), (y381), (.slice Ao31 y381.length co31), (by first | rfl | (simp; done) | (simp [*]; done)), H', ⟨by have := HJ1.out; have := HK2.out; omega⟩, ⟨by (with_reducible repeat (first | apply Kd.R_alloc | apply Kd.R_drewN | apply Kd.R_drew)); exact Kd.R_mono (Kd.R_far (p := ⟨gb372, 3, none⟩) (Kd.R_mono HO383.out (fun k_ hk => (⟨hk, hk.2⟩ : _ ∧ k_ ≠ gb372))) (fun _ hk => hk.2) (.slice Ao31 y381.length co31)) (fun _ hk => ⟨hk.1.1, hk.1.2⟩)⟩, ⟨by (with_reducible repeat (first | refine zH ?_ _ | refine zI ?_ | refine zJ ?_ _)); refine blk_far ?_ NB370_372.out _; (with_reducible repeat (first | refine zH ?_ _ | refine zI ?_ | refine zJ ?_ _)); exact BK370.out⟩, ⟨by (with_reducible repeat (first | refine zH ?_ _ | refine zI ?_ | refine zJ ?_ _)); refine blk_far ?_ NB371_372.out _; (with_reducible repeat (first | refine zH ?_ _ | refine zI ?_ | refine zJ ?_ _)); exact BK371.out⟩, ⟨by (with_reducible repeat (first | refine zH ?_ _ | refine zI ?_ | refine zJ ?_ _)); refine zAH (cs := #[.int .i64 a0_0, .int .i64 0, .string x373002_1, u373003]) ?_ 3 _ rfl; (with_reducible repeat (first | refine zH ?_ _ | refine zI ?_ | refine zJ ?_ _)); exact BK372.out⟩, ⟨by repeat (first | (with_reducible first | exact HB.out | apply zA | apply zB | apply zC | refine zD ?_ GE370.out | refine zD ?_ GE371.out | refine zD ?_ GE372.out) | exact HB.out)⟩⟩
       ·rw [if_neg c23] at H
        exact absurd H (by simp)
      ·rw [if_neg c21] at H
       exact absurd H (by simp)
     ·rw [if_neg c20] at H
      have c20b0 : decide (x4_2 < (l0_3.length : Int)) = false := zV c20
      clear c20
      simp only [Option.some.injEq, Prod.mk.injEq] at H
      obtain ⟨rfl, rfl, rfl, rfl⟩ := H
      have hnb33 := NB370_371.out
      have hnc33 := NB371_370.out
      have hnb34 := NB370_372.out
      have hnc34 := NB372_370.out
      obtain ⟨hcz35_0, hcz35_1, hcz35_2, hcz35_3, hfz35_0, hfz35_1, hfz35_2, hfz35_3⟩ := zQ BK370.out
      have hnb36 := NB372_371.out
      have hnc36 := NB371_372.out
      obtain ⟨hcz37_0, hcz37_1, hcz37_2, hcz37_3, hfz37_0, hfz37_1, hfz37_2, hfz37_3⟩ := zQ BK372.out
      obtain ⟨hcz38_0, hcz38_1, hcz38_2, hcz38_3, hfz38_0, hfz38_1, hfz38_2, hfz38_3⟩ := zQ BK371.out
      obtain ⟨Ao39, co39, eo39⟩ := Kd.R_slice HO_373003.out
      subst eo39
      go_wp2
      refine bodyPost_ret (results_cell_row rfl _ _ gb371 68 #[.int .i64 a0_0, .int .i64 0, .string x373002_1, .slice Ao39 x373003_2.length co39] (0, 0) _ rfl (by (with_reducible repeat (first | refine zH ?_ _ | refine zI ?_ | refine zJ ?_ _)); refine zAH (cs := #[.int .i64 a0_0, .int .i64 0, .string x373002_1, .slice none 0 0]) ?_ 3 _ rfl; (with_reducible repeat (first | refine zH ?_ _ | refine zI ?_ | refine zJ ?_ _)); refine zAH (cs := #[.int .i64 a0_0, .int .i64 0, .string (⟨#[]⟩ : ByteArray), .slice none 0 0]) ?_ 2 _ rfl; (with_reducible repeat (first | refine zH ?_ _ | refine zI ?_ | refine zJ ?_ _)); refine zAH (cs := #[.int .i64 a0_0, .int .i64 0, .string (⟨#[]⟩ : ByteArray), .slice none 0 0]) ?_ 1 _ rfl; (with_reducible repeat (first | refine zH ?_ _ | refine zI ?_ | refine zJ ?_ _)); refine zAH (cs := #[.int .i64 0, .int .i64 0, .string (⟨#[]⟩ : ByteArray), .slice none 0 0]) ?_ 0 _ rfl; (with_reducible repeat (first | refine zH ?_ _ | refine zI ?_ | refine zJ ?_ _)); exact BK371.out) Tryd.underlying68 rfl (by kernel_rfl)) rfl ?_
      exact ⟨_, by first | rfl | (simp [errW_none, errW_some] <;> rfl) | (simp [*, errW_none, errW_some] <;> rfl), by (with_reducible repeat (first | apply Kd.R_alloc | apply Kd.R_drewN | apply Kd.R_drew)); exact Kd.R_mono (Kd.R_far (p := ⟨gb371, 3, none⟩) (Kd.R_far (p := ⟨gb371, 2, none⟩) (Kd.R_far (p := ⟨gb371, 1, none⟩) (Kd.R_far (p := ⟨gb371, 0, none⟩) (Kd.R_mono HO_373003.out (fun k_ hk => (⟨hk, hk.1⟩ : _ ∧ k_ ≠ gb371))) (fun _ hk => hk.2) (.int .i64 a0_0)) (fun _ hk => hk.2) (.int .i64 0)) (fun _ hk => hk.2) (.string x373002_1)) (fun _ hk => hk.2) (.slice Ao39 x373003_2.length co39)) (fun _ hk => trivial), by repeat (first | (with_reducible first | exact HB.out | apply zA | apply zB | apply zC | refine zD ?_ GE370.out | refine zD ?_ GE371.out | refine zD ?_ GE372.out) | exact HB.out)⟩

def hammockref09_Print.f (k : Nat) (a0_0 : Int) (a0_1 : Int) (a0_2 : ByteArray) (l0_3 : List (S24)) : Option (ByteArray) := (hammockref09_Right.f k a0_0 a0_1 a0_2 l0_3).bind fun t385 => (if t385 = true then ((hammockref09_tree.f k a0_0 a0_1 a0_2 l0_3).bind fun bt386 => ((hammockref05_Show.f k bt386.1 bt386.2.1 bt386.2.2.1 bt386.2.2.2).bind fun t392 => (some t392))) else (some (⟨#[]⟩ : ByteArray)))
set_option maxHeartbeats 8000000 in
set_option maxRecDepth 100000 in
theorem hammockref09_Print.calls (k : Nat) (a0_0 : Int) (a0_1 : Int) (a0_2 : ByteArray) (A0_3 : Option Addr) (c0_3 : Nat) (l0_3 : List (S24)) (r : ByteArray) (w : World) (hr0_3 : Kd.C k24 w A0_3 l0_3.length l0_3) (hc0_3 : l0_3.length ≤ c0_3) (h : hammockref09_Print.f k a0_0 a0_1 a0_2 l0_3 = some r) :
  Calls Tryd.prog 35 #[.agg #[.int .i64 a0_0, .int .i64 a0_1, .string a0_2, .slice A0_3 l0_3.length c0_3]] w fun e w' => e = .returned (.string r) ∧ Below w.heap.size w w' := by
 have hu24 := Tryd.underlying24
 have HR0_3 := zG hr0_3
 have HC0_3 := zG hc0_3
 clear hr0_3 hc0_3
 have HB := zG (Below.refl w.heap.size w)
 have H : ((hammockref09_Right.f k a0_0 a0_1 a0_2 l0_3).bind fun t385 => (if t385 = true then ((hammockref09_tree.f k a0_0 a0_1 a0_2 l0_3).bind fun bt386 => ((hammockref05_Show.f k bt386.1 bt386.2.1 bt386.2.2.1 bt386.2.2.2).bind fun t392 => (some t392))) else (some (⟨#[]⟩ : ByteArray)))) = some r := h
 clear h
 replace H := zT H
 obtain ⟨t385, A20, H⟩ := H
 replace H : (if t385 = true then ((hammockref09_tree.f k a0_0 a0_1 a0_2 l0_3).bind fun bt386 => ((hammockref05_Show.f k bt386.1 bt386.2.1 bt386.2.2.1 bt386.2.2.2).bind fun t392 => (some t392))) else (some (⟨#[]⟩ : ByteArray))) = some r := H
 have A2 := zG A20
 clear A20
 by_cases c3 : t385 = true
 ·subst c3
  have H1 : ((hammockref09_tree.f k a0_0 a0_1 a0_2 l0_3).bind fun bt386 => ((hammockref05_Show.f k bt386.1 bt386.2.1 bt386.2.2.1 bt386.2.2.2).bind fun t392 => (some t392))) = some r := by rw [if_pos rfl] at H; exact H
  clear H
  have H := H1
  clear H1
  replace H := zT H
  obtain ⟨⟨t386, t387, t388, t389⟩, A40, H⟩ := H
  replace H : ((hammockref05_Show.f k t386 t387 t388 t389).bind fun t392 => (some t392)) = some r := H
  have A4 := zG A40
  clear A40
  replace H := zT H
  obtain ⟨t392, A50, H⟩ := H
  replace H : (some t392) = some r := H
  have A5 := zG A50
  clear A50
  obtain rfl := Option.some.inj H
  go_enter Tryd.func35, Tryd.ntmps35
  go_wp2_with (first | ((with_reducible refine gate_dst (N := 1) rfl ?_); refine box_event ?hg (N := 1) ?hd (cs := #[.int .i64 a0_0, .int .i64 a0_1, .string a0_2, .slice A0_3 l0_3.length c0_3]) (t := 24) ?hr ?_; (case hd => rfl); (case hg => rfl); (case hr => first | (go_simp; done) | (go_simp; rfl)); intro gb384 hg w6 hbox hb; have n0_ := zG (zE (by repeat (first | (with_reducible first | exact HB.out | apply zA | apply zB | apply zC) | exact HB.out)) hb); have n1_ := zG (hbox); have n2_ := zG ((by rw [hg]; exact (zF (by repeat (first | (with_reducible first | exact HB.out | apply zA | apply zB | apply zC) | exact HB.out))) : w.heap.size ≤ gb384)); have n3_ := n2_; clear HB; have HB := n0_; have BK384 := n1_; have GW384 := n2_; have GE384 := n3_; clear n0_ n1_ n2_ n3_; clear hb hbox hg; obtain ⟨hcz7_0, hcz7_1, hcz7_2, hcz7_3⟩ := zN BK384.out; have hfz7_0 := zM BK384.out 0; have hfz7_1 := zM BK384.out 1; have hfz7_2 := zM BK384.out 2; have hfz7_3 := zM BK384.out 3) | ((with_reducible refine gate_callee (f := 17) rfl ?_); refine goesL_ (some 4) rfl rfl Tryd.func17 (by kernel_rfl) rfl #[.agg #[.int .i64 a0_0, .int .i64 a0_1, .string a0_2, .slice A0_3 l0_3.length c0_3]] rfl (by (try simp only [List.map_toArray, List.map_cons, List.map_nil]); first | done | rfl | (simp only [List.length_drop, List.length_take]; rfl)) ?_; (with_reducible refine (hammockref09_Right.calls k a0_0 a0_1 a0_2 _ _ l0_3 true _ ?side1 ?side2 A2.out).mono ?_); (case side1 => repeat (first | exact (zAC HR0_3.out HB.out) | (with_reducible refine zAE ?_ _) | (with_reducible refine zAF ?_ _) | (with_reducible refine zAG ?_))); (case side2 => exact HC0_3.out); rintro e w8 ⟨rfl, hb⟩; refine ⟨_, rfl, ?_⟩; have n0_ := zG (zK (g := gb384) (by (with_reducible repeat (first | refine zH ?_ _ | refine zI ?_ | refine zJ ?_ _)); exact BK384.out) hb); have n1_ := zG (zE (by repeat (first | (with_reducible first | exact HB.out | apply zA | apply zB | apply zC | refine zD ?_ GE384.out) | exact HB.out)) hb); clear BK384; clear HB; have BK384 := n0_; have HB := n1_; clear n0_ n1_; (try clear hb); (try clear hb2); (try clear hk); (try clear hi); obtain ⟨hcz9_0, hcz9_1, hcz9_2, hcz9_3⟩ := zN BK384.out; have hfz9_0 := zM BK384.out 0; have hfz9_1 := zM BK384.out 1; have hfz9_2 := zM BK384.out 2; have hfz9_3 := zM BK384.out 3) | ((with_reducible refine gate_callee (f := 63) rfl ?_); refine goesL_ (some 7) rfl rfl Tryd.func63 (by kernel_rfl) rfl #[.agg #[.int .i64 a0_0, .int .i64 a0_1, .string a0_2, .slice A0_3 l0_3.length c0_3]] rfl (by (try simp only [List.map_toArray, List.map_cons, List.map_nil]); first | done | rfl | (simp only [List.length_drop, List.length_take]; rfl)) ?_; (with_reducible refine (hammockref09_tree.calls k a0_0 a0_1 a0_2 _ _ l0_3 t386 t387 t388 t389 _ ?side1 ?side2 A4.out).mono ?_); (case side1 => repeat (first | exact (zAC HR0_3.out HB.out) | (with_reducible refine zAE ?_ _) | (with_reducible refine zAF ?_ _) | (with_reducible refine zAG ?_))); (case side2 => exact HC0_3.out); rintro e w10 ⟨v390, rfl, ho0, hb⟩; refine ⟨_, rfl, ?_⟩; have n0_ := zG (Kd.R_lower ho0 (zF (by repeat (first | (with_reducible first | exact HB.out | apply zA | apply zB | apply zC | refine zD ?_ GE384.out) | exact HB.out)))); have n1_ := zG (zK (g := gb384) (by (with_reducible repeat (first | refine zH ?_ _ | refine zI ?_ | refine zJ ?_ _)); exact BK384.out) hb); have n2_ := zG (zE (by repeat (first | (with_reducible first | exact HB.out | apply zA | apply zB | apply zC | refine zD ?_ GE384.out) | exact HB.out)) hb); clear BK384; clear HB; have HO391 := n0_; have BK384 := n1_; have HB := n2_; clear n0_ n1_ n2_; (try clear hb); (try clear hb2); (try clear hk); (try clear hi); (try clear ho0); obtain ⟨Ao11, co11, eo11⟩ := Kd.R_slice HO391.out; subst eo11) | ((with_reducible refine gate_callee (f := 62) rfl ?_); refine goesL_ (some 8) rfl rfl Tryd.func62 (by kernel_rfl) rfl #[.agg #[.int .i64 t386, .int .i64 t387, .string t388, .slice Ao11 t389.length co11]] rfl (by (try simp only [List.map_toArray, List.map_cons, List.map_nil]); first | done | rfl | (simp only [List.length_drop, List.length_take]; rfl)) ?_; (with_reducible refine (hammockref05_Show.calls k t386 t387 t388 _ _ t389 t392 _ ?side1 ?side2 A5.out).mono ?_); (case side1 => repeat (first | exact (Kd.R_reads' HO391.out).2.2 | (with_reducible refine zAE ?_ _) | (with_reducible refine zAF ?_ _) | (with_reducible refine zAG ?_))); (case side2 => exact (Kd.R_reads' HO391.out).2.1); rintro e w12 ⟨rfl, hb⟩; refine ⟨_, rfl, ?_⟩; have n0_ := zG (Kd.R_below (by (with_reducible repeat (first | apply Kd.R_alloc | apply Kd.R_drewN | apply Kd.R_drew)); exact HO391.out) hb); have n1_ := zG (zK (g := gb384) (by (with_reducible repeat (first | refine zH ?_ _ | refine zI ?_ | refine zJ ?_ _)); exact BK384.out) hb); have n2_ := zG (zE (by repeat (first | (with_reducible first | exact HB.out | apply zA | apply zB | apply zC | refine zD ?_ GE384.out) | exact HB.out)) hb); clear HO391; clear BK384; clear HB; have HO391 := n0_; have BK384 := n1_; have HB := n2_; clear n0_ n1_ n2_; (try clear hb); (try clear hb2); (try clear hk); (try clear hi)))
  go_ret
  exact ⟨rfl, HB.out⟩
 ·replace c3 := zAB c3
  subst c3
  have H1 : (some (⟨#[]⟩ : ByteArray)) = some r := by rw [if_neg (show ¬ (false = true) by decide)] at H; exact H
  clear H
  have H := H1
  clear H1
  obtain rfl := Option.some.inj H
  go_enter Tryd.func35, Tryd.ntmps35
  go_wp2_with (first | ((with_reducible refine gate_dst (N := 1) rfl ?_); refine box_event ?hg (N := 1) ?hd (cs := #[.int .i64 a0_0, .int .i64 a0_1, .string a0_2, .slice A0_3 l0_3.length c0_3]) (t := 24) ?hr ?_; (case hd => rfl); (case hg => rfl); (case hr => first | (go_simp; done) | (go_simp; rfl)); intro gb384 hg w13 hbox hb; have n0_ := zG (zE (by repeat (first | (with_reducible first | exact HB.out | apply zA | apply zB | apply zC) | exact HB.out)) hb); have n1_ := zG (hbox); have n2_ := zG ((by rw [hg]; exact (zF (by repeat (first | (with_reducible first | exact HB.out | apply zA | apply zB | apply zC) | exact HB.out))) : w.heap.size ≤ gb384)); have n3_ := n2_; clear HB; have HB := n0_; have BK384 := n1_; have GW384 := n2_; have GE384 := n3_; clear n0_ n1_ n2_ n3_; clear hb hbox hg; obtain ⟨hcz14_0, hcz14_1, hcz14_2, hcz14_3⟩ := zN BK384.out; have hfz14_0 := zM BK384.out 0; have hfz14_1 := zM BK384.out 1; have hfz14_2 := zM BK384.out 2; have hfz14_3 := zM BK384.out 3) | ((with_reducible refine gate_callee (f := 17) rfl ?_); refine goesL_ (some 4) rfl rfl Tryd.func17 (by kernel_rfl) rfl #[.agg #[.int .i64 a0_0, .int .i64 a0_1, .string a0_2, .slice A0_3 l0_3.length c0_3]] rfl (by (try simp only [List.map_toArray, List.map_cons, List.map_nil]); first | done | rfl | (simp only [List.length_drop, List.length_take]; rfl)) ?_; (with_reducible refine (hammockref09_Right.calls k a0_0 a0_1 a0_2 _ _ l0_3 false _ ?side1 ?side2 A2.out).mono ?_); (case side1 => repeat (first | exact (zAC HR0_3.out HB.out) | (with_reducible refine zAE ?_ _) | (with_reducible refine zAF ?_ _) | (with_reducible refine zAG ?_))); (case side2 => exact HC0_3.out); rintro e w15 ⟨rfl, hb⟩; refine ⟨_, rfl, ?_⟩; have n0_ := zG (zK (g := gb384) (by (with_reducible repeat (first | refine zH ?_ _ | refine zI ?_ | refine zJ ?_ _)); exact BK384.out) hb); have n1_ := zG (zE (by repeat (first | (with_reducible first | exact HB.out | apply zA | apply zB | apply zC | refine zD ?_ GE384.out) | exact HB.out)) hb); clear BK384; clear HB; have BK384 := n0_; have HB := n1_; clear n0_ n1_; (try clear hb); (try clear hb2); (try clear hk); (try clear hi)))
  go_ret
  exact ⟨rfl, HB.out⟩

end Go.Proofs.YtddmdiaopaoekaaDoor.P
