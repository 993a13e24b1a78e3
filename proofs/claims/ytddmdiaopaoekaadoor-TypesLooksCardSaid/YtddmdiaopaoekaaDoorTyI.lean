import Derived.Test.YtddmdiaopaoekaaDoorTyG
import Derived.Test.YtddmdiaopaoekaaDoorMapI
import Derived.RangeFuncWrites
import Derived.RangeFuncBox
namespace Go.Proofs.YtddmdiaopaoekaaDoor.P
open Go.RowKit Go.Shelf Go.Proofs.YtddmdiaopaoekaaDoorW.PrintWords Go.Proofs.YtddmdiaopaoekaaDoor.Rw
set_option linter.unusedVariables false
attribute [local go_sem] Oper.semAt_some
def addNew (l : List Int) (v : Int) : List Int := if v ∈ l then l else l ++ [v]
def distinctL (l : List Int) : List Int := l.foldl addNew []
theorem distinct_snoc (l : List Int) (v : Int) : distinctL (l ++ [v]) = addNew (distinctL l) v := by simp [distinctL]
theorem mem_addNew (l : List Int) (v y : Int) : y ∈ addNew l v ↔ y ∈ l ∨ y = v := by
 unfold addNew
 split
 ·rename_i h
  exact ⟨.inl, fun k => k.elim id (fun e => e ▸ h)⟩
 ·simp
theorem mem_foldNew : ∀ (xs l : List Int) (y : Int), y ∈ xs.foldl addNew l ↔ y ∈ l ∨ y ∈ xs
 | [], l, y => by simp
 | x :: xs, l, y => by rw [List.foldl_cons, mem_foldNew xs, mem_addNew]; simp [or_assoc]
theorem mem_distinct (l : List Int) (y : Int) : y ∈ distinctL l ↔ y ∈ l := by rw [distinctL, mem_foldNew]; simp
theorem length_foldNew : ∀ (xs l : List Int), (xs.foldl addNew l).length ≤ l.length + xs.length
 | [], l => by simp
 | x :: xs, l => by
  have h := length_foldNew xs (addNew l x)
  have h2 : (addNew l x).length ≤ l.length + 1 := by unfold addNew; split <;> simp
  simp only [List.foldl_cons, List.length_cons]
  omega
theorem length_distinct (l : List Int) : (distinctL l).length ≤ l.length := by have := length_foldNew l []; simpa [distinctL] using this
/-- Which numbers have come. -/
def seenM (l : List Int) : Int → Option Value := fun i => if i ∈ l then some (.bool true) else none
theorem seenM_snoc (l : List Int) (v : Int) : putI (seenM l) v (.bool true) = seenM (l ++ [v]) := by
 funext j
 unfold putI seenM
 by_cases h : j = v
 ·simp [h]
 ·simp [h]
theorem seenM_same (l : List Int) (v : Int) (h : v ∈ l) : seenM l = seenM (l ++ [v]) := by
 funext j
 unfold seenM
 by_cases hj : j = v
 ·subst hj; simp [h]
 ·simp [hj]
/-- Vars. -/
noncomputable def VarsB (x : S31) : List Int := if rightB 400 x = true then distinctL (varsL x) else []
theorem kpT_grown {w0 W W' : World} {row : Option Nat} (hg : W.grownBy W' row) (hw : w0.heap.size ≤ W.heap.size) (hr : ∀ j, row = some j → w0.heap.size ≤ j ∧ ∀ cs, W.heap[j]? ≠ some (.cells cs 31 (0, 0))) : KpT w0 W W' :=
 ⟨(Below.refl _ W).grown hg hw (fun k e => (hr k e).1), fun k cs hk => (hg.block k (Array.getElem?_eq_some_iff.1 hk).1 (fun e => (hr k e.symm).2 cs hk)).trans hk⟩
theorem row_not {W : World} {base e k : Nat} {v : Value} {xs : List Value} (h : W.ownsRow base e 1 v k xs) (he : e ≠ 31) : ∀ j, v.ownBlock = some j → base ≤ j ∧ ∀ cs, W.heap[j]? ≠ some (.cells cs 31 (0, 0)) := by
 intro j hj
 refine ⟨(h.lt j hj).1, fun cs hcs => ?_⟩
 rcases h.2 with ⟨rfl, _⟩ | ⟨g, cap, cur, rfl, _, hgb, _⟩
 ·cases hj
 ·obtain rfl : g = j := by simpa [Value.ownBlock] using hj
  rw [hgb] at hcs
  simp at hcs
  exact he hcs.2
abbrev vals (pre : List I64) : List Int := pre.map (fun y => y.1)
theorem distinct_miss (l : List Int) (v : Int) (h : v ∉ l) : distinctL (l ++ [v]) = distinctL l ++ [v] := by
 rw [distinct_snoc, addNew, if_neg (fun k => h ((mem_distinct l v).1 k))]
theorem distinct_hit (l : List Int) (v : Int) (h : v ∈ l) : distinctL (l ++ [v]) = distinctL l := by
 rw [distinct_snoc, addNew, if_pos ((mem_distinct l v).2 h)]
theorem vals_all (x : S31) (hwf : ∀ v, v ∈ varsL x → (Lit.int .i64 v).wf = true) : vals ((varsL x).map toI) = varsL x := by
 unfold vals
 rw [List.map_map]
 conv => rhs; rw [← List.map_id (varsL x)]
 exact List.map_congr_left (fun v hv => toI_val (hwf v hv))
theorem owns_base {w : World} {base base' e size n : Nat} {v : Value} {xs : List Value} (h : w.ownsRow base e size v n xs) (hb : base' ≤ base) : w.ownsRow base' e size v n xs :=
 ⟨h.1, h.2.imp id (fun ⟨g, cap, cur, a, b, r⟩ => ⟨g, cap, cur, a, Nat.le_trans hb b, r⟩)⟩
set_option maxHeartbeats 4000000 in
set_option maxRecDepth 100000 in
theorem Vars_calls (x : S31) (A : Option Addr) (c : Nat) (w : World) (hc : x.f3.length ≤ c) (hC : k31.C w A x.f3.length x.f3) (hwf : ∀ v, v ∈ varsL x → (Lit.int .i64 v).wf = true) (hN : (varsL x).length ≤ 10000000) :
  Calls Tryd.prog 22 #[.agg #[.int .i64 x.f0, .int .i64 x.f1, .string x.f2, .slice A x.f3.length c]] w fun e w' => ∃ v, e = .returned v ∧ w'.ownsRow w.heap.size 3 1 v (VarsB x).length ((VarsB x).map (Value.int .i64)) ∧ Below w.heap.size w w' := by
 refine (callsIn_wide (n := 9)).1 ?_
 refine callsIn_of_wp_marks Tryd.func22 rfl trivial ?_ rfl
 simp only [Tryd.ntmps22, List.size_toArray, List.length_cons, List.length_nil, Nat.reduceAdd, Nat.reduceSub, Array.replicate_succ, Array.replicate_zero, List.push_toArray, List.append_toArray, List.nil_append, List.cons_append]
 have hmm := @run_makeMap Tryd.prog
 have HC := Lib.hid hC
 have HWF := Lib.hid hwf
 have HN := Lib.hid hN
 clear hC hwf hN
 gi_wp2_with fail
 refine ⟨trivial, (callsIn_wide.2 (Right_calls x A c _ hc (c_below HC.out ((Below.refl _ _).alloc (Nat.le_refl _) _)))).mono ?_⟩
 rintro e w2 ⟨rfl, hb2⟩
 have hbx := (hb2.block w.heap.size (by simp)).trans (heap_new w _)
 have hB2 : Below w.heap.size w w2 := ((Below.refl _ w).alloc (Nat.le_refl _) _).trans (hb2.mono (by simp))
 have hsz := hb2.size
 simp only [World.size_alloc] at hsz
 have x0 := cell_in hbx 0
 have x1 := cell_in hbx 1
 have x2 := cell_in hbx 2
 have x3 := cell_in hbx 3
 have HB2 := Lib.hid hB2
 have HSZ := Lib.hid hsz
 clear hb2 hbx hB2 hsz
 by_cases hr : rightB 400 x = true
 ·have hr' : RightB x = true := hr
  have hs : VarsB x = distinctL (varsL x) := by unfold VarsB; rw [if_pos hr]
  rw [hr']
  have HS := Lib.hid hs
  clear hs hr hr'
  have X0 := fun o1 o2 o3 => cell_allocN o3 (cell_allocN o2 (cell_allocN o1 x0))
  have X1 := fun o1 o2 o3 => cell_allocN o3 (cell_allocN o2 (cell_allocN o1 x1))
  have X2 := fun o1 o2 o3 => cell_allocN o3 (cell_allocN o2 (cell_allocN o1 x2))
  have X3 := fun o1 o2 o3 => cell_allocN o3 (cell_allocN o2 (cell_allocN o1 x3))
  gi_wp2_with fail
  refine ⟨trivial, (callsIn_wide.2 (vars_calls x A c _)).mono ?_⟩
  rintro e w' ⟨rfl, rfl⟩
  gi_wp2_with fail
  have bO := (((Boxed.new w2 49 (.slice none 0 0)).alloc (.map #[] 0)).alloc (.cells #[.map (some (w2.heap.size + 1))] 92)).alloc (.cells #[.int .i64 x.f0, .int .i64 x.f1, .string x.f2, .slice A x.f3.length c] 31)
  have bM := ((MapI.made Tryd.prog 3 (w2.alloc (.cells #[.slice none 0 0] 49))).alloc (.cells #[.map (some (w2.heap.size + 1))] 92)).alloc (.cells #[.int .i64 x.f0, .int .i64 x.f1, .string x.f2, .slice A x.f3.length c] 31)
  have bC := (Boxed.new ((w2.alloc (.cells #[.slice none 0 0] 49)).alloc (.map #[] 0)) 92 (.map (some (w2.heap.size + 1)))).alloc (.cells #[.int .i64 x.f0, .int .i64 x.f1, .string x.f2, .slice A x.f3.length c] 31)
  have bT := heap_new (((w2.alloc (.cells #[.slice none 0 0] 49)).alloc (.map #[] 0)).alloc (.cells #[.map (some (w2.heap.size + 1))] 92)) (.cells #[.int .i64 x.f0, .int .i64 x.f1, .string x.f2, .slice A x.f3.length c] 31)
  have hB0 : Below w2.heap.size w2 ((((w2.alloc (.cells #[.slice none 0 0] 49)).alloc (.map #[] 0)).alloc (.cells #[.map (some (w2.heap.size + 1))] 92)).alloc (.cells #[.int .i64 x.f0, .int .i64 x.f1, .string x.f2, .slice A x.f3.length c] 31)) := (below3 w2 _ _ _).alloc (by simp; omega) _
  have hsz : ((((w2.alloc (.cells #[.slice none 0 0] 49)).alloc (.map #[] 0)).alloc (.cells #[.map (some (w2.heap.size + 1))] 92)).alloc (.cells #[.int .i64 x.f0, .int .i64 x.f1, .string x.f2, .slice A x.f3.length c] 31)).heap.size = w2.heap.size + 4 := by simp
  simp only [World.size_alloc] at bM bC bT
  generalize (((w2.alloc (.cells #[.slice none 0 0] 49)).alloc (.map #[] 0)).alloc (.cells #[.map (some (w2.heap.size + 1))] 92)).alloc (.cells #[.int .i64 x.f0, .int .i64 x.f1, .string x.f2, .slice A x.f3.length c] 31) = Wc at bO bM bC bT hB0 hsz ⊢
  have BT := Lib.hid bT
  clear bT X0 X1 X2 X3 x0 x1 x2 x3
  refine wpIn_rangeFunc_ownG rfl (by omega) (gf := 69) (lb := #[.pointer (some ⟨w2.heap.size + 1 + 1 + 1, 0, none⟩)]) rfl trivial (enters_of Tryd.func69 (by kernel_rfl) rfl)
   (vars_stops _ w2 _ x A c (w2.heap.size + 1 + 1 + 1) hB0 hc (c_below HC.out HB2.out) HWF.out BT.out) KpT.trans (kpT_b (by omega)) (Below.refl _ _) (fun _ => rfl)
   (fun pre W => ((∃ v, Boxed W w2.heap.size 49 v ∧ W.ownsRow w2.heap.size 3 1 v (distinctL (vals pre)).length ((distinctL (vals pre)).map (Value.int .i64)) ∧ True) ∧ Boxed W (w2.heap.size + 1 + 1) 92 (.map (some (w2.heap.size + 1))) ∧ MapI Tryd.prog 3 W (w2.heap.size + 1) pre.length (seenM (vals pre))) ∧ Below w2.heap.size w2 W)
   (fun _ _ _ => False)
   (OwnFrom.and (OwnFrom.and (Own.from (holdsRow_own w2.heap.size w2.heap.size 49 3 1 (fun pre => (distinctL (vals pre)).length) (fun pre => (distinctL (vals pre)).map (Value.int .i64)) (fun pre v => True)) _) (fun s A B row hs hg hr => ⟨hs.1.kept hg (fun e => by have := (hr _ e.symm).1; omega), hs.2.kept hg (fun e => by have := (hr _ e.symm).1; omega)⟩)) (ownFrom_below (Nat.le_refl _) (by omega)))
   (fun _ _ _ _ _ hs _ _ => hs)
   ⟨⟨⟨_, bO, World.ownsRow_nil _ _ _ _, trivial⟩, bC, bM⟩, hB0⟩
   (fun y => { tmps := #[.agg #[.int .i64 x.f0, .int .i64 x.f1, .string x.f2, .slice A x.f3.length c], .pointer (some ⟨w.heap.size, 0, none⟩), .slice none 0 0, .pointer (some ⟨w2.heap.size, 0, none⟩), .pointer (some ⟨w2.heap.size + 1 + 1, 0, none⟩), .int .i64 y.1, .agg #[.int .i64 x.f0, .int .i64 x.f1, .string x.f2, .slice A x.f3.length c], .bool true, .bool false, .map (some (w2.heap.size + 1)), .agg #[.int .i64 x.f0, .int .i64 x.f1, .string x.f2, .slice A x.f3.length c], .func (.func 69) #[] #[.pointer (some ⟨w2.heap.size + 1 + 1 + 1, 0, none⟩)], .int .i64 y.1, undef, undef, undef, undef, undef, undef, undef, undef, undef, undef, undef], defers := [] }) ?assign ?body ?done ?stop
  case assign =>
   intro l y W K hK
   gi_wp2
   exact hK
  case body =>
   rintro l pre y W ⟨⟨⟨v, hv, hrow, -⟩, hcm, hM⟩, hB⟩ hlt
   have hc1 := hv.cell
   have hc1m := hcm.cell
   have hlook := hM.look (Maps.int_keyed Tryd.underlying3) Tryd.underlying3 Tryd.underlying92 (Tryd.zeroValue4 W) y.2
   have hv2 : vals (pre ++ [y]) = vals pre ++ [y.1] := by simp [vals]
   have hln : (vals pre).length = pre.length := List.length_map _
   have hsz2 := hB.size
   by_cases hin : y.1 ∈ vals pre
   ·have hg : (seenM (vals pre) y.1).getD (.bool false) = .bool true := by unfold seenM; rw [if_pos hin]; rfl
    rw [hg] at hlook
    gi_wp2
    exact ⟨KeepsFrom.refl _ _, KpT.refl _ _, ⟨⟨v, hv, by rw [hv2, distinct_hit _ _ hin]; exact hrow, trivial⟩, hcm, by rw [hv2, ← seenM_same _ _ hin, List.length_append]; exact hM.mono (by simp)⟩, hB⟩
   ·have hg : (seenM (vals pre) y.1).getD (.bool false) = .bool false := by unfold seenM; rw [if_neg hin]; rfl
    rw [hg] at hlook
    obtain ⟨Wm, hput, hMm, hgm⟩ := hM.put (Maps.int_keyed Tryd.underlying3) Tryd.underlying3 Tryd.underlying92 (by have := HN.out; unfold maxLen; omega) y.2 (.bool true)
    obtain ⟨i0, hi, hz0, hz1, hz2⟩ := info_parts info3
    obtain ⟨es, ck, hme⟩ := hM.obj
    have hvm := hv.kept hgm (by simp)
    have hc2 := hvm.cell
    have hcm2 := hcm.kept hgm (by simp)
    have hcmc := hcm2.cell
    have hmr : some (w2.heap.size + 1) ≠ v.ownBlock := fun e => by
     rcases hrow.2 with ⟨rfl, _⟩ | ⟨g', cap, cur, rfl, _, hgb, _⟩
     ·cases e
     ·obtain rfl : w2.heap.size + 1 = g' := by simpa [Value.ownBlock] using e
      rw [hme] at hgb
      cases hgb
    have hrm := hrow.kept hgm (.inr hmr.symm)
    have hll : (distinctL (vals pre)).length ≤ pre.length := by have := length_distinct (vals pre); omega
    have hgs := hgm.size
    gi_wp2_with (gi_at_builtin; refine wpListIn_append_own _ rfl _ _ 49 rfl w2.heap.size 3 i0 (.int .i64 0) 1 8 Tryd.underlying49 hi hz0 hz1 hz2 rfl (by decide) _ _ _ rfl (hrm.alloc _) ⟨Wm.heap.size, 0, none⟩ 1 1 [.int .i64 y.1] rfl rfl (cell_one_new _ _ _) (by simp [Value.oneCell']) (by have := HN.out; unfold maxLen; omega) (by have := HN.out; omega) (by simp; omega) ?_; intro v' w1 hown' hgrow _; obtain ⟨g', cap', rfl⟩ := ownsRow_succ hown'; obtain ⟨hv1, hv2', hr2, hk2, hb2⟩ := hvm.appended (by decide) hrm (by omega) (Nat.le_refl _) hown' hgrow; have hc1' := hv1.cell; have hf1 := hv1.frozen)
    have hgr : (Wm.alloc (.cells #[.int .i64 y.1] 3)).grownBy w1 v.ownBlock := hgrow
    have hset := grownBy_setCell' w1 w2.heap.size (.slice (some ⟨g', 0, none⟩) ((distinctL (vals pre)).length + 1) cap')
    refine ⟨(KeepsFrom.of_grownBy hgm (fun j e => by cases e; omega)).trans (hk2.from _), ?_, ⟨⟨_, hv2', by rw [hv2, distinct_miss _ _ hin, List.length_append, List.map_append]; exact hr2, trivial⟩, ?_, ?_⟩, ?_⟩
    ·refine ((kpT_grown hgm hsz2 (fun j e => by cases e; exact ⟨by omega, fun cs h => by rw [hme] at h; cases h⟩)).alloc (by omega) _).trans ((kpT_grown hgr (by simp; omega) (row_not (hrm.alloc _) (by decide))).trans (kpT_grown hset (by have := hgr.size; simp at this; omega) (fun j e => by
      obtain rfl : w2.heap.size = j := Option.some.inj e
      refine ⟨Nat.le_refl _, fun cs h => ?_⟩
      rw [show w1.heap[w2.heap.size]? = _ from hv1] at h
      cases h)))
    ·exact ((hcm2.alloc _).kept hgr (hcm2.not_row (by decide) hrm)).kept hset (by simp; omega)
    ·rw [hv2, ← seenM_snoc, List.length_append]
     exact ((hMm.alloc _).kept hgr hmr).kept hset (by simp)
    ·exact (hB.trans ((Below.refl _ W).grown hgm hsz2 (fun k e => by cases e; omega))).trans hb2
  case done =>
   rintro D ys W hD rfl ⟨⟨⟨v, hv, hrow, -⟩, hcm, hM⟩, hB⟩ hK
   have hcv := hv.cell
   rw [vals_all x HWF.out] at hrow
   gi_wp2
   refine ⟨by simp, .inl ⟨_, _, rfl, run_takeDeferred hK, ?_⟩⟩
   rw [HS.out]
   exact ⟨_, results_tmp rfl _ _ _, v, rfl, owns_base (ownsRow_putObj hrow _ hK rfl) HB2.out.size, bel2 HB2.out (hB.trans (belowK_b (w := w2) (Nat.le_refl _) W D _ _ (by omega) hK rfl rfl))⟩
  case stop =>
   rintro D c pre W _ _ h _
   exact h.elim
 ·have hr' : RightB x = false := Bool.eq_false_iff.2 hr
  have hs : VarsB x = [] := by unfold VarsB; rw [if_neg hr]
  rw [hr']
  have HS := Lib.hid hs
  clear hs hr hr'
  gi_wp2_with fail
  refine ⟨_, results_tmp rfl _ _ _, ?_⟩
  rw [HS.out]
  exact ⟨_, rfl, World.ownsRow_nil _ _ _ _, HB2.out⟩
end Go.Proofs.YtddmdiaopaoekaaDoor.P
namespace Go.Proofs.YtddmdiaopaoekaaDoor.P
open Go.RowKit Go.Shelf Go.Proofs.YtddmdiaopaoekaaDoorW.PrintWords Go.Proofs.YtddmdiaopaoekaaDoorW.PrintLast Go.Proofs.YtddmdiaopaoekaaDoor.Rw
set_option linter.unusedVariables false
set_option linter.unusedSimpArgs false
theorem Var_calls (a : Int) (w : World) : Calls Tryd.prog 24 #[.int .i64 a] w fun e w' => e = .returned (.agg #[.int .i64 1, .int .i64 a, .string ⟨#[]⟩, .slice none 0 0]) ∧ Below w.heap.size w w' := by
 go_enter Tryd.func24, Tryd.ntmps24
 go_wp2_with fail
 have hb := heap_new w (.cells #[.int .i64 1, .int .i64 a, .string ⟨#[]⟩, .slice none 0 0] 31)
 have hB : Below w.heap.size w (w.alloc (.cells #[.int .i64 1, .int .i64 a, .string ⟨#[]⟩, .slice none 0 0] 31)) := (Below.refl _ _).alloc (Nat.le_refl _) _
 generalize w.alloc (.cells #[.int .i64 1, .int .i64 a, .string ⟨#[]⟩, .slice none 0 0] 31) = W3 at hb hB ⊢
 have q0 := cell_in hb 0
 have q1 := cell_in hb 1
 have q2 := cell_in hb 2
 have q3 := cell_in hb 3
 exact bodyPost_ret (v := .agg #[.int .i64 1, .int .i64 a, .string ⟨#[]⟩, .slice none 0 0]) (by simp [results, Tryd.results24, go_sem, q0, q1, q2, q3]) rfl ⟨rfl, hB⟩
/-- A number's place; 0 where it is not there. -/
def posI (l : List Int) (i : Int) : Int := if i ∈ l then (l.idxOf i : Int) else 0
def atM (l : List Int) : Int → Option Value := fun i => if i ∈ l then some (.int .i64 (l.idxOf i : Int)) else none
theorem atM_get (l : List Int) (i : Int) : (atM l i).getD (.int .i64 0) = .int .i64 (posI l i) := by
 unfold atM posI
 split <;> rfl
theorem atM_snoc (l : List Int) (v : Int) (h : v ∉ l) : putI (atM l) v (.int .i64 (l.length : Int)) = atM (l ++ [v]) := by
 funext j
 unfold putI atM
 by_cases hj : j = v
 ·subst hj
  rw [if_pos rfl, if_pos (by simp), List.idxOf_append, if_neg h]
  simp
 ·rw [if_neg hj]
  by_cases hm : j ∈ l
  ·rw [if_pos hm, if_pos (by simp [hm]), List.idxOf_append, if_pos hm]
  ·rw [if_neg hm, if_neg (by simp [hm, hj])]
/-- What a list's places tell of a variable. -/
def anewV (l : List Int) (v : S31) : S31 := ⟨1, posI l v.f1, ⟨#[]⟩, []⟩
set_option maxHeartbeats 4000000 in
theorem anew_by (l : List Int) (bM bB n : Nat) (w0 w1 : World) (h01 : Below w0.heap.size w0 w1) (hb : Boxed w1 bB 90 (.map (some bM))) (hM : MapI Tryd.prog 3 w1 bM n (atM l)) (x : S31) (hx : (Lit.int .i64 x.f1).wf = true) : ByT 51 #[.pointer (some ⟨bB, 0, none⟩)] (anewV l) w0 w1 x := by
 intro W A c hB hc hC
 have hbW : Boxed W bB 90 (.map (some bM)) := (hB.block bB hb.lt).trans hb
 have cc : ∀ o o', ((W.alloc o).alloc o').cell? ⟨bB, 0, none⟩ = some (.map (some bM)) := fun o o' => ((hbW.alloc o).alloc o').cell
 have hlk : ∀ o o', (Instr.lookup 90 (.map (some bM)) (.int .i64 x.f1) false).run Tryd.prog ((W.alloc o).alloc o') = .ok (.int .i64 (posI l x.f1)) ((W.alloc o).alloc o') := fun o o' => by
  rw [((((hM.below hB).alloc o).alloc o').look (Maps.int_keyed Tryd.underlying3) Tryd.underlying3 Tryd.underlying90 (Tryd.zeroValue3 _) hx), atM_get]
 have hsz := hB.size
 have h1sz := h01.size
 clear hC hB hb hM hbW h01
 go_enter Tryd.func51, Tryd.ntmps51
 go_wp2_with fail
 refine (Var_calls _ _).mono ?_
 rintro e w2 ⟨rfl, hb2⟩
 have hbr := (hb2.block (W.heap.size + 1) (by simp)).trans (new2_b W _ _)
 have k0 := cell_in hbr 0
 have k1 := cell_in hbr 1
 have k2 := cell_in hbr 2
 have k3 := cell_in hbr 3
 have f0 := frz_in hbr 0
 have f1 := frz_in hbr 1
 have f2 := frz_in hbr 2
 have f3 := frz_in hbr 3
 have HB2 := Lib.hid hb2
 have HBR := Lib.hid hbr
 clear hb2 hbr
 go_wp2_with fail
 have hbr2 := heap_set4 HBR.out (.int .i64 1) (.int .i64 (posI l x.f1)) (.string ⟨#[]⟩) (.slice none 0 0)
 have hgr := grown_set4 w2 (W.heap.size + 1) (.int .i64 1) (.int .i64 (posI l x.f1)) (.string ⟨#[]⟩) (.slice none 0 0)
 generalize ((((w2.setCell ⟨W.heap.size + 1, 0, none⟩ (.int .i64 1)).setCell ⟨W.heap.size + 1, 1, none⟩ (.int .i64 (posI l x.f1))).setCell ⟨W.heap.size + 1, 2, none⟩ (.string ⟨#[]⟩)).setCell ⟨W.heap.size + 1, 3, none⟩ (.slice none 0 0)) = W3 at hbr2 hgr ⊢
 have q0 := cell_in hbr2 0
 have q1 := cell_in hbr2 1
 have q2 := cell_in hbr2 2
 have q3 := cell_in hbr2 3
 have hB3 : Below W.heap.size W W3 := below_grown ((((Below.refl _ _).alloc (Nat.le_refl _) _).alloc (by simp) _).trans (HB2.out.mono (by simp; omega))) hgr (by omega)
 exact bodyPost_ret (v := .agg #[.int .i64 1, .int .i64 (posI l x.f1), .string ⟨#[]⟩, .slice none 0 0]) (by simp [results, Tryd.results51, go_sem, q0, q1, q2, q3]) rfl ⟨none, 0, rfl, Nat.le_refl _, FC.nil _ _ _, hB3⟩
end Go.Proofs.YtddmdiaopaoekaaDoor.P
