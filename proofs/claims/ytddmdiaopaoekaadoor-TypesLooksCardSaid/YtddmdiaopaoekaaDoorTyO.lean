import Derived.Test.YtddmdiaopaoekaaDoorTyL
import Derived.Test.YtddmdiaopaoekaaDoorOwnRow
namespace Go.Proofs.YtddmdiaopaoekaaDoor.P
open Go.RowKit Go.Shelf Go.Proofs.YtddmdiaopaoekaaDoorW.PrintWords Go.Proofs.YtddmdiaopaoekaaDoorW.PrintLast Go.Proofs.YtddmdiaopaoekaaDoor.Rw
set_option linter.unusedVariables false
set_option linter.unusedSimpArgs false
attribute [local go_sem] Oper.semAt_some
def greatL (l : List Int) : Int := l.foldl max (-1)
def outAt (m : Int → Option S31) (i : Int) : S31 := match m i with | some t => t | none => ⟨1, i, ⟨#[]⟩, []⟩
def outL (m : Int → Option S31) (n : Nat) : List S31 := (List.range n).map (fun (i : Nat) => outAt m (i : Int))
noncomputable def matchR (g s : S31) : Bool × Bnd := matchS (SizeOf.sizeOf g + 1) g s (fun _ => none, 0)
noncomputable def MatchB (g s : S31) : Option (List S31) :=
 if rightB 400 g = true ∧ rightB 400 s = true ∧ greatL (varsL g) ≤ 512 ∧ (matchR g s).1 = true then some (outL (matchR g s).2.1 (greatL (varsL g) + 1).toNat) else none
def MatchP (w : World) (r : Option (List S31)) (e : Ending) (w' : World) : Prop :=
 (match r with
  | none => e = .returned (.tuple #[.slice none 0 0, .bool false])
  | some l => ∃ A c, e = .returned (.tuple #[.slice A l.length c, .bool true]) ∧ l.length ≤ c ∧ k31.C w' A l.length l) ∧ Below w.heap.size w w'
theorem match_few : ∀ (n k : Nat) (g s : S31) (st : Bnd), k ≤ 400 → fewN k s → (∀ i t, st.1 i = some t → fewN 400 t) → ∀ i t, (matchS n g s st).2.1 i = some t → fewN 400 t := by
 intro n
 induction n with
 | zero => intro k g s st _ _ h; exact h
 | succ n ih =>
  intro k g s st hk hs h
  have hm : matchS (n + 1) g s st = if g.f0 = 1 then (match st.1 g.f1 with
   | none => (true, (putT st.1 g.f1 s, st.2 + 1))
   | some u => (sameB u s, st))
   else if g.f0 = s.f0 then (if g.f2.toList = s.f2.toList then eqL (matchS n) g.f3 s.f3 st else (false, st)) else (false, st) := rfl
  rw [hm]
  split
  ·cases hg : st.1 g.f1 with
   | none =>
    intro i t ht
    simp only [putT] at ht
    split at ht
    ·cases ht; exact few_mono k 400 s hk hs
    ·exact h i t ht
   | some u => exact h
  ·split
   ·split
    ·cases k with
     | zero => exact hs.elim
     | succ k =>
      have : ∀ (xs ys : List S31) (st : Bnd), (∀ y, y ∈ ys → fewN k y) → (∀ i t, st.1 i = some t → fewN 400 t) → ∀ i t, (eqS (matchS n) xs ys st).2.1 i = some t → fewN 400 t := by
       intro xs
       induction xs with
       | nil => intro ys st _ h; cases ys <;> exact h
       | cons x xs ihx =>
        intro ys st hy h
        cases ys with
        | nil => exact h
        | cons y ys =>
         have h1 := ih k x y st (by omega) (hy y (by simp)) h
         simp only [eqS]
         split
         ·exact ihx ys _ (fun z hz => hy z (by simp [hz])) h1
         ·exact h1
      unfold eqL
      split
      ·exact this g.f3 s.f3 st hs.2 h
      ·exact h
    ·exact h
   ·exact h
theorem great_ge (l : List Int) : -1 ≤ greatL l := by
 have : ∀ (l : List Int) (a : Int), a ≤ l.foldl max a := by
  intro l
  induction l with
  | nil => intro a; exact Int.le_refl _
  | cons x l ih => intro a; exact Int.le_trans (Int.le_max_left a x) (ih _)
 exact this l (-1)
theorem great_snoc (l : List Int) (v : Int) : greatL (l ++ [v]) = max (greatL l) v := by simp [greatL]
def greatV (pre : List I64) : Int := greatL (vals pre)
theorem greatV_snoc (pre : List I64) (y : I64) : greatV (pre ++ [y]) = max (greatV pre) y.1 := by unfold greatV vals; rw [List.map_append, List.map_singleton, great_snoc]
theorem great_set (K : Nat) {w3 W : World} {u : Value} (v : Value) (hv : Boxed W w3.heap.size 3 u) (hB : Below w3.heap.size w3 W) :
  KeepsFrom K W (W.setCell ⟨w3.heap.size, 0, none⟩ v) ∧ KpT w3 W (W.setCell ⟨w3.heap.size, 0, none⟩ v) ∧ Boxed (W.setCell ⟨w3.heap.size, 0, none⟩ v) w3.heap.size 3 v ∧ Below w3.heap.size w3 (W.setCell ⟨w3.heap.size, 0, none⟩ v) :=
 ⟨(KeepsOthers.setCell _ _ _).from _, kpT_grown (grownBy_setCell' W _ v) hB.size (fun j e => by cases e; exact ⟨Nat.le_refl _, fun cs h => by rw [show W.heap[w3.heap.size]? = _ from hv] at h; cases h⟩), hv.set v, hB.setCell (p := ⟨w3.heap.size, 0, none⟩) (by simp) _⟩
theorem wf_small (k : Nat) (h : k ≤ 1000000) : (Lit.int .i64 (k : Int)).wf = true := by
 simp only [Lit.wf, Bool.and_eq_true, decide_eq_true_eq]
 have h1 : IntKind.i64.min = -9223372036854775808 := by decide
 have h2 : IntKind.i64.max = 9223372036854775807 := by decide
 rw [h1, h2]
 omega
theorem fk_of {W : World} {S : Nat → Prop} (x : S31) {A : Option Addr} {c : Nat} (hl : x.f3.length ≤ c) (h : FC k31 W S A x.f3.length x.f3) : FK k31 W S x [.int .i64 x.f0, .int .i64 x.f1, .string x.f2, .slice A x.f3.length c] := fun W' ha => k31_mk W' x hl (h W' ha)
structure Lm (w : World) (bM nM bS N D : Nat) (mm : Int → Option S31) (kk : Nat) (W : World) : Prop where
 map : MapT w W bM nM mm
 fil : Fil k31 31 (fun k => k ≠ D) W bS N (outL mm kk)
 be : Below w.heap.size w W
 df : W.heap[D]? = some (.deferred (some []))
theorem outL_len (mm : Int → Option S31) (n : Nat) : (outL mm n).length = n := by simp [outL]
theorem outL_succ (mm : Int → Option S31) (n : Nat) : outL mm (n + 1) = outL mm n ++ [outAt mm (n : Int)] := by simp [outL, List.range_succ]
theorem Lm.below {w : World} {bM nM bS N D : Nat} {mm : Int → Option S31} {kk : Nat} {W W' : World} (h : Lm w bM nM bS N D mm kk W) (hb : Below W.heap.size W W') : Lm w bM nM bS N D mm kk W' :=
 ⟨h.map.below hb, h.fil.below hb, bel2 h.be hb, (hb.block D (Array.getElem?_eq_some_iff.1 h.df).1).trans h.df⟩
theorem Lm.grown {w : World} {bM nM bS N D : Nat} {mm : Int → Option S31} {kk : Nat} {W W' : World} (h : Lm w bM nM bS N D mm kk W) (hg : W.grownBy W' (some bS)) (hM : bM ≠ bS) (hD : D ≠ bS) (hw : w.heap.size ≤ bS) (kk' : Nat) (hF : Fil k31 31 (fun k => k ≠ D) W' bS N (outL mm kk')) : Lm w bM nM bS N D mm kk' W' :=
 ⟨h.map.kept hg (by simpa using hM), hF, below_grown h.be hg hw, (hg.block D (Array.getElem?_eq_some_iff.1 h.df).1 (by simpa using hD)).trans h.df⟩
theorem mapT_made (w0 W : World) : MapT w0 (W.alloc (.map #[] 0)) W.heap.size 0 (fun _ => none) := ⟨_, MapI.made _ _ _, fun i => ⟨fun t e => (by cases e), fun _ => rfl⟩⟩
set_option maxHeartbeats 8000000 in
set_option maxRecDepth 100000 in
theorem Match_calls (g s : S31) (A B : Option Addr) (c d : Nat) (w : World) (hc : g.f3.length ≤ c) (hC : k31.C w A g.f3.length g.f3) (hd : s.f3.length ≤ d) (hD : k31.C w B s.f3.length s.f3) (hwf : ∀ v, v ∈ varsL g → (Lit.int .i64 v).wf = true) (hN : (varsL g).length ≤ 10000000) :
  Calls Tryd.prog 10 #[.agg #[.int .i64 g.f0, .int .i64 g.f1, .string g.f2, .slice A g.f3.length c], .agg #[.int .i64 s.f0, .int .i64 s.f1, .string s.f2, .slice B s.f3.length d]] w (MatchP w (MatchB g s)) := by
 refine (callsIn_wide (n := 9)).1 ?_
 refine callsIn_of_wp_marks Tryd.func10 rfl trivial ?_ rfl
 simp only [Tryd.ntmps10, List.size_toArray, List.length_cons, List.length_nil, Nat.reduceAdd, Nat.reduceSub, Array.replicate_succ, Array.replicate_zero, List.push_toArray, List.append_toArray, List.nil_append, List.cons_append]
 have hmm := @run_makeMap Tryd.prog
 have HC := Lib.hid hC
 have HD := Lib.hid hD
 have HWF := Lib.hid hwf
 have HN := Lib.hid hN
 clear hC hD hwf hN
 gi_wp2_with fail
 refine ⟨trivial, (callsIn_wide.2 (Right_calls g A c _ hc (c_below HC.out (((Below.refl _ _).alloc (Nat.le_refl _) _).alloc (by simp) _)))).mono ?_⟩
 rintro e w2 ⟨rfl, hb2⟩
 have hbx := (hb2.block w.heap.size (by simp; omega)).trans (new2_a w _ _)
 have hby := (hb2.block (w.heap.size + 1) (by simp)).trans (new2_b w _ _)
 have hB2 : Below w.heap.size w w2 := (((Below.refl _ w).alloc (Nat.le_refl _) _).alloc (by simp) _).trans (hb2.mono (by simp; omega))
 have hsz := hb2.size
 simp only [World.size_alloc] at hsz
 have x0 := cell_in hbx 0
 have x1 := cell_in hbx 1
 have x2 := cell_in hbx 2
 have x3 := cell_in hbx 3
 have y0 := cell_in hby 0
 have y1 := cell_in hby 1
 have y2 := cell_in hby 2
 have y3 := cell_in hby 3
 have HBX := Lib.hid hbx
 have HBY := Lib.hid hby
 have HB2 := Lib.hid hB2
 have HSZ := Lib.hid hsz
 clear hb2 hbx hby hB2 hsz
 by_cases hr : rightB 400 g = true
 ·have hr' : RightB g = true := hr
  rw [hr']
  have HR := Lib.hid hr
  clear hr hr'
  gi_wp2_with fail
  refine ⟨trivial, (callsIn_wide.2 (Right_calls s B d _ hd (c_below HD.out HB2.out))).mono ?_⟩
  rintro e w3 ⟨rfl, hb3⟩
  have X0 : w3.cell? ⟨w.heap.size, 0, none⟩ = some (.int .i64 g.f0) := pw_cell_below hb3 x0
  have X1 : w3.cell? ⟨w.heap.size, 1, none⟩ = some (.int .i64 g.f1) := pw_cell_below hb3 x1
  have X2 : w3.cell? ⟨w.heap.size, 2, none⟩ = some (.string g.f2) := pw_cell_below hb3 x2
  have X3 : w3.cell? ⟨w.heap.size, 3, none⟩ = some (.slice A g.f3.length c) := pw_cell_below hb3 x3
  have XX0 := fun o => cell_allocN o X0
  have XX1 := fun o => cell_allocN o X1
  have XX2 := fun o => cell_allocN o X2
  have XX3 := fun o => cell_allocN o X3
  have HB3 := Lib.hid (bel2 HB2.out hb3)
  have HSZ3 := Lib.hid (Nat.le_trans HSZ.out hb3.size)
  have HBX3 := Lib.hid ((hb3.block w.heap.size (by have := HSZ.out; omega)).trans HBX.out)
  have HBY3 := Lib.hid ((hb3.block (w.heap.size + 1) (by have := HSZ.out; omega)).trans HBY.out)
  clear hb3 x0 x1 x2 x3 y0 y1 y2 y3 X0 X1 X2 X3
  clear HB2 HSZ HBX HBY
  by_cases hr : rightB 400 s = true
  ·have hr' : RightB s = true := hr
   rw [hr']
   have HRs := Lib.hid hr
   clear hr hr'
   gi_wp2_with fail
   refine ⟨trivial, (callsIn_wide.2 (vars_calls g A c _)).mono ?_⟩
   rintro e w' ⟨rfl, rfl⟩
   gi_wp2_with fail
   have bO := (Boxed.new w3 3 (.int .i64 (-1))).alloc (.cells #[.int .i64 g.f0, .int .i64 g.f1, .string g.f2, .slice A g.f3.length c] 31)
   have bT := heap_new (w3.alloc (.cells #[.int .i64 (-1)] 3)) (.cells #[.int .i64 g.f0, .int .i64 g.f1, .string g.f2, .slice A g.f3.length c] 31)
   have hB0 : Below w3.heap.size w3 ((w3.alloc (.cells #[.int .i64 (-1)] 3)).alloc (.cells #[.int .i64 g.f0, .int .i64 g.f1, .string g.f2, .slice A g.f3.length c] 31)) := ((Below.refl _ _).alloc (Nat.le_refl _) _).alloc (by simp) _
   have hsz : ((w3.alloc (.cells #[.int .i64 (-1)] 3)).alloc (.cells #[.int .i64 g.f0, .int .i64 g.f1, .string g.f2, .slice A g.f3.length c] 31)).heap.size = w3.heap.size + 2 := by simp
   simp only [World.size_alloc] at bT
   generalize (w3.alloc (.cells #[.int .i64 (-1)] 3)).alloc (.cells #[.int .i64 g.f0, .int .i64 g.f1, .string g.f2, .slice A g.f3.length c] 31) = Wc at bO bT hB0 hsz ⊢
   have BT := Lib.hid bT
   clear bT XX0 XX1 XX2 XX3
   refine wpIn_rangeFunc_ownG rfl (by omega) (gf := 69) (lb := #[.pointer (some ⟨w3.heap.size + 1, 0, none⟩)]) rfl trivial (enters_of Tryd.func69 (by kernel_rfl) rfl)
    (vars_stops _ w3 _ g A c (w3.heap.size + 1) hB0 hc (c_below HC.out HB3.out) HWF.out BT.out) KpT.trans (kpT_b (by omega)) (Below.refl _ _) (fun _ => rfl)
    (fun pre W => Boxed W w3.heap.size 3 (.int .i64 (greatV pre)) ∧ Below w3.heap.size w3 W)
    (fun _ _ _ => False)
    (OwnFrom.and (fun s A B row hs hg hr => hs.kept hg (fun e => by have := (hr _ e.symm).1; omega)) (ownFrom_below (Nat.le_refl _) (by omega)))
    (fun _ _ _ _ _ hs _ _ => hs)
    ⟨bO, hB0⟩
    (fun y => { tmps := #[.agg #[.int .i64 g.f0, .int .i64 g.f1, .string g.f2, .slice A g.f3.length c], .agg #[.int .i64 s.f0, .int .i64 s.f1, .string s.f2, .slice B s.f3.length d], .pointer (some ⟨w.heap.size, 0, none⟩), .pointer (some ⟨w.heap.size + 1, 0, none⟩), .slice none 0 0, .bool false, .pointer (some ⟨w3.heap.size, 0, none⟩), .int .i64 y.1, undef, undef, undef, undef, undef, .agg #[.int .i64 g.f0, .int .i64 g.f1, .string g.f2, .slice A g.f3.length c], .bool true, .bool false, .bool false, .agg #[.int .i64 s.f0, .int .i64 s.f1, .string s.f2, .slice B s.f3.length d], .bool true, .bool false, .bool false, .agg #[.int .i64 g.f0, .int .i64 g.f1, .string g.f2, .slice A g.f3.length c], .func (.func 69) #[] #[.pointer (some ⟨w3.heap.size + 1, 0, none⟩)], .int .i64 y.1, undef, undef, undef, undef, undef, undef, undef, undef, undef, undef, undef, undef, undef, undef, undef, undef, undef, undef, undef, undef, undef, undef, undef, undef, undef, undef, undef, undef, undef, undef, undef, undef, undef, undef, undef, undef, undef, undef, undef, undef], defers := [] }) ?assign ?body ?done ?stop
   case assign =>
    intro l y W K hK
    gi_wp2
    exact hK
   case body =>
    rintro l pre y W ⟨hv, hB⟩ hlt
    have hc1 := hv.cell
    have hf1 := hv.frozen
    gi_wp2
    ·rename_i h
     obtain ⟨h1, h2, h3, h4⟩ := great_set (w3.heap.size + 2) (.int .i64 y.1) hv hB
     exact ⟨hsz ▸ h1, h2, by rw [greatV_snoc, Int.max_eq_right (by omega)]; exact h3, h4⟩
    ·rename_i h
     obtain ⟨h1, h2, h3, h4⟩ := great_set (w3.heap.size + 2) (.int .i64 (greatV pre)) hv hB
     exact ⟨hsz ▸ h1, h2, by rw [greatV_snoc, Int.max_eq_left (by omega)]; exact h3, h4⟩
   case done =>
    rintro D ys W hD rfl ⟨hv, hB⟩ hK
    have hgv : greatV ((varsL g).map toI) = greatL (varsL g) := by unfold greatV; rw [vals_all g HWF.out]
    rw [hgv] at hv
    have hcv := hv.cell
    have hbx := (hB.block w.heap.size (by have := HSZ3.out; omega)).trans HBX3.out
    have hby := (hB.block (w.heap.size + 1) (by have := HSZ3.out; omega)).trans HBY3.out
    have x0 := cell_in hbx 0
    have x1 := cell_in hbx 1
    have x2 := cell_in hbx 2
    have x3 := cell_in hbx 3
    have y0 := cell_in hby 0
    have y1 := cell_in hby 1
    have y2 := cell_in hby 2
    have y3 := cell_in hby 3
    have HV := Lib.hid hv
    have HBe := Lib.hid hB
    have HK := Lib.hid hK
    clear hbx hby hv hB hK hgv
    by_cases hgr : greatL (varsL g) ≤ 512
    ·have hng : ¬ 512 < greatL (varsL g) := by omega
     have X0 := fun o => cell_allocN o x0
     have X1 := fun o => cell_allocN o x1
     have X2 := fun o => cell_allocN o x2
     have X3 := fun o => cell_allocN o x3
     have Y0 := fun o => cell_allocN o y0
     have Y1 := fun o => cell_allocN o y1
     have Y2 := fun o => cell_allocN o y2
     have Y3 := fun o => cell_allocN o y3
     have CV := fun o => cell_allocN o hcv
     have hBw := Lib.hid (bel2 HB3.out HBe.out)
     gi_wp2_with fail
     refine ⟨trivial, (callsIn_wide.2 (match_all w W.heap.size (SizeOf.sizeOf g + 1) g s A B c d (fun _ => none, 0) _ (dep_ex _ g (Nat.le_refl _)) hc HC.out hd HD.out HWF.out (by have := HN.out; simpa [varsL] using this) (hBw.out.alloc hBw.out.size _) hBw.out.size (mapT_made w W))).mono ?_⟩
     rintro e w5 ⟨rfl, hM5, hG5⟩
     clear X0 X1 X2 X3 Y0 Y1 Y2 Y3 CV x0 x1 x2 x3 y0 y1 y2 y3
     have hfold : matchS (SizeOf.sizeOf g + 1) g s (fun _ => none, 0) = matchR g s := rfl
     rw [hfold] at hM5 ⊢
     clear hfold
     have hF := match_few (SizeOf.sizeOf g + 1) 400 g s (fun _ => none, 0) (Nat.le_refl _) (few_of_right 400 s HRs.out) (fun i t e => (by cases e))
     have HF : Hid (∀ i t, (matchR g s).2.1 i = some t → fewN 400 t) := Lib.hid hF
     have hcv : w5.cell? ⟨w3.heap.size, 0, none⟩ = some (.int .i64 (greatL (varsL g))) := (((HV.out.alloc _).kept hG5 (by simp; have := HV.out.lt; omega))).cell
     have HK5 : Hid (w5.heap[D]? = some (.deferred (some []))) := Lib.hid (by
      have hlt := (Array.getElem?_eq_some_iff.1 HK.out).1
      rw [hG5.block D (by simp; omega) (by simp; omega), heap_old _ _ _ hlt]
      exact HK.out)
     have HB5 : Hid (Below w.heap.size w w5) := Lib.hid ((hBw.out.alloc hBw.out.size _).grown hG5 (by have := hBw.out.size; simp; omega) (fun k e => by cases e; exact hBw.out.size))
     have HM5 := Lib.hid hM5
     have HSZ5 : Hid (W.heap.size < w5.heap.size) := Lib.hid (by have := hG5.size; simp at this; omega)
     clear hF hM5 hG5
     by_cases hok : (matchR g s).1 = true
     ·have hs : MatchB g s = some (outL (matchR g s).2.1 (greatL (varsL g) + 1).toNat) := by unfold MatchB; rw [if_pos ⟨HR.out, HRs.out, hgr, hok⟩]
      have HS := Lib.hid hs
      rw [hok]
      clear hs hok
      generalize matchR g s = r at HF HM5 HS
      obtain ⟨i0, hi, hz0, hz1, hz2⟩ := info_parts info31
      have hge := great_ge (varsL g)
      obtain ⟨N, hN1⟩ : ∃ N : Nat, greatL (varsL g) + 1 = (N : Int) := ⟨(greatL (varsL g) + 1).toNat, by omega⟩
      have hNle : N ≤ 513 := by omega
      have hw64 : wrap64 (greatL (varsL g) + 1) = (N : Int) := by unfold wrap64; omega
      have hmk : ∀ W, (Instr.makeSlice 27 (.int .i64 (N : Int)) (.int .i64 (N : Int))).run Tryd.prog W = .ok (.slice (some ⟨W.heap.size, 0, none⟩) N N) (W.alloc (.cells (madeCells (Value.agg #[.int .i64 0, .int .i64 0, .string ⟨#[]⟩, .slice none 0 0]).cells (N * 4)) 31)) := fun W => by
       have := run_make W 27 31 i0 _ Tryd.underlying27 hi hz0 .i64 .i64 (N : Int) (N : Int) (by omega) (Int.le_refl _) (by rw [hz2]; omega) (by omega)
       rwa [hz1, Int.toNat_natCast] at this
      rw [hN1, Int.toNat_natCast] at HS
      have HN1 := Lib.hid hN1
      clear hN1 hge hng hgr
      have hFm := Fil.made (d := k31) (e := 31) (S0 := fun k => k ≠ D) w5 (madeCells (Value.agg #[.int .i64 0, .int .i64 0, .string ⟨#[]⟩, .slice none 0 0]).cells (N * 4)) N (size_madeCells _ _)
      have hL : Lm w W.heap.size r.2.2 w5.heap.size N D r.2.1 0 (w5.alloc (.cells (madeCells (Value.agg #[.int .i64 0, .int .i64 0, .string ⟨#[]⟩, .slice none 0 0]).cells (N * 4)) 31)) :=
       ⟨HM5.out.alloc _, hFm, HB5.out.alloc HB5.out.size _, (heap_old _ _ _ (Array.getElem?_eq_some_iff.1 HK5.out).1).trans HK5.out⟩
      have HL := Lib.hid hL
      clear hFm hL
      gi_wp2_with fail
      clear hmk hw64
      have hS5 := HSZ5.out
      have hD5 : D < W.heap.size := (Array.getElem?_eq_some_iff.1 HK.out).1
      gi_loopw [10, 11, 12, 42] (fun s10 s11 s12 s42 wr => ∃ kk : Nat, kk ≤ N ∧ s42 = .int .i64 kk ∧ Hid (Lm w W.heap.size r.2.2 w5.heap.size N D r.2.1 kk wr)) (fun _ _ _ s42 _ => N - (intOf s42).toNat)
      case atStart => exact ⟨0, by omega, rfl, HL⟩
      case round =>
       clear HL
       obtain ⟨kk, hkk, rfl, HL⟩ := hrel
       by_cases hlt : kk < N
       ·have hltz : (kk : Int) < (N : Int) := by omega
        gi_wp2_with fail
        refine ⟨trivial, (callsIn_wide.2 (Var_calls (kk : Int) wr)).mono ?_⟩
        rintro e w6 ⟨rfl, hb6⟩
        have HL6 := Lib.hid (HL.out.below hb6)
        have hwk := wf_small kk (by omega)
        have hln := outL_len r.2.1 kk
        obtain ⟨o0, c0⟩ := HL6.out.fil.cell (kk * 4) (by omega)
        obtain ⟨o1, c1⟩ := HL6.out.fil.cell (kk * 4 + 1) (by omega)
        obtain ⟨o2, c2⟩ := HL6.out.fil.cell (kk * 4 + 2) (by omega)
        obtain ⟨o3, c3⟩ := HL6.out.fil.cell (kk * 4 + 3) (by omega)
        have f0 := HL6.out.fil.frozen (kk * 4)
        have f1 := HL6.out.fil.frozen (kk * 4 + 1)
        have f2 := HL6.out.fil.frozen (kk * 4 + 2)
        have f3 := HL6.out.fil.frozen (kk * 4 + 3)
        have hgr := set4_grown w6 w5.heap.size (kk * 4) (.int .i64 1) (.int .i64 (kk : Int)) (.string ⟨#[]⟩) (.slice none 0 0)
        have hfs := HL6.out.fil.set (by rw [hln]; exact hlt) (.int .i64 1) (.int .i64 (kk : Int)) (.string ⟨#[]⟩) (.slice none 0 0)
        have hfp := HL6.out.fil.put (by rw [hln]; exact hlt) (x := ⟨1, (kk : Int), ⟨#[]⟩, []⟩) (fk_of ⟨1, (kk : Int), ⟨#[]⟩, []⟩ (c := 0) (Nat.le_refl _) (FC.nil _ _ none))
        rw [hln] at hfs hfp
        have HLs := Lib.hid (HL6.out.grown hgr (by omega) (by omega) HB5.out.size kk hfs)
        have hlp : r.2.1 (kk : Int) = none → Lm w W.heap.size r.2.2 w5.heap.size N D r.2.1 (kk + 1) (set4 w6 w5.heap.size (kk * 4) (.int .i64 1) (.int .i64 (kk : Int)) (.string ⟨#[]⟩) (.slice none 0 0)) := fun hn =>
         HL6.out.grown hgr (by omega) (by omega) HB5.out.size (kk + 1) (by rw [outL_succ]; unfold outAt; rw [hn]; exact hfp)
        have HLP := Lib.hid hlp
        obtain ⟨m, hMI, hH⟩ := HLs.out.map
        have hlk := hMI.look_ok (Maps.int_keyed Tryd.underlying3) Tryd.underlying3 Tryd.underlying83 (Tryd.zeroValue31 _) hwk
        unfold set4 at hlk
        clear hgr hfs hfp hlp hb6 HL HL6
        cases hmk : r.2.1 (kk : Int) with
        | none =>
         rw [(hH (kk : Int)).2 hmk] at hlk
         simp only [Option.getD_none, Option.isSome_none] at hlk
         have HLN := Lib.hid (HLP.out hmk)
         clear hMI hH hmk HLP HLs
         gi_wp2_with fail
         go_roundw
         case rel => exact ⟨kk + 1, by omega, by go_num, Lib.hid (HLN.out.below ((Below.refl _ _).alloc (Nat.le_refl _) _))⟩
         case measure => simp [intOf]; omega
        | some t =>
         obtain ⟨v, hv, A2, cc2, rfl, hl2, hC2⟩ := (hH (kk : Int)).1 t hmk
         rw [hv] at hlk
         simp only [Option.getD_some, Option.isSome_some] at hlk
         have HFt := Lib.hid (HF.out (kk : Int) t hmk)
         have HC2 := Lib.hid hC2
         have HMK := Lib.hid hmk
         clear hMI hH hmk HLP hC2 hv
         gi_wp2_with fail
         have hLb := HLs.out.below ((Below.refl _ _).alloc (Nat.le_refl _) (.cells #[.int .i64 t.f0, .int .i64 t.f1, .string t.f2, .slice A2 t.f3.length cc2] 31))
         have HLb := Lib.hid hLb
         refine ⟨trivial, (callsIn_wide.2 (copy45 400 w t A2 cc2 _ HFt.out hl2 HC2.out hLb.be)).mono ?_⟩
         rintro e w7 ⟨A3, c3', rfl, hl3, hF3, hb7⟩
         have HL7 := Lib.hid (HLb.out.below hb7)
         have hblt := HLb.out.fil.lt
         have hb5 := HB5.out.size
         have hFK := fk_of t hl3 (hF3.mono (S' := fun k => k ≠ D ∧ k ≠ w5.heap.size ∧ k < w7.heap.size) (fun k hk => ⟨fun e => by
          subst e
          have hdl := (Array.getElem?_eq_some_iff.1 HLb.out.df).1
          rcases hk.1 with h | h
          ·have := HSZ3.out; omega
          ·exact absurd hdl (Nat.not_lt.2 h), fun e => by
          subst e
          rcases hk.1 with h | h
          ·omega
          ·exact absurd hblt (Nat.not_lt.2 h), hk.2⟩))
         clear hLb hF3 hb7 hblt c0 c1 c2 c3 f0 f1 f2 f3
         obtain ⟨p0, c0⟩ := HL7.out.fil.cell (kk * 4) (by omega)
         obtain ⟨p1, c1⟩ := HL7.out.fil.cell (kk * 4 + 1) (by omega)
         obtain ⟨p2, c2⟩ := HL7.out.fil.cell (kk * 4 + 2) (by omega)
         obtain ⟨p3, c3⟩ := HL7.out.fil.cell (kk * 4 + 3) (by omega)
         have f0 := HL7.out.fil.frozen (kk * 4)
         have f1 := HL7.out.fil.frozen (kk * 4 + 1)
         have f2 := HL7.out.fil.frozen (kk * 4 + 2)
         have f3 := HL7.out.fil.frozen (kk * 4 + 3)
         have hgr := set4_grown w7 w5.heap.size (kk * 4) (.int .i64 t.f0) (.int .i64 t.f1) (.string t.f2) (.slice A3 t.f3.length c3')
         have hfp := HL7.out.fil.put (by rw [hln]; exact hlt) hFK
         rw [hln] at hfp
         have HLN : Hid (Lm w W.heap.size r.2.2 w5.heap.size N D r.2.1 (kk + 1) (set4 w7 w5.heap.size (kk * 4) (.int .i64 t.f0) (.int .i64 t.f1) (.string t.f2) (.slice A3 t.f3.length c3'))) :=
          Lib.hid (HL7.out.grown hgr (by omega) (by omega) HB5.out.size (kk + 1) (by rw [outL_succ]; unfold outAt; rw [HMK.out]; exact hfp))
         clear hgr hfp hFK HLs HLb
         gi_wp2_with fail
         go_roundw
         case rel => exact ⟨kk + 1, by omega, by go_num, HLN⟩
         case measure => simp [intOf]; omega
       ·have hltz : ¬ (kk : Int) < (N : Int) := by omega
        obtain rfl : kk = N := by omega
        gi_wp2_with fail
        refine ⟨by simp, .inl ⟨_, _, rfl, run_takeDeferred HL.out.df, ?_⟩⟩
        refine ⟨_, results_tmp2 rfl _ _ _, ?_⟩
        have hbe := HL.out.be.trans (belowK_b (w := w) (Nat.le_refl _) wr D _ (.deferred none) (by have := HSZ3.out; omega) HL.out.df rfl rfl)
        have hC := (HL.out.fil.kept (grownBy_putObj' wr D (.deferred none)) (fun k e => by cases e; exact ⟨by omega, .inr (fun h => h rfl)⟩)).reads rfl (outL_len _ _) (by unfold maxLen; omega)
        rw [HS.out]
        exact ⟨⟨some ⟨w5.heap.size, 0, none⟩, kk, by rw [outL_len]; rfl, by rw [outL_len]; exact Nat.le_refl _, by rw [outL_len]; exact hC⟩, hbe⟩
     ·have hok' : (matchR g s).1 = false := Bool.eq_false_iff.2 hok
      have hs : MatchB g s = none := by unfold MatchB; rw [if_neg (fun h => hok h.2.2.2)]
      have HS := Lib.hid hs
      rw [hok']
      clear hs hok hok'
      gi_wp2_with fail
      refine ⟨by simp, .inl ⟨_, _, rfl, run_takeDeferred HK5.out, ?_⟩⟩
      refine ⟨_, results_tmp2 rfl _ _ _, ?_⟩
      rw [HS.out]
      exact ⟨rfl, HB5.out.trans (belowK_b (w := w) (Nat.le_refl _) _ D _ _ (by have := HSZ3.out; omega) HK5.out rfl rfl)⟩
    ·have hng : 512 < greatL (varsL g) := by omega
     have hs : MatchB g s = none := by unfold MatchB; rw [if_neg (fun h => hgr h.2.2.1)]
     have HS := Lib.hid hs
     have CV := fun o => cell_allocN o hcv
     clear hs hgr
     gi_wp2_with fail
     refine ⟨trivial, ?_⟩
     gi_wp2_with fail
     have hKa : (W.alloc (.map #[] 0)).heap[D]? = some (.deferred (some [])) := (heap_old _ _ _ (Array.getElem?_eq_some_iff.1 HK.out).1).trans HK.out
     refine ⟨by simp, .inl ⟨_, _, rfl, run_takeDeferred hKa, ?_⟩⟩
     refine ⟨_, results_tmp2 rfl _ _ _, ?_⟩
     rw [HS.out]
     have hBw := bel2 HB3.out HBe.out
     exact ⟨rfl, (hBw.alloc hBw.size _).trans (belowK_b (w := w) (Nat.le_refl _) _ D _ _ (by have := HSZ3.out; omega) hKa rfl rfl)⟩
   case stop =>
    rintro D c pre W _ _ h _
    exact h.elim
  ·have hr' : RightB s = false := Bool.eq_false_iff.2 hr
   have hs : MatchB g s = none := by unfold MatchB; rw [if_neg (fun h => hr h.2.1)]
   rw [hr']
   have HS := Lib.hid hs
   clear hs hr hr'
   gi_wp2_with fail
   refine ⟨_, results_tmp2 rfl _ _ _, ?_⟩
   rw [HS.out]
   exact ⟨rfl, HB3.out⟩
 ·have hr' : RightB g = false := Bool.eq_false_iff.2 hr
  have hs : MatchB g s = none := by unfold MatchB; rw [if_neg (fun h => hr h.1)]
  rw [hr']
  have HS := Lib.hid hs
  clear hs hr hr'
  gi_wp2_with fail
  refine ⟨trivial, ?_⟩
  gi_wp2_with fail
  refine ⟨_, results_tmp2 rfl _ _ _, ?_⟩
  rw [HS.out]
  exact ⟨rfl, HB2.out⟩
end Go.Proofs.YtddmdiaopaoekaaDoor.P
