/- What TypesAnew's walk asks of the plain law, in one sentence. -/
import Derived.Test.YtddmdiaopaoekaaDoorPlA
import Derived.Test.YtddmdiaopaoekaaDoorTyZ
import Derived.Test.YtddmdiaopaoekaaDoorPx5
namespace Go.Proofs.YtddmdiaopaoekaaDoor.P
open Go.RowKit Go.Proofs.YtddmdiaopaoekaaDoorW.PrintWords
set_option linter.unusedVariables false
theorem wf_in (v : Int) (h1 : 0 ≤ v) (h2 : v ≤ 1000000) : (Lit.int .i64 v).wf = true := by
  have h3 : ((v.toNat : Nat) : Int) = v := by omega
  have := wf_small v.toNat (by omega)
  rwa [h3] at this
theorem sch_vars (x : S31) (hx : rightB 400 x = true) : rightB 400 (schT x) = true ∧ varsL (schT x) = (varsL x).map (posI (VarsB x)) := by
  have hT : schT x = changeN 400 (ren (posI (VarsB x))) x := by unfold schT; rw [if_pos hx, anewV_ren]
  have hR : rightB 400 (schT x) = true := by rw [hT]; exact rightB_ren _ 400 x hx (fun v _ => posI_nonneg _ _)
  exact ⟨hR, by rw [varsL_400 _ hR, hT, varsN_ren _ 400 x hx, ← varsL_400 x hx]⟩
theorem len_vars (x : S31) : (VarsB x).length ≤ (varsL x).length := by
  unfold VarsB
  split
  · exact length_distinct _
  · simp
theorem sch_small (x : S31) (hx : rightB 400 x = true) (hl : (varsL x).length ≤ 1000) : (∀ v, v ∈ varsL (schT x) → (Lit.int .i64 v).wf = true) ∧ (varsL (schT x)).length = (varsL x).length := by
  obtain ⟨_, h⟩ := sch_vars x hx
  rw [h]
  refine ⟨fun v hv => ?_, by simp⟩
  obtain ⟨w, hw, rfl⟩ := List.mem_map.1 hv
  have hm : w ∈ VarsB x := by unfold VarsB; rw [if_pos hx]; exact (mem_distinct _ _).2 hw
  have h1 := posI_lt _ _ hm
  have h2 := posI_nonneg (VarsB x) w
  have h3 := len_vars x
  exact wf_in _ h2 (by omega)
theorem anew_all (t : S31) (hx : rightB 400 t = true) (by_ : Int) (hby : 0 ≤ by_ ∧ by_ < 50) (ls : List S31) (hg : greatL (VarsB t) ≤ 100) (hLL : ∀ v : Int, 0 ≤ v → v ≤ greatL (VarsB t) → v < (ls.length : Int) ∧ ls.getD v.toNat z31 = ⟨1, greatL (VarsB t) - v + by_, ⟨#[]⟩, []⟩) (hvl : (varsL t).length ≤ 400) :
    ((∀ v, v ∈ varsL (substB t ls) → (Lit.int .i64 v).wf = true) ∧ (varsL (substB t ls)).length ≤ 400 ∧ eachV (fun v => (Lit.int .i64 v.f1).wf = true) 400 (substB t ls)) ∧
    ((∀ v, v ∈ varsL (schT t) → (Lit.int .i64 v).wf = true) ∧ (varsL (schT t)).length ≤ 400) ∧
    ((∀ v, v ∈ varsL (schT (substB t ls)) → (Lit.int .i64 v).wf = true) ∧ (varsL (schT (substB t ls))).length ≤ 400) ∧
    schV t = schV (substB t ls) ∧ sameB (schT t) (schT (substB t ls)) = true ∧ moreB (schV t) (schT t) (schV (substB t ls)) (schT (substB t ls)) = true ∧ moreB (schV (substB t ls)) (schT (substB t ls)) (schV t) (schT t) = true ∧ schV t = ((VarsB t).length : Int) := by
  have hmem : ∀ v, v ∈ varsL t → v ∈ VarsB t := fun v hv => by unfold VarsB; rw [if_pos hx]; exact (mem_distinct _ _).2 hv
  have hb : ∀ v, v ∈ varsL t → 0 ≤ v ∧ v ≤ greatL (VarsB t) := fun v hv => ⟨vars_nonneg 400 t hx v (by rw [← varsL_400 t hx]; exact hv), le_great _ _ (hmem v hv)⟩
  obtain ⟨hR, hV⟩ := sub_facts t hx (fun v => greatL (VarsB t) - v + by_) ls (fun v hv => by
    obtain ⟨h1, h2⟩ := hb v hv
    obtain ⟨h3, h4⟩ := hLL v h1 h2
    exact ⟨h1, h3, h4, by omega⟩)
  have hl : (varsL (substB t ls)).length ≤ 400 := by rw [hV, List.length_map]; exact hvl
  have hw : ∀ v, v ∈ varsL (substB t ls) → (Lit.int .i64 v).wf = true := fun v hv => by
    rw [hV] at hv
    obtain ⟨u, hu, rfl⟩ := List.mem_map.1 hv
    obtain ⟨h1, h2⟩ := hb u hu
    exact wf_in _ (by omega) (by omega)
  obtain ⟨s1, s2⟩ := sch_small t hx (by omega)
  obtain ⟨s3, s4⟩ := sch_small (substB t ls) hR (by omega)
  refine ⟨⟨hw, hl, eachV_vars (fun v => (Lit.int .i64 v).wf = true) 400 _ (fun v hv => hw v (by rw [varsL_400 _ hR]; exact hv))⟩, ⟨s1, by omega⟩, ⟨s3, by omega⟩, ?_⟩
  exact anew_law t hx (fun v => greatL (VarsB t) - v + by_) ls (fun v hv => by
    obtain ⟨h1, h2⟩ := hb v hv
    obtain ⟨h3, h4⟩ := hLL v h1 h2
    exact ⟨h1, by omega, h3, h4, by omega, by omega⟩) (fun v w _ _ e => by omega)
end Go.Proofs.YtddmdiaopaoekaaDoor.P
/- What is put into a type's variables is what the type is matched by; P906's plain law. -/
namespace Go.Proofs.YtddmdiaopaoekaaDoor.P
open Go.RowKit Go.Proofs.YtddmdiaopaoekaaDoorW.PrintWords
set_option linter.unusedVariables false
/-- Each number's type put in. -/
def putF (f : Int → S31) (v : S31) : S31 := f v.f1
def isM (f : Int → S31) (m : Int → Option S31) : Prop := ∀ i u, m i = some u → u = f i
theorem match_put (f : Int → S31) : ∀ (n : Nat) (x : S31) (st : Bnd), rightB n x = true → isM f st.1 → (matchS n x (changeN n (putF f) x) st).1 = true ∧ isM f (matchS n x (changeN n (putF f) x) st).2.1 ∧ (∀ i u, st.1 i = some u → (matchS n x (changeN n (putF f) x) st).2.1 i = some u) ∧ (∀ v, v ∈ varsN n x → (matchS n x (changeN n (putF f) x) st).2.1 v = some (f v)) := by
  intro n
  induction n with
  | zero => intro x st h; cases h
  | succ n ih =>
    intro x st hd hs
    have hm : ∀ s : S31, matchS (n + 1) x s st = if x.f0 = 1 then (match st.1 x.f1 with
      | none => (true, (putT st.1 x.f1 s, st.2 + 1))
      | some u => (sameB u s, st))
      else if x.f0 = s.f0 then (if x.f2.toList = s.f2.toList then eqL (matchS n) x.f3 s.f3 st else (false, st)) else (false, st) := fun s => rfl
    rw [hm, changeN_succ, varsN_succ]
    by_cases e : x.f0 = 1
    · have hx3 : x.f3 = [] := (fits_var (rightB_part hd).1 e).2.2
      rw [if_pos e, if_pos e, if_pos e, hx3]
      cases hu : st.1 x.f1 with
      | none =>
        refine ⟨rfl, fun i u h => ?_, fun i u h => ?_, fun v hv => ?_⟩
        · simp only [putT] at h
          split at h
          · rename_i hi
            cases h
            rw [hi]
            rfl
          · exact hs i u h
        · simp only [putT]
          rw [if_neg (fun hi => by rw [hi, hu] at h; cases h)]
          exact h
        · obtain rfl : v = x.f1 := by simpa using hv
          simp only [putT, if_true]
          rfl
      | some u =>
        have h2 := hs _ _ hu
        refine ⟨?_, hs, fun i u h => h, fun v hv => ?_⟩
        · rw [h2]; exact sameB_self _
        · obtain rfl : v = x.f1 := by simpa using hv
          show st.1 x.f1 = _
          rw [hu, h2]
    · rw [if_neg e, if_neg e, if_neg e, if_pos rfl, if_pos rfl]
      show (eqL (matchS n) x.f3 (x.f3.map (changeN n (putF f))) st).1 = true ∧ _
      unfold eqL
      rw [if_pos (by simp)]
      have : ∀ (xs : List S31) (st : Bnd), (∀ y, y ∈ xs → rightB n y = true) → isM f st.1 → (eqS (matchS n) xs (xs.map (changeN n (putF f))) st).1 = true ∧ isM f (eqS (matchS n) xs (xs.map (changeN n (putF f))) st).2.1 ∧ (∀ i u, st.1 i = some u → (eqS (matchS n) xs (xs.map (changeN n (putF f))) st).2.1 i = some u) ∧ (∀ v, v ∈ xs.flatMap (varsN n) → (eqS (matchS n) xs (xs.map (changeN n (putF f))) st).2.1 v = some (f v)) := by
        intro xs
        induction xs with
        | nil => intro st _ h; exact ⟨rfl, h, fun i u hu => hu, fun v hv => by simp at hv⟩
        | cons y ys ihy =>
          intro st hy h
          obtain ⟨h1, h2, h3, h4⟩ := ih y st (hy y (by simp)) h
          rw [List.map_cons, eqS, if_pos h1]
          obtain ⟨g1, g2, g3, g4⟩ := ihy _ (fun z hz => hy z (by simp [hz])) h2
          refine ⟨g1, g2, fun i u hu => g3 i u (h3 i u hu), fun v hv => ?_⟩
          rw [List.flatMap_cons, List.mem_append] at hv
          rcases hv with hv | hv
          · exact g3 v _ (h4 v hv)
          · exact g4 v hv
      simpa using this x.f3 st (rightB_part hd).2 hs
theorem changeN_dep (f : S31 → S31) : ∀ (n m : Nat) (x : S31), dep n x → dep m x → changeN n f x = changeN m f x
  | 0, _, _, h, _ => h.elim
  | _ + 1, 0, _, _, h => h.elim
  | n + 1, m + 1, x, h, k => by
    rw [changeN_succ, changeN_succ]
    split
    · rfl
    · rw [List.map_congr_left (fun y hy => changeN_dep f n m y (h y hy) (k y hy))]
/-- What is changed behind what was put in. -/
theorem chg_put (h : S31 → S31) (f : Int → S31) : ∀ (n : Nat) (x : S31), n ≤ 400 → rightB n x = true → rightB n (changeN n (putF f) x) = true → changeN n h (changeN n (putF f) x) = changeN n (putF (fun i => changeN 400 h (f i))) x
  | 0, _, _, h, _ => by cases h
  | n + 1, x, hn, h1, h2 => by
    rw [changeN_succ n (putF f)] at h2 ⊢
    rw [changeN_succ n (putF fun i => changeN 400 h (f i))]
    by_cases e : x.f0 = 1
    · rw [if_pos e] at h2 ⊢
      rw [if_pos e]
      have hd := dep_of_right _ _ h2
      exact changeN_dep h (n + 1) 400 _ hd (dep_mono _ _ _ hn hd)
    · rw [if_neg e] at h2 ⊢
      rw [if_neg e, changeN_succ]
      show (if x.f0 = 1 then _ else (⟨x.f0, x.f1, x.f2, (x.f3.map (changeN n (putF f))).map (changeN n h)⟩ : S31)) = _
      rw [if_neg e, List.map_map]
      have := List.map_congr_left (f := changeN n h ∘ changeN n (putF f)) (g := changeN n (putF fun i => changeN 400 h (f i))) (fun y hy => chg_put h f n y (by omega) ((rightB_part h1).2 y hy) ((rightB_part h2).2 _ (List.mem_map_of_mem hy)))
      rw [this]
/-- What is changed behind new numbers. -/
theorem chg_ren (h : S31 → S31) (ρ : Int → Int) : ∀ (n : Nat) (x : S31), dep n x → changeN n h (changeN n (ren ρ) x) = changeN n (fun v => h ⟨1, ρ v.f1, ⟨#[]⟩, []⟩) x
  | 0, _, h => h.elim
  | n + 1, x, hd => by
    rw [changeN_succ n (ren ρ), changeN_succ n (fun v => h ⟨1, ρ v.f1, ⟨#[]⟩, []⟩)]
    by_cases e : x.f0 = 1
    · rw [if_pos e, if_pos e]
      rfl
    · rw [if_neg e, if_neg e, changeN_succ]
      show (if x.f0 = 1 then _ else (⟨x.f0, x.f1, x.f2, (x.f3.map (changeN n (ren ρ))).map (changeN n h)⟩ : S31)) = _
      rw [if_neg e, List.map_map]
      have := List.map_congr_left (f := changeN n h ∘ changeN n (ren ρ)) (fun y hy => chg_ren h ρ n y (hd y hy))
      rw [this]
/-- A variable. -/
def var1 (i : Int) : S31 := ⟨1, i, ⟨#[]⟩, []⟩
theorem schT_ren (x : S31) (hx : rightB 400 x = true) : schT x = changeN 400 (ren (posI (VarsB x))) x := by unfold schT; rw [if_pos hx, anewV_ren]
theorem sch_chg (h : S31 → S31) (x : S31) (hx : rightB 400 x = true) : changeN 400 h (schT x) = changeN 400 (putF (fun i => h (var1 i))) (schT x) := by
  rw [schT_ren x hx, chg_ren _ _ 400 x (dep_of_right 400 x hx), chg_ren _ _ 400 x (dep_of_right 400 x hx)]
  rfl
theorem sub_sch (x : S31) (hx : rightB 400 x = true) (l : List S31) : substB (schT x) l = changeN 400 (putF (fun i => subV l (var1 i))) (schT x) := by
  unfold substB
  rw [if_pos (sch_vars x hx).1, sch_chg _ x hx]
theorem sch_id (x : S31) (hx : rightB 400 x = true) : changeN 400 (putF var1) (schT x) = schT x := by
  rw [schT_ren x hx, chg_ren _ _ 400 x (dep_of_right 400 x hx)]
  rfl
/-- A scheme's own numbers. -/
theorem sch_lt (x : S31) (hx : rightB 400 x = true) : schV x = ((VarsB x).length : Int) ∧ ∀ v, v ∈ varsL (schT x) ↔ 0 ≤ v ∧ v < schV x := by
  have hV : schV x = ((VarsB x).length : Int) := by unfold schV; rw [if_pos hx]
  refine ⟨hV, fun v => ?_⟩
  rw [(sch_vars x hx).2, hV]
  have hD : VarsB x = distinctL (varsL x) := by unfold VarsB; rw [if_pos hx]
  constructor
  · intro hv
    obtain ⟨w, hw, rfl⟩ := List.mem_map.1 hv
    exact ⟨posI_nonneg _ _, posI_lt _ _ (by rw [hD]; exact (mem_distinct _ _).2 hw)⟩
  · rintro ⟨h1, h2⟩
    have h3 : v.toNat < (VarsB x).length := by omega
    have h4 : (VarsB x)[v.toNat] ∈ VarsB x := List.getElem_mem h3
    refine List.mem_map.2 ⟨(VarsB x)[v.toNat], (mem_distinct _ _).1 (by rw [← hD]; exact h4), ?_⟩
    unfold posI
    rw [if_pos h4, (nodup_vars x).idxOf_getElem _ h3]
    omega
theorem great_sch (x : S31) (hx : rightB 400 x = true) : greatL (varsL (schT x)) = schV x - 1 := by
  obtain ⟨hV, hm⟩ := sch_lt x hx
  have h1 : greatL (varsL (schT x)) ≤ schV x - 1 := great_le _ _ _ (by omega) (fun v hv => by have := (hm v).1 hv; omega)
  by_cases h0 : schV x = 0
  · have := great_ge (varsL (schT x)); omega
  · have := le_great (varsL (schT x)) (schV x - 1) ((hm _).2 (by omega))
    omega
theorem closed_sch (x : S31) (hx : rightB 400 x = true) : closedB (schV x) (schT x) = true := by
  unfold closedB
  rw [List.all_eq_true]
  exact fun v hv => decide_eq_true (((sch_lt x hx).2 v).1 hv).2
/-- A scheme's type is matched by what is put in. -/
theorem match_sch (x : S31) (hx : rightB 400 x = true) (f : Int → S31) (hl : schV x ≤ 513) (hR : rightB 400 (changeN 400 (putF f) (schT x)) = true) : ∃ X, MatchB (schT x) (changeN 400 (putF f) (schT x)) = some X ∧ (X.length : Int) = schV x ∧ ∀ i : Nat, i < X.length → X[i]? = some (f (i : Int)) := by
  obtain ⟨hs, _⟩ := sch_vars x hx
  have hd := dep_of_right 400 _ hs
  obtain ⟨h1, _, _, h4⟩ := match_put f 400 (schT x) (fun _ => none, 0) hs (fun i u h => by cases h)
  have hg := great_sch x hx
  obtain ⟨hV, hm⟩ := sch_lt x hx
  have hmr : matchR (schT x) (changeN 400 (putF f) (schT x)) = matchS 400 (schT x) (changeN 400 (putF f) (schT x)) (fun _ => none, 0) := matchR_dep 400 _ _ hd
  refine ⟨outL (matchR (schT x) (changeN 400 (putF f) (schT x))).2.1 (greatL (varsL (schT x)) + 1).toNat, ?_, ?_, ?_⟩
  · unfold MatchB
    rw [if_pos ⟨hs, hR, by omega, by rw [hmr]; exact h1⟩]
  · unfold outL
    rw [List.length_map, List.length_range, hg]
    omega
  · intro i hi
    unfold outL at hi ⊢
    rw [List.length_map, List.length_range] at hi
    rw [List.getElem?_map, List.getElem?_range hi]
    have hv : (i : Int) ∈ varsL (schT x) := (hm _).2 (by omega)
    rw [varsL_400 _ hs] at hv
    show some (outAt _ _) = _
    unfold outAt
    rw [hmr, h4 _ hv]
theorem more_sch (x y : S31) (hx : rightB 400 x = true) (hy : rightB 400 y = true) (f : Int → S31) (hl : schV x ≤ 513) (he : schT y = changeN 400 (putF f) (schT x)) : moreB (schV x) (schT x) (schV y) (schT y) = true := by
  obtain ⟨X, hX, _⟩ := match_sch x hx f hl (by rw [← he]; exact (sch_vars y hy).1)
  unfold moreB
  rw [closed_sch x hx, closed_sch y hy, he, hX]
  rfl
theorem idx_inj {l : List Int} {v w : Int} (hv : v ∈ l) (hw : w ∈ l) (e : l.idxOf v = l.idxOf w) : v = w := by
  have h1 := List.getElem_idxOf (List.idxOf_lt_length_of_mem hv)
  have h2 := List.getElem_idxOf (List.idxOf_lt_length_of_mem hw)
  simp only [e] at h1
  exact h1.symm.trans h2
/-- P906. -/
theorem more_law (a : S31) (l m : List S31) (ha : rightB 400 a = true) (hb : rightB 400 (substB (schT a) l) = true) (hk : (VarsB (schT a)).length ≤ 100) :
    (∃ X, MatchB (schT a) (substB (schT a) l) = some X ∧ (X.length : Int) = schV a ∧ ∀ (i : Nat) (h1 : i < X.length) (h2 : i < l.length), sameB X[i] l[i] = true) ∧
    (rightB 400 (substB (schT (substB (schT a) l)) m) = true → schV (substB (schT a) l) ≤ 500 →
      moreB (schV a) (schT a) (schV a) (schT a) = true ∧ moreB (schV a) (schT a) (schV (substB (schT a) l)) (schT (substB (schT a) l)) = true ∧
      moreB (schV (substB (schT a) l)) (schT (substB (schT a) l)) (schV (substB (schT (substB (schT a) l)) m)) (schT (substB (schT (substB (schT a) l)) m)) = true ∧
      moreB (schV a) (schT a) (schV (substB (schT (substB (schT a) l)) m)) (schT (substB (schT (substB (schT a) l)) m)) = true) := by
  obtain ⟨hs, hsv⟩ := sch_vars a ha
  obtain ⟨hV, hm⟩ := sch_lt a ha
  have hlen : schV a ≤ 100 := by
    have h1 : VarsB (schT a) = distinctL (varsL (schT a)) := by unfold VarsB; rw [if_pos hs]
    have h2 : VarsB (schT a) = (VarsB a).map (posI (VarsB a)) := by
      have hD : VarsB a = distinctL (varsL a) := by unfold VarsB; rw [if_pos ha]
      rw [h1, hsv, distinct_map _ _ (fun v w hv hw e => ?_), ← hD]
      have hv' : v ∈ VarsB a := by rw [hD]; exact (mem_distinct _ _).2 hv
      have hw' : w ∈ VarsB a := by rw [hD]; exact (mem_distinct _ _).2 hw
      unfold posI at e
      rw [if_pos hv', if_pos hw'] at e
      exact idx_inj hv' hw' (by omega)
    rw [h2, List.length_map] at hk
    omega
  have e1 : substB (schT a) l = changeN 400 (putF (fun i => subV l (var1 i))) (schT a) := sub_sch a ha l
  refine ⟨?_, fun hc hq => ?_⟩
  · rw [e1] at hb ⊢
    obtain ⟨X, hX, hXl, hXi⟩ := match_sch a ha _ (by omega) hb
    refine ⟨X, hX, hXl, fun i h1 h2 => ?_⟩
    have h3 := hXi i h1
    rw [List.getElem?_eq_getElem h1] at h3
    have h4 : subV l (var1 (i : Int)) = l[i] := by
      unfold subV var1
      rw [if_neg (by simp only; omega)]
      simp [List.getD_eq_getElem?_getD, h2]
    rw [Option.some.inj h3, h4]
    exact sameB_self _
  · have e2 : schT (substB (schT a) l) = changeN 400 (putF (fun i => changeN 400 (ren (posI (VarsB (substB (schT a) l)))) (subV l (var1 i)))) (schT a) := by
      rw [schT_ren _ hb]
      generalize posI (VarsB (substB (schT a) l)) = ρ
      rw [e1] at hb ⊢
      exact chg_put _ _ 400 (schT a) (Nat.le_refl _) hs hb
    generalize hbb : substB (schT a) l = b at hb hc hq e2 ⊢
    obtain ⟨ht, _⟩ := sch_vars b hb
    have e3 : substB (schT b) m = changeN 400 (putF (fun i => subV m (var1 i))) (schT b) := sub_sch b hb m
    have e4 : schT (substB (schT b) m) = changeN 400 (putF (fun i => changeN 400 (ren (posI (VarsB (substB (schT b) m)))) (subV m (var1 i)))) (schT b) := by
      rw [schT_ren _ hc]
      generalize posI (VarsB (substB (schT b) m)) = ρ
      rw [e3] at hc ⊢
      exact chg_put _ _ 400 (schT b) (Nat.le_refl _) ht hc
    refine ⟨more_sch a a ha ha var1 (by omega) (sch_id a ha).symm, more_sch a b ha hb _ (by omega) e2, more_sch b _ hb hc _ (by omega) e4, ?_⟩
    obtain ⟨hu, _⟩ := sch_vars _ hc
    refine more_sch a _ ha hc (fun i => changeN 400 (putF (fun i => changeN 400 (ren (posI (VarsB (substB (schT b) m)))) (subV m (var1 i)))) (changeN 400 (ren (posI (VarsB b))) (subV l (var1 i)))) (by omega) ?_
    rw [e4] at hu
    rw [e4]
    rw [e2] at ht ⊢
    exact chg_put _ _ 400 (schT a) (Nat.le_refl _) hs ht
end Go.Proofs.YtddmdiaopaoekaaDoor.P
/- What TypesMore's walk asks of plain words: sizes, and the row of own types. -/
namespace Go.Proofs.YtddmdiaopaoekaaDoor.P
open Go.RowKit Go.Proofs.YtddmdiaopaoekaaDoorW.PrintWords
set_option linter.unusedVariables false
theorem owns_ex (l : List S24) (hl : l.length ≤ 1000) (h : ∀ y, y ∈ l → few24 400 y) : ∃ k, hammocklaw09_owns.f k l = some (l.map (ownN 400)) := by
  have loop : ∀ (d : Nat) (acc : List S31), d ≤ l.length → acc.length = l.length - d → ∃ k, hammocklaw09_owns.l0 k l acc ((l.length - d : Nat) : Int) = some (acc ++ (l.drop (l.length - d)).map (ownN 400)) := by
    intro d
    induction d with
    | zero =>
      intro acc _ _
      refine ⟨1, ?_⟩
      rw [hammocklaw09_owns.l0, if_neg (by omega)]
      simp
    | succ d ih =>
      intro acc hd ha
      have hj : l.length - (d + 1) < l.length := by omega
      obtain ⟨k1, hk1⟩ := own_ex 400 l[l.length - (d + 1)] (h _ (List.getElem_mem hj))
      obtain ⟨k2, hk2⟩ := ih (acc ++ [ownN 400 l[l.length - (d + 1)]]) (by omega) (by rw [List.length_append]; simp; omega)
      refine ⟨max k1 k2 + 1, ?_⟩
      rw [hammocklaw09_owns.l0, if_pos (by omega), if_pos (by omega)]
      have e1 : rd_T24 l ((l.length - (d + 1) : Nat) : Int) = l[l.length - (d + 1)] := by
        rw [rd24]
        simp [List.getD_eq_getElem?_getD, hj]
      rw [e1, leO_up (fun k => hammocklaw09_Own.mono _ _ _ _ k) (Nat.le_max_left k1 k2) hk1]
      rw [Option.bind_some, if_pos (by omega), wrap_succ _ (by omega)]
      have e2 : l.length - (d + 1) + 1 = l.length - d := by omega
      rw [e2]
      have hk3 := leO_up (f := fun k => hammocklaw09_owns.l0 k l (acc ++ [ownN 400 l[l.length - (d + 1)]]) ((l.length - d : Nat) : Int)) (fun k => (hammocklaw09_owns.mono_l k) _ _ _) (Nat.le_max_right k1 k2) hk2
      rw [st_eta]
      refine hk3.trans ?_
      have e3 : (l.drop (l.length - (d + 1))) = l[l.length - (d + 1)] :: l.drop (l.length - d) := by
        rw [List.drop_eq_getElem_cons hj, e2]
      rw [e3]
      simp
  obtain ⟨k, hk⟩ := loop l.length [] (Nat.le_refl _) (by simp)
  refine ⟨k, ?_⟩
  unfold hammocklaw09_owns.f
  simpa using hk
theorem flat_len2 {α : Type} (f g : α → List Int) (K : Nat) : ∀ l : List α, (∀ y, y ∈ l → (f y).length ≤ (g y).length * K) → (l.flatMap f).length ≤ (l.flatMap g).length * K
  | [], _ => by simp
  | y :: l, h => by
    have h1 := h y (by simp)
    have h2 := flat_len2 f g K l (fun z hz => h z (by simp [hz]))
    rw [List.flatMap_cons, List.flatMap_cons, List.length_append, List.length_append, Nat.add_mul]
    omega
/-- How many variables there are, behind what was put in. -/
theorem put_len (f : Int → S31) (K : Nat) (hK : ∀ i N, (varsN N (f i)).length ≤ K) : ∀ (n N : Nat) (x : S31), rightB n x = true → (varsN N (changeN n (putF f) x)).length ≤ (varsN n x).length * K
  | 0, _, _, h => by cases h
  | n + 1, N, x, h => by
    rw [changeN_succ, varsN_succ n x]
    by_cases e : x.f0 = 1
    · rw [if_pos e, if_pos e]
      have := hK x.f1 N
      rw [List.length_append, Nat.add_mul]
      show (varsN N (f x.f1)).length ≤ _
      simp only [List.length_cons, List.length_nil]
      omega
    · rw [if_neg e, if_neg e, List.nil_append]
      cases N with
      | zero => simp [varsN]
      | succ N =>
        rw [varsN_succ]
        show ((if x.f0 = 1 then [x.f1] else []) ++ (x.f3.map (changeN n (putF f))).flatMap (varsN N)).length ≤ _
        rw [if_neg e, List.nil_append, List.flatMap_map]
        exact flat_len2 _ _ K x.f3 (fun y hy => put_len f K hK n N y ((rightB_part h).2 y hy))
/-- .. and which. -/
theorem put_mem (f : Int → S31) : ∀ (n N : Nat) (x : S31), rightB n x = true → ∀ v, v ∈ varsN N (changeN n (putF f) x) → ∃ i M, i ∈ varsN n x ∧ v ∈ varsN M (f i)
  | 0, _, _, h, _, _ => by cases h
  | n + 1, N, x, h, v, hv => by
    rw [changeN_succ] at hv
    rw [varsN_succ n x]
    by_cases e : x.f0 = 1
    · rw [if_pos e] at hv
      rw [if_pos e]
      exact ⟨x.f1, N, by simp, hv⟩
    · rw [if_neg e] at hv
      rw [if_neg e, List.nil_append]
      cases N with
      | zero => simp [varsN] at hv
      | succ N =>
        rw [varsN_succ] at hv
        have hv2 : v ∈ (if x.f0 = 1 then [x.f1] else []) ++ (x.f3.map (changeN n (putF f))).flatMap (varsN N) := hv
        rw [if_neg e, List.nil_append, List.flatMap_map] at hv2
        obtain ⟨y, hy, hm⟩ := List.mem_flatMap.1 hv2
        obtain ⟨i, M, h1, h2⟩ := put_mem f n N y ((rightB_part h).2 y hy) v hm
        exact ⟨i, M, List.mem_flatMap.2 ⟨y, hy, h1⟩, h2⟩
theorem varsN_le : ∀ (N M : Nat) (y : S31), dep M y → (varsN N y).length ≤ (varsN M y).length
  | 0, _, _, _ => by simp [varsN]
  | _ + 1, 0, _, h => h.elim
  | N + 1, M + 1, y, h => by
    rw [varsN_succ, varsN_succ, List.length_append, List.length_append]
    have := flat_len2 (varsN N) (varsN M) 1 y.f3 (fun z hz => by have := varsN_le N M z (h z hz); omega)
    omega
theorem varsN_sub : ∀ (N M : Nat) (y : S31), dep M y → ∀ v, v ∈ varsN N y → v ∈ varsN M y
  | 0, _, _, _, v, hv => by simp [varsN] at hv
  | _ + 1, 0, _, h, _, _ => h.elim
  | N + 1, M + 1, y, h, v, hv => by
    rw [varsN_succ] at hv ⊢
    rcases List.mem_append.1 hv with h1 | h1
    · exact List.mem_append_left _ h1
    · obtain ⟨z, hz, hm⟩ := List.mem_flatMap.1 h1
      exact List.mem_append_right _ (List.mem_flatMap.2 ⟨z, hz, varsN_sub N M z (h z hz) v hm⟩)
theorem wf_great (v : Int) (h1 : 0 ≤ v) (h2 : v ≤ 1000000000) : (Lit.int .i64 v).wf = true := by
  simp only [Lit.wf, IntKind.min, IntKind.max, IntKind.signed, IntKind.bits, Bool.and_eq_true, decide_eq_true_eq, if_true]
  omega
theorem sch_small2 (x : S31) (hx : rightB 400 x = true) (hl : (varsL x).length ≤ 10000000) : (∀ v, v ∈ varsL (schT x) → 0 ≤ v ∧ (Lit.int .i64 v).wf = true) ∧ (varsL (schT x)).length = (varsL x).length := by
  obtain ⟨_, h⟩ := sch_vars x hx
  rw [h]
  refine ⟨fun v hv => ?_, by simp⟩
  obtain ⟨w, hw, rfl⟩ := List.mem_map.1 hv
  have hm : w ∈ VarsB x := by unfold VarsB; rw [if_pos hx]; exact (mem_distinct _ _).2 hw
  have h1 := posI_lt _ _ hm
  have h2 := posI_nonneg (VarsB x) w
  have h3 := len_vars x
  exact ⟨h2, wf_great _ h2 (by omega)⟩
theorem sub_var (l : List S31) (i : Int) : (∃ j : Nat, ∃ h : j < l.length, subV l (var1 i) = l[j]) ∨ subV l (var1 i) = var1 i := by
  unfold subV var1
  by_cases h : i < 0 ∨ (l.length : Int) ≤ i
  · exact .inr (if_pos h)
  · refine .inl ⟨i.toNat, by omega, ?_⟩
    rw [if_neg h]
    simp only
    rw [List.getD_eq_getElem?_getD, List.getElem?_eq_getElem (by omega)]
    rfl
theorem var1_vars (i : Int) : ∀ N, varsN N (var1 i) = [] ∨ varsN N (var1 i) = [i]
  | 0 => .inl rfl
  | N + 1 => .inr rfl
/-- The variables of a scheme's type with types put in. -/
theorem sub_size (x : S31) (hx : rightB 400 x = true) (hl : (varsL x).length ≤ 10000000) (l : List S31) (hr : ∀ y, y ∈ l → rightB 400 y = true) (K : Nat) (hK : ∀ y, y ∈ l → (varsL y).length ≤ K) (hw : ∀ y, y ∈ l → ∀ v, v ∈ varsL y → (Lit.int .i64 v).wf = true) :
    (varsL (substB (schT x) l)).length ≤ (varsL x).length * (K + 1) ∧ (∀ v, v ∈ varsL (substB (schT x) l) → (Lit.int .i64 v).wf = true) ∧ eachV (fun v => (Lit.int .i64 v.f1).wf = true) 400 (substB (schT x) l) := by
  obtain ⟨hs, _⟩ := sch_vars x hx
  obtain ⟨h1, h2⟩ := sch_small2 x hx hl
  have hv : ∀ N v, v ∈ varsN N (substB (schT x) l) → (Lit.int .i64 v).wf = true := fun N v hm => by
    rw [sub_sch x hx l] at hm
    obtain ⟨i, M, h3, h4⟩ := put_mem _ 400 N _ hs v hm
    rcases sub_var l i with ⟨j, hj, e⟩ | e
    · simp only [e] at h4
      have hm2 : l[j] ∈ l := List.getElem_mem hj
      refine hw _ hm2 v ?_
      rw [varsL_400 _ (hr _ hm2)]
      exact varsN_sub M 400 _ (dep_of_right 400 _ (hr _ hm2)) v h4
    · simp only [e] at h4
      rcases var1_vars i M with e2 | e2
      · rw [e2] at h4; simp at h4
      · rw [e2] at h4
        obtain rfl : v = i := by simpa using h4
        rw [← varsL_400 _ hs] at h3
        exact (h1 v h3).2
  refine ⟨?_, fun v hm => hv _ v hm, eachV_vars (fun v => (Lit.int .i64 v).wf = true) 400 _ (fun v hm => hv 400 v hm)⟩
  have := put_len (fun i => subV l (var1 i)) (K + 1) (fun i N => by
    rcases sub_var l i with ⟨j, hj, e⟩ | e
    · simp only [e]
      have hm2 : l[j] ∈ l := List.getElem_mem hj
      have h3 := hK _ hm2
      have h4 := varsN_le N 400 l[j] (dep_of_right 400 _ (hr _ hm2))
      rw [varsL_400 _ (hr _ hm2)] at h3
      omega
    · simp only [e]
      rcases var1_vars i N with e2 | e2 <;> rw [e2] <;> simp) 400 (SizeOf.sizeOf (substB (schT x) l) + 1) (schT x) hs
  rw [← sub_sch x hx l, ← varsL_400 _ hs, h2] at this
  exact this
theorem prod3 (a b c : Nat) (h : a + b + c ≤ 400) : a * (b + 1) ≤ 1000000 ∧ a * (b + 1) * (c + 1) ≤ 10000000 := by
  have h1 : a * (b + 1) ≤ 400 * 401 := Nat.mul_le_mul (by omega) (by omega)
  refine ⟨by omega, ?_⟩
  have h2 : 4 * (a * (b + 1)) ≤ (a + b + 1) * (a + b + 1) := by
    rcases Nat.le_total a (b + 1) with h3 | h3
    · obtain ⟨d, hd⟩ := Nat.exists_eq_add_of_le h3
      have e : a + b + 1 = a + a + d := by omega
      rw [e, hd]
      have : (a + a + d) * (a + a + d) = 4 * (a * (a + d)) + d * d := by
        simp only [Nat.add_mul, Nat.mul_add, Nat.mul_comm d a]
        omega
      omega
    · obtain ⟨d, hd⟩ := Nat.exists_eq_add_of_le h3
      have e : a + b + 1 = (b + 1) + (b + 1) + d := by omega
      rw [e, hd]
      generalize b + 1 = q
      have : (q + q + d) * (q + q + d) = 4 * ((q + d) * q) + d * d := by
        simp only [Nat.add_mul, Nat.mul_add, Nat.mul_comm d q]
        omega
      omega
  have h3 : (a + b + 1) * (c + 1) ≤ 40401 := by
    have h4 : 4 * ((a + b + 1) * (c + 1)) ≤ (a + b + 1 + (c + 1)) * (a + b + 1 + (c + 1)) := by
      generalize a + b + 1 = p
      generalize c + 1 = q
      rcases Nat.le_total p q with h3 | h3
      · obtain ⟨d, rfl⟩ := Nat.exists_eq_add_of_le h3
        have : (p + (p + d)) * (p + (p + d)) = 4 * (p * (p + d)) + d * d := by
          simp only [Nat.add_mul, Nat.mul_add, Nat.mul_comm d p]
          omega
        omega
      · obtain ⟨d, rfl⟩ := Nat.exists_eq_add_of_le h3
        have : (q + d + q) * (q + d + q) = 4 * ((q + d) * q) + d * d := by
          simp only [Nat.add_mul, Nat.mul_add, Nat.mul_comm d q]
          omega
        omega
    have h5 : (a + b + 1 + (c + 1)) * (a + b + 1 + (c + 1)) ≤ 402 * 402 := Nat.mul_le_mul (by omega) (by omega)
    omega
  have h6 : 4 * (a * (b + 1) * (c + 1)) ≤ (a + b + 1) * (a + b + 1) * (c + 1) := by
    have := Nat.mul_le_mul_right (c + 1) h2
    rw [Nat.mul_assoc] at this
    exact this
  have h7 : (a + b + 1) * (a + b + 1) * (c + 1) = (a + b + 1) * ((a + b + 1) * (c + 1)) := Nat.mul_assoc _ _ _
  have h8 : (a + b + 1) * ((a + b + 1) * (c + 1)) ≤ 401 * 40401 := Nat.mul_le_mul (by omega) h3
  omega
/-- A light row's numbers of variables. -/
theorem light_sum (k m : Nat) (l : List S24) (hl : l.length ≤ 9223372036854775807) (hL : hammocklaw09_Light.f k l = some true) (ho : ∀ y, y ∈ l → ok24 m y ∧ nm24 m y) : (l.map (fun y => (varsN 400 (ownN 400 y)).length)).sum ≤ 400 ∧ l.length ≤ 400 := by
  unfold hammocklaw09_Light.f at hL
  obtain ⟨r, hr, h⟩ := Option.bind_eq_some_iff.1 hL
  have h0 : 0 ≤ r := by simpa using h
  have h1 := (few_cnt k).1 400 m l 400 r (by omega) (by omega) hl ho hr h0
  have h2 : ∀ l : List S24, (l.map (fun y => (varsN 400 (ownN 400 y)).length)).sum ≤ (l.map (cntN 400)).sum ∧ l.length ≤ (l.map (cntN 400)).sum := by
    intro l
    induction l with
    | nil => simp
    | cons y ys ih =>
      have := vars_cnt 400 y
      have e : 1 ≤ cntN 400 y := by
        have : cntN 400 y = 1 + (y.f3.map (cntN 399)).sum := rfl
        omega
      simp only [List.map_cons, List.sum_cons, List.length_cons]
      omega
  have := h2 l
  omega
def FewV (y : S31) : Prop := (∀ v, v ∈ varsL y → (Lit.int .i64 v).wf = true) ∧ (varsL y).length ≤ 10000000
theorem sum_mem {α : Type} (f : α → Nat) : ∀ (l : List α) (y : α), y ∈ l → f y ≤ (l.map f).sum
  | [], _, h => by simp at h
  | z :: l, y, h => by
    rw [List.map_cons, List.sum_cons]
    rcases List.mem_cons.1 h with rfl | h
    · omega
    · have := sum_mem f l y h; omega
/-- All sizes of TypesMore's walk. -/
theorem more_sizes (t : S31) (ls ms : List S31) (ht : rightB 400 t = true) (hl : ∀ y, y ∈ ls → rightB 400 y = true) (hm : ∀ y, y ∈ ms → rightB 400 y = true) (hs : (varsN 400 t).length + (ls.map (fun y => (varsN 400 y).length)).sum + (ms.map (fun y => (varsN 400 y).length)).sum ≤ 400)
    (wt : ∀ v, v ∈ varsL t → (Lit.int .i64 v).wf = true) (wl : ∀ y, y ∈ ls → ∀ v, v ∈ varsL y → (Lit.int .i64 v).wf = true) (wm : ∀ y, y ∈ ms → ∀ v, v ∈ varsL y → (Lit.int .i64 v).wf = true) :
    FewV t ∧ eachV (fun v => (Lit.int .i64 v.f1).wf = true) 400 t ∧ FewV (schT t) ∧ FewV (substB (schT t) ls) ∧ eachV (fun v => (Lit.int .i64 v.f1).wf = true) 400 (substB (schT t) ls) ∧
    (rightB 400 (substB (schT t) ls) = true → FewV (schT (substB (schT t) ls)) ∧ FewV (substB (schT (substB (schT t) ls)) ms) ∧ eachV (fun v => (Lit.int .i64 v.f1).wf = true) 400 (substB (schT (substB (schT t) ls)) ms) ∧
      (rightB 400 (substB (schT (substB (schT t) ls)) ms) = true → FewV (schT (substB (schT (substB (schT t) ls)) ms)))) := by
  have e : (varsL t).length = (varsN 400 t).length := by rw [varsL_400 t ht]
  obtain ⟨p1, p2⟩ := prod3 _ _ _ hs
  have kl : ∀ y, y ∈ ls → (varsL y).length ≤ (ls.map (fun y => (varsN 400 y).length)).sum := fun y hy => by
    rw [varsL_400 y (hl y hy)]
    exact sum_mem (fun y => (varsN 400 y).length) ls y hy
  have km : ∀ y, y ∈ ms → (varsL y).length ≤ (ms.map (fun y => (varsN 400 y).length)).sum := fun y hy => by
    rw [varsL_400 y (hm y hy)]
    exact sum_mem (fun y => (varsN 400 y).length) ms y hy
  generalize (ls.map (fun y => (varsN 400 y).length)).sum = K at *
  generalize (ms.map (fun y => (varsN 400 y).length)).sum = K2 at *
  obtain ⟨a1, a2⟩ := sch_small2 t ht (by omega)
  obtain ⟨b1, b2, b3⟩ := sub_size t ht (by omega) ls hl K kl wl
  rw [e] at b1
  refine ⟨⟨wt, by omega⟩, eachV_vars (fun v => (Lit.int .i64 v).wf = true) 400 _ (fun v hv => wt v (by rw [varsL_400 t ht]; exact hv)), ⟨fun v hv => (a1 v hv).2, by omega⟩, ⟨b2, by omega⟩, b3, fun hb => ?_⟩
  obtain ⟨c1, c2⟩ := sch_small2 _ hb (by omega)
  obtain ⟨d1, d2, d3⟩ := sub_size _ hb (by omega) ms hm K2 km wm
  have d4 := Nat.le_trans d1 (Nat.mul_le_mul_right (K2 + 1) b1)
  refine ⟨⟨fun v hv => (c1 v hv).2, by omega⟩, ⟨d2, by omega⟩, d3, fun hc => ?_⟩
  obtain ⟨e1, e2⟩ := sch_small2 _ hc (by omega)
  exact ⟨fun v hv => (e1 v hv).2, by omega⟩
end Go.Proofs.YtddmdiaopaoekaaDoor.P
