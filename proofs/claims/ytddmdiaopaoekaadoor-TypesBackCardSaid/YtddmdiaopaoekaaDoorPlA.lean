/- Plain laws of renamed variables: what they leave as it was; a type is matched by itself. -/
import Derived.Test.YtddmdiaopaoekaaDoorTyW
import Derived.Test.YtddmdiaopaoekaaDoorPx2
namespace Go.Proofs.YtddmdiaopaoekaaDoor.P
open Go.RowKit Go.Proofs.YtddmdiaopaoekaaDoorW.PrintWords
set_option linter.unusedVariables false
theorem varsN_succ (n : Nat) (x : S31) : varsN (n + 1) x = (if x.f0 = 1 then [x.f1] else []) ++ x.f3.flatMap (varsN n) := rfl
theorem changeN_succ (n : Nat) (f : S31 → S31) (x : S31) : changeN (n + 1) f x = if x.f0 = 1 then f x else ⟨x.f0, x.f1, x.f2, x.f3.map (changeN n f)⟩ := rfl
theorem changeN_congr (f g : S31 → S31) : ∀ (n : Nat) (x : S31), (∀ v, v.f0 = 1 → v.f1 ∈ varsN n x → f v = g v) → changeN n f x = changeN n g x
  | 0, _, _ => rfl
  | n + 1, x, h => by
    rw [changeN_succ, changeN_succ]
    rw [varsN_succ] at h
    split
    · rename_i e
      exact h x e (List.mem_append_left _ (by rw [if_pos e]; simp))
    · rw [List.map_congr_left (fun y hy => changeN_congr f g n y (fun v hv hm => h v hv (List.mem_append_right _ (List.mem_flatMap.2 ⟨y, hy, hm⟩))))]
/-- A variable by another one. -/
def ren (ρ : Int → Int) (v : S31) : S31 := ⟨1, ρ v.f1, ⟨#[]⟩, []⟩
theorem varsN_ren (ρ : Int → Int) : ∀ (n : Nat) (x : S31), rightB n x = true → varsN n (changeN n (ren ρ) x) = (varsN n x).map ρ
  | 0, _, h => by cases h
  | n + 1, x, h => by
    obtain ⟨h1, h2⟩ := rightB_part h
    rw [changeN_succ]
    by_cases e : x.f0 = 1
    · rw [if_pos e, varsN_succ, varsN_succ, if_pos e, (fits_var h1 e).2.2]
      rfl
    · rw [if_neg e, varsN_succ, varsN_succ, if_neg e]
      show [] ++ (x.f3.map (changeN n (ren ρ))).flatMap (varsN n) = ([] ++ x.f3.flatMap (varsN n)).map ρ
      rw [List.nil_append, List.nil_append, List.flatMap_map, List.map_flatMap]
      simp only [List.flatMap]
      rw [List.map_congr_left (fun y hy => varsN_ren ρ n y (h2 y hy))]
theorem fitsB_map (x : S31) (f : S31 → S31) : fitsB ⟨x.f0, x.f1, x.f2, x.f3.map f⟩ = fitsB x := by
  unfold fitsB types_Type_fits.f
  simp only [List.length_map]
theorem fitsB_var (i : Int) (h : 0 ≤ i) : fitsB ⟨1, i, ⟨#[]⟩, []⟩ = true := by
  have : types_Type_fits.f 1 i ⟨#[]⟩ [] = some true := by
    unfold types_Type_fits.f
    rw [if_pos rfl, if_pos h]
    decide +kernel
  unfold fitsB
  rw [this]
  rfl
theorem rightB_ren (ρ : Int → Int) : ∀ (n : Nat) (x : S31), rightB n x = true → (∀ v, v ∈ varsN n x → 0 ≤ ρ v) → rightB n (changeN n (ren ρ) x) = true
  | 0, _, h, _ => by cases h
  | n + 1, x, h, k => by
    obtain ⟨h1, h2⟩ := rightB_part h
    rw [varsN_succ] at k
    rw [changeN_succ, rightB_succ]
    by_cases e : x.f0 = 1
    · rw [if_pos e]
      have h3 := fitsB_var (ρ x.f1) (k x.f1 (by rw [if_pos e]; simp))
      unfold ren
      rw [h3]
      rfl
    · rw [if_neg e, fitsB_map, h1, Bool.true_and]
      simp only [Bool.not_eq_true', List.any_eq_false]
      intro z hz
      obtain ⟨y, hy, rfl⟩ := List.mem_map.1 hz
      rw [rightB_ren ρ n y (h2 y hy) (fun v hv => k v (List.mem_append_right _ (List.mem_flatMap.2 ⟨y, hy, hv⟩)))]
      simp
theorem ren_ren (ρ σ : Int → Int) : ∀ (n : Nat) (x : S31), dep n x → changeN n (ren σ) (changeN n (ren ρ) x) = changeN n (ren (fun i => σ (ρ i))) x
  | 0, _, h => h.elim
  | n + 1, x, h => by
    rw [changeN_succ n (ren ρ), changeN_succ n (ren fun i => σ (ρ i))]
    by_cases e : x.f0 = 1
    · rw [if_pos e, if_pos e]
      rfl
    · rw [if_neg e, if_neg e, changeN_succ]
      show (if x.f0 = 1 then _ else (⟨x.f0, x.f1, x.f2, (x.f3.map (changeN n (ren ρ))).map (changeN n (ren σ))⟩ : S31)) = _
      have e2 := List.map_congr_left (f := changeN n (ren σ) ∘ changeN n (ren ρ)) (g := changeN n (ren fun i => σ (ρ i))) (fun y hy => ren_ren ρ σ n y (h y hy))
      rw [if_neg e, List.map_map, e2]
/-- Each variable in it is a bare one. -/
def goodV : Nat → S31 → Prop
  | 0, _ => True
  | n + 1, x => (x.f0 = 1 → x = ⟨1, x.f1, ⟨#[]⟩, []⟩) ∧ ∀ y, y ∈ x.f3 → goodV n y
theorem goodV_ren (ρ : Int → Int) : ∀ (n : Nat) (x : S31), goodV n (changeN n (ren ρ) x)
  | 0, _ => trivial
  | n + 1, x => by
    rw [changeN_succ]
    by_cases e : x.f0 = 1
    · rw [if_pos e]
      exact ⟨fun _ => rfl, fun y hy => by simp [ren] at hy⟩
    · rw [if_neg e]
      exact ⟨fun h => absurd h e, fun y hy => by
        obtain ⟨z, hz, rfl⟩ := List.mem_map.1 hy
        exact goodV_ren ρ n z⟩
theorem same_var (i : Int) : sameB ⟨1, i, ⟨#[]⟩, []⟩ ⟨1, i, ⟨#[]⟩, []⟩ = true := by
  rw [sameB_dep 1 _ _ (fun y hy => by simp at hy)]
  simp [sameN, alikeT]
def selfM (m : Int → Option S31) : Prop := ∀ i u, m i = some u → u = ⟨1, i, ⟨#[]⟩, []⟩
theorem match_self : ∀ (n : Nat) (x : S31) (st : Bnd), dep n x → goodV n x → selfM st.1 → (matchS n x x st).1 = true ∧ selfM (matchS n x x st).2.1 := by
  intro n
  induction n with
  | zero => intro x st h; exact h.elim
  | succ n ih =>
    intro x st hd hg hs
    have hm : matchS (n + 1) x x st = if x.f0 = 1 then (match st.1 x.f1 with
      | none => (true, (putT st.1 x.f1 x, st.2 + 1))
      | some u => (sameB u x, st))
      else if x.f0 = x.f0 then (if x.f2.toList = x.f2.toList then eqL (matchS n) x.f3 x.f3 st else (false, st)) else (false, st) := rfl
    rw [hm]
    by_cases e : x.f0 = 1
    · rw [if_pos e]
      have hx := hg.1 e
      cases hu : st.1 x.f1 with
      | none =>
        refine ⟨rfl, fun i u h => ?_⟩
        simp only [putT] at h
        split at h
        · rename_i hi
          cases h
          rw [hi]
          exact hx
        · exact hs i u h
      | some u =>
        refine ⟨?_, hs⟩
        have := hs _ _ hu
        rw [this]
        show sameB ⟨1, x.f1, ⟨#[]⟩, []⟩ x = true
        rw [hx]
        exact same_var x.f1
    · rw [if_neg e, if_pos rfl, if_pos rfl]
      unfold eqL
      rw [if_pos rfl]
      have : ∀ (xs : List S31) (st : Bnd), (∀ y, y ∈ xs → dep n y ∧ goodV n y) → selfM st.1 → (eqS (matchS n) xs xs st).1 = true ∧ selfM (eqS (matchS n) xs xs st).2.1 := by
        intro xs
        induction xs with
        | nil => intro st _ h; exact ⟨rfl, h⟩
        | cons y ys ihy =>
          intro st hy h
          obtain ⟨h1, h2⟩ := ih y st (hy y (by simp)).1 (hy y (by simp)).2 h
          rw [eqS, if_pos h1]
          exact ihy _ (fun z hz => hy z (by simp [hz])) h2
      exact this x.f3 st (fun y hy => ⟨hd y hy, hg.2 y hy⟩) hs
end Go.Proofs.YtddmdiaopaoekaaDoor.P
/- The plain law of TypesAnew: a scheme does not hang on how the variables are numbered. -/
namespace Go.Proofs.YtddmdiaopaoekaaDoor.P
open Go.RowKit Go.Proofs.YtddmdiaopaoekaaDoorW.PrintWords
set_option linter.unusedVariables false
theorem alike_self (p : S31 → S31 → Bool) : ∀ xs : List S31, (∀ x, x ∈ xs → p x x = true) → alikeT p xs xs = true
  | [], _ => rfl
  | x :: xs, h => by rw [alikeT, h x (by simp), alike_self p xs (fun y hy => h y (by simp [hy]))]; rfl
theorem sameN_self : ∀ (n : Nat) (x : S31), dep n x → sameN n x x = true
  | 0, _, h => h.elim
  | n + 1, x, h => by
    show ((x.f0 == x.f0) && ((x.f1 == x.f1) && ((x.f2.toList == x.f2.toList) && alikeT (sameN n) x.f3 x.f3))) = true
    rw [alike_self _ x.f3 (fun y hy => sameN_self n y (h y hy))]
    simp
theorem sameB_self (x : S31) : sameB x x = true := sameN_self _ x (dep_ex _ x (Nat.le_refl _))
theorem addNew_map (ρ : Int → Int) (l : List Int) (v : Int) (h : ∀ w, w ∈ l → ρ w = ρ v → w = v) : addNew (l.map ρ) (ρ v) = (addNew l v).map ρ := by
  unfold addNew
  by_cases hv : v ∈ l
  · rw [if_pos hv, if_pos (List.mem_map_of_mem hv)]
  · rw [if_neg hv, if_neg (fun hm => by
      obtain ⟨w, hw, e⟩ := List.mem_map.1 hm
      exact hv (h w hw e ▸ hw))]
    simp
theorem foldNew_map (ρ : Int → Int) : ∀ (xs l : List Int), (∀ v w, v ∈ l ++ xs → w ∈ l ++ xs → ρ v = ρ w → v = w) → (xs.map ρ).foldl addNew (l.map ρ) = (xs.foldl addNew l).map ρ
  | [], l, _ => rfl
  | x :: xs, l, h => by
    rw [List.map_cons, List.foldl_cons, List.foldl_cons, addNew_map ρ l x (fun w hw e => h w x (by simp [hw]) (by simp) e)]
    refine foldNew_map ρ xs _ (fun v w hv hw e => h v w ?_ ?_ e)
    · rw [List.mem_append, mem_addNew] at hv
      rw [List.mem_append, List.mem_cons]
      rcases hv with (h1 | h1) | h1
      · exact .inl h1
      · exact .inr (.inl h1)
      · exact .inr (.inr h1)
    · rw [List.mem_append, mem_addNew] at hw
      rw [List.mem_append, List.mem_cons]
      rcases hw with (h1 | h1) | h1
      · exact .inl h1
      · exact .inr (.inl h1)
      · exact .inr (.inr h1)
theorem distinct_map (ρ : Int → Int) (xs : List Int) (h : ∀ v w, v ∈ xs → w ∈ xs → ρ v = ρ w → v = w) : distinctL (xs.map ρ) = (distinctL xs).map ρ := by
  have := foldNew_map ρ xs [] (by simpa using h)
  simpa [distinctL] using this
theorem idxOf_mapInj (ρ : Int → Int) : ∀ (l : List Int) (i : Int), i ∈ l → (∀ v, v ∈ l → ρ v = ρ i → v = i) → (l.map ρ).idxOf (ρ i) = l.idxOf i
  | [], _, h, _ => by simp at h
  | x :: l, i, h, k => by
    rw [List.map_cons, List.idxOf_cons, List.idxOf_cons]
    by_cases e : x = i
    · subst e; simp
    · have e2 : ¬ ρ x = ρ i := fun h2 => e (k x (by simp) h2)
      have hi : i ∈ l := by
        rcases List.mem_cons.1 h with h1 | h1
        · exact absurd h1.symm e
        · exact h1
      have b1 : (x == i) = false := beq_eq_false_iff_ne.2 e
      have b2 : (ρ x == ρ i) = false := beq_eq_false_iff_ne.2 e2
      rw [b1, b2, idxOf_mapInj ρ l i hi (fun v hv => k v (by simp [hv]))]
theorem posI_map (ρ : Int → Int) (l : List Int) (i : Int) (hi : i ∈ l) (h : ∀ v, v ∈ l → ρ v = ρ i → v = i) : posI (l.map ρ) (ρ i) = posI l i := by
  unfold posI
  rw [if_pos hi, if_pos (List.mem_map_of_mem hi), idxOf_mapInj ρ l i hi h]
theorem posI_lt (l : List Int) (i : Int) (hi : i ∈ l) : posI l i < (l.length : Int) := by
  unfold posI
  rw [if_pos hi]
  have := List.idxOf_lt_length_of_mem hi
  omega
theorem posI_nonneg (l : List Int) (i : Int) : 0 ≤ posI l i := by
  unfold posI
  split <;> omega
theorem pigeon : ∀ (m : Nat) (l : List Int), l.Nodup → (∀ v, v ∈ l → 0 ≤ v ∧ v < (m : Int)) → l.length ≤ m
  | 0, [], _, _ => Nat.le_refl _
  | 0, v :: l, _, h => by have := h v (by simp); omega
  | m + 1, l, hn, h => by
    have h1 := pigeon m (l.erase (m : Int)) (hn.erase _) (fun v hv => by
      have h2 := (hn.mem_erase_iff).1 hv
      have := h v h2.2
      have := h2.1
      omega)
    rw [List.length_erase] at h1
    split at h1 <;> omega
theorem great_le (b : Int) : ∀ (l : List Int) (a : Int), a ≤ b → (∀ v, v ∈ l → v ≤ b) → l.foldl max a ≤ b
  | [], _, h, _ => h
  | x :: l, a, h, k => great_le b l (max a x) (Int.max_le.2 ⟨h, k x (by simp)⟩) (fun v hv => k v (by simp [hv]))
theorem anewV_ren (l : List Int) : anewV l = ren (posI l) := rfl
theorem varsL_400 (x : S31) (h : rightB 400 x = true) : varsL x = varsN 400 x := varsL_dep 400 x (dep_of_right 400 x h)
/-- What a scheme's type is. -/
theorem sch_facts (x : S31) (hx : rightB 400 x = true) (hm : ∀ v, v ∈ varsL x → 0 ≤ v ∧ v ≤ 500) :
    schV x = ((VarsB x).length : Int) ∧ schT x = changeN 400 (ren (posI (VarsB x))) x ∧ rightB 400 (schT x) = true ∧ moreB (schV x) (schT x) (schV x) (schT x) = true := by
  have hV : schV x = ((VarsB x).length : Int) := by unfold schV; rw [if_pos hx]
  have hT : schT x = changeN 400 (ren (posI (VarsB x))) x := by unfold schT; rw [if_pos hx, anewV_ren]
  have hD : VarsB x = distinctL (varsL x) := by unfold VarsB; rw [if_pos hx]
  have hR : rightB 400 (schT x) = true := by rw [hT]; exact rightB_ren _ 400 x hx (fun v _ => posI_nonneg _ _)
  have hvt : varsL (schT x) = (varsL x).map (posI (VarsB x)) := by rw [varsL_400 _ hR, hT, varsN_ren _ 400 x hx, ← varsL_400 x hx]
  have hmem : ∀ v, v ∈ varsL x → v ∈ VarsB x := fun v hv => by rw [hD]; exact (mem_distinct _ _).2 hv
  have hlen : (VarsB x).length ≤ 501 := pigeon 501 _ (nodup_vars x) (fun v hv => by
    rw [hD] at hv
    have := hm v ((mem_distinct _ _).1 hv)
    omega)
  refine ⟨hV, hT, hR, ?_⟩
  have hc : closedB (schV x) (schT x) = true := by
    unfold closedB
    rw [hvt, List.all_eq_true, hV]
    intro v hv
    obtain ⟨w, hw, rfl⟩ := List.mem_map.1 hv
    exact decide_eq_true (posI_lt _ _ (hmem w hw))
  have hg : greatL (varsL (schT x)) ≤ 512 := by
    refine great_le 512 _ _ (by omega) (fun v hv => ?_)
    rw [hvt] at hv
    obtain ⟨w, hw, rfl⟩ := List.mem_map.1 hv
    have := posI_lt _ _ (hmem w hw)
    omega
  have hd := dep_of_right 400 _ hR
  have hs : (matchR (schT x) (schT x)).1 = true := by
    rw [matchR_dep 400 _ _ hd]
    exact (match_self 400 _ _ hd (by rw [hT]; exact goodV_ren _ 400 x) (fun i u h => by cases h)).1
  unfold moreB MatchB
  rw [hc, if_pos ⟨hR, hR, hg, hs⟩]
  rfl
/-- P907. -/
theorem anew_law (x : S31) (hx : rightB 400 x = true) (ρ : Int → Int) (l : List S31) (hm : ∀ v, v ∈ varsL x → 0 ≤ v ∧ v ≤ 100 ∧ v < (l.length : Int) ∧ l.getD v.toNat z31 = ⟨1, ρ v, ⟨#[]⟩, []⟩ ∧ 0 ≤ ρ v ∧ ρ v ≤ 500) (hinj : ∀ v w, v ∈ varsL x → w ∈ varsL x → ρ v = ρ w → v = w) :
    schV x = schV (substB x l) ∧ sameB (schT x) (schT (substB x l)) = true ∧ moreB (schV x) (schT x) (schV (substB x l)) (schT (substB x l)) = true ∧ moreB (schV (substB x l)) (schT (substB x l)) (schV x) (schT x) = true ∧ schV x = ((VarsB x).length : Int) := by
  have hy : substB x l = changeN 400 (ren ρ) x := by
    unfold substB
    rw [if_pos hx]
    refine changeN_congr _ _ 400 x (fun v _ hv => ?_)
    rw [← varsL_400 x hx] at hv
    obtain ⟨h1, _, h3, h4, _⟩ := hm v.f1 hv
    unfold subV ren
    rw [if_neg (by omega), h4]
  rw [hy]
  have hR : rightB 400 (changeN 400 (ren ρ) x) = true := rightB_ren ρ 400 x hx (fun v hv => by rw [← varsL_400 x hx] at hv; exact (hm v hv).2.2.2.2.1)
  have hvy : varsL (changeN 400 (ren ρ) x) = (varsL x).map ρ := by rw [varsL_400 _ hR, varsN_ren ρ 400 x hx, ← varsL_400 x hx]
  have hDx : VarsB x = distinctL (varsL x) := by unfold VarsB; rw [if_pos hx]
  have hDy : VarsB (changeN 400 (ren ρ) x) = (VarsB x).map ρ := by
    unfold VarsB
    rw [if_pos hR, if_pos hx, hvy, distinct_map ρ _ hinj]
  obtain ⟨a1, a2, a3, a4⟩ := sch_facts x hx (fun v hv => by have := hm v hv; omega)
  obtain ⟨b1, b2, b3, b4⟩ := sch_facts (changeN 400 (ren ρ) x) hR (fun v hv => by
    rw [hvy] at hv
    obtain ⟨w, hw, rfl⟩ := List.mem_map.1 hv
    have := hm w hw
    omega)
  have hT : schT (changeN 400 (ren ρ) x) = schT x := by
    rw [b2, a2, hDy, ren_ren ρ _ 400 x (dep_of_right 400 x hx)]
    refine changeN_congr _ _ 400 x (fun v _ hv => ?_)
    rw [← varsL_400 x hx] at hv
    unfold ren
    have hmD : v.f1 ∈ VarsB x := by rw [hDx]; exact (mem_distinct _ _).2 hv
    dsimp only
    rw [posI_map ρ (VarsB x) v.f1 hmD (fun w hw e => hinj w v.f1 ((mem_distinct _ _).1 (by rw [hDx] at hw; exact hw)) hv e)]
  have hV : schV (changeN 400 (ren ρ) x) = schV x := by rw [b1, a1, hDy, List.length_map]
  rw [hT, hV]
  exact ⟨rfl, sameB_self _, a4, a4, a1⟩
/-- What is put in renames. -/
theorem sub_facts (x : S31) (hx : rightB 400 x = true) (ρ : Int → Int) (l : List S31) (hm : ∀ v, v ∈ varsL x → 0 ≤ v ∧ v < (l.length : Int) ∧ l.getD v.toNat z31 = ⟨1, ρ v, ⟨#[]⟩, []⟩ ∧ 0 ≤ ρ v) :
    rightB 400 (substB x l) = true ∧ varsL (substB x l) = (varsL x).map ρ := by
  have hy : substB x l = changeN 400 (ren ρ) x := by
    unfold substB
    rw [if_pos hx]
    refine changeN_congr _ _ 400 x (fun v _ hv => ?_)
    rw [← varsL_400 x hx] at hv
    obtain ⟨h1, h3, h4, _⟩ := hm v.f1 hv
    unfold subV ren
    rw [if_neg (by omega), h4]
  rw [hy]
  have hR : rightB 400 (changeN 400 (ren ρ) x) = true := rightB_ren ρ 400 x hx (fun v hv => by rw [← varsL_400 x hx] at hv; exact (hm v hv).2.2.2)
  exact ⟨hR, by rw [varsL_400 _ hR, varsN_ren ρ 400 x hx, ← varsL_400 x hx]⟩
theorem vars_nonneg : ∀ (n : Nat) (x : S31), rightB n x = true → ∀ v, v ∈ varsN n x → 0 ≤ v
  | 0, _, h, _, _ => by cases h
  | n + 1, x, h, v, hv => by
    obtain ⟨h1, h2⟩ := rightB_part h
    rw [varsN_succ] at hv
    rcases List.mem_append.1 hv with h3 | h3
    · split at h3
      · rename_i e
        rw [List.mem_singleton] at h3
        rw [h3]
        exact (fits_var h1 e).1
      · simp at h3
    · obtain ⟨y, hy, hm⟩ := List.mem_flatMap.1 h3
      exact vars_nonneg n y (h2 y hy) v hm
theorem le_great (l : List Int) (v : Int) (h : v ∈ l) : v ≤ greatL l := by
  have : ∀ (l : List Int) (a : Int), a ≤ l.foldl max a ∧ ∀ v, v ∈ l → v ≤ l.foldl max a := by
    intro l
    induction l with
    | nil => intro a; exact ⟨Int.le_refl _, fun v hv => by simp at hv⟩
    | cons x l ih =>
      intro a
      obtain ⟨h1, h2⟩ := ih (max a x)
      refine ⟨Int.le_trans (Int.le_max_left a x) h1, fun v hv => ?_⟩
      rcases List.mem_cons.1 hv with rfl | hv
      · exact Int.le_trans (Int.le_max_right a v) h1
      · exact h2 v hv
  exact (this l (-1)).2 v h
end Go.Proofs.YtddmdiaopaoekaaDoor.P
/- Own and the reference's right, in plain words. -/
namespace Go.Proofs.YtddmdiaopaoekaaDoor.P
open Go.RowKit Go.Proofs.YtddmdiaopaoekaaDoorW.PrintWords
set_option linter.unusedVariables false
theorem leO_le {α : Type} {f : Nat → Option α} (h : ∀ k, LeO (f k) (f (k + 1))) : ∀ (d k : Nat), LeO (f k) (f (k + d))
  | 0, k => LeO.refl _
  | d + 1, k => LeO.trans (leO_le h d k) (h (k + d))
theorem leO_up {α : Type} {f : Nat → Option α} (h : ∀ k, LeO (f k) (f (k + 1))) {k k' : Nat} {r : α} (hk : k ≤ k') (hr : f k = some r) : f k' = some r := by
  have := leO_le h (k' - k) k r hr
  rwa [Nat.add_sub_cancel' hk] at this
def ownN : Nat → S24 → S31
  | 0, x => ⟨x.f0, x.f1, x.f2, []⟩
  | n + 1, x => ⟨x.f0, x.f1, x.f2, x.f3.map (ownN n)⟩
def few24 : Nat → S24 → Prop
  | 0, _ => False
  | n + 1, x => x.f3.length ≤ 1000 ∧ ∀ y, y ∈ x.f3 → few24 n y
theorem st_eta (t : S31) : (⟨t.f0, t.f1, t.f2, t.f3⟩ : S31) = t := by cases t; rfl
theorem wrap_succ (j : Nat) (h : j ≤ 1000000) : wrap64 ((j : Int) + 1) = ((j + 1 : Nat) : Int) := by
  unfold wrap64
  omega
theorem rd24 (xs : List S24) (j : Nat) : rd_T24 xs (j : Int) = xs.getD j z24 := rfl
theorem own_ex : ∀ (n : Nat) (x : S24), few24 n x → ∃ k, hammocklaw09_Own.f k x.f0 x.f1 x.f2 x.f3 = some ((ownN n x).f0, (ownN n x).f1, (ownN n x).f2, (ownN n x).f3)
  | 0, _, h => h.elim
  | n + 1, x, h => by
    have loop : ∀ (d : Nat) (acc : List S31), d ≤ x.f3.length → acc.length = x.f3.length - d → ∃ k, hammocklaw09_Own.l0 k ((x.f3.length - d : Nat) : Int) x.f0 x.f1 x.f2 x.f3 x.f0 x.f1 x.f2 acc = some (x.f0, x.f1, x.f2, acc ++ (x.f3.drop (x.f3.length - d)).map (ownN n)) := by
      intro d
      induction d with
      | zero =>
        intro acc _ ha
        refine ⟨1, ?_⟩
        unfold hammocklaw09_Own.l0
        rw [if_neg (by omega)]
        simp
      | succ d ih =>
        intro acc hd ha
        have hj : x.f3.length - (d + 1) < x.f3.length := by omega
        have hlen := h.1
        obtain ⟨k1, h1⟩ := own_ex n _ (h.2 _ (List.getElem_mem hj))
        have hs : x.f3.length - (d + 1) + 1 = x.f3.length - d := by omega
        obtain ⟨k2, h2⟩ := ih (acc ++ [ownN n x.f3[x.f3.length - (d + 1)]]) (by omega) (by rw [List.length_append, List.length_singleton]; omega)
        refine ⟨max k1 k2 + 1, ?_⟩
        have h1' := leO_up (f := fun k => hammocklaw09_Own.f k _ _ _ _) (fun k => hammocklaw09_Own.mono _ _ _ _ k) (Nat.le_max_left k1 k2) h1
        have h2' := leO_up (f := fun k => hammocklaw09_Own.l0 k _ _ _ _ _ _ _ _ _) (fun k => (hammocklaw09_Own.mono_l k).2 _ _ _ _ _ _ _ _ _) (Nat.le_max_right k1 k2) h2
        unfold hammocklaw09_Own.l0
        have hw : wrap64 (((x.f3.length - (d + 1) : Nat) : Int) + 1) = ((x.f3.length - d : Nat) : Int) := by rw [wrap_succ _ (by omega), hs]
        rw [if_pos (by omega), if_pos (by omega), rd24, List.getD_eq_getElem?_getD, List.getElem?_eq_getElem hj, Option.getD_some, h1', Option.bind_some, if_pos (by omega), hw]
        dsimp only
        rw [st_eta]
        refine h2'.trans ?_
        congr 4
        rw [List.append_assoc, ← hs, List.singleton_append]
        congr 1
        rw [List.drop_eq_getElem_cons hj, List.map_cons]
    obtain ⟨k, hk⟩ := loop x.f3.length [] (Nat.le_refl _) (by simp)
    refine ⟨k + 1, ?_⟩
    unfold hammocklaw09_Own.f
    rw [Nat.sub_self] at hk
    simpa [ownN] using hk
end Go.Proofs.YtddmdiaopaoekaaDoor.P
/- The reference's right is the program's. -/
namespace Go.Proofs.YtddmdiaopaoekaaDoor.P
open Go.RowKit Go.Proofs.YtddmdiaopaoekaaDoorW.PrintWords
set_option linter.unusedVariables false
/-- What stands at the end of the reference's right. -/
def fin24 (x : S24) : Option Bool := (if x.f0 = 1 then (if x.f1 ≥ 0 then (if x.f2.toList = ([] : List UInt8) then (some ((x.f3.length : Int) == 0)) else (some false)) else (some false)) else (if x.f0 = 2 then (if x.f1 = 0 then (some (x.f2.toList != ([] : List UInt8))) else (some false)) else (if x.f0 = 3 then (if x.f1 = 0 then (if x.f2.toList = ([] : List UInt8) then (some ((x.f3.length : Int) == 2)) else (some false)) else (some false)) else (some false))))
theorem fin24_fits (n : Nat) (x : S24) (h : x.f3.length ≤ 16) : fin24 x = some (fitsB (ownN (n + 1) x)) := by
  rw [← fits_some]
  have e : types_Type_fits.f (ownN (n + 1) x).f0 (ownN (n + 1) x).f1 (ownN (n + 1) x).f2 (ownN (n + 1) x).f3 = types_Type_fits.f x.f0 x.f1 x.f2 (x.f3.map (ownN n)) := rfl
  rw [e]
  unfold fin24 types_Type_fits.f
  rw [List.length_map]
  by_cases h1 : x.f0 = 1
  · rw [if_pos h1, if_pos h1]
  · rw [if_neg h1, if_neg h1]
    by_cases h3 : x.f0 = 2
    · rw [if_pos h3, if_pos h3]
      by_cases h4 : x.f1 = 0
      · rw [if_pos h4, if_pos h4]
        by_cases h5 : x.f2.toList = []
        · simp [h5]
        · have h6 : (x.f3.length : Int) ≤ 16 := by omega
          simp [h5, h6]
      · rw [if_neg h4, if_neg h4]
    · rw [if_neg h3, if_neg h3]
theorem right_ex : ∀ (n : Nat) (x : S24), n ≤ 1000 → ∃ k, hammockref09_right.f k x.f0 x.f1 x.f2 x.f3 (n : Int) = some (rightB n (ownN n x))
  | 0, x, _ => ⟨2, by
    unfold hammockref09_right.f
    rw [if_pos (by decide)]
    unfold hammockref09_right.j0
    rw [if_pos rfl]
    rfl⟩
  | n + 1, x, hn => by
    by_cases h16 : x.f3.length ≤ 16
    · have loop : ∀ (d : Nat), d ≤ x.f3.length → ∃ k, hammockref09_right.l0 k ((n + 1 : Nat) : Int) ((x.f3.length - d : Nat) : Int) x.f0 x.f1 x.f2 x.f3 = some (fitsB (ownN (n + 1) x) && (x.f3.drop (x.f3.length - d)).all (fun y => rightB n (ownN n y))) := by
        intro d
        induction d with
        | zero =>
          intro _
          refine ⟨1, ?_⟩
          unfold hammockref09_right.l0
          rw [if_neg (by omega), Nat.sub_zero, List.drop_length]
          refine Eq.trans (b := fin24 x) rfl ?_
          rw [fin24_fits n x h16]
          simp
        | succ d ih =>
          intro hd
          have hj : x.f3.length - (d + 1) < x.f3.length := by omega
          obtain ⟨k1, h1⟩ := right_ex n x.f3[x.f3.length - (d + 1)] (by omega)
          have hs : x.f3.length - (d + 1) + 1 = x.f3.length - d := by omega
          obtain ⟨k2, h2⟩ := ih (by omega)
          refine ⟨max k1 k2 + 1, ?_⟩
          have h1' := leO_up (f := fun k => hammockref09_right.f k _ _ _ _ _) (fun k => (hammockref09_right.mono_l k).1 _ _ _ _ _) (Nat.le_max_left k1 k2) h1
          have h2' := leO_up (f := fun k => hammockref09_right.l0 k _ _ _ _ _ _) (fun k => (hammockref09_right.mono_l k).2.2 _ _ _ _ _ _) (Nat.le_max_right k1 k2) h2
          have hw : wrap64 (((x.f3.length - (d + 1) : Nat) : Int) + 1) = ((x.f3.length - d : Nat) : Int) := by rw [wrap_succ _ (by omega), hs]
          have hw1 : wrap64 (((n + 1 : Nat) : Int) - 1) = (n : Int) := by unfold wrap64; omega
          unfold hammockref09_right.l0
          rw [if_pos (by omega), if_pos (by omega), rd24, List.getD_eq_getElem?_getD, List.getElem?_eq_getElem hj, Option.getD_some, hw1, h1', Option.bind_some, hw]
          rw [List.drop_eq_getElem_cons hj, hs, List.all_cons]
          cases hb : rightB n (ownN n x.f3[x.f3.length - (d + 1)]) with
          | true => rw [if_pos rfl, Bool.true_and]; exact h2'
          | false => rw [if_neg (by simp), Bool.false_and, Bool.and_false]
      obtain ⟨k, hk⟩ := loop x.f3.length (Nat.le_refl _)
      refine ⟨k + 1 + 1, ?_⟩
      unfold hammockref09_right.f
      rw [if_neg (by omega)]
      unfold hammockref09_right.j0
      rw [if_neg (by simp; omega)]
      rw [Nat.sub_self, List.drop_zero] at hk
      refine hk.trans ?_
      rw [rightB_succ]
      congr 2
      have e : (ownN (n + 1) x).f3 = x.f3.map (ownN n) := rfl
      rw [e, List.any_map, List.not_any_eq_all_not]
      congr 1
      funext y
      simp
    · refine ⟨2, ?_⟩
      have hf : rightB (n + 1) (ownN (n + 1) x) = false := Bool.eq_false_iff.2 (fun h => by
        have := fits_len (rightB_part h).1
        have e : (ownN (n + 1) x).f3 = x.f3.map (ownN n) := rfl
        rw [e, List.length_map] at this
        exact h16 this)
      rw [hf]
      unfold hammockref09_right.f
      rw [if_neg (by omega)]
      unfold hammockref09_right.j0
      rw [if_pos (decide_eq_true (by omega))]
end Go.Proofs.YtddmdiaopaoekaaDoor.P
/- few ends at any types; right types are few. -/
namespace Go.Proofs.YtddmdiaopaoekaaDoor.P
open Go.RowKit Go.Proofs.YtddmdiaopaoekaaDoorW.PrintWords
set_option linter.unusedVariables false
def ok24 : Nat → S24 → Prop
  | 0, _ => False
  | n + 1, x => x.f3.length ≤ 9223372036854775807 ∧ ∀ y, y ∈ x.f3 → ok24 n y
theorem few24_of_right : ∀ (n : Nat) (x : S24), rightB n (ownN n x) = true → few24 n x
  | 0, _, h => by cases h
  | n + 1, x, h => by
    have e : (ownN (n + 1) x).f3 = x.f3.map (ownN n) := rfl
    obtain ⟨h1, h2⟩ := rightB_part h
    have h3 := fits_len h1
    rw [e, List.length_map] at h3
    exact ⟨by omega, fun y hy => few24_of_right n y (h2 _ (by rw [e]; exact List.mem_map_of_mem hy))⟩
theorem wrap_next (j : Nat) (h : j < 9223372036854775807) : wrap64 ((j : Int) + 1) = ((j + 1 : Nat) : Int) := by
  unfold wrap64
  omega
theorem few_ex : ∀ (n : Nat) (l : List S24) (a : Int), l.length ≤ 9223372036854775807 → (∀ y, y ∈ l → ok24 n y) → ∃ k r, hammocklaw09_few.f k l a = some r := by
  intro n
  induction n with
  | zero =>
    intro l a hl h
    cases l with
    | nil =>
      refine ⟨2, a, ?_⟩
      unfold hammocklaw09_few.f hammocklaw09_few.l0
      rw [if_neg (by simp)]
    | cons y ys => exact (h y (by simp)).elim
  | succ n ih =>
    intro l a hl h
    have loop : ∀ (d : Nat), d ≤ l.length → ∀ a, ∃ k r, hammocklaw09_few.l0 k l a ((l.length - d : Nat) : Int) = some r := by
      intro d
      induction d with
      | zero =>
        intro _ a
        refine ⟨1, a, ?_⟩
        unfold hammocklaw09_few.l0
        rw [if_neg (by omega)]
      | succ d ihd =>
        intro hd a
        have hj : l.length - (d + 1) < l.length := by omega
        have hs : l.length - (d + 1) + 1 = l.length - d := by omega
        have hy := h _ (List.getElem_mem hj)
        obtain ⟨k1, r1, h1⟩ := ih (l[l.length - (d + 1)]).f3 (wrap64 ((wrap64 (a - 1)) - (wrap64 ((((l[l.length - (d + 1)]).f2).size : Int) / 60)))) hy.1 hy.2
        obtain ⟨k2, r2, h2⟩ := ihd (by omega) r1
        by_cases ha : a ≥ 0
        · refine ⟨max k1 k2 + 1, r2, ?_⟩
          have h1' := leO_up (f := fun k => hammocklaw09_few.f k _ _) (fun k => (hammocklaw09_few.mono_l k).1 _ _) (Nat.le_max_left k1 k2) h1
          have h2' := leO_up (f := fun k => hammocklaw09_few.l0 k _ _ _) (fun k => (hammocklaw09_few.mono_l k).2 _ _ _) (Nat.le_max_right k1 k2) h2
          have hw : wrap64 (((l.length - (d + 1) : Nat) : Int) + 1) = ((l.length - d : Nat) : Int) := by rw [wrap_next _ (by omega), hs]
          unfold hammocklaw09_few.l0
          rw [if_pos (by omega), if_pos ha, if_pos (by omega), rd24, List.getD_eq_getElem?_getD, List.getElem?_eq_getElem hj, Option.getD_some, h1', Option.bind_some, hw]
          exact h2'
        · refine ⟨1, a, ?_⟩
          unfold hammocklaw09_few.l0
          rw [if_pos (by omega), if_neg ha]
    obtain ⟨k, r, hk⟩ := loop l.length (Nat.le_refl _) a
    refine ⟨k + 1, r, ?_⟩
    unfold hammocklaw09_few.f
    rw [Nat.sub_self] at hk
    exact hk
theorem light_ex (n : Nat) (l : List S24) (hl : l.length ≤ 9223372036854775807) (h : ∀ y, y ∈ l → ok24 n y) : ∃ k r, hammocklaw09_Light.f k l = some r := by
  obtain ⟨k, r, hk⟩ := few_ex n l 400 hl h
  refine ⟨k, decide (r ≥ 0), ?_⟩
  unfold hammocklaw09_Light.f
  rw [hk]
  rfl
end Go.Proofs.YtddmdiaopaoekaaDoor.P
/- Light types have few parts. -/
namespace Go.Proofs.YtddmdiaopaoekaaDoor.P
open Go.RowKit Go.Proofs.YtddmdiaopaoekaaDoorW.PrintWords
set_option linter.unusedVariables false
def cntN : Nat → S24 → Nat
  | 0, _ => 0
  | n + 1, x => 1 + (x.f3.map (cntN n)).sum
def nm24 : Nat → S24 → Prop
  | 0, _ => True
  | n + 1, x => x.f2.size ≤ 4611686018427387904 ∧ ∀ y, y ∈ x.f3 → nm24 n y
theorem l0_neg (k : Nat) (l : List S24) (a : Int) (j : Nat) (r : Int) (h : hammocklaw09_few.l0 k l a (j : Int) = some r) (ha : a < 0) : r = a := by
  cases k with
  | zero => simp [hammocklaw09_few.l0] at h
  | succ k =>
    unfold hammocklaw09_few.l0 at h
    rw [if_neg (show ¬ a ≥ 0 by omega)] at h
    split at h <;> exact (Option.some.inj h).symm
theorem few_cnt : ∀ (k : Nat), (∀ (n m : Nat) (l : List S24) (a r : Int), a ≤ 400 → -1000000000000000000 ≤ a → l.length ≤ 9223372036854775807 → (∀ y, y ∈ l → ok24 m y ∧ nm24 m y) → hammocklaw09_few.f k l a = some r → 0 ≤ r → r + (((l.map (cntN n)).sum : Nat) : Int) ≤ a) ∧
    (∀ (n m : Nat) (l : List S24) (a r : Int) (j : Nat), a ≤ 400 → -1000000000000000000 ≤ a → l.length ≤ 9223372036854775807 → (∀ y, y ∈ l → ok24 m y ∧ nm24 m y) → j ≤ l.length → hammocklaw09_few.l0 k l a (j : Int) = some r → 0 ≤ r → r + ((((l.drop j).map (cntN n)).sum : Nat) : Int) ≤ a)
  | 0 => ⟨fun n m l a r _ _ _ _ h _ => by simp [hammocklaw09_few.f] at h, fun n m l a r j _ _ _ _ _ h _ => by simp [hammocklaw09_few.l0] at h⟩
  | k + 1 => by
    obtain ⟨ihF, ihL⟩ := few_cnt k
    refine ⟨fun n m l a r h1 h2 h3 h4 h hr => ?_, fun n m l a r j h1 h2 h3 h4 hj h hr => ?_⟩
    · unfold hammocklaw09_few.f at h
      have := ihL n m l a r 0 h1 h2 h3 h4 (Nat.zero_le _) h hr
      rwa [List.drop_zero] at this
    · unfold hammocklaw09_few.l0 at h
      by_cases hlt : j < l.length
      · rw [if_pos (by omega)] at h
        by_cases ha : a ≥ 0
        · rw [if_pos ha, if_pos (by omega), rd24, List.getD_eq_getElem?_getD, List.getElem?_eq_getElem hlt, Option.getD_some] at h
          obtain ⟨t, ht, h⟩ := Option.bind_eq_some_iff.1 h
          have hy := h4 _ (List.getElem_mem hlt)
          rw [List.drop_eq_getElem_cons hlt, List.map_cons, List.sum_cons]
          generalize l[j] = y at ht hy ⊢
          rw [wrap_next j (by omega)] at h
          cases m with
          | zero => exact hy.1.elim
          | succ m =>
            have hs := hy.2.1
            have hw : wrap64 ((wrap64 (a - 1)) - (wrap64 ((y.f2.size : Int) / 60))) = a - 1 - (y.f2.size : Int) / 60 := by unfold wrap64; omega
            rw [hw] at ht
            by_cases htn : 0 ≤ t
            · have hL := ihL n (m + 1) l t r (j + 1)
              have hF : ∀ n', t + (((y.f3.map (cntN n')).sum : Nat) : Int) ≤ a - 1 - (y.f2.size : Int) / 60 := fun n' => ihF n' m y.f3 _ t (by omega) (by omega) hy.1.1 (fun z hz => ⟨hy.1.2 z hz, hy.2.2 z hz⟩) ht htn
              have hL2 := hL (by have := hF 0; omega) (by omega) h3 h4 (by omega) h hr
              cases n with
              | zero =>
                have := hF 0
                have e : cntN 0 y = 0 := rfl
                rw [e]
                omega
              | succ n =>
                have := hF n
                have e : cntN (n + 1) y = 1 + (y.f3.map (cntN n)).sum := rfl
                rw [e]
                omega
            · have := l0_neg k l t (j + 1) r h (by omega)
              omega
        · rw [if_neg ha] at h
          have := Option.some.inj h
          omega
      · rw [if_neg (by omega)] at h
        have hra := Option.some.inj h
        rw [List.drop_of_length_le (by omega)]
        simp
        omega
theorem vars_cnt : ∀ (n : Nat) (x : S24), (varsN n (ownN n x)).length ≤ cntN n x
  | 0, _ => Nat.le_refl _
  | n + 1, x => by
    have e : varsN (n + 1) (ownN (n + 1) x) = (if x.f0 = 1 then [x.f1] else []) ++ (x.f3.map (ownN n)).flatMap (varsN n) := rfl
    have e2 : cntN (n + 1) x = 1 + (x.f3.map (cntN n)).sum := rfl
    have : ∀ l : List S24, ((l.map (ownN n)).flatMap (varsN n)).length ≤ (l.map (cntN n)).sum := by
      intro l
      induction l with
      | nil => simp
      | cons y ys ih =>
        have h1 := vars_cnt n y
        simp only [List.map_cons, List.flatMap_cons, List.length_append, List.sum_cons]
        omega
    have h3 := this x.f3
    rw [e, e2, List.length_append]
    split <;> simp only [List.length_cons, List.length_nil] <;> omega
/-- A light type that is right: its own has few variables. -/
theorem light_vars (k m : Nat) (x : S24) (hL : hammocklaw09_Light.f k [x] = some true) (hR : rightB 400 (ownN 400 x) = true) (ho : ok24 m x) (hn : nm24 m x) : (varsL (ownN 400 x)).length ≤ 400 := by
  unfold hammocklaw09_Light.f at hL
  obtain ⟨r, hr, h⟩ := Option.bind_eq_some_iff.1 hL
  have h0 : 0 ≤ r := by simpa using h
  have := (few_cnt k).1 400 m [x] 400 r (by omega) (by omega) (by simp) (fun y hy => by
    obtain rfl : y = x := by simpa using hy
    exact ⟨ho, hn⟩) hr h0
  have h2 := vars_cnt 400 x
  rw [varsL_400 _ hR]
  simp only [List.map_cons, List.map_nil, List.sum_cons, List.sum_nil] at this
  omega
end Go.Proofs.YtddmdiaopaoekaaDoor.P
