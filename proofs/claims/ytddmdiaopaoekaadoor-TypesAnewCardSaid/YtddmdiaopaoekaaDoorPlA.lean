/- Plain laws of renamed variables: what they leave as it was; a type is matched by itself. -/
import Derived.Test.YtddmdiaopaoekaaDoorTyW
namespace Go.Proofs.YtddmdiaopaoekaaDoor.P
open Go.RowKit Go.Proofs.YtddmdiaopaoekaaDoorW.PrintWords
set_option linter.unusedVariables false
theorem varsN_succ (n : Nat) (x : S31) : varsN (n + 1) x = (if x.f0 = 1 then [x.f1] else []) ++ x.f3.flatMap (varsN n) := rfl
theorem changeN_succ (n : Nat) (f : S31 → S31) (x : S31) : changeN (n + 1) f x = if x.f0 = 1 then f x else ⟨x.f0, x.f1, x.f2, x.f3.map (changeN n f)⟩ := rfl
theorem changeN_congr (f g : S31 → S31) : ∀ (n : Nat) (x : S31), (∀ v, v.f0 = 1 → v.f1 ∈ varsN n x → f v = g v) → changeN n f x = changeN n g x
  | 0, _, _ => rfl
  | n + 1, x, h => by
    rw [changeN_succ, changeN_succ]
    rw [varsN_succ] at h
    split
    · rename_i e
      exact h x e (List.mem_append_left _ (by rw [if_pos e]; simp))
    · rw [List.map_congr_left (fun y hy => changeN_congr f g n y (fun v hv hm => h v hv (List.mem_append_right _ (List.mem_flatMap.2 ⟨y, hy, hm⟩))))]
/-- A variable by another one. -/
def ren (ρ : Int → Int) (v : S31) : S31 := ⟨1, ρ v.f1, ⟨#[]⟩, []⟩
theorem varsN_ren (ρ : Int → Int) : ∀ (n : Nat) (x : S31), rightB n x = true → varsN n (changeN n (ren ρ) x) = (varsN n x).map ρ
  | 0, _, h => by cases h
  | n + 1, x, h => by
    obtain ⟨h1, h2⟩ := rightB_part h
    rw [changeN_succ]
    by_cases e : x.f0 = 1
    · rw [if_pos e, varsN_succ, varsN_succ, if_pos e, (fits_var h1 e).2.2]
      rfl
    · rw [if_neg e, varsN_succ, varsN_succ, if_neg e]
      show [] ++ (x.f3.map (changeN n (ren ρ))).flatMap (varsN n) = ([] ++ x.f3.flatMap (varsN n)).map ρ
      rw [List.nil_append, List.nil_append, List.flatMap_map, List.map_flatMap]
      simp only [List.flatMap]
      rw [List.map_congr_left (fun y hy => varsN_ren ρ n y (h2 y hy))]
theorem fitsB_map (x : S31) (f : S31 → S31) : fitsB ⟨x.f0, x.f1, x.f2, x.f3.map f⟩ = fitsB x := by
  unfold fitsB types_Type_fits.f
  simp only [List.length_map]
theorem fitsB_var (i : Int) (h : 0 ≤ i) : fitsB ⟨1, i, ⟨#[]⟩, []⟩ = true := by
  have : types_Type_fits.f 1 i ⟨#[]⟩ [] = some true := by
    unfold types_Type_fits.f
    rw [if_pos rfl, if_pos h]
    decide +kernel
  unfold fitsB
  rw [this]
  rfl
theorem rightB_ren (ρ : Int → Int) : ∀ (n : Nat) (x : S31), rightB n x = true → (∀ v, v ∈ varsN n x → 0 ≤ ρ v) → rightB n (changeN n (ren ρ) x) = true
  | 0, _, h, _ => by cases h
  | n + 1, x, h, k => by
    obtain ⟨h1, h2⟩ := rightB_part h
    rw [varsN_succ] at k
    rw [changeN_succ, rightB_succ]
    by_cases e : x.f0 = 1
    · rw [if_pos e]
      have h3 := fitsB_var (ρ x.f1) (k x.f1 (by rw [if_pos e]; simp))
      unfold ren
      rw [h3]
      rfl
    · rw [if_neg e, fitsB_map, h1, Bool.true_and]
      simp only [Bool.not_eq_true', List.any_eq_false]
      intro z hz
      obtain ⟨y, hy, rfl⟩ := List.mem_map.1 hz
      rw [rightB_ren ρ n y (h2 y hy) (fun v hv => k v (List.mem_append_right _ (List.mem_flatMap.2 ⟨y, hy, hv⟩)))]
      simp
theorem ren_ren (ρ σ : Int → Int) : ∀ (n : Nat) (x : S31), dep n x → changeN n (ren σ) (changeN n (ren ρ) x) = changeN n (ren (fun i => σ (ρ i))) x
  | 0, _, h => h.elim
  | n + 1, x, h => by
    rw [changeN_succ n (ren ρ), changeN_succ n (ren fun i => σ (ρ i))]
    by_cases e : x.f0 = 1
    · rw [if_pos e, if_pos e]
      rfl
    · rw [if_neg e, if_neg e, changeN_succ]
      show (if x.f0 = 1 then _ else (⟨x.f0, x.f1, x.f2, (x.f3.map (changeN n (ren ρ))).map (changeN n (ren σ))⟩ : S31)) = _
      have e2 := List.map_congr_left (f := changeN n (ren σ) ∘ changeN n (ren ρ)) (g := changeN n (ren fun i => σ (ρ i))) (fun y hy => ren_ren ρ σ n y (h y hy))
      rw [if_neg e, List.map_map, e2]
/-- Each variable in it is a bare one. -/
def goodV : Nat → S31 → Prop
  | 0, _ => True
  | n + 1, x => (x.f0 = 1 → x = ⟨1, x.f1, ⟨#[]⟩, []⟩) ∧ ∀ y, y ∈ x.f3 → goodV n y
theorem goodV_ren (ρ : Int → Int) : ∀ (n : Nat) (x : S31), goodV n (changeN n (ren ρ) x)
  | 0, _ => trivial
  | n + 1, x => by
    rw [changeN_succ]
    by_cases e : x.f0 = 1
    · rw [if_pos e]
      exact ⟨fun _ => rfl, fun y hy => by simp [ren] at hy⟩
    · rw [if_neg e]
      exact ⟨fun h => absurd h e, fun y hy => by
        obtain ⟨z, hz, rfl⟩ := List.mem_map.1 hy
        exact goodV_ren ρ n z⟩
theorem same_var (i : Int) : sameB ⟨1, i, ⟨#[]⟩, []⟩ ⟨1, i, ⟨#[]⟩, []⟩ = true := by
  rw [sameB_dep 1 _ _ (fun y hy => by simp at hy)]
  simp [sameN, alikeT]
def selfM (m : Int → Option S31) : Prop := ∀ i u, m i = some u → u = ⟨1, i, ⟨#[]⟩, []⟩
theorem match_self : ∀ (n : Nat) (x : S31) (st : Bnd), dep n x → goodV n x → selfM st.1 → (matchS n x x st).1 = true ∧ selfM (matchS n x x st).2.1 := by
  intro n
  induction n with
  | zero => intro x st h; exact h.elim
  | succ n ih =>
    intro x st hd hg hs
    have hm : matchS (n + 1) x x st = if x.f0 = 1 then (match st.1 x.f1 with
      | none => (true, (putT st.1 x.f1 x, st.2 + 1))
      | some u => (sameB u x, st))
      else if x.f0 = x.f0 then (if x.f2.toList = x.f2.toList then eqL (matchS n) x.f3 x.f3 st else (false, st)) else (false, st) := rfl
    rw [hm]
    by_cases e : x.f0 = 1
    · rw [if_pos e]
      have hx := hg.1 e
      cases hu : st.1 x.f1 with
      | none =>
        refine ⟨rfl, fun i u h => ?_⟩
        simp only [putT] at h
        split at h
        · rename_i hi
          cases h
          rw [hi]
          exact hx
        · exact hs i u h
      | some u =>
        refine ⟨?_, hs⟩
        have := hs _ _ hu
        rw [this]
        show sameB ⟨1, x.f1, ⟨#[]⟩, []⟩ x = true
        rw [hx]
        exact same_var x.f1
    · rw [if_neg e, if_pos rfl, if_pos rfl]
      unfold eqL
      rw [if_pos rfl]
      have : ∀ (xs : List S31) (st : Bnd), (∀ y, y ∈ xs → dep n y ∧ goodV n y) → selfM st.1 → (eqS (matchS n) xs xs st).1 = true ∧ selfM (eqS (matchS n) xs xs st).2.1 := by
        intro xs
        induction xs with
        | nil => intro st _ h; exact ⟨rfl, h⟩
        | cons y ys ihy =>
          intro st hy h
          obtain ⟨h1, h2⟩ := ih y st (hy y (by simp)).1 (hy y (by simp)).2 h
          rw [eqS, if_pos h1]
          exact ihy _ (fun z hz => hy z (by simp [hz])) h2
      exact this x.f3 st (fun y hy => ⟨hd y hy, hg.2 y hy⟩) hs
end Go.Proofs.YtddmdiaopaoekaaDoor.P
/- The plain law of TypesAnew: a scheme does not hang on how the variables are numbered. -/
namespace Go.Proofs.YtddmdiaopaoekaaDoor.P
open Go.RowKit Go.Proofs.YtddmdiaopaoekaaDoorW.PrintWords
set_option linter.unusedVariables false
theorem alike_self (p : S31 → S31 → Bool) : ∀ xs : List S31, (∀ x, x ∈ xs → p x x = true) → alikeT p xs xs = true
  | [], _ => rfl
  | x :: xs, h => by rw [alikeT, h x (by simp), alike_self p xs (fun y hy => h y (by simp [hy]))]; rfl
theorem sameN_self : ∀ (n : Nat) (x : S31), dep n x → sameN n x x = true
  | 0, _, h => h.elim
  | n + 1, x, h => by
    show ((x.f0 == x.f0) && ((x.f1 == x.f1) && ((x.f2.toList == x.f2.toList) && alikeT (sameN n) x.f3 x.f3))) = true
    rw [alike_self _ x.f3 (fun y hy => sameN_self n y (h y hy))]
    simp
theorem sameB_self (x : S31) : sameB x x = true := sameN_self _ x (dep_ex _ x (Nat.le_refl _))
theorem addNew_map (ρ : Int → Int) (l : List Int) (v : Int) (h : ∀ w, w ∈ l → ρ w = ρ v → w = v) : addNew (l.map ρ) (ρ v) = (addNew l v).map ρ := by
  unfold addNew
  by_cases hv : v ∈ l
  · rw [if_pos hv, if_pos (List.mem_map_of_mem hv)]
  · rw [if_neg hv, if_neg (fun hm => by
      obtain ⟨w, hw, e⟩ := List.mem_map.1 hm
      exact hv (h w hw e ▸ hw))]
    simp
theorem foldNew_map (ρ : Int → Int) : ∀ (xs l : List Int), (∀ v w, v ∈ l ++ xs → w ∈ l ++ xs → ρ v = ρ w → v = w) → (xs.map ρ).foldl addNew (l.map ρ) = (xs.foldl addNew l).map ρ
  | [], l, _ => rfl
  | x :: xs, l, h => by
    rw [List.map_cons, List.foldl_cons, List.foldl_cons, addNew_map ρ l x (fun w hw e => h w x (by simp [hw]) (by simp) e)]
    refine foldNew_map ρ xs _ (fun v w hv hw e => h v w ?_ ?_ e)
    · rw [List.mem_append, mem_addNew] at hv
      rw [List.mem_append, List.mem_cons]
      rcases hv with (h1 | h1) | h1
      · exact .inl h1
      · exact .inr (.inl h1)
      · exact .inr (.inr h1)
    · rw [List.mem_append, mem_addNew] at hw
      rw [List.mem_append, List.mem_cons]
      rcases hw with (h1 | h1) | h1
      · exact .inl h1
      · exact .inr (.inl h1)
      · exact .inr (.inr h1)
theorem distinct_map (ρ : Int → Int) (xs : List Int) (h : ∀ v w, v ∈ xs → w ∈ xs → ρ v = ρ w → v = w) : distinctL (xs.map ρ) = (distinctL xs).map ρ := by
  have := foldNew_map ρ xs [] (by simpa using h)
  simpa [distinctL] using this
theorem idxOf_mapInj (ρ : Int → Int) : ∀ (l : List Int) (i : Int), i ∈ l → (∀ v, v ∈ l → ρ v = ρ i → v = i) → (l.map ρ).idxOf (ρ i) = l.idxOf i
  | [], _, h, _ => by simp at h
  | x :: l, i, h, k => by
    rw [List.map_cons, List.idxOf_cons, List.idxOf_cons]
    by_cases e : x = i
    · subst e; simp
    · have e2 : ¬ ρ x = ρ i := fun h2 => e (k x (by simp) h2)
      have hi : i ∈ l := by
        rcases List.mem_cons.1 h with h1 | h1
        · exact absurd h1.symm e
        · exact h1
      have b1 : (x == i) = false := beq_eq_false_iff_ne.2 e
      have b2 : (ρ x == ρ i) = false := beq_eq_false_iff_ne.2 e2
      rw [b1, b2, idxOf_mapInj ρ l i hi (fun v hv => k v (by simp [hv]))]
theorem posI_map (ρ : Int → Int) (l : List Int) (i : Int) (hi : i ∈ l) (h : ∀ v, v ∈ l → ρ v = ρ i → v = i) : posI (l.map ρ) (ρ i) = posI l i := by
  unfold posI
  rw [if_pos hi, if_pos (List.mem_map_of_mem hi), idxOf_mapInj ρ l i hi h]
theorem posI_lt (l : List Int) (i : Int) (hi : i ∈ l) : posI l i < (l.length : Int) := by
  unfold posI
  rw [if_pos hi]
  have := List.idxOf_lt_length_of_mem hi
  omega
theorem posI_nonneg (l : List Int) (i : Int) : 0 ≤ posI l i := by
  unfold posI
  split <;> omega
theorem pigeon : ∀ (m : Nat) (l : List Int), l.Nodup → (∀ v, v ∈ l → 0 ≤ v ∧ v < (m : Int)) → l.length ≤ m
  | 0, [], _, _ => Nat.le_refl _
  | 0, v :: l, _, h => by have := h v (by simp); omega
  | m + 1, l, hn, h => by
    have h1 := pigeon m (l.erase (m : Int)) (hn.erase _) (fun v hv => by
      have h2 := (hn.mem_erase_iff).1 hv
      have := h v h2.2
      have := h2.1
      omega)
    rw [List.length_erase] at h1
    split at h1 <;> omega
theorem great_le (b : Int) : ∀ (l : List Int) (a : Int), a ≤ b → (∀ v, v ∈ l → v ≤ b) → l.foldl max a ≤ b
  | [], _, h, _ => h
  | x :: l, a, h, k => great_le b l (max a x) (Int.max_le.2 ⟨h, k x (by simp)⟩) (fun v hv => k v (by simp [hv]))
theorem anewV_ren (l : List Int) : anewV l = ren (posI l) := rfl
theorem varsL_400 (x : S31) (h : rightB 400 x = true) : varsL x = varsN 400 x := varsL_dep 400 x (dep_of_right 400 x h)
/-- What a scheme's type is. -/
theorem sch_facts (x : S31) (hx : rightB 400 x = true) (hm : ∀ v, v ∈ varsL x → 0 ≤ v ∧ v ≤ 500) :
    schV x = ((VarsB x).length : Int) ∧ schT x = changeN 400 (ren (posI (VarsB x))) x ∧ rightB 400 (schT x) = true ∧ moreB (schV x) (schT x) (schV x) (schT x) = true := by
  have hV : schV x = ((VarsB x).length : Int) := by unfold schV; rw [if_pos hx]
  have hT : schT x = changeN 400 (ren (posI (VarsB x))) x := by unfold schT; rw [if_pos hx, anewV_ren]
  have hD : VarsB x = distinctL (varsL x) := by unfold VarsB; rw [if_pos hx]
  have hR : rightB 400 (schT x) = true := by rw [hT]; exact rightB_ren _ 400 x hx (fun v _ => posI_nonneg _ _)
  have hvt : varsL (schT x) = (varsL x).map (posI (VarsB x)) := by rw [varsL_400 _ hR, hT, varsN_ren _ 400 x hx, ← varsL_400 x hx]
  have hmem : ∀ v, v ∈ varsL x → v ∈ VarsB x := fun v hv => by rw [hD]; exact (mem_distinct _ _).2 hv
  have hlen : (VarsB x).length ≤ 501 := pigeon 501 _ (nodup_vars x) (fun v hv => by
    rw [hD] at hv
    have := hm v ((mem_distinct _ _).1 hv)
    omega)
  refine ⟨hV, hT, hR, ?_⟩
  have hc : closedB (schV x) (schT x) = true := by
    unfold closedB
    rw [hvt, List.all_eq_true, hV]
    intro v hv
    obtain ⟨w, hw, rfl⟩ := List.mem_map.1 hv
    exact decide_eq_true (posI_lt _ _ (hmem w hw))
  have hg : greatL (varsL (schT x)) ≤ 512 := by
    refine great_le 512 _ _ (by omega) (fun v hv => ?_)
    rw [hvt] at hv
    obtain ⟨w, hw, rfl⟩ := List.mem_map.1 hv
    have := posI_lt _ _ (hmem w hw)
    omega
  have hd := dep_of_right 400 _ hR
  have hs : (matchR (schT x) (schT x)).1 = true := by
    rw [matchR_dep 400 _ _ hd]
    exact (match_self 400 _ _ hd (by rw [hT]; exact goodV_ren _ 400 x) (fun i u h => by cases h)).1
  unfold moreB MatchB
  rw [hc, if_pos ⟨hR, hR, hg, hs⟩]
  rfl
/-- P907. -/
theorem anew_law (x : S31) (hx : rightB 400 x = true) (ρ : Int → Int) (l : List S31) (hm : ∀ v, v ∈ varsL x → 0 ≤ v ∧ v ≤ 100 ∧ v < (l.length : Int) ∧ l.getD v.toNat z31 = ⟨1, ρ v, ⟨#[]⟩, []⟩ ∧ 0 ≤ ρ v ∧ ρ v ≤ 500) (hinj : ∀ v w, v ∈ varsL x → w ∈ varsL x → ρ v = ρ w → v = w) :
    schV x = schV (substB x l) ∧ sameB (schT x) (schT (substB x l)) = true ∧ moreB (schV x) (schT x) (schV (substB x l)) (schT (substB x l)) = true ∧ moreB (schV (substB x l)) (schT (substB x l)) (schV x) (schT x) = true ∧ schV x = ((VarsB x).length : Int) := by
  have hy : substB x l = changeN 400 (ren ρ) x := by
    unfold substB
    rw [if_pos hx]
    refine changeN_congr _ _ 400 x (fun v _ hv => ?_)
    rw [← varsL_400 x hx] at hv
    obtain ⟨h1, _, h3, h4, _⟩ := hm v.f1 hv
    unfold subV ren
    rw [if_neg (by omega), h4]
  rw [hy]
  have hR : rightB 400 (changeN 400 (ren ρ) x) = true := rightB_ren ρ 400 x hx (fun v hv => by rw [← varsL_400 x hx] at hv; exact (hm v hv).2.2.2.2.1)
  have hvy : varsL (changeN 400 (ren ρ) x) = (varsL x).map ρ := by rw [varsL_400 _ hR, varsN_ren ρ 400 x hx, ← varsL_400 x hx]
  have hDx : VarsB x = distinctL (varsL x) := by unfold VarsB; rw [if_pos hx]
  have hDy : VarsB (changeN 400 (ren ρ) x) = (VarsB x).map ρ := by
    unfold VarsB
    rw [if_pos hR, if_pos hx, hvy, distinct_map ρ _ hinj]
  obtain ⟨a1, a2, a3, a4⟩ := sch_facts x hx (fun v hv => by have := hm v hv; omega)
  obtain ⟨b1, b2, b3, b4⟩ := sch_facts (changeN 400 (ren ρ) x) hR (fun v hv => by
    rw [hvy] at hv
    obtain ⟨w, hw, rfl⟩ := List.mem_map.1 hv
    have := hm w hw
    omega)
  have hT : schT (changeN 400 (ren ρ) x) = schT x := by
    rw [b2, a2, hDy, ren_ren ρ _ 400 x (dep_of_right 400 x hx)]
    refine changeN_congr _ _ 400 x (fun v _ hv => ?_)
    rw [← varsL_400 x hx] at hv
    unfold ren
    have hmD : v.f1 ∈ VarsB x := by rw [hDx]; exact (mem_distinct _ _).2 hv
    dsimp only
    rw [posI_map ρ (VarsB x) v.f1 hmD (fun w hw e => hinj w v.f1 ((mem_distinct _ _).1 (by rw [hDx] at hw; exact hw)) hv e)]
  have hV : schV (changeN 400 (ren ρ) x) = schV x := by rw [b1, a1, hDy, List.length_map]
  rw [hT, hV]
  exact ⟨rfl, sameB_self _, a4, a4, a1⟩
/-- What is put in renames. -/
theorem sub_facts (x : S31) (hx : rightB 400 x = true) (ρ : Int → Int) (l : List S31) (hm : ∀ v, v ∈ varsL x → 0 ≤ v ∧ v < (l.length : Int) ∧ l.getD v.toNat z31 = ⟨1, ρ v, ⟨#[]⟩, []⟩ ∧ 0 ≤ ρ v) :
    rightB 400 (substB x l) = true ∧ varsL (substB x l) = (varsL x).map ρ := by
  have hy : substB x l = changeN 400 (ren ρ) x := by
    unfold substB
    rw [if_pos hx]
    refine changeN_congr _ _ 400 x (fun v _ hv => ?_)
    rw [← varsL_400 x hx] at hv
    obtain ⟨h1, h3, h4, _⟩ := hm v.f1 hv
    unfold subV ren
    rw [if_neg (by omega), h4]
  rw [hy]
  have hR : rightB 400 (changeN 400 (ren ρ) x) = true := rightB_ren ρ 400 x hx (fun v hv => by rw [← varsL_400 x hx] at hv; exact (hm v hv).2.2.2)
  exact ⟨hR, by rw [varsL_400 _ hR, varsN_ren ρ 400 x hx, ← varsL_400 x hx]⟩
theorem vars_nonneg : ∀ (n : Nat) (x : S31), rightB n x = true → ∀ v, v ∈ varsN n x → 0 ≤ v
  | 0, _, h, _, _ => by cases h
  | n + 1, x, h, v, hv => by
    obtain ⟨h1, h2⟩ := rightB_part h
    rw [varsN_succ] at hv
    rcases List.mem_append.1 hv with h3 | h3
    · split at h3
      · rename_i e
        rw [List.mem_singleton] at h3
        rw [h3]
        exact (fits_var h1 e).1
      · simp at h3
    · obtain ⟨y, hy, hm⟩ := List.mem_flatMap.1 h3
      exact vars_nonneg n y (h2 y hy) v hm
theorem le_great (l : List Int) (v : Int) (h : v ∈ l) : v ≤ greatL l := by
  have : ∀ (l : List Int) (a : Int), a ≤ l.foldl max a ∧ ∀ v, v ∈ l → v ≤ l.foldl max a := by
    intro l
    induction l with
    | nil => intro a; exact ⟨Int.le_refl _, fun v hv => by simp at hv⟩
    | cons x l ih =>
      intro a
      obtain ⟨h1, h2⟩ := ih (max a x)
      refine ⟨Int.le_trans (Int.le_max_left a x) h1, fun v hv => ?_⟩
      rcases List.mem_cons.1 hv with rfl | hv
      · exact Int.le_trans (Int.le_max_right a v) h1
      · exact h2 v hv
  exact (this l (-1)).2 v h
end Go.Proofs.YtddmdiaopaoekaaDoor.P
