/- What TypesAnew's walk asks of the plain law, in one sentence. -/
import Derived.Test.YtddmdiaopaoekaaDoorPlC
import Derived.Test.YtddmdiaopaoekaaDoorTyZ
namespace Go.Proofs.YtddmdiaopaoekaaDoor.P
open Go.RowKit Go.Proofs.YtddmdiaopaoekaaDoorW.PrintWords
set_option linter.unusedVariables false
theorem wf_in (v : Int) (h1 : 0 ≤ v) (h2 : v ≤ 1000000) : (Lit.int .i64 v).wf = true := by
  have h3 : ((v.toNat : Nat) : Int) = v := by omega
  have := wf_small v.toNat (by omega)
  rwa [h3] at this
theorem sch_vars (x : S31) (hx : rightB 400 x = true) : rightB 400 (schT x) = true ∧ varsL (schT x) = (varsL x).map (posI (VarsB x)) := by
  have hT : schT x = changeN 400 (ren (posI (VarsB x))) x := by unfold schT; rw [if_pos hx, anewV_ren]
  have hR : rightB 400 (schT x) = true := by rw [hT]; exact rightB_ren _ 400 x hx (fun v _ => posI_nonneg _ _)
  exact ⟨hR, by rw [varsL_400 _ hR, hT, varsN_ren _ 400 x hx, ← varsL_400 x hx]⟩
theorem len_vars (x : S31) : (VarsB x).length ≤ (varsL x).length := by
  unfold VarsB
  split
  · exact length_distinct _
  · simp
theorem sch_small (x : S31) (hx : rightB 400 x = true) (hl : (varsL x).length ≤ 1000) : (∀ v, v ∈ varsL (schT x) → (Lit.int .i64 v).wf = true) ∧ (varsL (schT x)).length = (varsL x).length := by
  obtain ⟨_, h⟩ := sch_vars x hx
  rw [h]
  refine ⟨fun v hv => ?_, by simp⟩
  obtain ⟨w, hw, rfl⟩ := List.mem_map.1 hv
  have hm : w ∈ VarsB x := by unfold VarsB; rw [if_pos hx]; exact (mem_distinct _ _).2 hw
  have h1 := posI_lt _ _ hm
  have h2 := posI_nonneg (VarsB x) w
  have h3 := len_vars x
  exact wf_in _ h2 (by omega)
theorem anew_all (t : S31) (hx : rightB 400 t = true) (by_ : Int) (hby : 0 ≤ by_ ∧ by_ < 50) (ls : List S31) (hg : greatL (VarsB t) ≤ 100) (hLL : ∀ v : Int, 0 ≤ v → v ≤ greatL (VarsB t) → v < (ls.length : Int) ∧ ls.getD v.toNat z31 = ⟨1, greatL (VarsB t) - v + by_, ⟨#[]⟩, []⟩) (hvl : (varsL t).length ≤ 400) :
    ((∀ v, v ∈ varsL (substB t ls) → (Lit.int .i64 v).wf = true) ∧ (varsL (substB t ls)).length ≤ 400 ∧ eachV (fun v => (Lit.int .i64 v.f1).wf = true) 400 (substB t ls)) ∧
    ((∀ v, v ∈ varsL (schT t) → (Lit.int .i64 v).wf = true) ∧ (varsL (schT t)).length ≤ 400) ∧
    ((∀ v, v ∈ varsL (schT (substB t ls)) → (Lit.int .i64 v).wf = true) ∧ (varsL (schT (substB t ls))).length ≤ 400) ∧
    schV t = schV (substB t ls) ∧ sameB (schT t) (schT (substB t ls)) = true ∧ moreB (schV t) (schT t) (schV (substB t ls)) (schT (substB t ls)) = true ∧ moreB (schV (substB t ls)) (schT (substB t ls)) (schV t) (schT t) = true ∧ schV t = ((VarsB t).length : Int) := by
  have hmem : ∀ v, v ∈ varsL t → v ∈ VarsB t := fun v hv => by unfold VarsB; rw [if_pos hx]; exact (mem_distinct _ _).2 hv
  have hb : ∀ v, v ∈ varsL t → 0 ≤ v ∧ v ≤ greatL (VarsB t) := fun v hv => ⟨vars_nonneg 400 t hx v (by rw [← varsL_400 t hx]; exact hv), le_great _ _ (hmem v hv)⟩
  obtain ⟨hR, hV⟩ := sub_facts t hx (fun v => greatL (VarsB t) - v + by_) ls (fun v hv => by
    obtain ⟨h1, h2⟩ := hb v hv
    obtain ⟨h3, h4⟩ := hLL v h1 h2
    exact ⟨h1, h3, h4, by omega⟩)
  have hl : (varsL (substB t ls)).length ≤ 400 := by rw [hV, List.length_map]; exact hvl
  have hw : ∀ v, v ∈ varsL (substB t ls) → (Lit.int .i64 v).wf = true := fun v hv => by
    rw [hV] at hv
    obtain ⟨u, hu, rfl⟩ := List.mem_map.1 hv
    obtain ⟨h1, h2⟩ := hb u hu
    exact wf_in _ (by omega) (by omega)
  obtain ⟨s1, s2⟩ := sch_small t hx (by omega)
  obtain ⟨s3, s4⟩ := sch_small (substB t ls) hR (by omega)
  refine ⟨⟨hw, hl, eachV_vars (fun v => (Lit.int .i64 v).wf = true) 400 _ (fun v hv => hw v (by rw [varsL_400 _ hR]; exact hv))⟩, ⟨s1, by omega⟩, ⟨s3, by omega⟩, ?_⟩
  exact anew_law t hx (fun v => greatL (VarsB t) - v + by_) ls (fun v hv => by
    obtain ⟨h1, h2⟩ := hb v hv
    obtain ⟨h3, h4⟩ := hLL v h1 h2
    exact ⟨h1, by omega, h3, h4, by omega, by omega⟩) (fun v w _ _ e => by omega)
end Go.Proofs.YtddmdiaopaoekaaDoor.P
