import Derived.Test.YtddmdiaopaoekaaDoorPlM
import Derived.Test.YtddmdiaopaoekaaDoorRfT
namespace Go.Proofs.YtddmdiaopaoekaaDoor.P
open Go.RowKit Go.Proofs.YtddmdiaopaoekaaDoorW.PrintWords
set_option linter.unusedVariables false
def few72 : Nat → S72_ → Prop
  | 0, _ => False
  | n + 1, x => x.f3.length ≤ 1000 ∧ ∀ y, y ∈ x.f3 → few72 n y
theorem treeN_few : ∀ (n : Nat) (x : T24), few24 n x → few72 n (treeN n (ownN n x))
  | 0, _, h => h
  | n + 1, x, h => ⟨by show ((x.f3.map (ownN n)).map (treeN n)).length ≤ 1000; rw [List.length_map, List.length_map]; exact h.1, fun y hy => by
    obtain ⟨z, hz, rfl⟩ := List.mem_map.1 (show y ∈ (x.f3.map (ownN n)).map (treeN n) from hy)
    obtain ⟨u, hu, rfl⟩ := List.mem_map.1 hz
    exact treeN_few n u (h.2 u hu)⟩
theorem rd72_at (xs : List S72_) (j : Nat) (hj : j < xs.length) : rd_T72 xs (j : Int) = xs[j] := by
  show xs.getD ((j : Int)).toNat z72 = _
  rw [Int.toNat_natCast, List.getD_eq_getElem?_getD, List.getElem?_eq_getElem hj]
  rfl
theorem refT_ex : ∀ (n : Nat) (x : S72_), few72 n x → ∃ k, hammocklaw03_RefType.f k x.f0 x.f1 x.f2 x.f3 = some ((refT n x).f0, (refT n x).f1, (refT n x).f2, (refT n x).f3)
  | 0, _, h => h.elim
  | n + 1, x, h => by
    obtain ⟨k, hk⟩ := map_loop (fun k (y : S72_) => hammocklaw03_RefType.f k y.f0 y.f1 y.f2 y.f3) (fun bt => (⟨bt.1, bt.2.1, bt.2.2.1, bt.2.2.2⟩ : S68_)) (fun k j acc => hammocklaw03_refTypes.l0 k x.f3 acc j) (fun acc => acc) x.f3 (refT n) h.1
      (fun k y => (hammocklaw03_refTypes.mono_l k).2 _ _ _ _) (fun k j acc => (hammocklaw03_refTypes.mono_l k).1 _ _ _)
      (fun k j acc hj ha => by
        show hammocklaw03_refTypes.l0 (k + 1) x.f3 acc (j : Int) = _
        rw [hammocklaw03_refTypes.l0, if_pos (by omega), if_pos (by omega), rd72_at _ _ hj, wrap_succ _ (by have := h.1; omega)]
        congr 1
        funext r
        rw [if_pos (by omega)])
      (fun k acc => by
        show hammocklaw03_refTypes.l0 (k + 1) x.f3 acc (x.f3.length : Int) = _
        rw [hammocklaw03_refTypes.l0, if_neg (by omega)])
      (fun y hy => by
        obtain ⟨k, hk⟩ := refT_ex n y (h.2 y hy)
        exact ⟨k, _, hk, s68_eta _⟩)
    have hk' : hammocklaw03_refTypes.l0 k x.f3 [] 0 = some (x.f3.map (refT n)) := hk
    refine ⟨k + 1, ?_⟩
    rw [hammocklaw03_RefType.f, hk']
    rfl
def zero72 : S72_ := ⟨0, 0, ⟨#[]⟩, []⟩
/-- The program's Tree. -/
noncomputable def pTree (x : T24) : S72_ := if rightB 400 (ownN 400 x) = true then treeN 400 (ownN 400 x) else zero72
theorem pTree_ex (x : T24) (hv : ∀ v, v ∈ varsN 400 (ownN 400 x) → v ≤ 9223372036854775807) : ∃ k, types_Tree.f k (ownN 400 x).f0 (ownN 400 x).f1 (ownN 400 x).f2 (ownN 400 x).f3 = some ((pTree x).f0, (pTree x).f1, (pTree x).f2, (pTree x).f3) := by
  unfold pTree
  by_cases h : rightB 400 (ownN 400 x) = true
  · rw [if_pos h]
    exact Tree_ex (ownN 400 x) h hv
  · rw [if_neg h]
    refine ⟨0, ?_⟩
    unfold types_Tree.f
    have hr : types_Right.f (ownN 400 x).f0 (ownN 400 x).f1 (ownN 400 x).f2 (ownN 400 x).f3 = some false := by unfold types_Right.f; exact congrArg some (by rw [st_eta]; simpa using h)
    rw [hr, Option.bind_some, if_neg (by simp)]
    rfl
theorem pRef_ex (x : T24) (hx : few24 400 x) : ∃ k, hammocklaw03_RefType.f k (pTree x).f0 (pTree x).f1 (pTree x).f2 (pTree x).f3 = some ((rTree x).f0, (rTree x).f1, (rTree x).f2, (rTree x).f3) := by
  unfold pTree rTree
  by_cases h : rightB 400 (ownN 400 x) = true
  · rw [if_pos h, if_pos h]
    obtain ⟨k, hk⟩ := refT_ex 400 _ (treeN_few 400 x hx)
    rw [ref_tree] at hk
    exact ⟨k, hk⟩
  · rw [if_neg h, if_neg h]
    obtain ⟨k, hk⟩ := refT_ex 1 zero72 ⟨by simp [zero72], fun y hy => by simp [zero72] at hy⟩
    exact ⟨k, hk⟩
end Go.Proofs.YtddmdiaopaoekaaDoor.P
