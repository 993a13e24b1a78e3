import Derived.Test.YtddmdiaopaoekaaDoorPlG
import Derived.Test.YtddmdiaopaoekaaDoorPx20
import Derived.Lib.SlicesS
import Derived.Test.YtddmdiaopaoekaaDoorTyO
import Derived.Laws.EntriesVeiled
import Derived.Deep.Onto
import Derived.Test.YtddmdiaopaoekaaDoorLaA
import Derived.Lib.ItoaLen
namespace Go.Proofs.YtddmdiaopaoekaaDoor.P
open Go.RowKit Go.Proofs.YtddmdiaopaoekaaDoorW.PrintWords
set_option linter.unusedVariables false
abbrev S72_ := S72
def treeN : Nat → S31 → S72_
  | 0, x => ⟨x.f0, 0, x.f2, []⟩
  | n + 1, x => ⟨x.f0, 0, if x.f0 = 1 then ⟨(letterL x.f1).toArray⟩ else x.f2, x.f3.map (treeN n)⟩
theorem tree_ex : ∀ (n : Nat) (x : S31), fewN n x → (∀ v, v ∈ varsN n x → 0 ≤ v ∧ v ≤ 9223372036854775807) → ∃ k, types_Type_tree.f k x.f0 x.f1 x.f2 x.f3 = some ((treeN n x).f0, (treeN n x).f1, (treeN n x).f2, (treeN n x).f3)
  | 0, _, h, _ => h.elim
  | n + 1, x, h, hv => by
    have hl : x.f3.length ≤ 1000 := h.1
    have ev : varsN (n + 1) x = (if x.f0 = 1 then [x.f1] else []) ++ x.f3.flatMap (varsN n) := rfl
    have loop : ∀ (nm : ByteArray) (d : Nat) (acc : List S72_), d ≤ x.f3.length → acc = (x.f3.take (x.f3.length - d)).map (treeN n) → ∃ k, types_Type_tree.l0 k x.f3 (x.f3.length : Int) ((x.f3.length - d : Nat) : Int) x.f0 0 nm acc = some (x.f0, 0, nm, x.f3.map (treeN n)) := by
      intro nm d
      induction d with
      | zero =>
        intro acc _ ha
        refine ⟨1, ?_⟩
        rw [types_Type_tree.l0, if_neg (by omega), ha]
        simp
      | succ d ih =>
        intro acc hd ha
        have hj : x.f3.length - (d + 1) < x.f3.length := by omega
        have e2 : x.f3.length - (d + 1) + 1 = x.f3.length - d := by omega
        obtain ⟨k1, hk1⟩ := tree_ex n x.f3[x.f3.length - (d + 1)] (h.2 _ (List.getElem_mem hj)) (fun v hm => hv v (by rw [ev]; exact List.mem_append_right _ (List.mem_flatMap.2 ⟨_, List.getElem_mem hj, hm⟩)))
        obtain ⟨k2, hk2⟩ := ih (acc ++ [treeN n x.f3[x.f3.length - (d + 1)]]) (by omega) (by rw [ha, ← e2, List.take_succ_eq_append_getElem hj, List.map_append]; rfl)
        refine ⟨max k1 k2 + 1, ?_⟩
        have r1 : rd_T31 x.f3 ((x.f3.length - (d + 1) : Nat) : Int) = x.f3[x.f3.length - (d + 1)] := by
          show x.f3.getD (((x.f3.length - (d + 1) : Nat) : Int)).toNat z31 = _
          rw [Int.toNat_natCast, List.getD_eq_getElem?_getD, List.getElem?_eq_getElem hj]
          rfl
        generalize x.f3[x.f3.length - (d + 1)] = y at hk1 hk2 r1
        generalize treeN n y = z at hk1 hk2
        obtain ⟨z0, z1, z2, z3⟩ := z
        have hk3 := leO_up (f := fun k => types_Type_tree.f k y.f0 y.f1 y.f2 y.f3) (fun k => (types_Type_tree.mono_l k).1 _ _ _ _) (Nat.le_max_left k1 k2) hk1
        have hk4 := leO_up (f := fun k => types_Type_tree.l0 k x.f3 (x.f3.length : Int) ((x.f3.length - d : Nat) : Int) x.f0 0 nm (acc ++ [(⟨z0, z1, z2, z3⟩ : S72_)])) (fun k => (types_Type_tree.mono_l k).2.2 _ _ _ _ _ _ _) (Nat.le_max_right k1 k2) hk2
        have hal : acc.length < 2513169434916 := by rw [ha, List.length_map, List.length_take]; omega
        rw [types_Type_tree.l0, if_pos (by omega), if_pos (by omega), if_pos (by omega), r1, hk3, Option.bind_some, if_pos hal, wrap_succ _ (by omega), e2]
        exact hk4
    have j0 : ∀ nm : ByteArray, ∃ k, types_Type_tree.j0 k x.f0 x.f1 x.f2 x.f3 x.f0 0 nm = some (x.f0, 0, nm, x.f3.map (treeN n)) := fun nm => by
      obtain ⟨k, hk⟩ := loop nm x.f3.length [] (Nat.le_refl _) (by simp)
      refine ⟨k + 1, ?_⟩
      rw [types_Type_tree.j0]
      simpa using hk
    by_cases e : x.f0 = 1
    · have hb := hv x.f1 (by rw [ev, if_pos e]; simp)
      obtain ⟨k, hk⟩ := j0 ⟨(letterL x.f1).toArray⟩
      refine ⟨k + 1, ?_⟩
      have el : types_letter.f x.f1 = some ⟨(letterL x.f1).toArray⟩ := by unfold types_letter.f; rw [if_pos hb]
      rw [types_Type_tree.f, if_pos e, el, Option.bind_some, hk]
      show _ = some (x.f0, (0 : Int), (if x.f0 = 1 then (⟨(letterL x.f1).toArray⟩ : ByteArray) else x.f2), x.f3.map (treeN n))
      rw [if_pos e]
    · obtain ⟨k, hk⟩ := j0 x.f2
      refine ⟨k + 1, ?_⟩
      rw [types_Type_tree.f, if_neg e, hk]
      show _ = some (x.f0, (0 : Int), (if x.f0 = 1 then (⟨(letterL x.f1).toArray⟩ : ByteArray) else x.f2), x.f3.map (treeN n))
      rw [if_neg e]
theorem Tree_ex (x : S31) (hx : rightB 400 x = true) (hv : ∀ v, v ∈ varsN 400 x → v ≤ 9223372036854775807) : ∃ k, types_Tree.f k x.f0 x.f1 x.f2 x.f3 = some ((treeN 400 x).f0, (treeN 400 x).f1, (treeN 400 x).f2, (treeN 400 x).f3) := by
  obtain ⟨k, hk⟩ := tree_ex 400 x (few_of_right 400 x hx) (fun v hm => ⟨vars_nonneg 400 x hx v hm, hv v hm⟩)
  refine ⟨k, ?_⟩
  unfold types_Tree.f
  have hr : types_Right.f x.f0 x.f1 x.f2 x.f3 = some true := by unfold types_Right.f; exact congrArg some hx
  rw [hr, Option.bind_some, if_pos rfl, hk]
  rfl
def letB (i : Int) : ByteArray := ⟨(letterL i).toArray⟩
end Go.Proofs.YtddmdiaopaoekaaDoor.P
namespace Go.Proofs.YtddmdiaopaoekaaDoor.P
open Go.RowKit Go.Proofs.YtddmdiaopaoekaaDoorW.PrintWords Go.Proofs.YtddmdiaopaoekaaDoorW.PrintLast Go.Proofs.YtddmdiaopaoekaaDoor.Rw
set_option linter.unusedVariables false
set_option linter.unusedSimpArgs false
end Go.Proofs.YtddmdiaopaoekaaDoor.P
namespace Go.Proofs.YtddmdiaopaoekaaDoor.P
open Go.RowKit Go.Shelf Go.Proofs.YtddmdiaopaoekaaDoorW.PrintWords Go.Proofs.YtddmdiaopaoekaaDoorW.PrintLast Go.Proofs.YtddmdiaopaoekaaDoor.Rw
set_option linter.unusedVariables false
set_option linter.unusedSimpArgs false
end Go.Proofs.YtddmdiaopaoekaaDoor.P
