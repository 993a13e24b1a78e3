import Derived.Test.YtddmdiaopaoekaaDoorPlA
import Derived.Test.YtddmdiaopaoekaaDoorTyZ
import Derived.Test.YtddmdiaopaoekaaDoorPx5
namespace Go.Proofs.YtddmdiaopaoekaaDoor.P
open Go.RowKit Go.Proofs.YtddmdiaopaoekaaDoorW.PrintWords
set_option linter.unusedVariables false
theorem len_vars (x : S31) : (VarsB x).length ≤ (varsL x).length := by
  unfold VarsB
  split
  · exact length_distinct _
  · simp
end Go.Proofs.YtddmdiaopaoekaaDoor.P
namespace Go.Proofs.YtddmdiaopaoekaaDoor.P
open Go.RowKit Go.Proofs.YtddmdiaopaoekaaDoorW.PrintWords
set_option linter.unusedVariables false
end Go.Proofs.YtddmdiaopaoekaaDoor.P
namespace Go.Proofs.YtddmdiaopaoekaaDoor.P
open Go.RowKit Go.Proofs.YtddmdiaopaoekaaDoorW.PrintWords
set_option linter.unusedVariables false
theorem owns_ex (l : List S24) (hl : l.length ≤ 1000) (h : ∀ y, y ∈ l → few24 400 y) : ∃ k, hammocklaw09_owns.f k l = some (l.map (ownN 400)) := by
  have loop : ∀ (d : Nat) (acc : List S31), d ≤ l.length → acc.length = l.length - d → ∃ k, hammocklaw09_owns.l0 k l acc ((l.length - d : Nat) : Int) = some (acc ++ (l.drop (l.length - d)).map (ownN 400)) := by
    intro d
    induction d with
    | zero =>
      intro acc _ _
      refine ⟨1, ?_⟩
      rw [hammocklaw09_owns.l0, if_neg (by omega)]
      simp
    | succ d ih =>
      intro acc hd ha
      have hj : l.length - (d + 1) < l.length := by omega
      obtain ⟨k1, hk1⟩ := own_ex 400 l[l.length - (d + 1)] (h _ (List.getElem_mem hj))
      obtain ⟨k2, hk2⟩ := ih (acc ++ [ownN 400 l[l.length - (d + 1)]]) (by omega) (by rw [List.length_append]; simp; omega)
      refine ⟨max k1 k2 + 1, ?_⟩
      rw [hammocklaw09_owns.l0, if_pos (by omega), if_pos (by omega)]
      have e1 : rd_T24 l ((l.length - (d + 1) : Nat) : Int) = l[l.length - (d + 1)] := by
        rw [rd24]
        simp [List.getD_eq_getElem?_getD, hj]
      rw [e1, leO_up (fun k => hammocklaw09_Own.mono _ _ _ _ k) (Nat.le_max_left k1 k2) hk1]
      rw [Option.bind_some, if_pos (by omega), wrap_succ _ (by omega)]
      have e2 : l.length - (d + 1) + 1 = l.length - d := by omega
      rw [e2]
      have hk3 := leO_up (f := fun k => hammocklaw09_owns.l0 k l (acc ++ [ownN 400 l[l.length - (d + 1)]]) ((l.length - d : Nat) : Int)) (fun k => (hammocklaw09_owns.mono_l k) _ _ _) (Nat.le_max_right k1 k2) hk2
      rw [st_eta]
      refine hk3.trans ?_
      have e3 : (l.drop (l.length - (d + 1))) = l[l.length - (d + 1)] :: l.drop (l.length - d) := by
        rw [List.drop_eq_getElem_cons hj, e2]
      rw [e3]
      simp
  obtain ⟨k, hk⟩ := loop l.length [] (Nat.le_refl _) (by simp)
  refine ⟨k, ?_⟩
  unfold hammocklaw09_owns.f
  simpa using hk
theorem sum_mem {α : Type} (f : α → Nat) : ∀ (l : List α) (y : α), y ∈ l → f y ≤ (l.map f).sum
  | [], _, h => by simp at h
  | z :: l, y, h => by
    rw [List.map_cons, List.sum_cons]
    rcases List.mem_cons.1 h with rfl | h
    · omega
    · have := sum_mem f l y h; omega
end Go.Proofs.YtddmdiaopaoekaaDoor.P
