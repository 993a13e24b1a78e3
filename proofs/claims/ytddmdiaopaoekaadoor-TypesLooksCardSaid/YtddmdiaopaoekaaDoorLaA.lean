import Derived.Test.YtddmdiaopaoekaaDoorPlG
namespace Go.Proofs.YtddmdiaopaoekaaDoor.P
open Go.RowKit Go.Shelf Go.Proofs.YtddmdiaopaoekaaDoorW.PrintWords Go.Proofs.YtddmdiaopaoekaaDoorW.PrintLast Go.Proofs.YtddmdiaopaoekaaDoor.Rw
set_option linter.unusedVariables false
set_option linter.unusedSimpArgs false
theorem c24_below {w W : World} {A : Option Addr} {xs : List S24} (hC : k24.C w A xs.length xs) (hb : Below w.heap.size w W) : k24.C W A xs.length xs := Kd.C_below hC hb
theorem Right24_ex (x : S24) : ∃ k, hammockref09_Right.f k x.f0 x.f1 x.f2 x.f3 = some (rightB 400 (ownN 400 x)) := by
  obtain ⟨k, hk⟩ := right_ex 400 x (by omega)
  refine ⟨k, ?_⟩
  unfold hammockref09_Right.f
  have : ((400 : Nat) : Int) = 400 := rfl
  rw [this] at hk
  rw [hk]
  rfl
end Go.Proofs.YtddmdiaopaoekaaDoor.P
