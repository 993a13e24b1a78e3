/- TokenScans, the plain law: the program's scan and the document's tell the same. -/
import Derived.Test.YtiioanpmfpefcaaDoorPx10
import Derived.Test.YtiioanpmfpefcaaDoorPurH
namespace Go.Proofs.YtiioanpmfpefcaaDoor.Pure
open Go.RowKit Go.Proofs.YtiioanpmfpefcaaDoor.P Go.Proofs.YtiioanpmfpefcaaDoorW.PrintWords Go.Proofs.YtiioanpmfpefcaaDoorW.PrintLast Go.Proofs.YtiioanpmfpefcaaDoor.Pur

theorem TokenScans : hammocklaw02_TokenScans.Pure := by
  intro a0 hs
  refine ⟨a0.size * (a0.size + 50) + 7 * a0.size + 30000, ?_⟩
  unfold hammocklaw02_TokenScans.f
  by_cases hbig : (a0.size : Int) > 3000
  · rw [if_pos hbig, knows_ok]; rfl
  · rw [if_neg hbig]
    have h1 : token_Scan.f a0 = some (scanL a0.data.toList) := by unfold token_Scan.f; rw [if_pos (by omega)]
    have hl := scanL_len a0.data.toList
    rw [h1, rscan_f a0 (by omega) _ (by omega)]
    simp only [Option.bind_some]
    rw [rsame_f _ (by omega) _ (by omega)]
    simp only [Option.bind_some, if_true, hammocklaw02_num.f]
    rw [knows_ok]
    rfl

end Go.Proofs.YtiioanpmfpefcaaDoor.Pure
