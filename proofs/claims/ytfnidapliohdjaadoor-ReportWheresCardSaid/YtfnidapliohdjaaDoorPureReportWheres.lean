/- ReportWheres, plain: any text's line and column are the document's. -/
import Derived.Test.YtfnidapliohdjaaDoorPurN
import Derived.Test.YtfnidapliohdjaaDoorKnow
namespace Go.Proofs.YtfnidapliohdjaaDoor.Pure
open Go.RowKit Go.Proofs.YtfnidapliohdjaaDoor.P Go.Proofs.YtfnidapliohdjaaDoorW.PrintWords
theorem ReportWheres : hammocklaw28_ReportWheres.Pure := by
  intro s hs
  refine ⟨s.size + 1, ?_⟩
  unfold hammocklaw28_ReportWheres.f
  rw [knows_ok]
  by_cases h : (s.size : Int) > 2000
  · rw [if_pos h]; rfl
  · rw [if_neg h, Pur.ref_where s hs _ (Nat.lt_succ_self _)]
    unfold report_Where.f
    rw [if_pos (by omega)]
    simp
end Go.Proofs.YtfnidapliohdjaaDoor.Pure
