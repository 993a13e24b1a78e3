/- What must come: the known fault's text. -/
import Derived.Test.YtfnidapliohdjaaDoorPx5
namespace Go.Proofs.YtfnidapliohdjaaDoor.Pure
open Go.RowKit Go.Proofs.YtfnidapliohdjaaDoor.P Go.Proofs.YtfnidapliohdjaaDoorW.PrintWords
theorem knows_ok : hammocklaw28_knows.f = some true := by decide +kernel
end Go.Proofs.YtfnidapliohdjaaDoor.Pure
