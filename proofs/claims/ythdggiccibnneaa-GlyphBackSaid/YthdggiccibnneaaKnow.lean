/- What must come of layer 1: 'knows' of the statements answers true. -/
import Derived.Test.YthdggiccibnneaaPx4
namespace Go.Proofs.Ythdggiccibnneaa.P
open Go.RowKit Go.Proofs.YthdggiccibnneaaW.PrintWords

theorem knows_true : hammocklaw01_knows.f 40 = some true := by decide +kernel
end Go.Proofs.Ythdggiccibnneaa.P
