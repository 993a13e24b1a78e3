-- of the words of the kit's print (print.sh with OWN=1) those that this seat's claims use; left out by this session's wip/tools/prune.py
import Derived.Test.YtcmhibcoccdmaaaGreatDoorWInv
import Derived.Test.YtcmhibcoccdmaaaGreatDoorWFootNe
namespace Go.Proofs.YtcmhibcoccdmaaaGreatDoorW.PrintWords
open Go.RowKit
end Go.Proofs.YtcmhibcoccdmaaaGreatDoorW.PrintWords
namespace Go.Proofs.YtcmhibcoccdmaaaGreatDoorW.PrintLast
section
variable {ops : Array Oper} {a : Act} {o og : Oper} {g : Nat} {t : Tmp} {u : Bool}
end
end Go.Proofs.YtcmhibcoccdmaaaGreatDoorW.PrintLast
