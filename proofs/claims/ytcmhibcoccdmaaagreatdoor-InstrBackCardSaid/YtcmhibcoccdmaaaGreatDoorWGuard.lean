-- of the words of the kit's print (print.sh with OWN=1) those that this seat's claims use; left out by this session's wip/tools/prune.py
import Derived.Test.YtcmhibcoccdmaaaGreatDoorWWords
namespace Go.Proofs.YtcmhibcoccdmaaaGreatDoorW.PrintWords
open Go.RowKit
section
variable {P : Program} {ops : Array Oper} {rest : List Oper} {o : Oper} {a : Act} {Q : Exit → Act → World → Prop} {W : World}
end
end Go.Proofs.YtcmhibcoccdmaaaGreatDoorW.PrintWords
