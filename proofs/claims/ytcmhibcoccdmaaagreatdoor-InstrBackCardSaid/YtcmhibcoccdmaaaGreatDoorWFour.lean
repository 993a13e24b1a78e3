-- of the words of the kit's print (print.sh with OWN=1) those that this seat's claims use; left out by this session's wip/tools/prune.py
import Derived.Test.YtcmhibcoccdmaaaGreatDoorWTab
namespace Go.Proofs.YtcmhibcoccdmaaaGreatDoorW.PrintLast
section
variable {P : Program} {ops : Array Oper} {Q : Exit → Act → World → Prop} {md : Region.Mode} {S : World → Prop} {ds : List Nat} {T : Bool × List (List Nat × List Nat)}
end
end Go.Proofs.YtcmhibcoccdmaaaGreatDoorW.PrintLast
