-- of the words of the kit's print (print.sh with OWN=1) those that this seat's claims use; left out by this session's wip/tools/prune.py
import Derived.Test.YtcmhibcoccdmaaaGreatDoorWLast
import Derived.Test.YtcmhibcoccdmaaaGreatDoorWWords
namespace Go.Proofs.YtcmhibcoccdmaaaGreatDoorW.PrintLast
open Go.Proofs.YtcmhibcoccdmaaaGreatDoorW.PrintWords (Aside0)
section
variable {md : Region.Mode} {ops : Array Oper} {T : Bool × List (List Nat × List Nat)} {l l' li lj lk : Array Bool} {ds : List Nat} {i j k : Nat}
end
end Go.Proofs.YtcmhibcoccdmaaaGreatDoorW.PrintLast
