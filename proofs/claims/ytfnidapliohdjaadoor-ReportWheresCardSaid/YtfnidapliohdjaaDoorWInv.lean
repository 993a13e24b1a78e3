-- of the words of the kit's print (print.sh with OWN=1) those that this seat's claims use; left out by this session's wip/tools/prune.py
import Derived.Test.YtfnidapliohdjaaDoorWTab
namespace Go.Proofs.YtfnidapliohdjaaDoorW.PrintLast
section
variable {P : Program} {ops : Array Oper} {Q : Exit → Act → World → Prop} {md : Region.Mode} {T : Bool × List (List Nat × List Nat)} {B : List Nat} {O : List Nat} {b : Nat → Bool} {i j n : Nat}
end
end Go.Proofs.YtfnidapliohdjaaDoorW.PrintLast
