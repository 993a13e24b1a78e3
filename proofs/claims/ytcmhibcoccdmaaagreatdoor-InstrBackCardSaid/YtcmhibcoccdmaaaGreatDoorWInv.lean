-- of the words of the kit's print (print.sh with OWN=1) those that this seat's claims use; left out by this session's wip/tools/prune.py
import Derived.Test.YtcmhibcoccdmaaaGreatDoorWTab
namespace Go.Proofs.YtcmhibcoccdmaaaGreatDoorW.PrintLast
/-- Number i is listed too. -/
def up (b : Nat → Bool) (i : Nat) : Nat → Bool := fun j => if j = i then true else b j
section
variable {P : Program} {ops : Array Oper} {Q : Exit → Act → World → Prop} {md : Region.Mode} {T : Bool × List (List Nat × List Nat)} {B : List Nat} {O : List Nat} {b : Nat → Bool} {i j n : Nat}
end
end Go.Proofs.YtcmhibcoccdmaaaGreatDoorW.PrintLast
