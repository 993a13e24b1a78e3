-- of the words of the kit's print (print.sh with OWN=1) those that this seat's claims use; left out by this session's wip/tools/prune.py
import Derived.Test.YtddmdiaopaoekaaDoorWWords
import Derived.Laws.StructEq
namespace Go.Proofs.YtddmdiaopaoekaaDoorW.PrintWords
open Go.RowKit
section
variable {P : Program} {d : Nat} {xs ys : Array Value} {f : Field} {fs : List Field} {a b : Value} {r s : Bool} {w : World}
end
end Go.Proofs.YtddmdiaopaoekaaDoorW.PrintWords
