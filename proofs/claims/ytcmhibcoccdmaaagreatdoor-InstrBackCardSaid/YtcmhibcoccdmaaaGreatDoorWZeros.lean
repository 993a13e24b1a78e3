-- of the words of the kit's print (print.sh with OWN=1) those that this seat's claims use; left out by this session's wip/tools/prune.py
import Derived.Test.YtcmhibcoccdmaaaGreatDoorWApart
import Derived.Test.YtcmhibcoccdmaaaGreatDoorWArr
namespace Go.Proofs.YtcmhibcoccdmaaaGreatDoorW.PrintWords
open Go.RowKit
section
variable {P : Program}
end
namespace Kd
section
variable {P : Program} {ops : Array Oper} {rest : List Oper} {o : Oper} {a : Act} {Q : Exit → Act → World → Prop} {Kc : Act → World → Prop} {α : Type}
end
section
variable {α : Type} {d : Kd α} {e : Nat} {w : World} {base : Nat} {ok : Nat → Prop} {v : Value} {xs : List α}
end
section
variable {P : Program} {ops : Array Oper} {rest : List Oper} {o : Oper} {a : Act} {Q : Exit → Act → World → Prop} {Kc : Act → World → Prop} {α : Type}
end
end Kd
end Go.Proofs.YtcmhibcoccdmaaaGreatDoorW.PrintWords
