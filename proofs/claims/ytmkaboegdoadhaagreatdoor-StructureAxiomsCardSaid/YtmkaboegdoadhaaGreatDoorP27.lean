/- A part of the proof; shortened by program. -/
import Derived.Test.YtmkaboegdoadhaaGreatDoorP26
set_option maxRecDepth 100000
set_option maxHeartbeats 4000000
set_option linter.all false
namespace Go.AM
open Go Go.Proofs
section
variable {E:aZ}{ρ:Ad}{J:F}{Rr:bP}{t ty:Nat}{x:Operand}
end
section
variable {E:aZ}{ops:Array Oper}{Rr:bP}
end
section
variable {E:aZ}{J U:F}
end
section
variable {E:aZ}{ops:List Oper}{Rr:bP}{T:Nat->Tr I}{V:Nat->I}{b:List Nat}
end
section
variable {E:aZ}{nt B:Nat}{df:List (Nat×List I)}{ρ:Ad}{J:F}{K:Ad->F->Prop}
end
end Go.AM

