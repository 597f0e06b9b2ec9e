/- A part of the proof; shortened by program. -/
import Derived.Test.YtadnlmhnjfmleaaGreatDoorP26
set_option maxRecDepth 100000
set_option maxHeartbeats 4000000
set_option linter.unusedSimpArgs false
set_option linter.unusedVariables false
namespace Go.AM
open Go Go.Proofs
def a581 : List AV := [xDb,(.sv [(.str [124,45]),(.str [120]),(.str [61]),(.str [121])] 1 4 (some 4))]
def u581 : AV := (.tup [(.agg [(.str [119,101,113]),(.sv [(.str [118,120]),(.nil (.slice none 0 0)),(.str [118,121]),(.nil (.slice none 0 0))] 2 2 none)]),(.int .i64 0)])
theorem At2 : fzR 12 u581 (Dy EB 1000 100 (.fn 58) a581 ⟨.e,0⟩) = true := Kr
theorem m581 : A7 EB 58 (Lb a581 u581) := Ye (recB 1000 100) (fun g cs h => Do g cs h) rfl Kr Kr At2
end Go.AM
