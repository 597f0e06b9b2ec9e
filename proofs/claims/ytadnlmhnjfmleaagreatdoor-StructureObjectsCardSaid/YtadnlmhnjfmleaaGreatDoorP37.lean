/- A part of the proof; shortened by program. -/
import Derived.Test.YtadnlmhnjfmleaaGreatDoorP26
set_option maxRecDepth 100000
set_option maxHeartbeats 4000000
set_option linter.unusedSimpArgs false
set_option linter.unusedVariables false
namespace Go.AM
open Go Go.Proofs
def a583 : List AV := [xDb,(.sv [(.str [124,45]),(.str [65,46]),(.str [120]),(.str [112,104])] 1 4 (some 4))]
def u583 : AV := (.tup [(.agg [(.str [119,97,108]),(.sv [(.str [118,120]),(.nil (.slice none 0 0)),(.str [119,112,104]),(.nil (.slice none 0 0))] 2 2 none)]),(.int .i64 0)])
theorem At4 : fzR 12 u583 (Dy EB 1000 100 (.fn 58) a583 ⟨.e,0⟩) = true := Kr
theorem m583 : A7 EB 58 (Lb a583 u583) := Ye (recB 1000 100) (fun g cs h => Do g cs h) rfl Kr Kr At4
end Go.AM
