/- A part of the proof; shortened by program. -/
import Derived.Test.YtadnlmhnjfmleaaGreatDoorP26
set_option maxRecDepth 100000
set_option maxHeartbeats 4000000
set_option linter.unusedSimpArgs false
set_option linter.unusedVariables false
namespace Go.AM
open Go Go.Proofs
def a582 : List AV := [xDb,(.sv [(.str [124,45]),(.str [112,104])] 1 2 (some 2))]
def u582 : AV := (.tup [(.agg [(.str [119,112,104]),(.nil (.slice none 0 0))]),(.int .i64 0)])
theorem At3 : fzR 12 u582 (Dy EB 1000 100 (.fn 58) a582 ⟨.e,0⟩) = true := Kr
theorem m582 : A7 EB 58 (Lb a582 u582) := Ye (recB 1000 100) (fun g cs h => Do g cs h) rfl Kr Kr At3
end Go.AM
