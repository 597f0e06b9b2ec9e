/- A part of the proof; shortened by program. -/
import Derived.Test.YtadnlmhnjfmleaaGreatDoorP33
set_option maxRecDepth 100000
set_option maxHeartbeats 4000000
set_option linter.unusedSimpArgs false
set_option linter.unusedVariables false
namespace Go.AM
open Go Go.Proofs
def a580 : List AV := [xDb,(.sv [(.str [124,45]),(.str [65,46]),(.str [120]),(.str [120]),(.str [61]),(.str [120])] 1 6 (some 6))]
def u580 : AV := (.tup [(.agg [(.str [119,97,108]),(.sv [(.str [118,120]),(.nil (.slice none 0 0)),(.str [119,101,113]),(.sv [(.str [118,120]),(.nil (.slice none 0 0)),(.str [118,120]),(.nil (.slice none 
 0 0))] 2 2 none)] 2 2 none)]),(.int .i64 0)])
theorem At1 : fzR 12 u580 (Dy EC 1000 100 (.fn 58) a580 ⟨.e,0⟩) = true := Kr
theorem m580 : A7 EC 58 (Lb a580 u580) := Ye (recC 1000 100) (fun g cs h => Do g cs h) rfl Kr Kr At1
end Go.AM
