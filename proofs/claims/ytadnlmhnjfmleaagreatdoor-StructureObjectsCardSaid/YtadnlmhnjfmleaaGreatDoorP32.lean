/- A part of the proof; shortened by program. -/
import Derived.Test.YtadnlmhnjfmleaaGreatDoorP31
set_option maxRecDepth 100000
set_option maxHeartbeats 4000000
set_option linter.unusedSimpArgs false
set_option linter.unusedVariables false
namespace Go.AM
open Go Go.Proofs
def a72 : List AV := [xGr,(.str [119,102,102]),(.sv [(.str [65,46]),(.str [120]),(.str [120]),(.str [61]),(.str [120])] 1 5 (some 5))]
def v72 : AV := (.tup [(.agg [(.sr 0 0 4 5 none)]),(.int .i64 0)])
def o72 : List AO := [(.cells [(.str [119,102,102]),(.int .i64 0),(.int .i64 5),(.sr 1 0 2 1 none),(.str [115,101,116,118,97,114]),(.int .i64 1),(.int .i64 2),(.sr 2 0 2 1 none),(.str [119,102,102]),
 (.int .i64 2),(.int .i64 5),(.sr 3 0 2 1 none),(.str [115,101,116,118,97,114]),(.int .i64 2),(.int .i64 3),(.sr 4 0 2 1 none),(.str [115,101,116,118,97,114]),(.int .i64 4),(.int 
 .i64 5),(.sr 5 0 2 1 none)]),(.cells [(.int .i64 4),(.sr 6 0 1 2 none)]),(.cells [(.int .i64 0),(.nil (.slice none 0 0))]),(.cells [(.int .i64 3),(.sr 7 0 1 2 none)]),(.cells [(.int .i64 0),
 (.nil (.slice none 0 0))]),(.cells [(.int .i64 0),(.nil (.slice none 0 0))]),(.cells [(.int .i64 1),(.int .i64 2)]),(.cells [(.int .i64 3),(.int .i64 4)])]
theorem run72 : Sg [347,113,157,233,293,331,112,232] (Dy ED 1000 100 (.fn 72) a72 ⟨.e,0⟩) = some (v72,o72) := Kr
theorem m72 : A7 ED 72 (Fx a72 v72 o72) := Gd (recD 1000 100) (fun g cs h => Do g cs h) rfl Kr (by decide) run72
end Go.AM
