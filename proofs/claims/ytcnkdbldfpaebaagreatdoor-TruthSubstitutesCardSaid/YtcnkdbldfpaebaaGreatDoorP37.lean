/- A part of the proof; shortened by program. -/
import Derived.Test.YtcnkdbldfpaebaaGreatDoorP35
set_option maxRecDepth 100000
set_option maxHeartbeats 4000000
set_option linter.unusedSimpArgs false
set_option linter.unusedVariables false
namespace Go.AM
open Go Go.Proofs
def a23 : List AV := [(.agg [(.sv [(.str [119,102,102]),(.str [124,45]),(.str [40]),(.str [41]),(.str [45,62]),(.str [45,46])] 1 6 (some 6)),(.sv [(.str [112,104]),(.str [112,115]),(.str [99,104])] 1 3 
 (some 3)),(.sv [(.str [119,105]),(.bool false),(.sv [(.str [119,112,104]),(.bool true),(.sv [(.str [119,102,102]),(.str [112,104])] 1 2 (some 2)),(.str [119,112,115]),(.bool true),
 (.sv [(.str [119,102,102]),(.str [112,115])] 1 2 (some 2))] 3 2 (some 2)),(.nil (.slice none 0 0)),(.sv [(.str [119,102,102]),(.str [40]),(.str [112,104]),(.str [45,62]),(.str [112,
 115]),(.str [41])] 1 6 (some 6)),(.sv [(.str [119,99,104]),(.bool true),(.sv [(.str [119,102,102]),(.str [99,104])] 1 2 (some 2))] 3 1 (some 1)),(.nil (.slice none 0 0)),(.nil (.slice none 
 0 0)),(.str [119,110]),(.bool false),(.sv [(.str [119,112,104]),(.bool true),(.sv [(.str [119,102,102]),(.str [112,104])] 1 2 (some 2))] 3 1 (some 1)),(.nil (.slice none 0 0)),(.sv 
 [(.str [119,102,102]),(.str [45,46]),(.str [112,104])] 1 3 (some 3)),(.sv [(.str [119,112,115]),(.bool true),(.sv [(.str [119,102,102]),(.str [112,115])] 1 2 (some 2)),(.str [119,99,
 104]),(.bool true),(.sv [(.str [119,102,102]),(.str [99,104])] 1 2 (some 2))] 3 2 (some 2)),(.nil (.slice none 0 0)),(.nil (.slice none 0 0)),(.str [97,120,45,49]),(.bool false),(.sv 
 [(.str [119,112,104]),(.bool true),(.sv [(.str [119,102,102]),(.str [112,104])] 1 2 (some 2)),(.str [119,112,115]),(.bool true),(.sv [(.str [119,102,102]),(.str [112,115])] 1 2 (some 
 2))] 3 2 (some 2)),(.nil (.slice none 0 0)),(.sv [(.str [124,45]),(.str [40]),(.str [112,104]),(.str [45,62]),(.str [40]),(.str [112,115]),(.str [45,62]),(.str [112,104]),(.str [41]),
 (.str [41])] 1 10 (some 10)),(.sv [(.str [119,99,104]),(.bool true),(.sv [(.str [119,102,102]),(.str [99,104])] 1 2 (some 2))] 3 1 (some 1)),(.nil (.slice none 0 0)),(.nil (.slice none 0 
 0))] 8 3 (some 3))]),(.agg [(.int .i64 2),(.sv [(.int .i64 1)] 1 1 (some 1)),(.sv [(.str [119,105]),(.sv [(.int .i64 1),(.int .i64 1),(.int .i64 0),(.int .i64 1)] 1 4 (some 4)),(.str [119,
 110]),(.sv [(.int .i64 1),(.int .i64 0)] 1 2 (some 2))] 2 2 (some 2))]),(.sv [(.str [124,45]),(.str [40]),(.str [112,104]),(.str [45,62]),(.str [112,115]),(.str [41])] 1 6 (some 6)),(.int 
 .i64 100)]
def v23 : AV := (.tup [(.sr 0 0 2 2 none),(.int .i64 0)])
def o23 : List AO := [(.cells [(.str [119,112,104]),(.int .i64 1),(.str [119,112,115]),(.int .i64 0)])]
theorem run23 : Xz [546] (H5 EC 1000 100 (.fn 23) a23 ⟨.e,0⟩) = some (v23,o23) := Kr
theorem f23 : Ck EC 23 (Ji a23 v23 o23) := Km (recC 1000 100) (fun g cs h => Ko g cs h) rfl Kr (by decide) run23
end Go.AM
