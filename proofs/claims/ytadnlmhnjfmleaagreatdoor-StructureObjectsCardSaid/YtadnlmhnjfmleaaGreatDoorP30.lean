/- A part of the proof; shortened by program. -/
import Derived.Test.YtadnlmhnjfmleaaGreatDoorP26
set_option maxRecDepth 100000
set_option maxHeartbeats 4000000
set_option linter.unusedSimpArgs false
set_option linter.unusedVariables false
namespace Go.AM
open Go Go.Proofs
def a89 : List AV := [xGr,(.str [119,102,102]),(.sv [(.str [65,46]),(.str [120]),(.str [120]),(.str [61]),(.str [120])] 1 5 (some 5)),(.fn (.func 90) [] [])]
def v89 : AV := (.pr 0 0)
def o89 : List AO := [(.cells [xGs,xGR,(.mp 1),(.sv [(.str [65,46]),(.str [120]),(.str [120]),(.str [61]),(.str [120])] 1 5 (some 5)),(.sr 2 0 1 6 none),(.sr 3 0 1 6 none),(.mp 4)]),(.map 9 [((.str [115,101,
 116,118,97,114]),(.sr 5 0 1 2 none)),((.str [119,102,102]),(.sr 6 0 1 4 none))] 6),(.cells [(.sr 7 0 3 6 none),(.sr 8 0 3 3 none),(.sr 9 0 3 8 none),(.sr 10 0 3 2 none),(.sr 11 0 3 3 
 none),(.sr 12 0 3 3 none)]),(.cells [(.mp 13),(.mp 14),(.mp 15),(.mp 16),(.mp 17),(.mp 18)]),(.map 201 [((.agg [(.str [115,101,116,118,97,114]),(.int .i64 1),(.int .i64 2)]),(.bool 
 true)),((.agg [(.str [115,101,116,118,97,114]),(.int .i64 2),(.int .i64 3)]),(.bool true)),((.agg [(.str [115,101,116,118,97,114]),(.int .i64 4),(.int .i64 5)]),(.bool true)),((.agg 
 [(.str [119,102,102]),(.int .i64 0),(.int .i64 5)]),(.bool true)),((.agg [(.str [119,102,102]),(.int .i64 2),(.int .i64 5)]),(.bool true))] 5),(.cells [(.int .i64 0),(.int .i64 1)]),
 (.cells [(.int .i64 2),(.int .i64 3),(.int .i64 4),(.int .i64 5)]),(.cells [(.int .i64 2),(.int .i64 0),(.int .i64 0),(.int .i64 3),(.int .i64 0),(.int .i64 0),(.int .i64 4),(.int .i64 0),
 (.int .i64 0),(.int .i64 5),(.int .i64 0),(.int .i64 0),(.int .i64 0),(.int .i64 0),(.int .i64 0),(.int .i64 1),(.int .i64 0),(.int .i64 0)]),(.cells [(.int .i64 4),(.int .i64 1),(.int 
 .i64 0),(.int .i64 0),(.int .i64 0),(.int .i64 1),(.int .i64 1),(.int .i64 0),(.int .i64 1)]),(.cells [(.int .i64 0),(.int .i64 1),(.int .i64 1),(.int .i64 4),(.int .i64 2),(.int .i64 0),
 (.int .i64 2),(.int .i64 0),(.int .i64 2),(.int .i64 3),(.int .i64 0),(.int .i64 2),(.int .i64 4),(.int .i64 0),(.int .i64 2),(.int .i64 5),(.int .i64 0),(.int .i64 2),(.int .i64 0),(.int 
 .i64 0),(.int .i64 2),(.int .i64 1),(.int .i64 0),(.int .i64 2)]),(.cells [(.int .i64 0),(.int .i64 1),(.int .i64 2),(.int .i64 3),(.int .i64 1),(.int .i64 2)]),(.cells [(.int .i64 3),
 (.int .i64 2),(.int .i64 2),(.int .i64 0),(.int .i64 0),(.int .i64 4),(.int .i64 1),(.int .i64 0),(.int .i64 4)]),(.cells [(.int .i64 0),(.int .i64 1),(.int .i64 4),(.int .i64 3),(.int 
 .i64 3),(.int .i64 2),(.int .i64 4),(.int .i64 3),(.int .i64 0)]),(.map 299 [((.agg [(.int .i64 0),(.int .i64 0),(.int .i64 0)]),(.bool true)),((.agg [(.int .i64 1),(.int .i64 0),(.int .i64 
 0)]),(.bool true)),((.agg [(.int .i64 2),(.int .i64 0),(.int .i64 0)]),(.bool true)),((.agg [(.int .i64 3),(.int .i64 0),(.int .i64 0)]),(.bool true)),((.agg [(.int .i64 4),(.int .i64 0),
 (.int .i64 0)]),(.bool true)),((.agg [(.int .i64 5),(.int .i64 0),(.int .i64 0)]),(.bool true))] 6),(.map 299 [((.agg [(.int .i64 0),(.int .i64 0),(.int .i64 1)]),(.bool true)),((.agg [(.int 
 .i64 1),(.int .i64 0),(.int .i64 1)]),(.bool true)),((.agg [(.int .i64 4),(.int .i64 1),(.int .i64 0)]),(.bool true))] 3),(.map 299 [((.agg [(.int .i64 0),(.int .i64 0),(.int .i64 2)]),
 (.bool true)),((.agg [(.int .i64 0),(.int .i64 1),(.int .i64 1)]),(.bool true)),((.agg [(.int .i64 1),(.int .i64 0),(.int .i64 2)]),(.bool true)),((.agg [(.int .i64 2),(.int .i64 0),(.int 
 .i64 2)]),(.bool true)),((.agg [(.int .i64 3),(.int .i64 0),(.int .i64 2)]),(.bool true)),((.agg [(.int .i64 4),(.int .i64 0),(.int .i64 2)]),(.bool true)),((.agg [(.int .i64 4),(.int .i64 
 2),(.int .i64 0)]),(.bool true)),((.agg [(.int .i64 5),(.int .i64 0),(.int .i64 2)]),(.bool true))] 8),(.map 299 [((.agg [(.int .i64 0),(.int .i64 1),(.int .i64 2)]),(.bool true)),((.agg 
 [(.int .i64 3),(.int .i64 1),(.int .i64 2)]),(.bool true))] 2),(.map 299 [((.agg [(.int .i64 0),(.int .i64 0),(.int .i64 4)]),(.bool true)),((.agg [(.int .i64 1),(.int .i64 0),(.int .i64 
 4)]),(.bool true)),((.agg [(.int .i64 3),(.int .i64 2),(.int .i64 2)]),(.bool true))] 3),(.map 299 [((.agg [(.int .i64 0),(.int .i64 1),(.int .i64 4)]),(.bool true)),((.agg [(.int .i64 3),
 (.int .i64 3),(.int .i64 2)]),(.bool true)),((.agg [(.int .i64 4),(.int .i64 3),(.int .i64 0)]),(.bool true))] 3)]
theorem run89 : Sg [3,1,314,316,2,9,21,44,99,170,249,292,355,23,87,122,221,280,315] (Dy EB 1000 100 (.fn 89) a89 ⟨.e,0⟩) = some (v89,o89) := Kr
theorem m89 : A7 EB 89 (Fx a89 v89 o89) := Gd (recB 1000 100) (fun g cs h => Do g cs h) rfl Kr (by decide) run89
end Go.AM
