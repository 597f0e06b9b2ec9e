/- A part of the proof; shortened by program. -/
import Derived.Test.YtcnkdbldfpaebaaGreatDoorP30
set_option maxRecDepth 100000
set_option maxHeartbeats 4000000
set_option linter.unusedSimpArgs false
set_option linter.unusedVariables false
namespace Go.AM
open Go Go.Proofs
def Arc : List AV := [(.agg [(.sv [(.str [119,102,102])] 1 1 none),(.sv [(.str [119,112,104]),(.str [119,102,102]),(.sv [(.str [112,104]),(.str []),(.int .i64 0)] 3 1 none),(.bool true),(.str [119,112,
 115]),(.str [119,102,102]),(.sv [(.str [112,115]),(.str []),(.int .i64 0)] 3 1 none),(.bool true),(.str [119,99,104]),(.str [119,102,102]),(.sv [(.str [99,104]),(.str []),(.int .i64 
 0)] 3 1 none),(.bool true),(.str [119,105]),(.str [119,102,102]),(.sv [(.str [40]),(.str []),(.int .i64 0),(.str []),(.str [119,102,102]),(.int .i64 0),(.str [45,62]),(.str []),(.int 
 .i64 0),(.str []),(.str [119,102,102]),(.int .i64 1),(.str [41]),(.str []),(.int .i64 0)] 3 5 none),(.bool false),(.str [119,110]),(.str [119,102,102]),(.sv [(.str [45,46]),(.str []),
 (.int .i64 0),(.str []),(.str [119,102,102]),(.int .i64 0)] 3 2 none),(.bool false)] 4 5 none)]),(.str [119,102,102]),(.sv [(.str [40]),(.str [112,104]),(.str [45,62]),(.str [40]),
 (.str [112,115]),(.str [45,62]),(.str [112,104]),(.str [41]),(.str [41])] 1 9 (some 9)),(.fn (.func 102) [] [])]
def Ard : AV := (.pr 0 0)
def Are : List AO := [(.cells [(.sv [(.str [119,102,102])] 1 1 none),(.sv [(.str [119,112,104]),(.str [119,102,102]),(.sv [(.str [112,104]),(.str []),(.int .i64 0)] 3 1 none),(.bool true),(.str [119,112,
 115]),(.str [119,102,102]),(.sv [(.str [112,115]),(.str []),(.int .i64 0)] 3 1 none),(.bool true),(.str [119,99,104]),(.str [119,102,102]),(.sv [(.str [99,104]),(.str []),(.int .i64 
 0)] 3 1 none),(.bool true),(.str [119,105]),(.str [119,102,102]),(.sv [(.str [40]),(.str []),(.int .i64 0),(.str []),(.str [119,102,102]),(.int .i64 0),(.str [45,62]),(.str []),(.int 
 .i64 0),(.str []),(.str [119,102,102]),(.int .i64 1),(.str [41]),(.str []),(.int .i64 0)] 3 5 none),(.bool false),(.str [119,110]),(.str [119,102,102]),(.sv [(.str [45,46]),(.str []),
 (.int .i64 0),(.str []),(.str [119,102,102]),(.int .i64 0)] 3 2 none),(.bool false)] 4 5 none),(.mp 1),(.sv [(.str [40]),(.str [112,104]),(.str [45,62]),(.str [40]),(.str [112,115]),
 (.str [45,62]),(.str [112,104]),(.str [41]),(.str [41])] 1 9 (some 9)),(.sr 2 0 1 10 none),(.sr 3 0 1 10 none),(.mp 4)]),(.map 9 [((.str [119,102,102]),(.sr 5 0 1 5 none))] 5),(.cells 
 [(.sr 6 0 3 5 none),(.sr 7 0 3 6 none),(.sr 8 0 3 2 none),(.sr 9 0 3 6 none),(.sr 10 0 3 6 none),(.sr 11 0 3 2 none),(.sr 12 0 3 6 none),(.sr 13 0 3 2 none),(.sr 14 0 3 2 none),(.sr 15 0 3 1 
 none)]),(.cells [(.mp 16),(.mp 17),(.mp 18),(.mp 19),(.mp 20),(.mp 21),(.mp 22),(.mp 23),(.mp 24),(.mp 25)]),(.map 201 [((.agg [(.str [119,102,102]),(.int .i64 0),(.int .i64 9)]),
 (.bool true)),((.agg [(.str [119,102,102]),(.int .i64 1),(.int .i64 2)]),(.bool true)),((.agg [(.str [119,102,102]),(.int .i64 3),(.int .i64 8)]),(.bool true)),((.agg [(.str [119,102,
 102]),(.int .i64 4),(.int .i64 5)]),(.bool true)),((.agg [(.str [119,102,102]),(.int .i64 6),(.int .i64 7)]),(.bool true))] 5),(.cells [(.int .i64 0),(.int .i64 1),(.int .i64 2),(.int 
 .i64 3),(.int .i64 4)]),(.cells [(.int .i64 0),(.int .i64 0),(.int .i64 0),(.int .i64 1),(.int .i64 0),(.int .i64 0),(.int .i64 2),(.int .i64 0),(.int .i64 0),(.int .i64 3),(.int .i64 0),
 (.int .i64 0),(.int .i64 4),(.int .i64 0),(.int .i64 0)]),(.cells [(.int .i64 3),(.int .i64 1),(.int .i64 0),(.int .i64 0),(.int .i64 0),(.int .i64 1),(.int .i64 1),(.int .i64 0),(.int 
 .i64 1),(.int .i64 2),(.int .i64 0),(.int .i64 1),(.int .i64 3),(.int .i64 0),(.int .i64 1),(.int .i64 4),(.int .i64 0),(.int .i64 1)]),(.cells [(.int .i64 0),(.int .i64 1),(.int .i64 1),
 (.int .i64 3),(.int .i64 2),(.int .i64 0)]),(.cells [(.int .i64 3),(.int .i64 3),(.int .i64 0),(.int .i64 0),(.int .i64 0),(.int .i64 3),(.int .i64 1),(.int .i64 0),(.int .i64 3),(.int 
 .i64 2),(.int .i64 0),(.int .i64 3),(.int .i64 3),(.int .i64 0),(.int .i64 3),(.int .i64 4),(.int .i64 0),(.int .i64 3)]),(.cells [(.int .i64 3),(.int .i64 1),(.int .i64 3),(.int .i64 0),
 (.int .i64 0),(.int .i64 4),(.int .i64 1),(.int .i64 0),(.int .i64 4),(.int .i64 2),(.int .i64 0),(.int .i64 4),(.int .i64 3),(.int .i64 0),(.int .i64 4),(.int .i64 4),(.int .i64 0),(.int 
 .i64 4)]),(.cells [(.int .i64 1),(.int .i64 1),(.int .i64 4),(.int .i64 3),(.int .i64 2),(.int .i64 3)]),(.cells [(.int .i64 3),(.int .i64 3),(.int .i64 3),(.int .i64 0),(.int .i64 0),
 (.int .i64 6),(.int .i64 1),(.int .i64 0),(.int .i64 6),(.int .i64 2),(.int .i64 0),(.int .i64 6),(.int .i64 3),(.int .i64 0),(.int .i64 6),(.int .i64 4),(.int .i64 0),(.int .i64 6)]),
 (.cells [(.int .i64 0),(.int .i64 1),(.int .i64 6),(.int .i64 3),(.int .i64 4),(.int .i64 3)]),(.cells [(.int .i64 3),(.int .i64 5),(.int .i64 3),(.int .i64 3),(.int .i64 4),(.int .i64 
 0)]),(.cells [(.int .i64 3),(.int .i64 5),(.int .i64 0)]),(.map 288 [((.agg [(.int .i64 0),(.int .i64 0),(.int .i64 0)]),(.bool true)),((.agg [(.int .i64 1),(.int .i64 0),(.int .i64 0)]),
 (.bool true)),((.agg [(.int .i64 2),(.int .i64 0),(.int .i64 0)]),(.bool true)),((.agg [(.int .i64 3),(.int .i64 0),(.int .i64 0)]),(.bool true)),((.agg [(.int .i64 4),(.int .i64 0),(.int 
 .i64 0)]),(.bool true))] 5),(.map 288 [((.agg [(.int .i64 0),(.int .i64 0),(.int .i64 1)]),(.bool true)),((.agg [(.int .i64 1),(.int .i64 0),(.int .i64 1)]),(.bool true)),((.agg [(.int .i64 
 2),(.int .i64 0),(.int .i64 1)]),(.bool true)),((.agg [(.int .i64 3),(.int .i64 0),(.int .i64 1)]),(.bool true)),((.agg [(.int .i64 3),(.int .i64 1),(.int .i64 0)]),(.bool true)),((.agg 
 [(.int .i64 4),(.int .i64 0),(.int .i64 1)]),(.bool true))] 6),(.map 288 [((.agg [(.int .i64 0),(.int .i64 1),(.int .i64 1)]),(.bool true)),((.agg [(.int .i64 3),(.int .i64 2),(.int .i64 
 0)]),(.bool true))] 2),(.map 288 [((.agg [(.int .i64 0),(.int .i64 0),(.int .i64 3)]),(.bool true)),((.agg [(.int .i64 1),(.int .i64 0),(.int .i64 3)]),(.bool true)),((.agg [(.int .i64 2),
 (.int .i64 0),(.int .i64 3)]),(.bool true)),((.agg [(.int .i64 3),(.int .i64 0),(.int .i64 3)]),(.bool true)),((.agg [(.int .i64 3),(.int .i64 3),(.int .i64 0)]),(.bool true)),((.agg [(.int 
 .i64 4),(.int .i64 0),(.int .i64 3)]),(.bool true))] 6),(.map 288 [((.agg [(.int .i64 0),(.int .i64 0),(.int .i64 4)]),(.bool true)),((.agg [(.int .i64 1),(.int .i64 0),(.int .i64 4)]),
 (.bool true)),((.agg [(.int .i64 2),(.int .i64 0),(.int .i64 4)]),(.bool true)),((.agg [(.int .i64 3),(.int .i64 0),(.int .i64 4)]),(.bool true)),((.agg [(.int .i64 3),(.int .i64 1),(.int 
 .i64 3)]),(.bool true)),((.agg [(.int .i64 4),(.int .i64 0),(.int .i64 4)]),(.bool true))] 6),(.map 288 [((.agg [(.int .i64 1),(.int .i64 1),(.int .i64 4)]),(.bool true)),((.agg [(.int .i64 
 3),(.int .i64 2),(.int .i64 3)]),(.bool true))] 2),(.map 288 [((.agg [(.int .i64 0),(.int .i64 0),(.int .i64 6)]),(.bool true)),((.agg [(.int .i64 1),(.int .i64 0),(.int .i64 6)]),(.bool 
 true)),((.agg [(.int .i64 2),(.int .i64 0),(.int .i64 6)]),(.bool true)),((.agg [(.int .i64 3),(.int .i64 0),(.int .i64 6)]),(.bool true)),((.agg [(.int .i64 3),(.int .i64 3),(.int .i64 
 3)]),(.bool true)),((.agg [(.int .i64 4),(.int .i64 0),(.int .i64 6)]),(.bool true))] 6),(.map 288 [((.agg [(.int .i64 0),(.int .i64 1),(.int .i64 6)]),(.bool true)),((.agg [(.int .i64 3),
 (.int .i64 4),(.int .i64 3)]),(.bool true))] 2),(.map 288 [((.agg [(.int .i64 3),(.int .i64 4),(.int .i64 0)]),(.bool true)),((.agg [(.int .i64 3),(.int .i64 5),(.int .i64 3)]),(.bool 
 true))] 2),(.map 288 [((.agg [(.int .i64 3),(.int .i64 5),(.int .i64 0)]),(.bool true))] 1)]
theorem As6 : Xz [3,1,537,539,2,18,31,92,155,208,273,336,389,452,503,542,20,74,139,190,255,320,371,436,487,538] (H5 EB 1000 100 (.fn 101) Arc ⟨.e,0⟩) = some (Ard,Are) := Kr
theorem f1011 : Ck EB 101 (Ji Arc Ard Are) := Km (recB 1000 100) (fun g cs h => Ko g cs h) rfl Kr (by decide) As6
end Go.AM
