/- A part of the proof; shortened by program. -/
import Derived.Test.YtcnkdbldfpaebaaGreatDoorP32
set_option maxRecDepth 100000
set_option maxHeartbeats 4000000
set_option linter.unusedSimpArgs false
set_option linter.unusedVariables false
namespace Go.AM
open Go Go.Proofs
def a871 : List AV := [(.agg [(.sv [(.str [119,102,102])] 1 1 none),(.sv [(.str [119,112,104]),(.str [119,102,102]),(.sv [(.str [112,104]),(.str []),(.int .i64 0)] 3 1 none),(.bool true),(.str [119,112,
 115]),(.str [119,102,102]),(.sv [(.str [112,115]),(.str []),(.int .i64 0)] 3 1 none),(.bool true),(.str [119,99,104]),(.str [119,102,102]),(.sv [(.str [99,104]),(.str []),(.int .i64 
 0)] 3 1 none),(.bool true),(.str [119,105]),(.str [119,102,102]),(.sv [(.str [40]),(.str []),(.int .i64 0),(.str []),(.str [119,102,102]),(.int .i64 0),(.str [45,62]),(.str []),(.int 
 .i64 0),(.str []),(.str [119,102,102]),(.int .i64 1),(.str [41]),(.str []),(.int .i64 0)] 3 5 none),(.bool false),(.str [119,110]),(.str [119,102,102]),(.sv [(.str [45,46]),(.str []),
 (.int .i64 0),(.str []),(.str [119,102,102]),(.int .i64 0)] 3 2 none),(.bool false)] 4 5 none)]),(.str [119,102,102]),(.sv [(.str [40]),(.str [112,104]),(.str [45,62]),(.str [40]),
 (.str [112,115]),(.str [45,62]),(.str [112,104]),(.str [41]),(.str [41])] 1 9 (some 9))]
def v871 : AV := (.tup [(.agg [(.sr 0 0 4 5 none)]),(.int .i64 0)])
def o871 : List AO := [(.cells [(.str [119,102,102]),(.int .i64 0),(.int .i64 9),(.sr 1 0 2 1 none),(.str [119,102,102]),(.int .i64 1),(.int .i64 2),(.sr 2 0 2 1 none),(.str [119,102,102]),(.int .i64 3),
 (.int .i64 8),(.sr 3 0 2 1 none),(.str [119,102,102]),(.int .i64 4),(.int .i64 5),(.sr 4 0 2 1 none),(.str [119,102,102]),(.int .i64 6),(.int .i64 7),(.sr 5 0 2 1 none)]),(.cells [(.int 
 .i64 3),(.sr 6 0 1 2 none)]),(.cells [(.int .i64 0),(.nil (.slice none 0 0))]),(.cells [(.int .i64 3),(.sr 7 0 1 2 none)]),(.cells [(.int .i64 1),(.nil (.slice none 0 0))]),(.cells [(.int .i64 
 0),(.nil (.slice none 0 0))]),(.cells [(.int .i64 1),(.int .i64 2)]),(.cells [(.int .i64 3),(.int .i64 4)])]
theorem Au2 : Xz [555,145,192,358,416,489,144,357] (H5 ED 1000 100 (.fn 87) a871 ⟨.e,0⟩) = some (v871,o871) := Kr
theorem f871 : Ck ED 87 (Ji a871 v871 o871) := Km (recD 1000 100) (fun g cs h => Ko g cs h) rfl Kr (by decide) Au2
end Go.AM
