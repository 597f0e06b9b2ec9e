/- A part of the proof; shortened by program. -/
import Derived.Test.YtadnlmhnjfmleaaGreatDoorP38
set_option maxRecDepth 100000
set_option maxHeartbeats 4000000
set_option linter.unusedSimpArgs false
set_option linter.unusedVariables false
namespace Go.AM
open Go Go.Proofs
def a264 : List AV := [xDb,xSt,(.int .i64 4),(.int .i64 100)]
def v264 : AV := (.tup [(.bool false),(.sr 0 0 3 2 none),(.sr 1 0 1 2 none),(.int .i64 0)])
def o264 : List AO := [(.cells [(.str [118,120]),(.int .i64 0),(.nil (.slice none 0 0)),(.str [118,121]),(.int .i64 1),(.nil (.slice none 0 0))]),(.cells [(.int .i64 0),(.int .i64 1)])]
theorem At9 : Sg [250,244] (Dy EF 1000 100 (.fn 26) a264 ⟨.e,0⟩) = some (v264,o264) := Kr
theorem m264 : A7 EF 26 (Fx a264 v264 o264) := Gd (Aqp 1000 100) (fun g cs h => Do g cs h) rfl Kr (by decide) At9
end Go.AM
