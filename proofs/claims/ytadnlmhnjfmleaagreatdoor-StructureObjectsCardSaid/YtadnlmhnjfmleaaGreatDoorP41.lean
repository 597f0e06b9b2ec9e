/- A part of the proof; shortened by program. -/
import Derived.Test.YtadnlmhnjfmleaaGreatDoorP38
set_option maxRecDepth 100000
set_option maxHeartbeats 4000000
set_option linter.unusedSimpArgs false
set_option linter.unusedVariables false
namespace Go.AM
open Go Go.Proofs
def a265 : List AV := [xDb,xSt,(.int .i64 5),(.int .i64 100)]
def v265 : AV := (.tup [(.bool true),(.nil (.slice none 0 0)),(.nil (.slice none 0 0)),(.int .i64 0)])
def o265 : List AO := []
theorem Aua : Sg [] (Dy EF 1000 100 (.fn 26) a265 ⟨.e,0⟩) = some (v265,o265) := Kr
theorem m265 : A7 EF 26 (Fx a265 v265 o265) := Gd (Aqp 1000 100) (fun g cs h => Do g cs h) rfl Kr (by decide) Aua
end Go.AM
