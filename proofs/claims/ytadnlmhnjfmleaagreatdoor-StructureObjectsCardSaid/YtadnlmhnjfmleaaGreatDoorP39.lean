/- A part of the proof; shortened by program. -/
import Derived.Test.YtadnlmhnjfmleaaGreatDoorP38
set_option maxRecDepth 100000
set_option maxHeartbeats 4000000
set_option linter.unusedSimpArgs false
set_option linter.unusedVariables false
namespace Go.AM
open Go Go.Proofs
def a263 : List AV := [xDb,xSt,(.int .i64 3),(.int .i64 100)]
def v263 : AV := (.tup [(.bool true),(.nil (.slice none 0 0)),(.nil (.slice none 0 0)),(.int .i64 0)])
def o263 : List AO := []
theorem At8 : Sg [] (Dy EF 1000 100 (.fn 26) a263 ⟨.e,0⟩) = some (v263,o263) := Kr
theorem m263 : A7 EF 26 (Fx a263 v263 o263) := Gd (Aqp 1000 100) (fun g cs h => Do g cs h) rfl Kr (by decide) At8
end Go.AM
