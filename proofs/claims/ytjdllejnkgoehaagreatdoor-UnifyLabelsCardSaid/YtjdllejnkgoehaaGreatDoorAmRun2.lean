/- The sorts and the grammar of the example's database, made once. -/
import Derived.Test.YtjdllejnkgoehaaGreatDoorAmRun1
namespace Go.AM
open Go Go.Proofs

def sum2 (f : Nat) : Option (List AV → Sto → Res) := match Nat.beq f 148 with | true => some (memoC [] v148) | false => none
noncomputable def E2 : Env := { P := Tryz.prog, gl := fun _ => none, sum := sum2, dsum := ds59, byref := fun t => Nat.beq t 116 }
theorem rec2 (lf n : Nat) : RecSound E2 (callA E2 lf n) := rec_sound rfl rfl (fun f s h => by
  have h : sum2 f = some s := h
  unfold sum2 at h
  split at h
  · rename_i hb
    cases h
    have := Nat.eq_of_beq_eq_true hb
    subst this
    exact f148.env rfl rfl
  · cases h) lf n

noncomputable def s77 : List AV → Sto → Res := bodyM E2 1000 (callA E2 1000 30) Tryz.f77
theorem f77 : FSound E2 77 s77 :=
  bodyM_sound (rec2 1000 30) (drawSound hmixed _ (rec2 1000 30)) hnum ds59_mark (ds59_sound rfl rfl) 1000 77 Tryz.f77 Tryz.func77

noncomputable def sum3 (f : Nat) : Option (List AV → Sto → Res) := match Nat.beq f 148 with
  | true => some (memoC [] v148)
  | false => match Nat.beq f 77 with
    | true => some s77
    | false => none
noncomputable def E3 : Env := { P := Tryz.prog, gl := fun _ => none, sum := sum3, dsum := ds59, byref := fun t => Nat.beq t 116 }
theorem sum3_sound {E : Env} (hP : E.P = Tryz.prog) (hg : E.gl = fun _ => none) (f : Nat) (s : List AV → Sto → Res) (h : sum3 f = some s) : FSound E f s := by
  unfold sum3 at h
  split at h
  · rename_i hb
    cases h
    have := Nat.eq_of_beq_eq_true hb
    subst this
    exact f148.env hP.symm hg.symm
  · split at h
    · rename_i hb
      cases h
      have := Nat.eq_of_beq_eq_true hb
      subst this
      exact f77.env hP.symm hg.symm
    · cases h
theorem rec3 (lf n : Nat) : RecSound E3 (callA E3 lf n) := rec_sound rfl rfl (sum3_sound rfl rfl) lf n

def db : AV := (.agg [(.sv [(.str [119, 102, 102]), (.str [124, 45]), (.str [40]), (.str [41]), (.str [45, 62]), (.str [45, 46])] 1 6 (some 6)), (.sv [(.str [112, 104]), (.str [112, 115]), (.str [99, 104])] 1 3 
  (some 3)), (.sv [(.str [119, 105]), (.bool false), (.sv [(.str [119, 112, 104]), (.bool true), (.sv [(.str [119, 102, 102]), (.str [112, 104])] 1 2 (some 2)), (.str [119, 112, 115]), (.bool true), 
  (.sv [(.str [119, 102, 102]), (.str [112, 115])] 1 2 (some 2))] 3 2 (some 2)), (.nil (.slice none 0 0)), (.sv [(.str [119, 102, 102]), (.str [40]), (.str [112, 104]), (.str [45, 62]), (.str [112, 
  115]), (.str [41])] 1 6 (some 6)), (.sv [(.str [119, 99, 104]), (.bool true), (.sv [(.str [119, 102, 102]), (.str [99, 104])] 1 2 (some 2))] 3 1 (some 1)), (.nil (.slice none 0 0)), (.nil (.slice none 
  0 0)), (.str [119, 110]), (.bool false), (.sv [(.str [119, 112, 104]), (.bool true), (.sv [(.str [119, 102, 102]), (.str [112, 104])] 1 2 (some 2))] 3 1 (some 1)), (.nil (.slice none 0 0)), (.sv 
  [(.str [119, 102, 102]), (.str [45, 46]), (.str [112, 104])] 1 3 (some 3)), (.sv [(.str [119, 112, 115]), (.bool true), (.sv [(.str [119, 102, 102]), (.str [112, 115])] 1 2 (some 2)), (.str [119, 99, 
  104]), (.bool true), (.sv [(.str [119, 102, 102]), (.str [99, 104])] 1 2 (some 2))] 3 2 (some 2)), (.nil (.slice none 0 0)), (.nil (.slice none 0 0)), (.str [97, 120, 45, 49]), (.bool false), (.sv 
  [(.str [119, 112, 104]), (.bool true), (.sv [(.str [119, 102, 102]), (.str [112, 104])] 1 2 (some 2)), (.str [119, 112, 115]), (.bool true), (.sv [(.str [119, 102, 102]), (.str [112, 115])] 1 2 (some 
  2))] 3 2 (some 2)), (.nil (.slice none 0 0)), (.sv [(.str [124, 45]), (.str [40]), (.str [112, 104]), (.str [45, 62]), (.str [40]), (.str [112, 115]), (.str [45, 62]), (.str [112, 104]), (.str [41]), 
  (.str [41])] 1 10 (some 10)), (.sv [(.str [119, 99, 104]), (.bool true), (.sv [(.str [119, 102, 102]), (.str [99, 104])] 1 2 (some 2))] 3 1 (some 1)), (.nil (.slice none 0 0)), (.nil (.slice none 0 
  0))] 8 3 (some 3))])
def v20 : AV := (.tup [(.agg [(.sr 0 0 1 1 none), (.sr 1 0 4 5 none), (.mp 2)]), (.int .i64 (.ofNat 0))])
def o20 : List AO := [(.cells [(.str [119, 102, 102])]), (.cells [(.str [119, 112, 104]), (.str [119, 102, 102]), (.sv [(.str [112, 104]), (.str []), (.int .i64 (.ofNat 0))] 3 1 (some 1)), (.bool true), (.str [119, 112, 
  115]), (.str [119, 102, 102]), (.sv [(.str [112, 115]), (.str []), (.int .i64 (.ofNat 0))] 3 1 (some 1)), (.bool true), (.str [119, 99, 104]), (.str [119, 102, 102]), (.sv [(.str [99, 104]), (.str 
  []), (.int .i64 (.ofNat 0))] 3 1 (some 1)), (.bool true), (.str [119, 105]), (.str [119, 102, 102]), (.sr 3 0 3 5 none), (.bool false), (.str [119, 110]), (.str [119, 102, 102]), (.sr 4 0 3 2 none), 
  (.bool false)]), (.map 9 [((.str [119, 99, 104]), (.agg [(.str [119, 99, 104]), (.str [119, 102, 102]), (.sv [(.str [99, 104]), (.str []), (.int .i64 (.ofNat 0))] 3 1 (some 1)), (.bool true)])), 
  ((.str [119, 105]), (.agg [(.str [119, 105]), (.str [119, 102, 102]), (.sr 3 0 3 5 none), (.bool false)])), ((.str [119, 110]), (.agg [(.str [119, 110]), (.str [119, 102, 102]), (.sr 4 0 3 2 none), 
  (.bool false)])), ((.str [119, 112, 104]), (.agg [(.str [119, 112, 104]), (.str [119, 102, 102]), (.sv [(.str [112, 104]), (.str []), (.int .i64 (.ofNat 0))] 3 1 (some 1)), (.bool true)])), ((.str 
  [119, 112, 115]), (.agg [(.str [119, 112, 115]), (.str [119, 102, 102]), (.sv [(.str [112, 115]), (.str []), (.int .i64 (.ofNat 0))] 3 1 (some 1)), (.bool true)]))] 5), (.cells [(.str [40]), (.str 
  []), (.int .i64 (.ofNat 0)), (.str []), (.str [119, 102, 102]), (.int .i64 (.ofNat 0)), (.str [45, 62]), (.str []), (.int .i64 (.ofNat 0)), (.str []), (.str [119, 102, 102]), (.int .i64 (.ofNat 1)), 
  (.str [41]), (.str []), (.int .i64 (.ofNat 0))]), (.cells [(.str [45, 46]), (.str []), (.int .i64 (.ofNat 0)), (.str []), (.str [119, 102, 102]), (.int .i64 (.ofNat 0))])]

theorem run20 : relR [290, 324, 422, 310, 322] (callA E3 1000 40 20 [db] ⟨.e, 0⟩) = some (v20, o20) := by kernel_rfl
theorem closed_db : AV.closeds [db] = true := by kernel_rfl
theorem f20 : FSound E3 20 (memoG [db] v20 o20) := memo_sound (rec3 1000 40) (fun _ => rfl) closed_db (by decide) run20
end Go.AM
