/- A part of the proof; shortened by program. -/
import Derived.Test.YtadnlmhnjfmleaaGreatDoorP34
import Derived.Test.YtadnlmhnjfmleaaGreatDoorP35
import Derived.Test.YtadnlmhnjfmleaaGreatDoorP36
import Derived.Test.YtadnlmhnjfmleaaGreatDoorP37
set_option maxRecDepth 100000
set_option maxHeartbeats 4000000
set_option linter.unusedSimpArgs false
set_option linter.unusedVariables false
namespace Go.AM
open Go Go.Proofs
def s58 (args : List AV) (J : Sto) : Res := match AV.beqs args a580 with
 | true => Lb a580 u580 args J
 | false => match AV.beqs args a581 with
  | true => Lb a581 u581 args J
  | false => match AV.beqs args a582 with
   | true => Lb a582 u582 args J
   | false => Lb a583 u583 args J
theorem m58 : A7 Ew 58 s58 := fun C w J args vs v J' hs hg ha h => by
 unfold s58 at h
 split at h
 ·exact (m580.env rfl rfl rfl rfl : A7 Ew 58 _) C w J args vs v J' hs hg ha h
 ·skip
  split at h
  ·exact (m581.env rfl rfl rfl rfl : A7 Ew 58 _) C w J args vs v J' hs hg ha h
  ·skip
   split at h
   ·exact (m582.env rfl rfl rfl rfl : A7 Ew 58 _) C w J args vs v J' hs hg ha h
   ·skip
    exact (m583.env rfl rfl rfl rfl : A7 Ew 58 _) C w J args vs v J' hs hg ha h
def s34 (args : List AV) (J : Sto) : Res := match fzL (wkA 12) args [iV 2,iV (.ofNat 1)] with
 | true => some (iV 2,J)
 | false => match fzL (wkA 12) args [iV 2,iV (.ofNat 2)] with
  | true => some (iV 4,J)
  | false => none
theorem m34 : A7 Ew 34 s34 := fun C w J args vs v J' hs hg ha h => by
 unfold s34 at h
 split at h
 ·rename_i h1
  exact (ec_ (u := iV 2) fun τ => f34 2 1 τ (by decide) (by decide) (by decide)) C w J args vs v J' hs hg ha (by dsimp only; rw [h1]; exact h)
 ·split at h
  ·rename_i h1
   exact (ec_ (u := iV 4) fun τ => f34 2 2 τ (by decide) (by decide) (by decide)) C w J args vs v J' hs hg ha (by dsimp only; rw [h1]; exact h)
  ·cases h
theorem At5 (args : List AV) : D4 (s58 args) := by
 intro J J' v h;unfold s58 Lb at *
 repeat' (split at h)
 all_goals first | (cases h; done) | (cases h; exact ⟨rfl,fun τ => by simp_all⟩)
theorem At6 (args : List AV) : D4 (s34 args) := by
 intro J J' v h;unfold s34 at *
 repeat' (split at h)
 all_goals first | (cases h; done) | (cases h; exact ⟨rfl,fun τ => by simp_all⟩)
def puF (f : Nat) : Bool := Nat.beq f 58 || Nat.beq f 34
def sumF (f : Nat) : Option (List AV -> Sto -> Res) := match Nat.beq f 58 with
 | true => some s58
 | false => match Nat.beq f 34 with
  | true => some s34
  | false => match Nat.beq f 45 with
   | true => some s45
   | false => match Nat.beq f 63 with
    | true => some s63
    | false => none
noncomputable def EF : Env := { P := Tryz.prog,gl := glW,sum := sumF,dsum := fun _ => none,byref := fun _ => false,rg := rgA,pu := puF }
theorem At7 (f : Nat) (h : EF.pu f = true) : ∃ s,EF.sum f = some s /\ ∀ args,D4 (s args) := by
 have h : (Nat.beq f 58 || Nat.beq f 34) = true := h
 rw [bh_] at h
 rcases h with h | h
 ·have := aa_ h; subst this; exact ⟨s58,rfl,At5⟩
 ·have := aa_ h; subst this; exact ⟨s34,rfl,At6⟩
theorem Aqp (lf n : Nat) : Ao EF (Dy EF lf n) :=
 Ft (E := EF) (show Tryz.prog.follows .mixedOrders = true from Cu) (fun l Rr h => Il Cu h) (fun f fn h => L7 f fn h) (fun f s h => by
  have h : sumF f = some s := h;unfold sumF at h
  split at h
  ·rename_i hb
   cases h;have := aa_ hb;subst this;exact m58.env rfl rfl rfl rfl
  ·skip
   split at h
   ·rename_i hb
    cases h;have := aa_ hb;subst this;exact m34.env rfl rfl rfl rfl
   ·skip
    split at h
    ·rename_i hb
     cases h;have := aa_ hb;subst this;exact f45s.env rfl rfl rfl rfl
    ·skip
     split at h
     ·rename_i hb
      cases h;have := aa_ hb;subst this;exact f63s.env rfl rfl rfl rfl
     ·skip
      cases h
  ) rfl (fun f d h => by cases h) lf n At7
end Go.AM
