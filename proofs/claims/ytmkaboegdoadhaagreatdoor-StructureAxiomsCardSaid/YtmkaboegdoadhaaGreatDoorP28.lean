/- A part of the proof; shortened by program. -/
import Derived.Test.YtmkaboegdoadhaaGreatDoorP27
set_option maxRecDepth 100000
set_option maxHeartbeats 4000000
set_option linter.all false
namespace Go.AM
open Go Go.Proofs
theorem O6:∀{l:List Rl} {n:Nat} {r:Rl},(l.map (·.label)).Nodup->l[n]? =some r->F4 l r.label=some r:=by
 intro l n r j g
 rcases L9 (l:=l) (s:=r.label)with⟨f,c⟩|⟨m,y,f,b,c⟩
 ·exfalso
  rcases Ha (p:=λx:Rl=>decide (x.label=r.label)) l 0 with⟨_,h⟩|⟨m,a,d,_⟩
  ·have:=h r (bA g);simp at this
  ·rw[f]at d;have:=Int.natCast_nonneg (0+m);have e:Int.ofNat (0+m)=((0+m:Nat):Int):=rfl;omega
 ·have w:y.label=r.label:=by
   rcases Ha (p:=λx:Rl=>decide (x.label=r.label)) l 0 with⟨h,_⟩|⟨k,a,d,q,v,_⟩
   ·rw[f]at h;have:=Int.natCast_nonneg m;have e:Int.ofNat m=((m:Nat):Int):=rfl;omega
   ·rw[f]at d;have:m=0+k:=gI d;rw[dE]at this;subst this;rw[b]at q;cases q;exact of_decide_eq_true v
  have i:m=n:=by
   have o:(l.map (·.label))[m]? =some r.label:=by rw[eC,b];exact congrArg some w
   have t:(l.map (·.label))[n]? =some r.label:=by rw[eC,g];rfl
   have u:=(bQ.1 o).1
   exact(List.getElem?_inj u j).1 (by rw[o,t])
  subst i;rw[b]at g;cases g;exact c
theorem Y4{f J Rr C b t T c n h}{l:List C}{x hi}(N:fM M.P t=some (T,c,h))(p:∀a,(b a).length=T)(W:Ah M f x=some (aD b T l))(r:Iz M f hi=some (some (nV n)))(S:n<=l.length):
  As M Rr (.slice t x none hi none) f J (aD b T (l.take n)) J:=by
 have d:Nat.ble 0 n=true:=dS (bU _);have e:Nat.ble n l.length=true:=dS S
 have g:Do l.length none none (some (nV n)) none=some (0,n,none):=by
  show cond (Nat.ble 0 n&&Li l.length none n) (some (0,n,Mz none 0)) none=_
  simp only[Li,d,e,dR,cond_true,Mz]
 have:=yP (Rr:=Rr) (J:=J) (lo:=none) (hi:=hi) (mx:=none) N p W rfl r rfl g (bU _) S;rw[kn,mO]at this
 show As M Rr _ f J (.sv ((l.take n).flatMap b) T (l.take n).length none) J
 grind
end Go.AM

