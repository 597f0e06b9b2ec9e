/- A part of the proof; shortened by program. -/
import Derived.Test.YtmkaboegdoadhaaGreatDoorP28
set_option maxRecDepth 100000
set_option maxHeartbeats 4000000
set_option linter.all false
namespace Go.AM
open Go Go.Proofs
theorem O7:∀{l:List Fr} {g c:Gr},F6 l g=some c->c.sorts=g.sorts/\∀r∈c.rules,r∈g.rules\/∃f∈l,Hs f=some r/\f.text.headD []∈g.sorts
 |[],g,c,h=>by cases h;grind
 |f::l,g,c,h=>by
  unfold F6 at h
  split at h
  ·obtain⟨a,b⟩:=O7 h
   grind
  ·rename_i i
   split at h
   ·cases h
   ·rename_i n d
    obtain⟨a,b⟩:=O7 h;refine⟨a,λr e=>?_⟩
    rcases b r e with q|⟨j,k,m⟩
    ·rcases dW.1 q with q|q
     ·exact .inl q
     ·rw[cI.1 q];refine .inr ⟨f,cX ..,d,?_⟩;unfold oY at i
      grind
    grind
def cK(n:Nat):List I:=[nV n]
end Go.AM

