/- A part of the proof; shortened by program. -/
import Derived.Shelf.Small.Strs
import Derived.Shelf.Sort.Plain
import Derived.Shelf.Slices.In.SortNone
import Derived.Test.YtmkaboegdoadhaaGreatDoorProg
import Derived.Shelf.Small.Utf8
import Derived.Shelf.Strings.Runes
import Derived.Shelf.GgClosure.StringsRunes
import Derived.Test.YtmkaboegdoadhaaGreatDoorP12
set_option maxRecDepth 100000
set_option maxHeartbeats 4000000
set_option linter.all false
namespace Go.AM
open Go
section
variable {E:aZ}{ρ:Ad}{J J' U:F}{N:Nat}{α:Type}{enc enc':α->List I}{sz by':Nat}{l:List α}{v:I}
theorem aW.app1(p:∀a,(enc a).length=sz)(R:N<=O J)(h:aW J N enc sz l v)(b)(m:(l.length+1)*(by'+1)<=az):
  ∃d,B6 J sz by' v 1 (enc b)=some (.sr (O J) 0 sz (l.length+1) none,d)/\d.get (O J)=some (.cells ((l++[b]).flatMap enc))/\O d=O J+1/\aW d N enc sz (l++[b]) (.sr (O J) 0 sz (l.length+1) none)/\
   (∀a,a<O J->(∀c,v=.sr c 0 sz l.length none->a≠c)->d.get a=J.get a):=by
 obtain⟨j,d,t,u,w,x⟩:=h.app (by':=by') p R [b] Z
 have g:Nat.ble ((l.length+1)*(by'+1)) az=true:=dS m
 have e:B6 J sz by' v 1 (enc b)=some (j,d):=Z
 have s:j=.sr (O J) 0 sz (l.length+1) none/\d.get (O J)=some (.cells ((l++[b]).flatMap enc))/\O d=O J+1:=by
  rcases h with⟨rfl,rfl|rfl⟩|⟨a,i,y,B,rfl,q⟩
  ·have f:Nat.ble ((0+1)*(by'+1)) az=true:=g
   simp only[B6,Ja,f,cond_true,Ak,fK,bH,cE]at e
   grind
  ·have f:Nat.ble ((0+1)*(by'+1)) az=true:=g
   have o:Nat.ble (0+1) 0=false:=rfl;simp only[B6,cb,o,tF,dR,cond_true,Ja,f,Ak,fK,bH,cE]at e
   grind
  ·have n:J.cells a=some (l.flatMap enc++i):=by unfold F.cells;rw[q]
   have k:Dr (l.length*sz) ((l.flatMap enc++i).drop 0)=some (l.flatMap enc):=by
    have:=D0 (l:=l.flatMap enc) (r:=i)
    rwa[Dl p]at this
   simp only[B6,cb,cond_true,n,k,Ja,g,Ak,B3,bH,cE]at e
   grind
 grind
theorem cH.app:∀{a b c d:List I},cH J U a b->cH J U c d->cH J U (a++c) (b++d)
 |_,_,_,_,.nil,h=>h
 |_,_,_,_,.cons e f,h=>.cons e (f.app h)
theorem cH.flat(h:∀a,cH J U (enc a) (enc' a)):∀l:List α,cH J U (l.flatMap enc) (l.flatMap enc')
 |[]=>.nil
 |a::l=>by simp only[ej];exact(h a).app (cH.flat h l)
theorem aW.fzE(f:∀a,(enc a).length=sz)(h:aW J N enc sz l v)(p:∀a,N<=a->U.get a=none)(g:∀a,cH J U (enc a) (enc' a)):Fz J U v (aD enc' sz l):=by
 rcases h with⟨rfl,rfl|rfl⟩|⟨a,b,d,_,rfl,e⟩
 ·exact .nils Z
 ·exact .sv Z .nil
 ·have c:Dr (l.length*sz) ((l.flatMap enc++b).drop 0)=some (l.flatMap enc):=by
   have:=D0 (l:=l.flatMap enc) (r:=b)
   rwa[Dl f]at this
  exact .sr e (p a d) c (cH.flat g l)
end
section
set_option linter.unusedSectionVars false
class KE (κ:Type)[DecidableEq κ] where
 k:κ->aQ
 eq:∀a b,aQ.eq (k a) (k b)=decide (a=b)
theorem Nn(a b):Tz a b=decide (a=b):=by
 cases a with
 |ofNat x=>cases b with
  |ofNat y=>
   show Nat.beq x y=_
   by_cases h:x=y
   ·subst h;simp
   ·rw[decide_eq_false (λd=>h (gI d))]
    cases c:Nat.beq x y with
    |true=>exact absurd (bK c) h
    |false=>rfl
  |negSucc y=>rfl
 |negSucc x=>cases b with
  |ofNat y=>rfl
  |negSucc y=>
   show Nat.beq x y=_
   by_cases h:x=y
   ·subst h;simp
   ·rw[decide_eq_false (λd=>h (Int.negSucc.inj d))]
    cases c:Nat.beq x y with
    |true=>exact absurd (bK c) h
    |false=>rfl
instance:KE Int where
 k n:=.int .i64 n
 eq a b:=by show(Ed .i64 .i64&&Tz a b)=_;rw[Nn];rfl
abbrev Kk:=aH×Int×Int
instance:KE Kk where
 k p:=.agg [kS p.1,.int .i64 p.2.1,.int .i64 p.2.2]
 eq a b:=by
  obtain⟨s,x,y⟩:=a;obtain⟨t,u,v⟩:=b;simp only[aQ.eq,aQ.eqs,sL,Nn,Ed]
  by_cases c:s=t<;>by_cases d:x=u<;>by_cases e:y=v<;>simp[c,d,e]
abbrev GM(d C:Type):=List (d×C)
section
variable {κ α:Type}[DecidableEq κ][KE κ]
def Hi(a:α->I)(m:GM κ α):List (aQ×I):=m.map λp=>(KE.k p.1,a p.2)
def GM.get:GM κ α->κ->Option α
 |[],_=>none
 |(k,v)::r,s=>if s=k then some v else GM.get r s
def GM.set:GM κ α->κ->α->GM κ α
 |[],_,_=>[]
 |(k,v)::r,s,x=>if s=k then(k,x)::r else(k,v)::GM.set r s x
def GM.ins:GM κ α->κ->α->GM κ α
 |[],s,x=>[(s,x)]
 |(k,v)::r,s,x=>if aQ.lt (KE.k s) (KE.k k)then(s,x)::(k,v)::r else(k,v)::GM.ins r s x
def GM.put(m:GM κ α)(s:κ)(x:α):GM κ α:=match m.get s with|some _=>m.set s x|none=>m.ins s x
variable {enc:α->I}{m:GM κ α}{s t:κ}{x:α}
theorem Rt:∀{m:GM κ α},D5 (KE.k s) (Hi enc m)=(m.get s).map enc
 |[]=>rfl
 |(k,v)::r=>by
  show cond (aQ.eq (KE.k s) (KE.k k)) (some (enc v)) (D5 (KE.k s) (Hi enc r))=_
  rw[KE.eq,GM.get]
  by_cases h:s=k
  ·rw[decide_eq_true h,cond_true,if_pos h];rfl
  ·rw[decide_eq_false h,cond_false,if_neg h];exact Rt
theorem HM:∀{m:GM κ α},Ph (KE.k s) (enc x) (Hi enc m)=Hi enc (m.set s x)
 |[]=>rfl
 |(k,v)::r=>by
  show cond (aQ.eq (KE.k s) (KE.k k)) ((KE.k k,enc x)::Hi enc r) ((KE.k k,enc v)::Ph (KE.k s) (enc x) (Hi enc r))=_
  rw[KE.eq,GM.set]
  by_cases h:s=k
  ·rw[decide_eq_true h,cond_true,if_pos h];rfl
  ·rw[decide_eq_false h,cond_false,if_neg h,HM];rfl
theorem Aiw:∀{m:GM κ α},Nx (KE.k s) (enc x) (Hi enc m)=Hi enc (m.ins s x)
 |[]=>rfl
 |(k,v)::r=>by
  show cond (aQ.lt (KE.k s) (KE.k k)) ((KE.k s,enc x)::(KE.k k,enc v)::Hi enc r) ((KE.k k,enc v)::Nx (KE.k s) (enc x) (Hi enc r))=_
  rw[GM.ins];cases h:aQ.lt (KE.k s) (KE.k k)
  ·rw[cond_false,if_neg zS,Aiw];rfl
  ·rw[cond_true,if_pos rfl];rfl
theorem Tj:tC (KE.k s) (enc x) (Hi enc m)=Hi enc (m.put s x):=by
 unfold tC GM.put;rw[Rt];cases m.get s with
 |none=>exact Aiw
 |some y=>exact HM
theorem GM.get_set:∀{m:GM κ α},(m.set s x).get t=if t=s/\(m.get s).isSome then some x else m.get t
 |[]=>by simp[GM.set,GM.get]
 |(k,v)::r=>by
  unfold GM.set
  by_cases h:s=k
  ·subst h;rw[if_pos rfl];simp only[GM.get,if_true,AC,and_true]
   by_cases a:t=s
   ·simp[a]
   ·simp[a]
  ·rw[if_neg h];simp only[GM.get,if_neg h]
   by_cases a:t=k
   ·subst a;rw[if_pos rfl,if_pos rfl,if_neg (λb=>h b.1.symm)]
   ·rw[if_neg a,if_neg a];exact GM.get_set
theorem GM.get_ins:∀{m:GM κ α},m.get s=none->(m.ins s x).get t=if t=s then some x else m.get t
 |[],_=>by simp[GM.ins,GM.get]
 |(k,v)::r,c=>by
  have b:s≠k:=λh=>by simp[GM.get,h]at c
  have d:GM.get r s=none:=by simpa[GM.get,b]using c
  unfold GM.ins
  split
  ·simp only[GM.get]
  ·simp only[GM.get]
   by_cases a:t=k
   ·subst a;rw[if_pos rfl,if_neg (λh=>b h.symm),if_pos rfl]
   ·rw[if_neg a,if_neg a];exact GM.get_ins d
theorem GM.get_put:(m.put s x).get t=if t=s then some x else m.get t:=by
 unfold GM.put;cases h:m.get s with
 |none=>exact GM.get_ins h
 |some y=>simp only[GM.get_set,h,AC,and_true]
abbrev tV:=@GM.get_put
end
def eW{d C:Type}[DecidableEq d][KE d](s:Nat)(a:C->I)(J:F)(r:Nat)(m:GM d C):Prop:=∃b,J.get r=some (.map s (Hi a m) b)
section
variable {E:aZ}{ρ:Ad}{J J':F}{Rr:bP}{t kt sz r a:Nat}{x y w:Operand}{agg:Bool}{z u:I}{κ α:Type}[DecidableEq κ][KE κ]{enc:α->I}{m:GM κ α}{k:κ}{v:α}
theorem OF(L:cq E.P t=some (kt,z,sz,agg))(W:Ah E ρ x=some (.mp r))(K:eW kt enc J r m)(B:Ah E ρ y=some u)(X:D4 E.P kt u=some (KE.k k)):
  As E Rr (.lookup t x y false) ρ J (((m.get k).map enc).getD z) J:=by
 have:=OH (Rr:=Rr) L W (show Xz J kt (Hi enc m) (.mp r)from K) B X
 rwa[Rt]at this
theorem Arl(L:cq E.P t=some (kt,z,sz,agg))(W:Ah E ρ x=some (.mp r))(K:eW kt enc J r m)(B:Ah E ρ y=some u)(X:D4 E.P kt u=some (KE.k k)):
  As E Rr (.lookup t x y true) ρ J (.tup [((m.get k).map enc).getD z,.bool (m.get k).isSome]) J:=by
 have:=RW (Rr:=Rr) L W (show Xz J kt (Hi enc m) (.mp r)from K) B X
 rwa[Rt,Option.isSome_map]at this
theorem K7{a}(L:cq E.P t=some (kt,z,sz,agg))(W:Ah E ρ x=some (.mp r))(K:J.get r=some (.map kt (Hi enc m) a))(B:Ah E ρ y=some u)(X:D4 E.P kt u=some (KE.k k))
  (i:Ah E ρ w=some (enc v))(N:∀b:TI,b.size=sz->b.isAgg=agg->Je b (enc v)=true):
  As E Rr (.mapUpdate t x y w) ρ J An (J.set r (.map kt (Hi enc (m.put k v)) (a+1))):=by
 have:=RH (Rr:=Rr) L W K B X i N
 rwa[Tj]at this
theorem eW.of_get(h:eW kt enc J r m)(H:J'.get r=J.get r):eW kt enc J' r m:=by obtain⟨v,h⟩:=h;exact⟨v,H.trans h⟩
theorem eW.put{a}:eW kt enc (J.set r (.map kt (Hi enc m) a)) r m:=⟨a,by rw[aU,if_pos rfl]⟩
theorem eW.lt(i:bY J)(h:eW kt enc J r m):r<O J:=by obtain⟨v,h⟩:=h;exact(i _ _ h).1
end
end
section
variable {E:aZ}{ρ:Ad}{J J' U:F}{Rr:bP}{t ty n a i k N off sz sz0 by':Nat}{x y:Operand}{agg:Bool}{cs cs' c tl:List I}{u v:I}{α:Type}{enc:α->List I}{l:List α}{e:α}
theorem E8(H:J.get a=some (.cells cs))(L:gN E.P t=some (sz,agg))(W:Ah E ρ x=some (.pr a off))(b:Cz sz agg (cs.drop off)=some v):As E Rr (.load t x) ρ J v J:=
 Ac L W (by simp only[Em,F.cells,H]) b
theorem G1(H:J.get a=some (.cells cs))(L:gN E.P t=some (sz,agg))(W:Ah E ρ x=some (.pr a off))(B:Ah E ρ y=some v)(P:v.cellsN sz=some c)(j:Et cs off c=some cs'):As E Rr (.store t x y) ρ J An (J.set a (.cells cs')):=
 By L W B P (by simp only[F.cells,H]) j
def bm:I->Option Nat
 |.sr a _ _ _ _=>some a
 |_=>none
def jF(v w:I):Prop:=∀a,bm v=some a->bm w≠some a
theorem jF.symm(h:jF u v):jF v u:=λa b c=>h a c b
theorem aW.adr_lt(h:aW J N enc sz l v){a}(c:bm v=some a):N<=a/\a<O J:=by
 rcases h with⟨_,rfl|rfl⟩|⟨b,f,d,e,rfl,_⟩
 ·cases c
 ·cases c
 ·simp only[bm,bH]at c;subst c;exact⟨d,e⟩
theorem aW.of_get(h:aW J N enc sz l v)(S:O J<=O J')(H:∀a,bm v=some a->J'.get a=J.get a):aW J' N enc sz l v:=
 h.mono S λa c b _ _ _=>H a (by rw[b];rfl)
theorem aW.sr(h:aW J N enc sz l v)(L:i<l.length):∃a b,N<=a/\a<O J/\v=.sr a 0 sz l.length none/\J.get a=some (.cells (l.flatMap enc++b)):=by
 rcases h with⟨rfl,_⟩|h
 ·exact absurd L (zW _)
 ·exact h
theorem aW.app2(p:∀a,(enc a).length=sz)(R:N<=O J)(h:aW J N enc sz l v)(b)(g:(l.length+1)*(by'+1)<=az):
  ∃d,B6 J sz by' v 1 (enc b)=some (.sr (O J) 0 sz (l.length+1) none,d)/\O d=O J+1/\aW d N enc sz (l++[b]) (.sr (O J) 0 sz (l.length+1) none)/\(∀a,a<O J->bm v≠some a->d.get a=J.get a):=by
 obtain⟨d,i,_,j,k,m⟩:=h.app1 (by':=by') p R b g
 exact⟨d,i,j,k,λa n f=>m a n λc o e=>f (by rw[o,e];rfl)⟩
abbrev jB:=@aW.app2
theorem bY.kill(i:bY J)(a):bY (J.kill a):=λb e c=>by
 rw[dF]at c
 split at c
 ·cases c
 ·obtain⟨g,h,d⟩:=i b e c;rw[B3];refine⟨g,h,?_⟩;unfold zg at d⊢
  split at d
  ·intro j f H;rw[dF]at H;rw[B3]
   split at H
   ·cases H
   ·exact d j f H
  ·trivial
theorem aW.fzA(f:∀a,(enc a).length=sz)(h:aW J N enc sz l v)(p:∀a,bm v=some a->U.get a=none)(g:I.unds (O U) (l.flatMap enc)=true):Fz J U v (aD enc sz l):=by
 rcases h with⟨rfl,rfl|rfl⟩|⟨a,c,i,_,rfl,e⟩
 ·exact .nils (λq b=>by cases b)
 ·exact .sv (λq b=>by cases b) .nil
 ·have d:Dr (l.length*sz) ((l.flatMap enc++c).drop 0)=some (l.flatMap enc):=by
   have:=D0 (l:=l.flatMap enc) (r:=c)
   rwa[Dl f]at this
  exact .sr e (p a rfl) d (jg g)
def without(J:F)(v:I):F:=match bm v with|some a=>J.kill a|none=>J
theorem L7:O (without J v)=O J:=by
 unfold without
 split
 ·exact B3 _ _
 ·rfl
theorem E0{b}:(without J v).get b=if bm v=some b then none else J.get b:=by
 unfold without;cases h:bm v with
 |none=>simp
 |some a=>
  simp only[dF,bH]
  by_cases c:b=a
  ·subst c;simp
  ·rw[if_neg c,if_neg (λd=>c d.symm)]
theorem bY.without(i:bY J):bY (without J v):=by
 unfold AM.without
 split
 ·exact i.kill _
 ·exact i
theorem Ds.sub(h:bY U)(S:O U<=O J)(H:∀a b,U.get a=some b->J.get a=some b):Ds J U:=by
 refine⟨S,λa b e=>?_⟩
 obtain⟨g,d,i⟩:=h a b e;refine⟨g,b,H a b e,?_⟩;cases b with
 |cells o=>exact .cells (jg d)
 |map l j c=>exact .map (Oi .same d)
 |iter m c left f=>exact .iter d i
 |stamp m c k=>exact .stamp d
 |loop n=>exact .loop
abbrev zn:=@Ds.sub
theorem Ds.without(i:bY J):Ds J (without J v):=zn i.without (by rw[L7];exact Y) λa c b=>by
 rw[E0]at b
 split at b
 ·cases b
 ·exact b
end
section
open Go Go.Proofs
theorem Kr{p:Prop}(h:p:=by kernel_rfl):p:=h
theorem SL{p:Prop}(h:p:=by repeat (first|exact trivial|refine⟨rfl,?_⟩)):p:=h
class Ld (t:Nat)(s:outParam Nat)(g:outParam Bool):Prop where
 h:gN M.P t=some (s,g):=by kernel_rfl
class Fd (t i:Nat)(o s:outParam Nat)(g:outParam Bool):Prop where
 h:sA M.P t i=some (o,s,g):=by kernel_rfl
class Sl (t:Nat):Prop where
 h:Mk M.P t=true:=by kernel_rfl
class Ok (t:Nat):Prop where
 h:cW M.P t=true:=by kernel_rfl
class El (t:Nat)(s b:outParam Nat)(z:outParam (Option (List I))):Prop where
 h:fM M.P t=some (s,b,z):=by kernel_rfl
class Zi (t:Nat)(z:outParam (List I)):Prop where
 h:zI M.P t=some z:=by kernel_rfl
class Bd (t:Nat)(z:outParam (List I))(l:outParam (List (Nat×Nat))):Prop where
 h:yQ M.P t=some (z,l):=by kernel_rfl
theorem stZ:Fs M.P 9=true:=by kernel_rfl
theorem aG{t s g}[i:Ld t s g]:gN M.P t=some (s,g):=i.h
theorem cP{t i o s g}[k:Fd t i o s g]:sA M.P t i=some (o,s,g):=k.h
theorem bF{t}[i:Sl t]:Mk M.P t=true:=i.h
theorem aV{t}[i:Ok t]:cW M.P t=true:=i.h
theorem aJ{t s b U}[i:El t s b U]:fM M.P t=some (s,b,U):=i.h
theorem bG{t U}[i:Zi t U]:zI M.P t=some U:=i.h
theorem z8{t U l}[i:Bd t U l]:yQ M.P t=some (U,l):=i.h
section
variable {nt B:Nat}{df:List (Nat×List I)}{Q:Cc}{ρ:Ad}{J:F}{K:Ad->F->Prop}{Rr:bP}
def rX(E:aZ)(G:Array Oper)(f:List iL->Bool):Bool:=match Lo E G with|some l=>f l|none=>false
theorem zU{E G f}(h:rX E G f=true):∃l,Lo E G=some l/\f l=true:=by
 unfold rX at h
 split at h
 ·exact⟨_,by assumption,h⟩
 ·cases h
theorem XI{v G l}(X:Aev M l)(h:TD M nt (Dk l) G.toList G.toList (RJ Q J) ρ J [J] [])(c:rX M G (λ_=>true)=true:=by kernel_rfl):T M nt df B (.region v G true) Q ρ J:=by
 obtain⟨_,a,_⟩:=zU c;exact V1 Di (Bw X) a h
theorem X0{v G}(h:TD M nt (λ_ _ _=>none) G.toList G.toList (NR Q J) ρ J [J] [])(c:rX M G (λ_=>OY M G.toList)=true:=by kernel_rfl):T M nt df B (.region v G true) Q ρ J:=by
 obtain⟨_,a,b⟩:=zU c;exact ω Di a b h
theorem XS{v G l}(X:Aev M l)(h:TD M nt (Dk l) G.toList G.toList (NX Q) ρ J [J] [])(c:rX M G (λa=>Rm M a G.toList 0)=true:=by kernel_rfl):T M nt df B (.region v G true) Q ρ J:=by
 obtain⟨_,b,d⟩:=zU c;exact SF Di (Bw X) b d h
theorem XX(m){v G l}(X:Aev M l)(h:TD M nt (Dk l) G.toList G.toList (NG Q m J) ρ J [J] [])(c:rX M G (λa=>Jo M m a G.toList false)=true:=by kernel_rfl):T M nt df B (.region v G true) Q ρ J:=by
 obtain⟨_,b,d⟩:=zU c;exact AS m Di (Bw X) b d h
theorem fZ(n){b}(q){G r y o t c x} 
  (f:b=true->TO M nt df B G (r.take n) (λa d=>d=J/\Hy ρ a/\Ah M a x=some (.bool q)) ρ J)
  (k:TO M nt df B G y K ((t,.bool (b&&q))::ρ) J)
  (w:r.drop n=o::y:=by exact rfl)(m:o.op=.pick c x (.const (.bool false)):=by exact rfl)(e:o.dst=some t:=by exact rfl)(h:Ah M ρ c=some (.bool b):=by exact rfl)(i:Nat.blt t nt=true:=by exact rfl)(H:o.guard=none:=by exact rfl)
  (g:b=false->TO M nt df B G (r.take n) (λa d=>d=J/\Hy ρ a) ρ J:=by intro H;(repeat (first|refine Of H ?_|refine Ou ?_));exact Dd ⟨rfl,sb⟩):TO M nt df B G r K ρ J:=
 Hq n b q h w m e i (Eh H) f g k
theorem cJ(n){b}(q){G r y o t c x} 
  (f:b=false->TO M nt df B G (r.take n) (λa d=>d=J/\Hy ρ a/\Ah M a x=some (.bool q)) ρ J)
  (k:TO M nt df B G y K ((t,.bool (b||q))::ρ) J)
  (w:r.drop n=o::y:=by exact rfl)(m:o.op=.pick c (.const (.bool true)) x:=by exact rfl)(e:o.dst=some t:=by exact rfl)(h:Ah M ρ c=some (.bool b):=by exact rfl)(i:Nat.blt t nt=true:=by exact rfl)(H:o.guard=none:=by exact rfl)
  (g:b=true->TO M nt df B G (r.take n) (λa d=>d=J/\Hy ρ a) ρ J:=by intro H;(repeat (first|refine Of H ?_|refine Ou ?_));exact Dd ⟨rfl,sb⟩):TO M nt df B G r K ρ J:=
 Qh n b q h w m e i (Eh H) f g k
theorem Xf{G r h a c o e}{j d:Nat}{b n}(k:TD M nt Rr G r h (Dt o.dst An ρ) J a ((ρ,An)::c))(H:o.guard=some (j,n):=by exact rfl)(f:G[j]? =some e:=by exact rfl)(t:e.dst=some d:=by exact rfl)(Q:Ad.at ρ d=some (.bool b):=by exact rfl)(i:cond b n (!n)=false:=by first|rfl|simp only[*]<;>rfl|simp[*]<;>fail)
  (p:B5 (Bc M o.op)=false:=by exact rfl)(g:B0 nt o.dst=true:=by exact rfl):TD M nt Rr G (o::r) h ρ J a c:=Dx H f t Q i k p g
theorem Xn{G r f a e o l v c}{j d:Nat}{b n}(h:As M Rr o.op ρ J v c)(k:TD M nt Rr G r f (Dt o.dst v ρ) J a ((ρ,v)::e))(H:o.guard=some (j,n):=by exact rfl)(m:G[j]? =some l:=by exact rfl)(t:l.dst=some d:=by exact rfl)(Q:Ad.at ρ d=some (.bool b):=by exact rfl)(i:cond b n (!n)=true:=by first|rfl|simp only[*]<;>rfl|simp[*]<;>fail)
  (p:B5 (Bc M o.op)=false:=by exact rfl)(g:B0 nt o.dst=true:=by exact rfl):TD M nt Rr G (o::r) f ρ J a e:=Dn H m t Q i h k p g
end
theorem xY{a f J}{t l:Nat}{x k p q}(L:cW M.P t=true)(W:Ah M f x=some (.int k p)):As M a (.binOp .lss t x (.const (.int k q)) l) f J (.bool (decide (p<q))) J:=Qe L W (by cases q<;>simp[Ah,ls,Yh,Ak,nB])
theorem MG{a f J}{t l:Nat}{x k p q}(L:cW M.P t=true)(W:Ah M f x=some (.int k p)):As M a (.binOp .leq t x (.const (.int k q)) l) f J (.bool (decide (p<=q))) J:=Hn L W (by cases q<;>simp[Ah,ls,Yh,Ak,nB])
theorem wF{a f J}{t l:Nat}{x k p q}(L:cW M.P t=true)(W:Ah M f x=some (.int k p)):As M a (.binOp .gtr t x (.const (.int k q)) l) f J (.bool (decide (q<p))) J:=Wv L W (by cases q<;>simp[Ah,ls,Yh,Ak,nB])
theorem ym{a f J}{t l:Nat}{x k p q}(L:cW M.P t=true)(W:Ah M f x=some (.int k p)):As M a (.binOp .geq t x (.const (.int k q)) l) f J (.bool (decide (q<=p))) J:=IH L W (by cases q<;>simp[Ah,ls,Yh,Ak,nB])
theorem vp{a f J}{t l:Nat}{x k p q}(L:cW M.P t=true)(W:Ah M f x=some (.int k p)):As M a (.binOp .eql t x (.const (.int k q)) l) f J (.bool (decide (p=q))) J:=H4 L W (by cases q<;>simp[Ah,ls,Yh,Ak,nB])
theorem xk{a f J}{t l:Nat}{x k p q}(L:cW M.P t=true)(W:Ah M f x=some (.int k p)):As M a (.binOp .neq t x (.const (.int k q)) l) f J (.bool (!decide (p=q))) J:=GA L W (by cases q<;>simp[Ah,ls,Yh,Ak,nB])
theorem Ez{c B l f s J G x q}(u:Hy f s:=by repeat (first|exact .refl|refine .cons rfl ?_))(r:Ah M s x=some (.bool q):=by exact rfl):TO M c l B G [] (λa b=>b=J/\Hy f a/\Ah M a x=some (.bool q)) s J:=Dd ⟨rfl,u,r⟩
theorem Cb{a b}(h:a=b:=by first|rfl|simp only[*]<;>rfl|simp[*]<;>fail):some (I.bool a)=some (I.bool b):=congrArg (λb=>some (I.bool b)) h
theorem Oq{a w f J v c}(h:As M a w f J v c:=by first|exact Ag rfl|exact Gd rfl|exact Ac aG rfl rfl rfl|exact Ac aG rfl rfl (Wz (Dh _))|exact Ae cP rfl rfl|exact Jl bF rfl|exact S7 rfl rfl|exact A1 aJ zF rfl rfl (by assumption)|exact D3 (q:=1) aV rfl rfl z|exact Dc rfl|exact xY aV rfl|exact Qe aV rfl rfl|exact xk aV rfl|exact GA aV rfl rfl|exact wF aV rfl|exact Wv aV rfl rfl|exact vp aV rfl|exact H4 aV rfl rfl|exact ym aV rfl|exact IH aV rfl rfl|exact Ut z8 rfl rfl|exact SU rfl rfl|exact Bq rfl rfl Bv|exact Eq rfl|exact Ge rfl|exact XF stZ rfl|exact H5 (q:=[]) aV rfl rfl|exact H5 aV rfl rfl|exact A3 rfl (by first|rfl|simp only[*]<;>rfl|simp[*]<;>fail) rfl|exact Au rfl (by first|rfl|simp only[*]<;>rfl|simp[*]<;>fail) rfl|fail):As M a w f J v c:=h
section
variable {Ls:List RF}{nt b B:Nat}{df:List (Nat×List I)}{Q:Cc}{ρ:Ad}{J:F}{K:Ad->F->Prop}{Rr:bP}
theorem QD{id G}(h:∀{c:List (Nat×List I)},TO M nt c B G.toList G.toList (λρ J=>Q .normal ρ J) ρ J):TX M Ls nt b B (.region id G false) Q ρ J:=Dy (λc=>B7 h) rfl
theorem rF(m){G r}(h:∀{c:List (Nat×List I)},TO M nt c B G (r.take m) (λa d=>iZ M Ls nt b B G (r.drop m) K a d) ρ J):iZ M Ls nt b B G r K ρ J:=Gm m λc=>h
theorem Ca{G r f a}{b:Array Nat}{dst}{l:Nat}{pos after k first y e t v q}(P:Al M k t J λu U=>u=v/\U=q)
  (X:TO M nt df B G r K (Dt dst v ρ) q)(g:B0 nt dst=true:=by exact rfl)(N:Ah M ρ f=some (.fn (.func k) first y):=by exact rfl)(c:Kc M ρ a.toList=some e:=by exact rfl)(d:first++e++y=t:=by exact rfl):TO M nt df B G ({ dst:=dst,op:=.call ⟨.value f,a,b⟩,type:=l,pos:=pos,after:=after,guard:=none }::r) K ρ J:=
 Nm g N c d P X
theorem lO{t a c T e d v x}[i:Ld t T e](H:J.get a=some (.cells d))(W:Ah M ρ x=some (.pr a c):=by exact rfl)(b:Cz T e (d.drop c)=some v:=by exact rfl):As M Rr (.load t x) ρ J v J:=E8 H i.h W b
theorem sO{t a off T e cs cs' c v x y}[i:Ld t T e](H:J.get a=some (.cells cs))(W:Ah M ρ x=some (.pr a off):=by exact rfl)(B:Ah M ρ y=some v:=by exact rfl)(P:v.cellsN T=some c:=by exact rfl)(j:Et cs off c=some cs':=by exact rfl):As M Rr (.store t x y) ρ J An (J.set a (.cells cs')):=G1 H i.h W B P j
end
theorem G{P Q:Prop}(k:P)(h:P->Q:=by first|exact sN|exact Dd|exact B7|exact λk=>A Oq k|exact GO|exact OO|exact HC|exact λk=>Jv aG rfl rfl rfl k|exact λk=>Jv aG rfl (A7 (Dh _)) rfl k|exact λk=>Ho bG aG rfl zF rfl rfl rfl rfl k|exact ES|exact Cf|exact QD|exact Jw|exact Qn|exact Ux|exact Th|exact Er|exact Uy|exact λk=>Mp bG aG rfl zF rfl rfl rfl k|exact λk=>V Oq k|exact λk=>DT Oq k|exact C1|exact λk=>Xf k|exact λk=>Xn Oq k|exact λk=>Du k|fail):Q:=h k
theorem Gn{b a:Bool}(H:b=a){P Q:Prop}(k:P)(h:P->Q:=by first|exact λk=>On H Oq k|exact λk=>Of H k|exact λk=>Ou k|exact Dd|fail):Q:=h k
theorem Gs{P Q:Prop}(h:P->Q:=by first|exact sN|exact Dd|exact B7|exact λk=>A Oq k|exact GO|exact OO|exact HC|exact λk=>Jv aG rfl rfl rfl k|exact λk=>Jv aG rfl (A7 (Dh _)) rfl k|exact λk=>Ho bG aG rfl zF rfl rfl rfl rfl k|exact ES|exact Cf|exact QD|exact Jw|exact Qn|exact Ux|exact Th|exact Er|exact Uy|exact λk=>Mp bG aG rfl zF rfl rfl rfl k|exact λk=>V Oq k|exact λk=>DT Oq k|exact C1|exact λk=>Xf k|exact λk=>Xn Oq k|exact λk=>Du k|fail):P->Q:=h
theorem G2{P Q e:Prop}(k:P)(u:e->Q:=by exact Gs)(r:P->e:=by exact Gs):Q:=u (r k)
theorem G3{P Q e l:Prop}(k:P)(u:e->Q:=by exact Gs)(r:l->e:=by exact Gs)(t:P->l:=by exact Gs):Q:=u (r (t k))
theorem G4{P Q e l h:Prop}(k:P)(u:e->Q:=by exact Gs)(r:l->e:=by exact Gs)(t:h->l:=by exact Gs)(a:P->h:=by exact Gs):Q:=u (r (t (a k)))
theorem G5{P Q e l h v:Prop}(k:P)(u:e->Q:=by exact Gs)(r:l->e:=by exact Gs)(t:h->l:=by exact Gs)(a:v->h:=by exact Gs)(m:P->v:=by exact Gs):Q:=u (r (t (a (m k))))
theorem G6{P Q e l h v r:Prop}(k:P)(u:e->Q:=by exact Gs)(a:l->e:=by exact Gs)(t:h->l:=by exact Gs)(b:v->h:=by exact Gs)(m:r->v:=by exact Gs)(c:P->r:=by exact Gs):Q:=u (a (t (b (m (c k)))))
theorem G7{P Q e l h v r b:Prop}(k:P)(u:e->Q:=by exact Gs)(a:l->e:=by exact Gs)(t:h->l:=by exact Gs)(d:v->h:=by exact Gs)(m:r->v:=by exact Gs)(c:b->r:=by exact Gs)(f:P->b:=by exact Gs):Q:=u (a (t (d (m (c (f k))))))
theorem G8{P Q e l h v r b w:Prop}(k:P)(u:e->Q:=by exact Gs)(a:l->e:=by exact Gs)(t:h->l:=by exact Gs)(d:v->h:=by exact Gs)(m:r->v:=by exact Gs)(c:b->r:=by exact Gs)(f:w->b:=by exact Gs)(B:P->w:=by exact Gs):Q:=u (a (t (d (m (c (f (B k)))))))
theorem G9{P Q e l h v r b w a:Prop}(k:P)(u:e->Q:=by exact Gs)(d:l->e:=by exact Gs)(t:h->l:=by exact Gs)(f:v->h:=by exact Gs)(m:r->v:=by exact Gs)(c:b->r:=by exact Gs)(g:w->b:=by exact Gs)(B:a->w:=by exact Gs)(i:P->a:=by exact Gs):Q:=u (d (t (f (m (c (g (B (i k))))))))
theorem cD{P Q e l h v r b w a K:Prop}(k:P)(u:e->Q:=by exact Gs)(d:l->e:=by exact Gs)(t:h->l:=by exact Gs)(f:v->h:=by exact Gs)(m:r->v:=by exact Gs)(c:b->r:=by exact Gs)(g:w->b:=by exact Gs)(B:a->w:=by exact Gs)(i:K->a:=by exact Gs)(J:P->K:=by exact Gs):Q:=u (d (t (f (m (c (g (B (i (J k)))))))))
theorem fJ{P Q e l h v r b d f K w:Prop}(k:P)(u:e->Q:=by exact Gs)(g:l->e:=by exact Gs)(t:h->l:=by exact Gs)(i:v->h:=by exact Gs)(m:r->v:=by exact Gs)(c:b->r:=by exact Gs)(j:d->b:=by exact Gs)(B:f->d:=by exact Gs)(n:K->f:=by exact Gs)(J:w->K:=by exact Gs)(a:P->w:=by exact Gs):Q:=u (g (t (i (m (c (j (B (n (J (a k))))))))))
theorem cG{P Q e l h v r b g i K w a:Prop}(k:P)(u:e->Q:=by exact Gs)(j:l->e:=by exact Gs)(t:h->l:=by exact Gs)(n:v->h:=by exact Gs)(m:r->v:=by exact Gs)(c:b->r:=by exact Gs)(o:g->b:=by exact Gs)(B:i->g:=by exact Gs)(p:K->i:=by exact Gs)(J:w->K:=by exact Gs)(d:a->w:=by exact Gs)(f:P->a:=by exact Gs):Q:=u (j (t (n (m (c (o (B (p (J (d (f k)))))))))))
theorem R1{J p:Prop}(u:J)(r:J->p:=by intro u;first|rfl|simp only[u]<;>rfl|simp[u]):p:=r u
theorem R2{J T p:Prop}(u:J)(a:T)(r:J->T->p:=by intro u a;first|rfl|simp only[u,a]<;>rfl|simp[u,a]):p:=r u a
theorem R3{J T B p:Prop}(u:J)(a:T)(t:B)(r:J->T->B->p:=by intro u a t;first|rfl|simp only[u,a,t]<;>rfl|simp[u,a,t]):p:=r u a t
theorem R4{J T B c p:Prop}(u:J)(a:T)(t:B)(b:c)(r:J->T->B->c->p:=by intro u a t b;first|rfl|simp only[u,a,t,b]<;>rfl|simp[u,a,t,b]):p:=r u a t b
abbrev nS:I:=.nil (.slice none 0 0)
abbrev z5:List I:=[.str [],nS,nS,.str [],nS]
section
variable {nt:Nat}{ρ:Ad}{J:F}{Rr:bP}{ops r:List Oper}{Kd:KD}{eps:List F}{log:List (Ad×I)}{o oj:Oper}{j d:Nat}{b want:Bool}
theorem Wx(k:TD M nt Rr ops r Kd (Dt o.dst An ρ) J eps ((ρ,An)::log))(H:o.guard=some (j,want):=by exact rfl)(h:ops[j]? =some oj:=by exact rfl)(t:oj.dst=some d:=by exact rfl)(Q:Ad.at ρ d=some (.bool b):=by exact rfl)(p:B5 (Bc M o.op)=false:=by exact rfl)(g:B0 nt o.dst=true:=by exact rfl)(w:cond b want (!want)=false):TD M nt Rr ops (o::r) Kd ρ J eps log:=Dx H h t Q w k p g
theorem Wn{v c}(h:As M Rr o.op ρ J v c)(k:TD M nt Rr ops r Kd (Dt o.dst v ρ) J eps ((ρ,v)::log))(H:o.guard=some (j,want):=by exact rfl)(a:ops[j]? =some oj:=by exact rfl)(t:oj.dst=some d:=by exact rfl)(Q:Ad.at ρ d=some (.bool b):=by exact rfl)(p:B5 (Bc M o.op)=false:=by exact rfl)(g:B0 nt o.dst=true:=by exact rfl)(w:cond b want (!want)=true):TD M nt Rr ops (o::r) Kd ρ J eps log:=Dn H a t Q w h k p g
end
abbrev Cv(f:Nat)(a:List I)(J:F)(x:I):Prop:=Al M f a J λv U=>v=x/\U=J
end
structure Pr where
 a:aH
 b:aH
 deriving DecidableEq
structure Hp where
 label:aH
 floating:Bool
 text:List aH
structure Fr where
 label:aH
 thm:Bool
 hyps:List Hp
 apart:List Pr
 text:List aH
 dummies:List Hp
 wide:List Pr
 proof:List aH
structure Db where
 consts:List aH
 vars:List aH
 frames:List Fr
inductive Ax where
 |node (label:aH)(kids:List Ax)
structure Sb where
 label:aH
 tree:Ax
structure Pt where
 symbol:aH
 sort:aH
 arg:Int
structure Rl where
 label:aH
 sort:aH
 parts:List Pt
 var:Bool
structure Gr where
 sorts:List aH
 rules:List Rl
abbrev Af(l:List aH):I:=aD (λs=>[sV s]) 1 l
def eP(p:Pr):List I:=[sV p.a,sV p.b]
def eH(h:Hp):List I:=[sV h.label,.bool h.floating,Af h.text]
def eF(f:Fr):List I:=[sV f.label,.bool f.thm,aD eH 3 f.hyps,aD eP 2 f.apart,Af f.text,aD eH 3 f.dummies,aD eP 2 f.wide,Af f.proof]
def fy(d:Db):I:=.agg [Af d.consts,Af d.vars,aD eF 8 d.frames]
mutual
def eT:Ax->List I
 |.node l ks=>[sV l,.sv (kR ks) 2 ks.length none]
def kR:List Ax->List I
 |[]=>[]
 |t::r=>eT t++kR r
end
theorem No:∀l:List Ax,kR l=l.flatMap eT
 |[]=>by simp[kR]
 |t::r=>by simp[kR,No r]
theorem Cl(l a):eT (.node l a)=[sV l,aD eT 2 a]:=by simp[eT,aD,No]
theorem Dh(t):(eT t).length=2:=by cases t;simp[eT]
def En(t:Ax):I:=.agg (eT t)
def eS(s:Sb):List I:=sV s.label::eT s.tree
def cL(p:Pt):List I:=[sV p.symbol,sV p.sort,D p.arg]
def eR(r:Rl):List I:=[sV r.label,sV r.sort,aD cL 3 r.parts,.bool r.var]
def gY(g:Gr):I:=.agg [Af g.sorts,aD eR 4 g.rules]
mutual
theorem Ax.ind' {P:Ax->Prop} (h:∀l ks,(∀t∈ks,P t)->P (.node l ks)):∀t,P t
 |.node l ks=>h l ks (Ax.indL' h ks)
theorem Ax.indL' {P:Ax->Prop} (h:∀l ks,(∀t∈ks,P t)->P (.node l ks)):∀(ks:List Ax),∀t∈ks,P t
 |[],t,ht=>by simp at ht
 |k::r,t,ht=>by
  have h1:=Ax.ind' h k;have h2:=Ax.indL' h r
  grind
end
theorem Uz{N}:∀{l m:List I},I.unds N l=true->I.unds N m=true->I.unds N (l++m)=true
 |[],m,_,h=>h
 |x::l,m,h,k=>by simp only[dL,I.unds,bg]at h⊢;exact⟨h.1,Uz h.2 k⟩
mutual
theorem Es {N:Nat}:∀t:Ax,I.unds N (eT t)=true
 |.node l ks=>by simp only[eT,I.unds,I.und,sV,Jq ks,dR]
theorem Jq {N:Nat}:∀l:List Ax,I.unds N (kR l)=true
 |[]=>rfl
 |t::r=>by simp only[kR];exact Uz (Es t) (Jq r)
end
section
open Go Go.Proofs
theorem Bbh{E:aZ}{G:List Oper}{R:bP}:∀(a b:List Oper) (d:DS),T9 E G R (a++b) d=(T9 E G R a d).bind (T9 E G R b)
 |[],_,_=>rfl
 |o::a,b,d=>by
  simp only[dL,T9];cases Rc E G o R d with
  |none=>rfl
  |some c=>exact Bbh a b c
section
variable {E:aZ}{nt:Nat}{Rr:bP}{ops r:List Oper}{K:KD}{ρ ρ':Ad}{J:F}{eps:List F}{log:List (Ad×I)}
theorem U7(n:Nat)(h:TD E nt Rr ops (r.take n) (λρ J eps log=>TD E nt Rr ops (r.drop n) K ρ J eps log) ρ J eps log):TD E nt Rr ops r K ρ J eps log:=by
 intro tm df dl ht hl;obtain⟨d1,h1,h2,h3,ρ1,l1,h4,h5,h6⟩:=h tm df dl ht hl;obtain⟨⟨tm1,nt1,df1,J1⟩,e1,g1⟩:=d1;cases h2;cases h3;obtain⟨d2,k1,k2⟩:=h6 tm1 df1 g1 h4 h5
 exact⟨d2,by rw[<-gK n r,Bbh,h1];exact k1,k2⟩
theorem TD.mono{K':KD}(h:TD E nt Rr ops r K ρ J eps log)(k:∀ρ J eps log,K ρ J eps log->K' ρ J eps log):TD E nt Rr ops r K' ρ J eps log:=λtm df dl ht hl=>by
 obtain⟨d,h1,h2,h3,ρ',l',h4,h5,h6⟩:=h tm df dl ht hl;exact⟨d,h1,h2,h3,ρ',l',h4,h5,k _ _ _ _ h6⟩
theorem Bd4(h:TD E nt Rr ops r K ρ J eps log)(j:Hy ρ ρ'):TD E nt Rr ops r K ρ' J eps log:=λf a b d c=>h f a b (λi v e=>d i v (j i v e)) c
theorem yX(n:Nat){eps1:List F}{r':List Oper}{o:Oper}{t:Nat}{v:I}(w:r.drop n=o::r')(e:o.dst=some t)(ht:Nat.blt t nt=true)(H:∀a,Hy ρ a->∀i,Has i a->Bn ops o i=some true)(he:B5 (Bc E o.op)=false)
  (h:TD E nt Rr ops (r.take n) (λa f c _=>f=J/\c=eps1/\Hy ρ a/\As E Rr o.op a J v J) ρ J eps log)(k:∀log,TD E nt Rr ops r' K ((t,v)::ρ) J eps1 log):TD E nt Rr ops r K ρ J eps log:=by
 refine U7 n ?_;rw[w];refine h.mono λa f c l' ⟨j,h2,h3,q⟩=>?_
 subst j h2
 refine BB (b:=false) (H a h3) he (by rw[e];exact ht) q ?_
 rw[e];exact Bd4 (k _) h3.put
end
section
variable {nt:Nat}{Rr:bP}{ops r r':List Oper}{K:KD}{ρ:Ad}{J:F}{eps:List F}{log:List (Ad×I)}{o:Oper}{t:Nat}{c x:Operand}{b:Bool}
theorem AA{s:Ad}{c:Operand}{v:I}(h:Hy ρ s)(a:Ah M ρ c=some v):Ah M s c=some v:=by
 cases c with
 |tmp j=>exact h _ _ a
 |_=>exact a
theorem gR{l:KD}{m:Oper}{v:I}{c:F}{j d:Nat}{a n:Bool}(f:b=a)(h:As M Rr o.op ρ J v c)(k:TD M nt Rr ops r l (Dt o.dst v ρ) J eps ((ρ,v)::log))(H:o.guard=some (j,n):=by exact rfl)(q:ops[j]? =some m:=by exact rfl)(t:m.dst=some d:=by exact rfl)(Q:Ad.at ρ d=some (.bool b):=by exact rfl)(i:cond a n (!n)=true:=by exact rfl)
  (p:B5 (Bc M o.op)=false:=by exact rfl)(g:B0 nt o.dst=true:=by exact rfl):TD M nt Rr ops (o::r) l ρ J eps log:=Qi (e:=false) H q t Q (by rw[f];exact i) p g h k
theorem tG{l:KD}{m:Oper}{v:I}{c:F}{j d:Nat}{a n:Bool}(f:b=a)(h:As M Rr o.op ρ J v c)(k:TD M nt Rr ops r l (Dt o.dst v ρ) c (c::eps) ((ρ,v)::log))(H:o.guard=some (j,n):=by exact rfl)(q:ops[j]? =some m:=by exact rfl)(t:m.dst=some d:=by exact rfl)(Q:Ad.at ρ d=some (.bool b):=by exact rfl)(i:cond a n (!n)=true:=by exact rfl)
  (p:B5 (Bc M o.op)=true:=by exact rfl)(g:B0 nt o.dst=true:=by exact rfl):TD M nt Rr ops (o::r) l ρ J eps log:=Qi (e:=true) H q t Q (by rw[f];exact i) p g h k
theorem GZ{h:KD}{f:Oper}{j d:Nat}{a n:Bool}(c:b=a)(k:TD M nt Rr ops r h (Dt o.dst An ρ) J eps ((ρ,An)::log))(H:o.guard=some (j,n):=by exact rfl)(l:ops[j]? =some f:=by exact rfl)(t:f.dst=some d:=by exact rfl)(Q:Ad.at ρ d=some (.bool b):=by exact rfl)(i:cond a n (!n)=false:=by exact rfl)
  (p:B5 (Bc M o.op)=false:=by exact rfl)(g:B0 nt o.dst=true:=by exact rfl):TD M nt Rr ops (o::r) h ρ J eps log:=Ta (e:=false) H l t Q (by rw[c];exact i) p g k
theorem IB{h:KD}{f:Oper}{j d:Nat}{a n:Bool}(c:b=a)(k:TD M nt Rr ops r h (Dt o.dst An ρ) J (J::eps) ((ρ,An)::log))(H:o.guard=some (j,n):=by exact rfl)(l:ops[j]? =some f:=by exact rfl)(t:f.dst=some d:=by exact rfl)(Q:Ad.at ρ d=some (.bool b):=by exact rfl)(i:cond a n (!n)=false:=by exact rfl)
  (p:B5 (Bc M o.op)=true:=by exact rfl)(g:B0 nt o.dst=true:=by exact rfl):TD M nt Rr ops (o::r) h ρ J eps log:=Ta (e:=true) H l t Q (by rw[c];exact i) p g k
theorem KR{h:KD}{a:Oper}{j d:Nat}{n:Bool}(k:TD M nt Rr ops r h (Dt o.dst An ρ) J (J::eps) ((ρ,An)::log))(H:o.guard=some (j,n):=by exact rfl)(b:ops[j]? =some a:=by exact rfl)(t:a.dst=some d:=by exact rfl)(Q:Ad.at ρ d=some An:=by exact rfl)
  (p:B5 (Bc M o.op)=true:=by exact rfl)(g:B0 nt o.dst=true:=by exact rfl):TD M nt Rr ops (o::r) h ρ J eps log:=Zy (e:=true) H b t Q p g k
theorem fD{b a:Bool}(H:b=a){P Q:Prop}(k:P)(h:P->Q:=by first|exact λk=>gR H Oq k|exact λk=>tG H Oq k|exact λk=>GZ H k|exact λk=>IB H k|exact λk=>Du k|fail):Q:=h k
theorem kV(n:Nat){U:List F}(q:Bool)(hon:b=false->TD M nt Rr ops (r.take n) (λρ' g eps' _=>g=J/\eps'=U/\Hy ρ ρ'/\Ah M ρ' x=some (.bool q)) ρ J eps log)
  (k:∀log,TD M nt Rr ops r' K ((t,.bool (b||q))::ρ) J U log)
  (hr:r.drop n=o::r':=by exact rfl)(m:o.op=.pick c (.const (.bool true)) x:=by exact rfl)(e:o.dst=some t:=by exact rfl)(s:Ah M ρ c=some (.bool b):=by exact rfl)(ht:Nat.blt t nt=true:=by exact rfl)(i:∀ρ',Hy ρ ρ'->∀y,Has y ρ'->Bn ops o y=some true:=by first|exact Eh rfl|exact Ft rfl rfl rfl rfl (by first|rfl|simp only[*]<;>rfl|simp[*]<;>fail))
  (C:b=true->TD M nt Rr ops (r.take n) (λρ' g eps' _=>g=J/\eps'=U/\Hy ρ ρ') ρ J eps log:=by intro H;(repeat (first|refine GZ H ?_|refine Du ?_|refine IB H ?_|refine KR ?_));exact C1 ⟨rfl,rfl,sb⟩):TD M nt Rr ops r K ρ J eps log:=by
 cases b with
 |false=>exact yX n hr e ht i (by rw[m];rfl) ((hon rfl).mono λρ' g e' G ⟨h1,l,h3,h4⟩=>⟨h1,l,h3,by rw[m];exact Au (AA h3 s) rfl h4⟩) k
 |true=>exact yX n hr e ht i (by rw[m];rfl) ((C rfl).mono λρ' g e' G ⟨h1,l,h3⟩=>⟨h1,l,h3,by rw[m];exact A3 (v:=.bool true) (AA h3 s) rfl rfl⟩) k
theorem xI(n:Nat){U:List F}(q:Bool)(hon:b=true->TD M nt Rr ops (r.take n) (λρ' g eps' _=>g=J/\eps'=U/\Hy ρ ρ'/\Ah M ρ' x=some (.bool q)) ρ J eps log)
  (k:∀log,TD M nt Rr ops r' K ((t,.bool (b&&q))::ρ) J U log)
  (hr:r.drop n=o::r':=by exact rfl)(m:o.op=.pick c x (.const (.bool false)):=by exact rfl)(e:o.dst=some t:=by exact rfl)(s:Ah M ρ c=some (.bool b):=by exact rfl)(ht:Nat.blt t nt=true:=by exact rfl)(i:∀ρ',Hy ρ ρ'->∀y,Has y ρ'->Bn ops o y=some true:=by first|exact Eh rfl|exact Ft rfl rfl rfl rfl (by first|rfl|simp only[*]<;>rfl|simp[*]<;>fail))
  (C:b=false->TD M nt Rr ops (r.take n) (λρ' g eps' _=>g=J/\eps'=U/\Hy ρ ρ') ρ J eps log:=by intro H;(repeat (first|refine GZ H ?_|refine Du ?_|refine IB H ?_|refine KR ?_));exact C1 ⟨rfl,rfl,sb⟩):TD M nt Rr ops r K ρ J eps log:=by
 cases b with
 |true=>exact yX n hr e ht i (by rw[m];rfl) ((hon rfl).mono λρ' g e' G ⟨h1,l,h3,h4⟩=>⟨h1,l,h3,by rw[m];exact A3 (AA h3 s) rfl h4⟩) k
 |false=>exact yX n hr e ht i (by rw[m];rfl) ((C rfl).mono λρ' g e' G ⟨h1,l,h3⟩=>⟨h1,l,h3,by rw[m];exact Au (v:=.bool false) (AA h3 s) rfl rfl⟩) k
end
theorem iX{f s:Ad}{J:F}{c:List F}{n:List (Ad×I)}{g:Nat}{a:bP}{G:List Oper}{x:Operand}{q:Bool}(u:Hy f s:=by repeat (first|exact .refl|refine .cons rfl ?_))(r:Ah M s x=some (.bool q):=by exact rfl):TD M g a G [] (λb e d _=>e=J/\d=c/\Hy f b/\Ah M b x=some (.bool q)) s J c n:=C1 ⟨rfl,rfl,u,r⟩
end
def x9(o:Oper)(l:List Bool):Bool:=o.after.all λe=> !Region.binds .any e||(l[e.on]?).getD false
def qM:List Oper->List Bool->List (List Bool)
 |[],l=>[l]
 |o::r,l=>qM r (l++[false])++cond (x9 o l) (qM r (l++[true])) []
def JU(G:List Oper):Bool:=(List.range G.length).all λi=>match G[i]? with
 |some o=>o.after.all λe=> !Region.binds .any e||Nat.blt e.on i
 |none=>true
theorem Ae4:∀(r:List Oper) (a c:List Bool),c.length=r.length->(∀(j:Nat) (o:Oper),r[j]? =some o->c[j]? =some true->x9 o (a++c)=true)->
  (∀(j:Nat) (o:Oper),r[j]? =some o->(o.after.all λe=> !Region.binds .any e||Nat.blt e.on (a.length+j))=true)->a++c∈qM r a
 |[],a,c,h,_,_=>by
  have:c=[]:=FQ.1 h;subst this
  simp[qM]
 |o::r,a,[],h,_,_=>by simp at h
 |o::r,a,b::c,h,p,n=>by
  have s:=Ae4 r (a++[b]) c Z (λj m f k=>by
   have:=p (j+1) m Z Z
   grind) (λj m f=>by
   have:=n (j+1) m Z
   grind)
  have e:a++b::c=a++[b]++c:=by simp
  rw[e];unfold qM;cases b with
  |false=>exact rQ _ s
  |true=>
   have f:=p 0 o rfl rfl;have k:=n 0 o rfl
   have l:x9 o a=true:=by
    unfold x9 at f⊢;rw[Array.all_eq_true]at f k⊢;intro i q;have g:=f i q;have d:=k i q;rw[eO]at g d⊢
    rcases g with g|g
    ·exact .inl g
    ·rcases d with d|d
     ·exact .inl d
     ·right
      have t:o.after[i].on<a.length:=by
       have:=Nat.blt_eq▸d
       grind
      grind
   rw[l];exact OI _ s
def MS(m a:List Oper):Bool:=
 ((m++a).all λo=>o.guard.isNone)&&oM m (Dq m)&&JU m&&((qM m []).all λl=>EB m a l)
  &&((List.range (a.length+1)).all λj=>decide (Region.ready .any (m++a).toArray (Jp m++X8 a j).toArray=if j<a.length then[m.length+j]else[]))
theorem Ab0:∀(n:Nat) (l:List Bool),l∈Qm n->l.length=n
 |0,l,h=>by simp[Qm]at h;rw[h];rfl
 |n+1,l,h=>by
  simp only[Qm,List.mem_flatMap]at h;obtain⟨m,a,h⟩:=h;have:=Ab0 n m a
  grind
theorem KZ{m a}(h:MS m a=true):K6 m a=true:=by
 unfold MS at h;simp only[bg]at h;obtain⟨⟨⟨⟨f,g⟩,i⟩,d⟩,k⟩:=h;unfold K6;rw[bg,bg,bg];refine⟨⟨⟨f,g⟩,?_⟩,k⟩;rw[b_];intro l p;cases b:oM m l with
 |false=>rfl
 |true=>
  have e:=Ab0 _ _ p
  have q:l∈qM m []:=by
   have:=Ae4 m [] l e (λj o c r=>?_) (λj o c=>?_)
   ·grind
   ·unfold oM at b;rw[b_]at b;have n:=(bQ.1 c).1;have:=b j (jW.2 n);rw[r,c]at this
    simpa[x9]using this
   ·unfold JU at i
    grind
  rw[b_]at d;rw[d l q];rfl
end Go.AM
namespace Go.Proofs
open Go.Shelf
def Tryz.lays189_ren:Go.Shelf.Ren:=⟨λ|189=>186|125=>231|257=>230|128=>262|129=>263|294=>253|295=>254|296=>255|297=>256|298=>257|299=>258|216=>259|300=>260|301=>261|328=>279|329=>280|330=>281|331=>282|332=>283|215=>284|343=>293|n=>n,λ|28=>31|3=>3|46=>385|0=>0|51=>425|53=>427|4=>4|183=>419|182=>418|131=>305|5=>5|9=>9|218=>445|222=>449|228=>464|229=>388|n=>n,λ|n=>n⟩
theorem Tryz.lays189:Go.Proofs.Lays.n189 Tryz.prog Tryz.lays189_ren:=by repeat' first|kernel_rfl|(intro w;kernel_rfl)|constructor
open Go.Sort Go.RowKit in
theorem Tryz.slices_Sort_int (blk off cap:Nat) (zs:List Int) (w:World) (hH:Holds (Value.int .i64) w blk off zs.toArray) (pt:blk<w.heap.size) (hsz:zs.length<4611686018427387904):
  Calls Tryz.prog 186 #[.slice (some ⟨blk,off,none⟩) zs.length cap] w λe w'=>
   e=.returned (.tuple #[])/\∃n os,w'=grow (putRow (Value.int .i64) (Sort.ahead w n) blk off (zs.mergeSort λx y=>decide (x<=y)).toArray) os:=Any.slices_Sort_int Tryz.lays189 blk off cap zs w hH pt hsz
open Go.RowKit Go.Sort in
theorem Tryz.slices_Sort_int_none (p:Option Addr) (cap:Nat) (w:World):
  Calls Tryz.prog 186 #[.slice p 0 cap] w λe w'=>e=.returned (.tuple #[])/\w'=w:=Any.slices_Sort_int_none Tryz.lays189 p cap w
end Go.Proofs
namespace Go.Proofs
open Go.Shelf
def Tryz.lays119_ren:Go.Shelf.Ren:=⟨λ|119=>302|n=>n,λ|21=>21|4=>4|n=>n,λ|n=>n⟩
theorem Tryz.lays119:Go.Proofs.Lays.n119 Tryz.prog Tryz.lays119_ren:=by repeat' first|kernel_rfl|(intro w;kernel_rfl)|constructor
theorem Tryz.utf8_ValidRune(r w):
  Calls Tryz.prog 302 #[.int .i32 r] w λe a=>e=.returned (.bool (Lib.validRune r))/\a=w:=Any.utf8_ValidRune Tryz.lays119 r w
def Tryz.lays106_ren:Go.Shelf.Ren:=⟨λ|106=>271|213=>287|265=>294|n=>n,λ|9=>9|3=>3|n=>n,λ|n=>n⟩
theorem Tryz.lays106:Go.Proofs.Lays.n106 Tryz.prog Tryz.lays106_ren:=by repeat' first|kernel_rfl|(intro w;kernel_rfl)|constructor
open Go.RowKit in
theorem Tryz.strings_Compare (a b:ByteArray) (w:World):
  Calls Tryz.prog 271 #[.string a,.string b] w λe w'=>e=.returned (.int .i64 (Lib.compareBytes a.data.toList b.data.toList))/\w'=w:=Any.strings_Compare Tryz.lays106 a b w
def Tryz.laysGw17_ren:Go.Shelf.Ren:=⟨λ|17=>295|15=>298|20=>300|n=>n,λ|9=>9|23=>468|4=>4|3=>3|0=>0|21=>21|n=>n,λ|n=>n⟩
theorem Tryz.laysGw17:Go.Proofs.LaysGw.n17 Tryz.prog Tryz.laysGw17_ren:=by repeat' first|kernel_rfl|(intro w;kernel_rfl)|constructor
open Go.RowKit Go.Lib in
def Tryz.lays151_ren:Go.Shelf.Ren:=⟨λ|151=>297|152=>299|137=>301|119=>302|224=>303|225=>304|217=>305|266=>306|n=>n,λ|9=>9|21=>21|4=>4|3=>3|5=>5|0=>0|46=>385|n=>n,λ|n=>n⟩
theorem Tryz.lays151:Go.Proofs.Lays.n151 Tryz.prog Tryz.lays151_ren:=by repeat' first|kernel_rfl|(intro w;kernel_rfl)|constructor
open Go.RowKit Go.Lib in
theorem Tryz.strings_ContainsRune_ascii (s:ByteArray) (r:Int) (w:World) (h0:0<=r) (h1:r<128):
  Calls Tryz.prog 297 #[.string s,.int .i32 r] w λe w'=>e=.returned (.bool (decide (0<=Lib.indexByte s.data.toList r.toNat.toUInt8)))/\w'=w:=Any.strings_ContainsRune_ascii Tryz.lays151 s r w h0 h1
end Go.Proofs
namespace Go.AM
open Go Go.Proofs
instance:Ld 3 1 false:={}
instance:Ok 3:={}
instance:Zi 3 [.int .i64 (0)]:={}
instance:Ld 4 1 false:={}
instance:Zi 4 [.bool false]:={}
instance:Ld 5 1 false:={}
instance:Ok 5:={}
instance:Ld 9 1 false:={}
instance:Ok 9:={}
instance:Ld 22 1 false:={}
instance:Sl 22:={}
instance:El 22 1 16 (some [.str []]):={}
instance:Ld 23 1 false:={}
instance:Sl 23:={}
instance:El 23 8 168 (some [.str [],.bool false,nS,nS,nS,nS,nS,nS]):={}
instance:Ld 25 3 true:={}
instance:Zi 25 [nS,nS,nS]:={}
instance:Fd 25 0 0 1 false:={}
instance:Fd 25 1 1 1 false:={}
instance:Fd 25 2 2 1 false:={}
instance:Bd 25 [nS,nS,nS] [(0,1),(1,1),(2,1)]:={}
instance:Ld 31 1 false:={}
instance:Zi 31 [nS]:={}
instance:Sl 31:={}
instance:El 31 1 8 (some [.int .i64 (0)]):={}
instance:Ok 32:={}
instance:Ld 37 1 false:={}
instance:Zi 37 [nS]:={}
instance:Sl 37:={}
instance:El 37 2 40 (some [.str [],nS]):={}
instance:Ld 39 2 true:={}
instance:Zi 39 [.str [],nS]:={}
instance:Fd 39 0 0 1 false:={}
instance:Fd 39 1 1 1 false:={}
instance:Bd 39 [.str [],nS] [(0,1),(1,1)]:={}
instance:Ld 47 1 false:={}
instance:Sl 47:={}
instance:El 47 3 48 (some [.str [],.bool false,nS]):={}
instance:Ld 48 1 false:={}
instance:Sl 48:={}
instance:El 48 2 32 (some [.str [],.str []]):={}
instance:Ld 50 8 true:={}
instance:Zi 50 [.str [],.bool false,nS,nS,nS,nS,nS,nS]:={}
instance:Fd 50 0 0 1 false:={}
instance:Fd 50 1 1 1 false:={}
instance:Fd 50 2 2 1 false:={}
instance:Fd 50 3 3 1 false:={}
instance:Fd 50 4 4 1 false:={}
instance:Fd 50 5 5 1 false:={}
instance:Fd 50 6 6 1 false:={}
instance:Fd 50 7 7 1 false:={}
instance:Bd 50 [.str [],.bool false,nS,nS,nS,nS,nS,nS] [(0,1),(1,1),(2,1),(3,1),(4,1),(5,1),(6,1),(7,1)]:={}
instance:Ld 54 1 false:={}
instance:Ld 74 3 true:={}
instance:Zi 74 [.str [],.bool false,nS]:={}
instance:Fd 74 0 0 1 false:={}
instance:Fd 74 1 1 1 false:={}
instance:Fd 74 2 2 1 false:={}
instance:Bd 74 [.str [],.bool false,nS] [(0,1),(1,1),(2,1)]:={}
instance:Ld 78 1 false:={}
instance:Sl 78:={}
instance:Ld 79 1 false:={}
instance:Sl 79:={}
instance:El 79 3 48 (some [.str [],.int .i64 (0),nS]):={}
instance:Ld 81 3 true:={}
instance:Fd 81 1 1 1 false:={}
instance:Fd 81 2 2 1 false:={}
instance:Fd 86 0 0 1 false:={}
instance:Ld 107 1 false:={}
instance:Sl 122:={}
instance:El 122 1 24 (some [nS]):={}
instance:Ld 123 1 false:={}
instance:Ld 139 1 false:={}
instance:Sl 139:={}
instance:El 139 4 64 (some [.str [],.str [],nS,.bool false]):={}
instance:Ld 141 2 true:={}
instance:Zi 141 [nS,nS]:={}
instance:Fd 141 0 0 1 false:={}
instance:Fd 141 1 1 1 false:={}
instance:Bd 141 [nS,nS] [(0,1),(1,1)]:={}
instance:Ld 145 1 false:={}
instance:Sl 145:={}
instance:El 145 4 56 (some [.str [],.int .i64 (0),.int .i64 (0),nS]):={}
instance:Ld 147 1 true:={}
instance:Zi 147 [nS]:={}
instance:Fd 147 0 0 1 false:={}
instance:Bd 147 [nS] [(0,1)]:={}
instance:Ld 160 1 false:={}
instance:Ld 181 3 true:={}
instance:Fd 181 2 2 1 false:={}
instance:Ld 186 3 true:={}
instance:Zi 186 [.str [],.int .i64 (0),nS]:={}
instance:Fd 186 1 1 1 false:={}
instance:Fd 186 2 2 1 false:={}
instance:Ld 190 3 true:={}
instance:Zi 190 [.str [],.int .i64 (0),nS]:={}
instance:Fd 190 0 0 1 false:={}
instance:Fd 190 1 1 1 false:={}
instance:Fd 190 2 2 1 false:={}
instance:Ld 191 1 false:={}
instance:Ld 200 1 false:={}
instance:Zi 200 [nS]:={}
instance:Sl 200:={}
instance:El 200 3 40 (some [.str [],.str [],.int .i64 (0)]):={}
instance:Ld 202 4 true:={}
instance:Zi 202 [.str [],.str [],nS,.bool false]:={}
instance:Fd 202 0 0 1 false:={}
instance:Fd 202 1 1 1 false:={}
instance:Fd 202 2 2 1 false:={}
instance:Fd 202 3 3 1 false:={}
instance:Bd 202 [.str [],.str [],nS,.bool false] [(0,1),(1,1),(2,1),(3,1)]:={}
instance:Ld 221 1 false:={}
instance:Ld 223 3 true:={}
instance:Zi 223 [.str [],.str [],.int .i64 (0)]:={}
instance:Fd 223 0 0 1 false:={}
instance:Fd 223 1 1 1 false:={}
instance:Fd 223 2 2 1 false:={}
instance:Bd 223 [.str [],.str [],.int .i64 (0)] [(0,1),(1,1),(2,1)]:={}
instance:Ld 228 1 false:={}
instance:Ld 232 3 true:={}
instance:Zi 232 [.str [],.int .i64 (0),.int .i64 (0)]:={}
instance:Fd 232 0 0 1 false:={}
instance:Fd 232 1 1 1 false:={}
instance:Fd 232 2 2 1 false:={}
instance:Bd 232 [.str [],.int .i64 (0),.int .i64 (0)] [(0,1),(1,1),(2,1)]:={}
instance:Ld 233 1 false:={}
instance:Sl 233:={}
instance:El 233 1 24 (some [nS]):={}
instance:Ld 234 1 false:={}
instance:Sl 234:={}
instance:El 234 1 8 (some [.nil (.map none)]):={}
instance:Ld 235 1 false:={}
instance:Ld 237 7 true:={}
instance:Fd 237 0 0 2 true:={}
instance:Fd 237 1 2 1 false:={}
instance:Fd 237 2 3 1 false:={}
instance:Fd 237 3 4 1 false:={}
instance:Fd 237 4 5 1 false:={}
instance:Fd 237 5 6 1 false:={}
instance:Bd 237 [nS,nS,.nil (.map none),nS,nS,nS,.nil (.map none)] [(0,2),(2,1),(3,1),(4,1),(5,1),(6,1)]:={}
instance:Ld 239 1 false:={}
instance:Ld 240 1 false:={}
instance:Ld 241 1 false:={}
instance:Ld 242 1 false:={}
instance:Zi 242 [nS]:={}
instance:Sl 242:={}
instance:El 242 3 32 (some [.str [],.int .i64 (0),.int .i64 (0)]):={}
instance:Ld 244 4 true:={}
instance:Fd 244 0 0 1 false:={}
instance:Fd 244 1 1 1 false:={}
instance:Fd 244 2 2 1 false:={}
instance:Fd 244 3 3 1 false:={}
instance:Bd 244 [.nil (.pointer none),.nil (.map none),nS,.nil (.map none)] [(0,1),(1,1),(2,1),(3,1)]:={}
instance:Ld 246 1 false:={}
instance:Ld 250 3 true:={}
instance:Fd 250 0 0 1 true:={}
instance:Fd 250 1 1 1 false:={}
instance:Fd 250 2 2 1 false:={}
instance:Bd 250 [nS,nS,nS] [(0,1),(1,1),(2,1)]:={}
instance:Ld 251 1 false:={}
instance:Ld 253 3 true:={}
instance:Fd 253 0 0 1 false:={}
instance:Fd 253 1 1 2 true:={}
instance:Bd 253 [.nil (.pointer none),nS,nS] [(0,1),(1,2)]:={}
instance:Ld 256 3 true:={}
instance:Zi 256 [.int .i64 (0),.int .i64 (0),.bool false]:={}
instance:Fd 256 0 0 1 false:={}
instance:Fd 256 1 1 1 false:={}
instance:Fd 256 2 2 1 false:={}
instance:Bd 256 [.int .i64 (0),.int .i64 (0),.bool false] [(0,1),(1,1),(2,1)]:={}
instance:Ld 274 2 true:={}
instance:Ok 274:={}
instance:Zi 274 [.str [],.str []]:={}
instance:Fd 274 0 0 1 false:={}
instance:Fd 274 1 1 1 false:={}
instance:Bd 274 [.str [],.str []] [(0,1),(1,1)]:={}
instance:Ld 275 1 false:={}
instance:Ld 276 1 false:={}
instance:Fd 278 0 0 3 true:={}
instance:Fd 278 2 6 1 false:={}
instance:Fd 278 3 7 1 false:={}
instance:Fd 278 4 8 1 false:={}
instance:Ld 281 1 false:={}
instance:Fd 283 0 0 1 false:={}
instance:Fd 283 1 1 1 false:={}
instance:Fd 283 2 2 1 false:={}
instance:Ld 289 2 true:={}
instance:Zi 289 [.int .i64 (0),.int .i64 (0)]:={}
instance:Ld 311 1 false:={}
instance:Sl 311:={}
instance:El 311 2 32 (some [.int .i64 (0),nS]):={}
instance:Ld 313 4 true:={}
instance:Zi 313 [.str [],.int .i64 (0),.int .i64 (0),nS]:={}
instance:Fd 313 3 3 1 false:={}
instance:Bd 313 [.str [],.int .i64 (0),.int .i64 (0),nS] [(0,1),(1,1),(2,1),(3,1)]:={}
instance:Ld 318 2 true:={}
instance:Zi 318 [.int .i64 (0),nS]:={}
instance:Fd 318 0 0 1 false:={}
instance:Fd 318 1 1 1 false:={}
instance:Bd 318 [.int .i64 (0),nS] [(0,1),(1,1)]:={}
instance:Ld 329 1 false:={}
instance:Zi 329 [.nil (.nilFunc)]:={}
instance:Ld 331 1 false:={}
instance:Ld 332 1 false:={}
instance:Ld 333 1 false:={}
instance:Ld 335 5 true:={}
instance:Fd 335 0 0 1 false:={}
instance:Fd 335 1 1 1 false:={}
instance:Fd 335 2 2 1 false:={}
instance:Fd 335 3 3 1 false:={}
instance:Fd 335 4 4 1 false:={}
instance:Bd 335 [.nil (.map none),.nil (.map none),.nil (.map none),.nil (.map none),.nil (.map none)] [(0,1),(1,1),(2,1),(3,1),(4,1)]:={}
instance:Ld 349 1 false:={}
instance:Ld 351 3 true:={}
instance:Zi 351 [.int .i64 (0),.int .i64 (0),.int .i64 (0)]:={}
instance:Ld 352 1 false:={}
instance:Sl 352:={}
instance:El 352 3 24 (some [.int .i64 (0),.int .i64 (0),.int .i64 (0)]):={}
instance:Ld 356 1 false:={}
instance:Ld 373 2 true:={}
instance:Zi 373 [.nil (.map none),.nil (.map none)]:={}
instance:Fd 373 0 0 1 false:={}
instance:Fd 373 1 1 1 false:={}
instance:Bd 373 [.nil (.map none),.nil (.map none)] [(0,1),(1,1)]:={}
instance:Ld 386 4 true:={}
instance:Zi 386 [.int .i64 (0),.int .i64 (0),.int .i64 (0),.int .i64 (0)]:={}
instance:Ld 399 6 true:={}
instance:Zi 399 [.int .i64 (0),.int .i64 (0),.int .i64 (0),.int .i64 (0),.int .i64 (0),.int .i64 (0)]:={}
instance:Sl 404:={}
instance:El 404 1 24 (some [nS]):={}
instance:Ld 415 4 true:={}
instance:Zi 415 [.int .i64 (0),.str [],nS,nS]:={}
instance:Fd 415 0 0 1 false:={}
instance:Fd 415 1 1 1 false:={}
instance:Fd 415 2 2 1 false:={}
instance:Fd 415 3 3 1 false:={}
instance:Bd 415 [.int .i64 (0),.str [],nS,nS] [(0,1),(1,1),(2,1),(3,1)]:={}
instance:Sl 416:={}
instance:El 416 4 72 (some [.int .i64 (0),.str [],nS,nS]):={}
instance:Sl 435:={}
instance:El 435 1 1 (some [.int .u8 (0)]):={}
instance:Ld 436 256 true:={}
instance:Zi 436 (List.replicate 256 (.int .u8 (0))):={}
instance:Ld 461 4 true:={}
instance:Zi 461 [.str [],.bool false,.int .i64 (0),.int .i64 (0)]:={}
instance:Fd 461 0 0 1 false:={}
instance:Fd 461 1 1 1 false:={}
instance:Fd 461 2 2 1 false:={}
instance:Fd 461 3 3 1 false:={}
theorem rD:iP M.P 399=some (6,1,false):=Kr
theorem nN:cq M.P 286=some (289,.bool false,1,false):=Kr
theorem pT:cq M.P 281=some (9,.agg [.str [],.int .i64 (0),nS],3,true):=Kr
theorem wC:cq M.P 276=some (9,.agg [.str [],.int .i64 (0),nS],3,true):=Kr
theorem zX:cq M.P 275=some (9,.agg [.str [],.str [],nS,.bool false],4,true):=Kr
instance:El 78 2 24 (some [.str [],.int .i64 (0)]):={}
instance:Fd 81 0 0 1 false:={}
instance:Ld 83 1 false:={}
instance:Sl 83:={}
instance:El 83 2 24 (some [.str [],.int .i64 (0)]):={}
instance:Ld 84 1 false:={}
instance:Sl 84:={}
instance:El 84 3 48 (some [.str [],.int .i64 (0),nS]):={}
instance:Ld 86 3 true:={}
instance:Zi 86 [.int .i64 (0),nS,nS]:={}
instance:Fd 86 1 1 1 false:={}
instance:Fd 86 2 2 1 false:={}
instance:Bd 86 [.int .i64 (0),nS,nS] [(0,1),(1,1),(2,1)]:={}
instance:Ld 89 1 false:={}
instance:Sl 89:={}
instance:El 89 3 48 (some [.str [],.int .i64 (0),nS]):={}
instance:Zi 181 [.str [],.int .i64 (0),nS]:={}
instance:Bd 186 [.str [],.int .i64 (0),nS] [(0,1),(1,1),(2,1)]:={}
instance:Ld 188 2 true:={}
instance:Zi 188 [.str [],.int .i64 (0)]:={}
instance:Ld 189 2 true:={}
instance:Zi 189 [.str [],.int .i64 (0)]:={}
instance:Fd 189 0 0 1 false:={}
instance:Fd 189 1 1 1 false:={}
instance:Bd 189 [.str [],.int .i64 (0)] [(0,1),(1,1)]:={}
instance:Bd 190 [.str [],.int .i64 (0),nS] [(0,1),(1,1),(2,1)]:={}
instance:Ld 262 1 false:={}
instance:Zi 262 [.nil (.nilFunc)]:={}
instance:Ld 278 9 true:={}
instance:Fd 278 1 3 3 true:={}
instance:Bd 278 [.int .i64 (0),nS,nS,nS,nS,nS,.nil (.map none),.nil (.map none),.nil (.map none)] [(0,3),(3,3),(6,1),(7,1),(8,1)]:={}
instance:Ld 280 1 false:={}
instance:Bd 283 [.nil (.pointer none),.nil (.map none),.int .i64 (0)] [(0,1),(1,1),(2,1)]:={}
instance:Fd 285 0 0 1 false:={}
instance:Fd 285 1 1 1 false:={}
instance:Bd 285 [.int .i64 (0),.int .i64 (0)] [(0,1),(1,1)]:={}
instance:Ld 286 1 false:={}
instance:Ld 288 16 true:={}
instance:Fd 288 0 0 3 true:={}
instance:Fd 288 1 3 2 true:={}
instance:Fd 288 2 5 1 false:={}
instance:Fd 288 3 6 1 false:={}
instance:Fd 288 4 7 1 false:={}
instance:Fd 288 5 8 1 false:={}
instance:Fd 288 6 9 2 true:={}
instance:Fd 288 7 11 1 false:={}
instance:Fd 288 8 12 1 false:={}
instance:Fd 288 9 13 1 false:={}
instance:Fd 288 10 14 1 false:={}
instance:Fd 288 11 15 1 false:={}
instance:Bd 288 [.nil (.pointer none),.nil (.map none),.int .i64 (0),.int .i64 (0),.int .i64 (0),nS,nS,nS,nS,.str [],nS,.nil (.map none),.bool false,.bool false,nS,nS] [(0,3),(3,2),(5,1),(6,1),(7,1),(8,1),(9,2),(11,1),(12,1),(13,1),(14,1),(15,1)]:={}
instance:Ld 433 1 false:={}
theorem bI:Fs M.P 9=true:=Kr
theorem gG:cq M.P 123=some (9,.int .i64 (0),1,false):=Kr
theorem sS:cq M.P 160=some (9,nS,1,false):=Kr
theorem Qo:cq M.P 221=some (9,.agg [.str [],.bool false,nS],3,true):=Kr
theorem Va:cq M.P 235=some (232,.bool false,1,false):=Kr
theorem yT:cq M.P 240=some (232,.int .i64 (0),1,false):=Kr
theorem pX:cq M.P 241=some (386,.bool false,1,false):=Kr
theorem zP:cq M.P 254=some (289,.agg [.int .i64 (0),.int .i64 (0),.bool false],3,true):=Kr
theorem fW:iP M.P 289=some (2,1,false):=Kr
theorem Vb:cq M.P 304=some (9,.bool false,1,false):=Kr
theorem Cr:cq M.P 332=some (9,.bool false,1,false):=Kr
theorem sU:cq M.P 333=some (9,.str [],1,false):=Kr
theorem rL:cq M.P 338=some (9,.nil (.map none),1,false):=Kr
theorem PP:iP M.P 340=some (2,1,false):=Kr
theorem yH:cq M.P 349=some (351,.bool false,1,false):=Kr
theorem Ii:iP M.P 351=some (3,1,false):=Kr
theorem xJ:iP M.P 386=some (4,1,false):=Kr
theorem uL:iP M.P 436=some (256,1,false):=Kr
theorem KN:iP M.P 462=some (10,4,true):=Kr
end Go.AM

