/- A part of the proof; shortened by program. -/
import Derived.Test.YtmkaboegdoadhaaGreatDoorP19
set_option maxRecDepth 100000
set_option maxHeartbeats 4000000
set_option linter.unusedSimpArgs false
set_option linter.unusedVariables false
namespace Go.AM
open Go
def App(tr:List Nat)(ws:List Wy):Nat:=ws.foldl (fun t w=>min (t+Gp tr w) mxT) 0
structure CI (F:List Nde)(c:Cs)(E:List Nat):Prop where
 l1:c.1.length=F.length
 l2:c.2.length=F.length
 nd:E.Nodup
 le:∀n,c.1.getD n 0<=2
 mem:∀n,n∈E↔c.1.getD n 0=2
 ord:∀(i n:Nat),E[i]? =some n->∃x,F[n]? =some x/\c.2.getD n 0=App c.2 x.ways/\∀w∈x.ways,∀k∈w.kids,∃j,j<i/\E[j]? =some k
structure GsN (F:List Nde)(c:Cs)(E:List Nat)(c':Cs)(E':List Nat):Prop where
 ci:CI F c' E'
 pre:∃X,E'=E++X
 st:∀m,c.1.getD m 0≠0->c'.1.getD m 0=c.1.getD m 0
 tr:∀m∈E,c'.2.getD m 0=c.2.getD m 0
 fr:c'.1.count 0<=c.1.count 0
theorem GsN.refl{F:List Nde}{c:Cs}{E:List Nat}(h:CI F c E):GsN F c E c E:=⟨h,⟨[],by simp⟩,fun _ _=>rfl,fun _ _=>rfl,nl⟩
theorem GsN.mem{F:List Nde}{c c':Cs}{E E':List Nat}(h:GsN F c E c' E'){m:Nat}(hm:m∈E):m∈E':=by obtain⟨X,rfl⟩:=h.pre;grind
theorem GsN.trans{F:List Nde}{c c' c'':Cs}{E E' E'':List Nat}(h:GsN F c E c' E')(g:GsN F c' E' c'' E''):GsN F c E c'' E'':=by
 obtain⟨X,hX⟩:=h.pre;obtain⟨Y,hY⟩:=g.pre
 exact⟨g.ci,⟨X++Y,gr⟩,fun m hm=>(g.st m (by rw[h.st m hm];exact hm)).trans (h.st m hm),fun m hm=>(g.tr m (h.mem hm)).trans (h.tr m hm),ai_ g.fr h.fr⟩
def Asg(F:List Nde)(rec:Nat->Cs->Option Cs):Prop:=∀n c E c',CI F c E->n<F.length->rec n c=some c'->∃E',GsN F c E c' E'/\n∈E'
theorem Oz{α β:Type}{f g:β->α->β}:∀{l:List α} {b:β},(∀b,∀x∈l,f b x=g b x)->l.foldl f b=l.foldl g b
 |[],_,_=>rfl
 |x::l,b,h=>by
  rw[ct_,ct_,h b x (ap_ ..)];exact Oz fun b y hy=>h b y (aj_ _ hy)
theorem Yb{tr tr':List Nat}{w:Wy}(h:∀k∈w.kids,tr'.getD k 0=tr.getD k 0):Gp tr' w=Gp tr w:=Oz gr
theorem Acm{tr tr':List Nat}{ws:List Wy}(h:∀w∈ws,∀k∈w.kids,tr'.getD k 0=tr.getD k 0):App tr' ws=App tr ws:=Oz fun b w hw=>by rw[Yb (h w hw)]
theorem Anj{F:List Nde}{rec:Nat->Cs->Option Cs}(hr:Asg F rec):∀(l:List Nat) (p:Nat) (c:Cs) (E:List Nat) (p':Nat) (c':Cs),CI F c E->(∀k∈l,k<F.length)->Ad3 rec l p c=some (p',c')->
  ∃E',GsN F c E c' E'/\(∀k∈l,k∈E')/\p'=l.foldl (fun n k=>min (n*c'.2.getD k 0) mxT) p
 |[],p,c,E,p',c',hc,_,h=>by cases h;exact⟨E,.refl hc,fun k hk=>(by cases hk),rfl⟩
 |k::r,p,c,E,p',c',hc,hl,h=>by
  unfold Ad3 at h
  split at h
  ·cases h
  ·rename_i c1 h1
   obtain⟨E1,g1,m1⟩:=hr k c E c1 hc (hl k (ap_ ..)) h1;obtain⟨E2,g2,m2,e2⟩:=Anj hr r _ c1 E1 p' c' g1.ci (fun x hx=>hl x (aj_ _ hx)) h
   refine⟨E2,g1.trans g2,fun x hx=>?_,?_⟩
   ·rcases an_.1 hx with rfl|hx
    ·exact g2.mem m1
    grind
   ·rw[e2,ct_,g2.tr k m1]
theorem Ank{F:List Nde}{rec:Nat->Cs->Option Cs}(hr:Asg F rec):∀(l:List Wy) (t:Nat) (c:Cs) (E:List Nat) (t':Nat) (c':Cs),CI F c E->(∀w∈l,∀k∈w.kids,k<F.length)->Acj rec l t c=some (t',c')->
  ∃E',GsN F c E c' E'/\(∀w∈l,∀k∈w.kids,k∈E')/\t'=l.foldl (fun t w=>min (t+Gp c'.2 w) mxT) t
 |[],t,c,E,t',c',hc,_,h=>by cases h;exact⟨E,.refl hc,fun w hw=>(by cases hw),rfl⟩
 |w::r,t,c,E,t',c',hc,hl,h=>by
  unfold Acj at h
  split at h
  ·cases h
  ·rename_i p c1 h1
   obtain⟨E1,g1,m1,e1⟩:=Anj hr w.kids 1 c E p c1 hc (hl w (ap_ ..)) h1;obtain⟨E2,g2,m2,e2⟩:=Ank hr r _ c1 E1 t' c' g1.ci (fun x hx=>hl x (aj_ _ hx)) h
   refine⟨E2,g1.trans g2,fun x hx=>?_,?_⟩
   ·rcases an_.1 hx with rfl|hx
    ·exact fun k hk=>g2.mem (m1 k hk)
    grind
   ·have:p=Gp c'.2 w:=by rw[e1,Yb (tr:=c1.2) fun k hk=>g2.tr k (m1 k hk)];rfl
    grind
theorem I5{l:List Nat}{n m v:Nat}(hn:n<l.length):(l.set n v).getD m 0=if m=n then v else l.getD m 0:=gr
theorem Xb{l:List Nat}{n v:Nat}(hv:v≠0)(hn:n<l.length):(l.set n v).count 0+(if l.getD n 0=0 then 1 else 0)=l.count 0:=gr
theorem CI.lt{F:List Nde}{c:Cs}{E:List Nat}(h:CI F c E):∀n∈E,n<F.length:=fun n hn=>by
 obtain⟨i,hi⟩:=au_.1 hn;obtain⟨x,hx,_⟩:=h.ord i n hi
 grind
theorem CI.len{F:List Nde}{c:Cs}{E:List Nat}(h:CI F c E):E.length<=F.length:=Vl _ _ h.nd h.lt
theorem Z5{g:Gr}{F:List Nde}(hF:FOk g F.length F):∀f,Asg F (La F f)
 |0=>fun n c E c' hc hn h=>by cases h
 |f+1=>fun n c E c' hc hn h=>by
  unfold La at h
  split at h
  ·cases h
  ·rename_i h1
   split at h
   ·rename_i h2
    cases h;exact⟨E,.refl hc,(hc.mem n).2 h2⟩
   ·rename_i h2
    split at h
    ·cases h
    ·rename_i x hx
     split at h
     ·cases h
     ·rename_i t c1 hw
      cases h;have hnE:n∉E:=fun hm=>h2 ((hc.mem n).1 hm)
      have hn1:n<c.1.length:=by rw[hc.l1];exact hn
      have hc1:CI F (c.1.set n 1,c.2) E:=by
       refine⟨by rw[dc_];exact hc.l1,hc.l2,hc.nd,fun m=>?_,fun m=>?_,hc.ord⟩
       ·show(c.1.set n 1).getD m 0<=2
        rw[I5 hn1];split
        ·omega
        ·exact hc.le m
       ·rw[hc.mem]
        grind
      have hk:∀w∈x.ways,∀k∈w.kids,k<F.length:=fun w hw=>(hF x (au_.2 ⟨_,hx⟩) w hw).kid
      obtain⟨E1,g1,m1,e1⟩:=Ank (Z5 hF f) x.ways 0 _ E t c1 hc1 hk hw
      have hs1:c1.1.getD n 0=1:=by
       have:=g1.st n gr
       grind
      have qd:n∉E1:=fun hm=>by have:=(g1.ci.mem n).1 hm;grind
      have hn2:n<c1.1.length:=gr
      have hn3:n<c1.2.length:=by rw[g1.ci.l2];exact hn
      have htr:∀m∈E1,(c1.2.set n t).getD m 0=c1.2.getD m 0:=gr;obtain⟨X,hX⟩:=g1.pre
      refine⟨E1++[n],⟨⟨by show(c1.1.set n 2).length=_;rw[dc_];exact g1.ci.l1,by show(c1.2.set n t).length=_;rw[dc_];exact g1.ci.l2,?_,fun m=>?_,fun m=>?_,fun i m hm=>?_⟩,⟨X++[n],gr⟩,fun m hm=>?_,fun m hm=>?_,?_⟩,by simp⟩
      ·exact dt_.2 ⟨g1.ci.nd,by simp,fun a ha b hb e=>qd gr⟩
      ·show(c1.1.set n 2).getD m 0<=2
       rw[I5 hn2];split
       ·omega
       ·exact g1.ci.le m
      ·show _↔(c1.1.set n 2).getD m 0=2
       rw[I5 hn2,bb_,ao_,g1.ci.mem]
       grind
      ·rw[List.getElem?_append]at hm
       split at hm
       ·rename_i hi
        obtain⟨y,hy,q1,q2⟩:=g1.ci.ord i m hm;have hmE:m∈E1:=au_.2 ⟨_,hm⟩;refine⟨y,hy,?_,fun w hw k hk=>?_⟩
        ·show(c1.2.set n t).getD m 0=App (c1.2.set n t) y.ways
         rw[htr m hmE,q1];refine(Acm fun w hw k hk=>htr k ?_).symm
         grind
        ·obtain⟨j,hj,hj'⟩:=q2 w hw k hk;exact⟨j,hj,gr⟩
       ·rename_i hi
        have hi0:i-E1.length=0:=gr;rw[hi0]at hm;cases hm;refine⟨x,hx,?_,fun w hw k hk=>?_⟩
        ·show(c1.2.set n t).getD n 0=App (c1.2.set n t) x.ways
         rw[I5 hn3,if_pos rfl];exact e1.trans (Acm fun w hw k hk=>htr k (m1 w hw k hk)).symm
        ·obtain⟨j,hj⟩:=au_.1 (m1 w hw k hk)
         grind
      ·show(c1.1.set n 2).getD m 0=_
       rw[I5 hn2]
       by_cases e:m=n
       ·exfalso
        rw[e]at hm;have:=hc.le n;omega
       ·rw[if_neg e,g1.st m gr]
        grind
      ·show(c1.2.set n t).getD m 0=_
       rw[I5 hn3,if_neg (fun e:m=n=>hnE gr)]
       exact g1.tr m hm
      ·show(c1.1.set n 2).count 0<=_
       have a1:=Xb (l:=c1.1) (n:=n) (v:=2) (by decide) hn2
       have a2:=Xb (l:=c.1) (n:=n) (v:=1) (by decide) hn1
       have a3:c1.1.count 0<=(c.1.set n 1).count 0:=g1.fr;omega
theorem Afm{tr:List Nat}:∀(l:List Nat),l.foldl (fun n k=>min (n*tr.getD k 0) mxT) 0=0
 |[]=>rfl
 |k::l=>by rw[ct_,dw_,Nat.zero_min];exact Afm l
theorem Xc{tr:List Nat}:∀(l:List Nat) (b:Nat),l.foldl (fun n k=>min (n*tr.getD k 0) mxT) b≠0->∀k∈l,tr.getD k 0≠0
 |[],_,_,k,hk=>by cases hk
 |x::l,b,h,k,hk=>by
  rw[ct_]at h
  rcases an_.1 hk with rfl|hk
  ·intro e;rw[e,Nat.mul_zero,Nat.zero_min]at h;exact h (Afm l)
  ·exact Xc l _ h k hk
theorem Ajm{tr:List Nat}:∀(l:List Wy) (t:Nat),l.foldl (fun t w=>min (t+Gp tr w) mxT) t≠0->t≠0∨∃w∈l,Gp tr w≠0
 |[],_,h=>.inl h
 |x::l,t,h=>by
  rcases Ajm l _ h with h|⟨w,hw,h⟩
  ·grind
  grind
theorem CI.first{F:List Nde}{c:Cs}{E:List Nat}(h:CI F c E){i n:Nat}(hi:E[i]? =some n)(hn:c.2.getD n 0≠0):
  ∃x w,F[n]? =some x/\(x.ways.find? fun w=>decide (Gp c.2 w≠0))=some w/\w∈x.ways/\Gp c.2 w≠0/\∀k∈w.kids,(∃j,j<i/\E[j]? =some k)/\c.2.getD k 0≠0:=by
 obtain⟨x,hx,h1,h2⟩:=h.ord i n hi;rw[h1]at hn
 rcases Ajm _ _ hn with h0|⟨w,hw,hp⟩
 ·grind
 ·cases hf:x.ways.find? fun w=>decide (Gp c.2 w≠0)with
  |none=>have:=List.find?_eq_none.1 hf w hw;simp[hp]at this
  |some v=>
   have hv:=List.mem_of_find?_eq_some hf;have hp':Gp c.2 v≠0:=gr;exact⟨x,v,hx,hf,hv,hp',fun k hk=>⟨h2 v hv k hk,Xc _ _ hp' k hk⟩⟩
theorem Apq{g:Gr}{F:List Nde}{c:Cs}{E:List Nat}(h:CI F c E):∀(i n f f':Nat),E[i]? =some n->c.2.getD n 0≠0->i<f->i<f'->Yy g F c.2 f n=Yy g F c.2 f' n:=by
 intro i
 induction i using Nat.strongRecOn with
 |_ i ih=>
  intro n f f' hi hn h1 h2;obtain⟨x,w,hx,hf,hw,hp,hk⟩:=h.first hi hn
  obtain⟨f,rfl⟩:∃k,f=k+1:=⟨f-1,by omega⟩
  obtain⟨f',rfl⟩:∃k,f'=k+1:=⟨f'-1,by omega⟩
  simp only[Yy,hx,hf]
  congr 1
  refine List.map_congr_left fun k hk'=>?_
  obtain⟨⟨j,hj,hj'⟩,hn'⟩:=hk k hk';exact ih j hj k f f' hj' hn' Om Om
def fT(g:Gr)(F:List Nde)(c:Cs)(n:Nat):Ax:=Yy g F c.2 (F.length+1) n
theorem Ajn{g:Gr}{F:List Nde}{c:Cs}{E:List Nat}(h:CI F c E){i n:Nat}{x:Nde}{w:Wy}(hi:E[i]? =some n)(hn:c.2.getD n 0≠0)(hx:F[n]? =some x)(hf:(x.ways.find? fun w=>decide (Gp c.2 w≠0))=some w):
  fT g F c n=.node (Md g w.rule) (w.kids.map (fT g F c)):=by
 obtain⟨x',w',hx',hf',hw,hp,hk⟩:=h.first hi hn;rw[hx]at hx';cases hx';rw[hf]at hf';cases hf';have hl:=h.len;have hil:=(ae_.1 hi).1
 have e:fT g F c n=.node (Md g w.rule) (w.kids.map (Yy g F c.2 F.length)):=by
  unfold fT;simp only[Yy,hx,hf]
 rw[e]
 congr 1
 refine List.map_congr_left fun k hk'=>?_
 obtain⟨⟨j,hj,hj'⟩,hn'⟩:=hk k hk';exact Apq h j k _ _ hj' hn' Om Om
inductive ArT (g:Gr):Ax->Prop
 |node {r:Nat} {ks:List Ax}:r<g.rules.length->ks.length=nPt g r->(∀k∈ks,ArT g k)->ArT g (.node (Md g r) ks)
theorem fT_ar{g:Gr}{F:List Nde}{c:Cs}{E:List Nat}(hF:FOk g F.length F)(h:CI F c E):∀(i n:Nat),E[i]? =some n->c.2.getD n 0≠0->ArT g (fT g F c n):=by
 intro i
 induction i using Nat.strongRecOn with
 |_ i ih=>
  intro n hi hn;obtain⟨x,w,hx,hf,hw,hp,hk⟩:=h.first hi hn;rw[Ajn h hi hn hx hf];have ok:=hF x (au_.2 ⟨_,hx⟩) w hw
  refine .node ok.rule (by rw[cx_];exact ok.len) fun t ht=>?_
  obtain⟨k,hk',rfl⟩:=bt_.1 ht;obtain⟨⟨j,hj,hj'⟩,hn'⟩:=hk k hk';exact ih j hj k hj' hn'
theorem ci0{F:List Nde}:CI F (List.replicate F.length 0,List.replicate F.length 0) []:=by
 have h:∀n,(List.replicate F.length 0).getD n 0=0:=gr
 refine⟨by simp,by simp,dk_,fun n=>?_,fun n=>?_,gr⟩
 ·grind
 grind
theorem Ash{g:Gr}{F:List Nde}{t:Ax}(hF:FOk g F.length F)(h0:0<F.length)(h:Mu g F=(t,0)):ArT g t:=by
 unfold Mu at h
 split at h
 ·cases h
 ·rename_i c hc
  split at h
  ·cases h
  ·rename_i h1
   split at h
   ·cases h
   ·split at h
    ·cases h
    ·cases h;obtain⟨E,hg,hm⟩:=Z5 hF _ 0 _ [] c ci0 h0 hc;obtain⟨i,hi⟩:=au_.1 hm;exact fT_ar hF hg.ci i 0 hi Om
section
open Go Go.Proofs
end
section
open Go Go.Proofs
end
section
open Go Go.Proofs
theorem Au0{E:Env}{ρ:Ad}{σ:Sto}{Rr:Rec}{t ty:Nat}{x y:Operand}{p q:Int}(hi:okI E.P t=true)(hx:Ah E ρ x=some (.int .i64 p))(hy:Ah E ρ y=some (.int .i64 q))(h1: -9223372036854775808<=p*q)(h2:p*q<9223372036854775808):
  As E Rr (.binOp .mul t x y ty) ρ σ (iV (p*q)) σ:=L0 hi hx hy (by simp only[Ic,Aex h1 h2];rfl)
theorem f162(r:Rl)(s:Str)(σ:Sto):Cv 162 [.agg (eR r),.pv [sV s]] σ (.bool (decide (r.label=s))):=by
 refine Aj Tryz.func162 rfl rfl fun hw hu0=>?_
 iterate 14 refine G ?_
 refine B4 hw rfl ?_
 rfl
theorem f126(g:Gr)(s:Str)(σ:Sto)(hb:g.rules.length<1000000):Cv 126 [grV g,sV s] σ (iV (A5 (fun r=>decide (r.label=s)) g.rules 0)):=by
 refine Aj Tryz.func126 rfl rfl fun hw hu0=>?_
 refine G11 ?_;refine Ca (f161 (fun r=>decide (r.label=s)) g.rules 162 [.pv [sV s]] _ Om (fun a _=>f162 a s _)) ?_
 refine G3 ?_;refine B4 hw rfl ?_
 rfl
end
section
open Go Go.Proofs
theorem Qy(r:Rl):(eR r).length=4:=rfl
def zRl:Rl:=⟨[],[],[],false⟩
end
section
open Go Go.Proofs
section
variable {E:Env}{ρ:Ad}{σ:Sto}{Rr:Rec}{t t':Nat}{x:Operand}{v z:AV}
end
end
section
open Go Go.Proofs
end
section
open Go Go.Proofs
mutual
def hT:Ax->Nat
 |.node _ ks=>1+hL ks
def hL:List Ax->Nat
 |[]=>0
 |t::r=>max (hT t) (hL r)
end
end
section
open Go Go.Proofs
theorem Ajo{d:Db}:(ofF d).1=zG∨Eb (ofF d).1=0:=by
 unfold ofF
 split
 ·exact .inl rfl
 ·split
  ·exact .inl rfl
  ·split
   ·exact .inl rfl
   ·split
    ·exact .inl rfl
    ·rename_i hc;exact .inr (by simpa using hc)
theorem Yc(d:Db):GOk (ofF d).1:=by
 rcases Ajo (d:=d)with h|h
 ·rw[h]
  exact⟨⟨fun r hr=>(by cases hr),fun r hr=>(by cases hr)⟩,dk_,fun r hr=>(by cases hr),by simp[zG],fun r hr=>(by cases hr)⟩
 ·exact Afh h
end
section
open Go Go.Proofs
end
section
open Go Go.Proofs
end
section
open Go Go.Proofs
end
section
open Go Go.Proofs
theorem Asi{d:Db}:Eb (ofF d).1=0:=by
 rcases Ajo (d:=d)with h|h
 ·rw[h];decide
 ·exact h
theorem Asj(d:Db):GrB (ofF d).1:=by
 have hG:=Yc d;have hl:=hG.len
 refine⟨?_,by omega,fun r hr=>by have:=hG.prt r hr;omega⟩
 have h:=Asi (d:=d);unfold Eb at h
 grind
end
section
open Go Go.Proofs
structure Sy where
 label:Str
 binds:Int
 vals:List Int
structure Wd where
 g:List Rl
 km:SM Int
 sm:SM Sy
 n:Int
end
section
open Go Go.Proofs
end
section
open Go Go.Proofs
end
section
open Go Go.Proofs
end
section
open Go Go.Proofs
end
section
open Go Go.Proofs
end
section
open Go Go.Proofs
end
section
open Go Go.Proofs
section
variable {ρ:Ad}{σ:Sto}{Rr:Rec}{x y:Operand}{s:Str}{r:Nat}
end
end
end Go.AM

namespace Go.AM
open Go Go.Proofs
abbrev nV(n:Nat):AV:=iV (.ofNat n)
def eN(n:Nat):List AV:=[nV n]
def eV(v:AV):List AV:=[v]
def eMp(m:Nat):List AV:=[.mp m]
abbrev Ik:=Int×Int×Int
instance:KE Ik where
 k p:=.agg [.int .i64 p.1,.int .i64 p.2.1,.int .i64 p.2.2]
 eq a b:=by
  obtain⟨s,x,y⟩:=a;obtain⟨t,u,v⟩:=b;simp only[Key.eq,Key.eqs,Nn,Ed]
  by_cases h1:s=t<;>by_cases h2:x=u<;>by_cases h3:y=v<;>simp[h1,h2,h3]
def ik(x:It):Ik:=(.ofNat x.1,.ofNat x.2.1,.ofNat x.2.2)
def sk(s:Sp):Kk:=(s.1,.ofNat s.2.1,.ofNat s.2.2)
theorem Axl{x y:It}:ik x=ik y↔x=y:=by
 obtain⟨a,b,c⟩:=x;obtain⟨d,e,f⟩:=y;simp only[ik,ba_];exact⟨fun⟨p,q,r⟩=>⟨ci_ p,ci_ q,ci_ r⟩,fun⟨p,q,r⟩=>⟨congrArg _ p,congrArg _ q,congrArg _ r⟩⟩
theorem Ask{x y:Sp}:sk x=sk y↔x=y:=by
 obtain⟨a,b,c⟩:=x;obtain⟨d,e,f⟩:=y;simp only[sk,ba_];exact⟨fun⟨p,q,r⟩=>⟨p,ci_ q,ci_ r⟩,fun⟨p,q,r⟩=>⟨p,congrArg _ q,congrArg _ r⟩⟩
def eIt(x:It):List AV:=[nV x.1,nV x.2.1,nV x.2.2]
def itV(x:It):AV:=.agg (eIt x)
theorem Rx(x:It):(eIt x).length=3:=rfl
theorem Ep(x:Nat):(eN x).length=1:=rfl
theorem O0(x:AV):(eV x).length=1:=rfl
theorem Z6(x:Nat):(eMp x).length=1:=rfl
theorem Ajp{N:Nat}(x:Nat):AV.unds N (eN x)=true:=rfl
def Apr{κ α:Type}[DecidableEq κ][KE κ](kt:Nat)(f:α->κ)(l:List α)(σ:Sto)(r:Nat):Prop:=∃m:GM κ Bool,GAt kt (fun b=>.bool b) σ r m/\∀x,(x∈l->m.get (f x)=some true)/\(x∉l->m.get (f x)=none)
theorem Apr.of_get{κ α:Type}[DecidableEq κ][KE κ]{kt:Nat}{f:α->κ}{l:List α}{σ τ:Sto}{r:Nat}(h:Apr kt f l σ r)(hg:τ.get r=σ.get r):Apr kt f l τ r:=by
 obtain⟨m,h1,h2⟩:=h;exact⟨m,h1.of_get hg,h2⟩
structure Cp where
 c:Nat
 mR:Nat
 mD:Nat
 vS:AV
 vI:AV
 vals:List AV
 ms:List Nat
inductive Tg where
 |c
 |d
 |s
 |i
 |v (j:Nat)
 |m (j:Nat)
 deriving DecidableEq
def Cp.loc(X:Cp):Tg->Option Nat
 |.c=>some X.c
 |.d=>some X.mD
 |.s=>adr X.vS
 |.i=>adr X.vI
 |.v j=>(X.vals[j]?).bind adr
 |.m j=>X.ms[j]?
def Cp.cells(g:Gr)(text:List Str)(X:Cp):List AV:=[Af g.sorts,slV eR 4 g.rules,.mp X.mR,Af text,X.vS,X.vI,.mp X.mD]
abbrev bE(b:Bool):AV:=.bool b
structure ChS (g:Gr)(text:List Str)(N:Nat)(X:Cp)(S:Ch)(σ:Sto):Prop where
 inj:∀t u a,X.loc t=some a->X.loc u=some a->t=u
 lo:∀t a,X.loc t=some a->N<=a/\a<nx σ
 cl:σ.get X.c=some (.cells (X.cells g text))
 sets:Own σ N eV 1 X.vals X.vS
 is:Own σ N eMp 1 X.ms X.vI
 lv:X.vals.length=S.sets.length
 lm:X.ms.length=S.sets.length
 vals:∀(j:Nat) l v,S.sets[j]? =some l->X.vals[j]? =some v->Own σ N eIt 3 l v
 mps:∀(j:Nat) l m,S.sets[j]? =some l->X.ms[j]? =some m->Apr 351 ik l σ m
 done:Apr 232 sk S.done σ X.mD
structure Lk (X:Cp)(σ:Sto)(X':Cp)(σ':Sto):Prop where
 c:X'.c=X.c
 r:X'.mR=X.mR
 d:X'.mD=X.mD
 n:nx σ<=nx σ'
 sub:∀t a,X'.loc t=some a->(∃u,X.loc u=some a)∨nx σ<=a
 fr:∀b,b<nx σ->(∀t,X.loc t≠some b)->σ'.get b=σ.get b
theorem Lk.refl(X:Cp)(σ:Sto):Lk X σ X σ:=⟨rfl,rfl,rfl,nl,fun t a h=>.inl ⟨t,h⟩,fun _ _ _=>rfl⟩
theorem Lk.trans{X Y Z:Cp}{σ τ υ:Sto}(h:Lk X σ Y τ)(k:Lk Y τ Z υ):Lk X σ Z υ:=by
 refine⟨k.c.trans h.c,k.r.trans h.r,k.d.trans h.d,ai_ h.n k.n,fun t a ht=>?_,fun b hb hn=>?_⟩
 ·rcases k.sub t a ht with⟨u,hu⟩|hu
  ·exact h.sub u a hu
  ·exact .inr (ai_ h.n hu)
 ·rw[k.fr b (ak_ hb h.n) fun t ht=>?_,h.fr b hb hn]
  rcases h.sub t b ht with⟨u,hu⟩|hu
  ·exact hn u hu
  ·omega
structure RlS (g:Gr)(rv:SM AV)(X:Cp)(σ:Sto):Prop where
 map:B8 (fun v:AV=>v) σ X.mR rv
 lo:∀a,a=X.mR∨(∃s v,rv.get s=some v/\adr v=some a)->a<nx σ/\∀t,X.loc t≠some a
 get:∀s,match rv.get s with|none=>E5 g s=[]|some v=>Own σ 0 eN 1 (E5 g s) v
theorem RlS.lk{g:Gr}{rv:SM AV}{X X':Cp}{σ σ':Sto}(h:RlS g rv X σ)(k:Lk X σ X' σ'):RlS g rv X' σ':=by
 have hg:∀a,a=X.mR∨(∃s v,rv.get s=some v/\adr v=some a)->σ'.get a=σ.get a:=fun a ha=>k.fr a (h.lo a ha).1 (h.lo a ha).2
 refine⟨?_,fun a ha=>?_,fun s=>?_⟩
 ·obtain⟨ver,hm⟩:=h.map;rw[k.r];exact⟨ver,(hg _ (.inl rfl)).trans hm⟩
 ·rw[k.r]at ha;obtain⟨h1,h2⟩:=h.lo a ha;refine⟨ak_ h1 k.n,fun t ht=>?_⟩
  rcases k.sub t a ht with⟨u,hu⟩|hu
  ·exact h2 u hu
  ·omega
 ·have:=h.get s;cases hs:rv.get s with
  |none=>rw[hs]at this;exact this
  |some v=>rw[hs]at this;exact this.of_get k.n fun a ha=>hg a (.inr ⟨s,v,hs,ha⟩)
def zPt:List AV:=[.str [],.str [],.int .i64 0]
def nxC:Option Pt->List AV
 |some p=>ePt p
 |none=>zPt
theorem Axm{g:Gr}{r:Nat}{x:Rl}(h:g.rules[r]? =some x):rPt g r=x.parts:=by unfold rPt;rw[h]
theorem f188a(g:Gr)(c:Nat)(x:It)(tl:List AV){r:Rl}(σ:Sto)(hc:σ.get c=some (.cells (Af g.sorts::slV eR 4 g.rules::tl)))(hr:g.rules[x.1]? =some r)(heq:x.2.1=r.parts.length)(hn:nxI g x=none):Cv 188 [.pr c 0,itV x] σ (.tup [.agg (nxC (nxI g x)),.bool (nxI g x).isSome]):=by
 refine Aj Tryz.func188 rfl rfl fun hw hu0=>?_
 refine G3 ?_;refine O1 (Bu ziC) ?_;refine G2 ?_
 have hc0:∀z,(σ.new (.cells z)).get c=some (.cells (Af g.sorts::slV eR 4 g.rules::tl)):=fun z=>by rw[ag_,if_neg (by have:=(hw _ _ hc).1;omega)];exact hc
 refine G ?_;refine X0 ?_;refine G4 ?_
 refine DF (lO (hc0 _)) (DF (Bp Ii rfl rfl (by decide) rfl) ?_)
 refine G6 ?_;refine⟨rfl,rfl,?_⟩;refine G3 ?_
 refine O1 (Bp Ii rfl rfl (by decide) rfl) ?_
 refine G5 ?_;refine Ab rfl ?_ ?_<;>intro h1
 ·skip
  refine G3 ?_
  refine O1 (sO (cs:=zPt) (cs':=zPt) (by rw[ag_,if_pos rfl];rfl)) ?_
  refine G3 ?_
  exact⟨_,Am (vs:=zPt) (v:=.agg zPt) (ldC (t:=223)) rfl (by simp only[Sto.cells];rw[aa_,if_pos rfl]) rfl rfl,_,σ,am_ hw ⟨by rw[Aq,Ao];omega,fun b hb=>by rw[aa_,if_neg Om,ag_,if_neg Om]⟩,nl,.same rfl,by rw[hn];rfl,rfl⟩
 ·exact absurd (show(x.2.1:Int)=(r.parts.length:Int) by rw[heq]) (by simpa using h1)
theorem f188b(g:Gr)(c:Nat)(x:It)(tl:List AV){r:Rl}{p:Pt}(σ:Sto)(hc:σ.get c=some (.cells (Af g.sorts::slV eR 4 g.rules::tl)))(hr:g.rules[x.1]? =some r)(hne:¬x.2.1=r.parts.length)(hp:r.parts[x.2.1]? =some p)(hn:nxI g x=some p):Cv 188 [.pr c 0,itV x] σ (.tup [.agg (nxC (nxI g x)),.bool (nxI g x).isSome]):=by
 refine Aj Tryz.func188 rfl rfl fun hw hu0=>?_
 refine G3 ?_;refine O1 (Bu ziC) ?_;refine G2 ?_
 have hc0:∀z,(σ.new (.cells z)).get c=some (.cells (Af g.sorts::slV eR 4 g.rules::tl)):=fun z=>by rw[ag_,if_neg (by have:=(hw _ _ hc).1;omega)];exact hc
 refine G ?_;refine X0 ?_;refine G4 ?_
 refine DF (lO (hc0 _)) (DF (Bp Ii rfl rfl (by decide) rfl) ?_)
 refine G6 ?_;refine⟨rfl,rfl,?_⟩;refine G3 ?_
 refine O1 (Bp Ii rfl rfl (by decide) rfl) ?_
 refine G5 ?_;refine Ab rfl ?_ ?_<;>intro h1
 ·have h9:(x.2.1:Int)=(r.parts.length:Int):=by simpa using h1
  exact absurd (ci_ h9) hne
 ·skip
  refine G4 ?_
  refine O1 (Bp Ii rfl rfl (by decide) rfl) ?_
  refine G3 ?_
  refine O1 (sO (cs:=zPt) (cs':=ePt p) (by rw[ag_,if_pos rfl];rfl)) ?_
  refine G3 ?_
  exact⟨_,Am (vs:=(ePt p)) (v:=.agg (ePt p)) (ldC (t:=223)) rfl (by simp only[Sto.cells];rw[aa_,if_pos rfl]) rfl rfl,_,σ,am_ hw ⟨by rw[Aq,Ao];omega,fun b hb=>by rw[aa_,if_neg Om,ag_,if_neg Om]⟩,nl,.same rfl,by rw[hn];rfl,rfl⟩
theorem f188(g:Gr)(c j:Nat)(x:It)(tl:List AV)(σ:Sto)(hc:σ.get c=some (.cells (Af g.sorts::slV eR 4 g.rules::tl)))(hx:Vm g j x):Cv 188 [.pr c 0,itV x] σ (.tup [.agg (nxC (nxI g x)),.bool (nxI g x).isSome]):=by
 obtain⟨r,hr⟩:=Ar hx.1;have e:=Axm hr;have h2:=hx.2.1;rw[e]at h2;cases hp:r.parts[x.2.1]? with
 |none=>exact f188a g c x tl σ hc hr (by have:=List.getElem?_eq_none_iff.1 hp;omega) (by unfold nxI;rw[e];exact hp)
 |some p=>exact f188b g c x tl σ hc hr (by have:=(ae_.1 hp).1;omega) hp (by unfold nxI;rw[e];exact hp)
section
variable {g:Gr}{text:List Str}{N:Nat}{X:Cp}{S:Ch}{σ:Sto}
theorem Ch.add_new{j:Nat}{x:It}{l:List It}(hl:S.sets[j]? =some l)(hx:x∉l):S.add j x={ S with sets:=S.sets.set j (l++[x]) }:=by
 unfold Ch.add;rw[ej_ hl,if_neg hx]
theorem Ch.add_old{j:Nat}{x:It}{l:List It}(hl:S.sets[j]? =some l)(hx:x∈l):S.add j x=S:=by
 unfold Ch.add;rw[ej_ hl,if_pos hx]
def Cp.setV(X:Cp)(j:Nat)(v:AV):Cp:={ X with vals:=X.vals.set j v }
theorem Cp.loc_setV{j a:Nat}{v v':AV}(hv:X.vals[j]? =some v)(hv':adr v'=some a)(t:Tg):(X.setV j v').loc t=if t=.v j then some a else X.loc t:=by
 cases t with
 |v k=>
  show((X.vals.set j v')[k]?).bind adr=_
  by_cases h:k=j
  ·grind
  ·rw[if_neg (fun e=>h (Tg.v.inj e)),fm_ (fun e=>h e.symm)];rfl
 |_=>rfl
theorem ChS.addS(h:ChS g text N X S σ){j m ver aS:Nat}{x:It}{l:List It}{v:AV}{M:GM Ik Bool}{tl:List AV}{σ2:Sto}
  (hl:S.sets[j]? =some l)(hv:X.vals[j]? =some v)(hm:X.ms[j]? =some m)(hMx:∀y,(y∈l->M.get (ik y)=some true)/\(y∉l->M.get (ik y)=none))(hx:x∉l)
  (h2n:nx σ2=nx σ+1)(h2o:Own σ2 N eIt 3 (l++[x]) (.sr (nx σ) 0 3 (l.length+1) none))(h2f:∀b,b<nx σ->adr v≠some b->σ2.get b=(σ.set m (.map 351 (Hi bE (M.put (ik x) true)) ver)).get b)
  (hS:X.vS=.sr aS 0 1 X.vals.length none):
  ChS g text N (X.setV j (.sr (nx σ) 0 3 (l.length+1) none)) (S.add j x) (σ2.set aS (.cells ((X.vals.set j (.sr (nx σ) 0 3 (l.length+1) none)).flatMap eV++tl)))/\
  Lk X σ (X.setV j (.sr (nx σ) 0 3 (l.length+1) none)) (σ2.set aS (.cells ((X.vals.set j (.sr (nx σ) 0 3 (l.length+1) none)).flatMap eV++tl))):=by
 have hjl:=(ae_.1 hv).1;have hsl:=(ae_.1 hl).1
 have Lv:X.loc (.v j)=adr v:=by show(X.vals[j]?).bind adr=_;rw[hv];rfl
 have Lm:X.loc (.m j)=some m:=hm
 have Ls:X.loc .s=some aS:=by show adr X.vS=_;rw[hS];rfl
 have hc:=h.lo .c _ rfl;have loc':=Cp.loc_setV (X:=X) (v':=.sr (nx σ) 0 3 (l.length+1) none) hv rfl
 generalize hτ:σ2.set aS (.cells ((X.vals.set j (.sr (nx σ) 0 3 (l.length+1) none)).flatMap eV++tl))=τ
 have nτ:nx τ=nx σ+1:=gr;have haS:=(h.lo _ _ Ls).2;have qf:=(h.lo _ _ Lm).2;have get0:∀b,b≠aS->τ.get b=σ2.get b:=gr;have get1:∀b,b<nx σ->b≠aS->b≠m->adr v≠some b->τ.get b=σ.get b:=gr

 have oth:∀t a,X.loc t=some a->t≠.s->t≠.m j->t≠.v j->τ.get a=σ.get a:=fun t a ht n1 n2 n3=>
  get1 a (h.lo t a ht).2 (fun e=>n1 (h.inj t .s a ht (by rw[Ls,e]))) (fun e=>n2 (h.inj t (.m j) a ht (by rw[Lm,e]))) (fun e=>n3 (h.inj t (.v j) a ht (by rw[Lv,e])))
 refine⟨⟨fun t u a ht hu=>?_,fun t a ht=>?_,(oth .c _ rfl (by simp) (by simp) (by simp)).trans h.cl,?_,h.is.of_get Om fun a ha=>oth .i a ha (by simp) (by simp) (by simp),?_,?_,fun k l' u hl' hu=>?_,fun k l' u hl' hu=>?_,?_⟩,⟨rfl,rfl,rfl,by omega,fun t a ht=>?_,fun b hb hn=>?_⟩⟩
 ·rw[loc']at ht hu
  by_cases e1:t=.v j
  ·by_cases e2:u=.v j
   ·rw[e1,e2]
   ·rw[if_pos e1]at ht;rw[if_neg e2]at hu;cases ht;have:=(h.lo u _ hu).2;omega
  ·by_cases e2:u=.v j
   ·rw[if_neg e1]at ht;rw[if_pos e2]at hu;cases hu;have:=(h.lo t _ ht).2;omega
   ·rw[if_neg e1]at ht;rw[if_neg e2]at hu;exact h.inj t u a ht hu
 ·rw[loc']at ht
  split at ht
  ·grind
  ·have:=h.lo t a ht;omega
 ·refine .inr ⟨aS,tl,(h.lo _ _ Ls).1,by omega,?_,?_⟩
  ·show X.vS=_;rw[hS];show _=AV.sr aS 0 1 (X.vals.set j _).length none;grind
  ·rw[←hτ,aa_,if_pos rfl];rfl
 ·rw[gj_];show(X.vals.set j _).length=_;rw[dc_];exact h.lv
 ·rw[gj_];exact h.lm
 ·rw[Ch.add_new hl hx]at hl';have hl':(S.sets.set j (l++[x]))[k]? =some l':=hl';have hu:(X.vals.set j (.sr (nx σ) 0 3 (l.length+1) none))[k]? =some u:=hu
  by_cases e:k=j
  ·subst e;rw[f_ hsl]at hl';rw[f_ hjl]at hu;cases hl';cases hu
   exact h2o.of_get Om fun a ha=>get0 a (by cases ha;omega)
  ·rw[fm_ (fun h=>e h.symm)]at hl' hu
   have hk:∀a,adr u=some a->X.loc (.v k)=some a:=fun a ha=>by show(X.vals[k]?).bind adr=_;grind
   exact(h.vals k l' u hl' hu).of_get Om fun a ha=>oth (.v k) a (hk a ha) (by simp) (by simp) (fun h=>e (Tg.v.inj h))
 ·rw[Ch.add_new hl hx]at hl';have hl':(S.sets.set j (l++[x]))[k]? =some l':=hl'
  by_cases e:k=j
  ·subst e;rw[f_ hsl]at hl';cases hl';have hu:X.ms[k]? =some u:=hu;rw[hm]at hu;cases hu;refine⟨M.put (ik x) true,⟨ver,?_⟩,fun y=>?_⟩
   ·rw[get0 m (fun e=>by have:=h.inj (.m k) .s m Lm (by rw[Ls,e]);cases this),h2f m qf (fun e=>by have:=h.inj (.v k) (.m k) m (by rw[Lv,e]) Lm;cases this),aa_,if_pos rfl]
   ·rw[fp_]
    by_cases hy:y=x
    ·subst hy;simp
    ·rw[if_neg (fun e=>hy (Axl.1 e))]
     grind
  ·rw[fm_ (fun h=>e h.symm)]at hl'
   exact(h.mps k l' u hl' hu).of_get (oth (.m k) u hu (by simp) (fun h=>e (Tg.m.inj h)) (by simp))
 ·have:(S.add j x).done=S.done:=gn_;rw[this]
  exact h.done.of_get (oth .d _ rfl (by simp) (by simp) (by simp))
 ·grind
 grind
end
theorem Asl{E:Env}{nt B:Nat}{df:List (Nat×List AV)}{c:Code}{Q:Cc}{ρ:Ad}{σ:Sto}(h:T E nt df B c (fun x ρ σ=>WFS σ->Q x ρ σ) ρ σ):T E nt df B c Q ρ σ:=fun ro n hn C w tm a ht st hB=>
 wpIn_mono (h ro n hn C w tm a ht st hB) fun e a' w' ⟨x,tm',ρ',σ',C',h1,h2,h3,h4,h5⟩=>⟨x,tm',ρ',σ',C',h1,h2,h3 h4.sim.wfs,h4,h5⟩
theorem Ns{ρ:Ad}{σ:Sto}{Rr:Rec}{t kt sz r:Nat}{x y:Operand}{agg:Bool}{z u:AV}{κ α:Type}[DecidableEq κ][KE κ]{enc:α->AV}{m:GM κ α}{k:κ}{o:Option α}(hi:mpI Ew.P t=some (kt,z,sz,agg))(hx:Ah Ew ρ x=some (.mp r))(hm:GAt kt enc σ r m)(hy:Ah Ew ρ y=some u)(hk:D4 Ew.P kt u=some (KE.k k))(ho:m.get k=o):
  As Ew Rr (.lookup t x y false) ρ σ ((o.map enc).getD z) σ:=by subst ho;exact Amz hi hx hm hy hk
theorem ikey(x:It):D4 Ew.P 351 (itV x)=some (KE.k (ik x)):=by
 obtain⟨a,b,c⟩:=x
 kernel_rfl
theorem f187a{g:Gr}{text:List Str}{N:Nat}{X:Cp}{S:Ch}{σ:Sto}(h:ChS g text N X S σ){j m ver:Nat}{x:It}{l:List It}{v:AV}{M:GM Ik Bool}(hl:S.sets[j]? =some l)(hv:X.vals[j]? =some v)(hm:X.ms[j]? =some m)(hM:σ.get m=some (.map 351 (Hi bE M) ver))(hMx:∀y,(y∈l->M.get (ik y)=some true)/\(y∉l->M.get (ik y)=none))(hx:x∈l)  :Al Ew 187 [.pr X.c 0,nV j,itV x] σ fun _ σ'=>σ'=σ:=by
 have ho:M.get (ik x)=some true:=(hMx x).1 hx;have hil:=(ae_.1 hv).1;have fk:=(ae_.1 hm).1;obtain⟨aS,tS,zS1,zS2,hvS,hgS⟩:=h.sets.sr hil;obtain⟨aI,tI,zI1,zI2,hvI,hgI⟩:=h.is.sr fk
 have hcl:σ.get X.c=some (.cells [Af g.sorts,slV eR 4 g.rules,.mp X.mR,Af text,.sr aS 0 1 X.vals.length none,.sr aI 0 1 X.ms.length none,.mp X.mD]):=by rw[←hvS,←hvI];exact h.cl
 refine Aj Tryz.func187 rfl rfl fun hw hu0=>?_
 refine G5 ?_;refine X0 ?_;refine G3 ?_;refine DF (lO hcl) ?_;refine G ?_;refine DF (Br elC rfl rfl fk) (DF (Dg Z6 ldC rfl hgI hm fun _=>rfl) ?_)
 refine G ?_;refine DF (Ns (o:=some true) (z:=.bool false) Am3 rfl ⟨ver,hM⟩ rfl (ikey x) ho) ?_;refine G2 ?_;refine⟨rfl,rfl,?_⟩;refine Ab rfl ?_ ?_<;>intro h1
 ·grind
 ·skip
  refine G ?_;exact⟨[],rfl,_,σ,a_ hw nl (fun _ _=>rfl),nl,.same rfl,rfl⟩
theorem f187b{g:Gr}{text:List Str}{N:Nat}{X:Cp}{S:Ch}{σ:Sto}(h:ChS g text N X S σ){j m ver:Nat}{x:It}{l:List It}{v:AV}{M:GM Ik Bool}(hl:S.sets[j]? =some l)(hv:X.vals[j]? =some v)(hm:X.ms[j]? =some m)(hM:σ.get m=some (.map 351 (Hi bE M) ver))(hMx:∀y,(y∈l->M.get (ik y)=some true)/\(y∉l->M.get (ik y)=none))(hx:x∉l)(bn:l.length<=30000000)  :Al Ew 187 [.pr X.c 0,nV j,itV x] σ fun _ σ'=>∃X',ChS g text N X' (S.add j x) σ'/\Lk X σ X' σ':=by
 have ho:M.get (ik x)=none:=(hMx x).2 hx;have hil:=(ae_.1 hv).1;have fk:=(ae_.1 hm).1;obtain⟨aS,tS,zS1,zS2,hvS,hgS⟩:=h.sets.sr hil;obtain⟨aI,tI,zI1,zI2,hvI,hgI⟩:=h.is.sr fk
 have hcl:σ.get X.c=some (.cells [Af g.sorts,slV eR 4 g.rules,.mp X.mR,Af text,.sr aS 0 1 X.vals.length none,.sr aI 0 1 X.ms.length none,.mp X.mD]):=by rw[←hvS,←hvI];exact h.cl
 have hj9:=h.inj
 have lS:X.loc .s=some aS:=by show adr X.vS=_;rw[hvS];rfl
 have lM:X.loc (.m j)=some m:=hm
 have lV:X.loc (.v j)=adr v:=by show(X.vals[j]?).bind adr=_;rw[hv];rfl
 have hcm:X.c≠m:=gr;have hSm:aS≠m:=gr
 have hcS:X.c≠aS:=fun e=>by cases hj9 .c .s aS (congrArg some e) lS
 have bf:=h.vals j l v hl hv
 generalize hσ1:σ.set m (.map 351 (Hi bE (M.put (ik x) true)) (ver+1))=σ1 at *
 have n1:nx σ1=nx σ:=gr;have g1:∀b,b≠m->σ1.get b=σ.get b:=gr;have cn:Own σ1 N eIt 3 l v:=bf.of_get Om fun a ha=>g1 a gr
 have hN:N<=nx σ:=gr
 obtain⟨σ2,hap,n2,bw,g2⟩:=dn_ (by':=24) Rx Om cn x (by simp only[sizeLim];omega)
 rw[n1]at hap n2 bw g2
 have dk:=h.addS (tl:=tS) hl hv hm hMx hx n2 bw (fun b hb hn=>(g2 b hb hn).trans (by rw[←hσ1])) hvS
 have g8:=(g1 X.c hcm).trans hcl;have ji:=(g1 aS hSm).trans hgS
 have hv1:∀r,Cz 1 false (eV v++r)=some v:=fun r=>by
  rcases bf with⟨_,rfl|rfl⟩|⟨a,tl,_,_,rfl,_⟩<;>rfl
 have hSv:adr v≠some aS:=gr
 have hcv:adr v≠some X.c:=fun e=>by cases hj9 (.v j) .c X.c (by rw[lV,e]) rfl
 have qg:=(g2 X.c (h.lo .c _ rfl).2 hcv).trans g8;have qj:=(g2 aS zS2 hSv).trans ji;refine Aj Tryz.func187 rfl rfl fun hw hu0=>?_
 refine G5 ?_;refine X0 ?_;refine G3 ?_;refine DF (lO hcl) ?_;refine G ?_;refine DF (Br elC rfl rfl fk) (DF (Dg Z6 ldC rfl hgI hm fun _=>rfl) ?_)
 refine G ?_;refine DF (Ns (o:=none) (z:=.bool false) Am3 rfl ⟨ver,hM⟩ rfl (ikey x) ho) ?_;refine G2 ?_;refine⟨rfl,rfl,?_⟩;refine Ab rfl ?_ ?_<;>intro h1
 ·skip
  refine G ?_;refine XS (l:=[]) trivial ?_;refine G3 ?_;refine DF (lO hcl) ?_;refine G ?_;refine DF (Br elC rfl rfl fk) (DF (Dg Z6 ldC rfl hgI hm fun _=>rfl) ?_)
  refine G ?_
  refine DT (K7 (v:=true) Am3 rfl hM rfl (ikey x) rfl (fun te h1 h2=>by simp[Je,h1,h2])) ?_
  refine G ?_;rw[hσ1];refine Asl ?_;refine L4 (Rr:=Dk []) (anns:=[⟨.pure,0,1⟩,⟨.pure,0,1⟩,⟨.pure,0,1⟩,⟨.read,0,1⟩,⟨.pure,0,1⟩,⟨.pure,0,0⟩,⟨.pure,0,0⟩,⟨.pure,0,0⟩,⟨.read,0,0⟩,⟨.pure,0,0⟩,⟨.pure,0,0⟩,⟨.read,0,0⟩,⟨.read,0,0⟩,⟨.pure,0,0⟩,⟨.eff,0,1⟩,⟨.pure,1,1⟩,⟨.eff,1,2⟩]) Di (Bw (l:=[]) trivial) Kr ?_;refine G3 ?_;refine DF (lO g8) ?_;refine G4 ?_;refine DF (lO g8) ?_;refine G ?_;refine DF (Br elC rfl rfl hil) (DF (Dg O0 ldC rfl ji hv hv1) ?_);refine G ?_;refine DF (Ai elC byW rfl rfl rfl) (DT (Av elC rfl slC rfl rfl rfl (new:=eIt x) rfl hap) (DF (Br elC rfl rfl hil) (DT (Tb (u:=.sr (nx σ) 0 3 (l.length+1) none) O0 ldC rfl rfl rfl qj hil) ?_)));refine G ?_
  refine⟨⟨trivial,trivial,trivial,(fun s hs=>by simp at hs;rcases hs with rfl|rfl;exact⟨_,E8 g8 (ldC (t:=233)) rfl rfl⟩;exact⟨_,E8 qg (ldC (t:=233)) rfl rfl⟩),trivial,trivial,trivial,trivial,(fun s hs=>by simp at hs;subst hs;exact⟨_,E8 g8 (ldC (t:=233)) rfl rfl⟩),trivial,trivial,(fun s hs=>by simp at hs;subst hs;exact⟨_,Dg O0 (ldC (t:=352)) rfl ji hv hv1⟩),(fun s hs=>⟨_,Ac (ldC (t:=351)) rfl rfl rfl⟩),trivial,trivial,trivial,trivial,trivial⟩,?_⟩
  intro hw2;exact⟨[],rfl,_,_,a_ hw2 nl (fun _ _=>rfl),gr,.same rfl,_,dk.1,dk.2⟩
 grind
theorem f187{g:Gr}{text:List Str}{N:Nat}{X:Cp}{S:Ch}{σ:Sto}(h:ChS g text N X S σ){j:Nat}(x:It)(hj:j<S.sets.length)(bn:(S.set j).length<=30000000):Al Ew 187 [.pr X.c 0,nV j,itV x] σ fun _ σ'=>∃X',ChS g text N X' (S.add j x) σ'/\Lk X σ X' σ':=by
 obtain⟨l,hl⟩:=Ar hj
 obtain⟨v,hv⟩:=Ar (show j<X.vals.length by rw[h.lv];exact hj)
 obtain⟨m,hm⟩:=Ar (show j<X.ms.length by rw[h.lm];exact hj)
 obtain⟨M,⟨ver,hM⟩,hMx⟩:=h.mps j l m hl hm;rw[ej_ hl]at bn
 by_cases hx:x∈l
 ·refine(f187a h hl hv hm hM hMx hx).mono fun _ σ' e=>?_
  subst e
  exact⟨X,by rw[Ch.add_old hl hx];exact h,Lk.refl _ _⟩
 ·exact f187b h hl hv hm hM hMx hx bn
theorem Anl:(match Ay Ew.P 351 with|some ti=>ti.zero|none=>none)=some [.int .i64 0,.int .i64 0,.int .i64 0]:=Kr
theorem Anm{g:Gr}{s:Str}:(E5 g s).length<=g.rules.length:=by
 unfold E5
 exact ai_ (ee_ _ _) (by rw[List.length_range];exact nl)
theorem Afn{S:Ch}{j i:Nat}{L:List It}{x:It}(h:L[i]? =some x):S.adds j (L.take (i+1))=(S.adds j (L.take i)).add j x:=by
 have e:L.take (i+1)=L.take i++[x]:=by rw[List.take_add_one,h];rfl
 rw[e];unfold Ch.adds;rw[List.foldl_append];rfl
theorem f152{g:Gr}{text:List Str}{N:Nat}{X:Cp}{S:Ch}{σ:Sto}{rv:SM AV}(h:ChS g text N X S σ)(hr:RlS g rv X σ)(s:Str){j:Nat}(hj:j<S.sets.length)(hok:Gj g S)(hb:Cu g j<=30000000)(hR:g.rules.length<=1000000):Al Ew 152 [.pr X.c 0,sV s,nV j] σ fun _ σ'=>∃X',ChS g text N X' (S.pred g s j) σ'/\Lk X σ X' σ':=by
 obtain⟨v,hv,bf,hvs⟩:∃v,((rv.get s).map fun v:AV=>v).getD nS=v/\Own σ 0 eN 1 (E5 g s) v/\(0<(E5 g s).length->rv.get s=some v):=by
  have:=hr.get s;cases hs:rv.get s with
  |none=>rw[hs]at this;exact⟨_,rfl,by rw[this];exact .nil,fun h=>by rw[this]at h;cases h⟩
  |some v=>rw[hs]at this;exact⟨v,rfl,this,fun _=>rfl⟩
 refine Aj Tryz.func152 rfl rfl fun hw hu0=>?_
 refine G5 ?_;refine O1 (lO h.cl) ?_;refine G ?_;refine O1 (W4 st9 Ae5 rfl hr.map rfl) (O1 (Bf slC (show _=some v from congrArg some hv) bf.lenA.1 bf.lenA.2) ?_)
 refine G3 ?_
 refine Bz (E5 g s).length (fun i0=>[(0,.pr X.c 0),(2,nV j),(13,v),(14,nV (E5 g s).length),(15,nV i0)]) (fun i0 σ0=>∃Y,ChS g text N Y (S.adds j ((Su g s j).take i0)) σ0/\Lk X σ Y σ0) ⟨rfl,rfl,by rw[←hv];rfl,rfl,rfl,trivial⟩ ⟨X,h,Lk.refl _ _⟩ ?_
 rintro i0 σ0 hi0 ⟨Y,hY,hL⟩;refine G5 ?_;refine Ab rfl ?_ ?_<;>intro h1
 ·have bc:i0<(E5 g s).length:=by simpa using h1
  have hrl:=Anm (g:=g) (s:=s);obtain⟨r0,hr0⟩:=Ar bc
  have hp0:(Su g s j)[i0]? =some (r0,0,j):=by unfold Su;rw[br_,hr0];rfl
  have hrY:=hr.lk hL;have hgY:=hrY.get s;rw[hvs Om]at hgY;obtain⟨a,tl,_,_,hva,hga⟩:=(show Own σ0 0 eN 1 (E5 g s) v from hgY).sr bc
  have qk:Gj g (S.adds j ((Su g s j).take i0)):=hok.adds fun x hx=>Vn x (cm_ hx)
  have hjY:j<(S.adds j ((Su g s j).take i0)).sets.length:=by rw[dx_];exact hj
  refine G5 ?_;refine O1 (Br elC (show _=some (AV.sr a 0 1 (E5 g s).length none)from congrArg some hva) rfl bc) (O1 (Dg Ep ldC rfl hga hr0 fun _=>rfl) ?_)
  refine G7 ?_;refine O1 (G0 Anl Ii rfl rfl) (Az rfl rfl rfl rfl (show Al Ew 187 [.pr X.c 0,nV j,itV (r0,0,j)] σ0 _ from hL.c▸f187 hY (r0,0,j) hjY (ai_ (qk.set.bound nl) hb)) ?_)
  rintro u1 σ1 ⟨Z,hZ,hLZ⟩;refine G5 ?_;rw[←Afn hp0]at hZ;exact⟨bc,SL,Z,hZ,hL.trans hLZ⟩
 ·have bj:(E5 g s).length<=i0:=by simpa using h1
  refine Bo fun hw0=>?_
  refine G ?_
  have e:(Su g s j).take i0=Su g s j:=at_ (by unfold Su;rw[cx_];exact bj)
  rw[e]at hY;exact⟨[],rfl,_,_,a_ hw0 nl (fun _ _=>rfl),hL.n,.same rfl,Y,hY,hL⟩
theorem Ahg(o:Option Pt):(nxC o).length=3:=by cases o<;>rfl
def nxS:Option Pt->Str
 |some p=>p.sort
 |none=>[]
theorem Nt(o:Option Pt):Cz 1 false ((nxC o).drop 1)=some (sV (nxS o)):=by cases o<;>rfl
theorem Alo{g:Gr}{r n:Nat}(h:r<g.rules.length):mxP g<=Cu g n:=
 ai_ (dm_ _) (ai_ (Nat.le_mul_of_pos_right _ (Nat.succ_pos n)) (Nat.le_mul_of_pos_left _ (gc_ (aq_ _) h)))
theorem Ts{S:Ch}{j k:Nat}{x:It}:(S.set k).length<=((S.add j x).set k).length:=by
 unfold Ch.add
 split
 ·grind
 ·show((S.sets.getD k [])).length<=((S.sets.set j _).getD k []).length
  simp only[List.getD_eq_getElem?_getD,List.getElem?_set]
  by_cases e:j=k
  ·subst e
   by_cases hl:j<S.sets.length
   ·rw[if_pos rfl,if_pos hl]
    show _<=(S.set j++[x]).length
    rw[bx_]
    show(S.sets[j]?.getD []).length<=(S.sets.getD j []).length+_
    grind
   grind
  grind
theorem Yd{g:Gr}{s:Sp}{x:It}{S:Ch}{k:Nat}:(S.set k).length<=((Fc g s x S).set k).length:=by
 unfold Fc
 split
 ·split
  ·exact Ts
  grind
 grind
def eSp(s:Sp):List AV:=[sV s.1,nV s.2.1,nV s.2.2]
theorem f189{g:Gr}{text:List Str}{N n:Nat}{X:Cp}{S:Ch}{σ:Sto}(h:ChS g text N X S σ)(s:Sp)(hok:Gj g S)(hs:s.2.1<=s.2.2)(hl:s.2.2<S.sets.length)(hn:S.sets.length<=n+1)(hb:Cu g n<=30000000):Al Ew 189 [.pr X.c 0,.agg (eSp s)] σ fun _ σ'=>∃X',ChS g text N X' (adv g s (Cu g n+1) 0 S) σ'/\Lk X σ X' σ':=by
 refine Aj Tryz.func189 rfl rfl fun hw hu0=>?_
 refine G9 ?_;refine Ci (fun q:Nat×Ch=>[(0,.pr X.c 0),(3,.pv (eSp s)),(4,nV q.1)]) (fun q σ0=>∃Y,ChS g text N Y q.2 σ0/\Lk X σ Y σ0/\Gj g q.2/\q.2.sets.length=S.sets.length/\q.1<=(q.2.set s.2.1).length/\q.1<=Cu g n/\adv g s (Cu g n+1-q.1) q.1 q.2=adv g s (Cu g n+1) 0 S) (fun q=>Cu g n+1-q.1) (0,S) SL ⟨X,h,Lk.refl _ _,hok,rfl,aq_ _,aq_ _,rfl⟩ ?_
 rintro⟨i0,T0⟩ σ0 ⟨Y,hY,hL,cq,hlT,hi0,hib,hfu⟩;have hlT:T0.sets.length=S.sets.length:=hlT;have hi0:i0<=(T0.set s.2.1).length:=hi0;have hib:i0<=Cu g n:=hib;have hfu:adv g s (Cu g n+1-i0) i0 T0=adv g s (Cu g n+1) 0 S:=hfu;have hY:ChS g text N Y T0 σ0:=hY;have cq:Gj g T0:=cq
 have hj1:s.2.1<T0.sets.length:=by omega
 obtain⟨l,hl⟩:=Ar hj1
 obtain⟨v,hv⟩:=Ar (show s.2.1<Y.vals.length by rw[hY.lv];exact hj1)
 have hvl:=(ae_.1 hv).1;have cd:=ej_ hl;rw[cd]at hi0;have bf:=hY.vals _ l v hl hv;obtain⟨aS,tS,_,zS2,hvS,hgS⟩:=hY.sets.sr hvl
 have hcl:σ0.get X.c=some (.cells [Af g.sorts,slV eR 4 g.rules,.mp Y.mR,Af text,.sr aS 0 1 Y.vals.length none,Y.vI,.mp Y.mD]):=by rw[←hvS,←hL.c];exact hY.cl
 have hlb:l.length<=Cu g n:=by have:=(cq.set (j:=s.2.1)).bound (n:=n) Om;grind
 have hv1:∀r,Cz 1 false (eV v++r)=some v:=fun r=>by
  rcases bf with⟨_,rfl|rfl⟩|⟨a,tl,_,_,rfl,_⟩<;>rfl
 refine G2 ?_;refine X0 ?_;refine G4 ?_;refine DF (lO hcl) ?_;refine G2 ?_;refine DF (Br elC rfl rfl hvl) (DF (Dg O0 ldC rfl hgS hv hv1) (DF (Bf slC rfl bf.lenA.1 bf.lenA.2) ?_));refine G2 ?_;refine⟨rfl,rfl,?_⟩;refine Ab rfl ?_ ?_<;>intro h1
 ·have bc:i0<l.length:=gr;obtain⟨x,hx⟩:=Ar bc;obtain⟨a,tl,_,_,hva,hga⟩:=bf.sr bc
  have hxo:Vm g s.2.1 x:=cq _ l hl|>.2 x (au_.2 ⟨_,hx⟩)
  refine G3 ?_;refine Gz 5 [.int .i64 0,.int .i64 0,.int .i64 0] (eIt x) [] rfl rfl (fun hw0=>?_) ?_
  ·refine XX 1 (l:=[]) trivial ?_;refine G3 ?_;refine DF (lO hcl) ?_;refine G2 ?_;refine DF (Br elC rfl rfl hvl) (DF (Dg O0 ldC rfl hgS hv hv1) ?_);refine G ?_;refine DF (Br elC (show _=some (AV.sr a 0 3 l.length none)from congrArg some hva) rfl bc) (DF (Dg Rx ldC rfl hga hx fun _=>rfl) ?_)
   refine DT (Bu ziC) (DT (sO (cs:=[.int .i64 0,.int .i64 0,.int .i64 0]) (cs':=eIt x) (by rw[ag_,if_pos rfl])) ?_)
   refine G ?_
   exact⟨(by intro e he;simp at he;rcases he with rfl|rfl<;>first|exact .refl|exact K4 hw0),trivial,sb,rfl,rfl⟩
  refine G4 ?_;refine Ca (show Al Ew 188 [.pr X.c 0,itV x] σ0 _ from f188 g X.c s.2.1 x _ σ0 hcl hxo) ?_
  refine G3 ?_;refine Ho ziC ldC rfl (fun _=>rfl) rfl (A7 (Ahg _)) rfl rfl ?_
  refine G6 ?_;refine TAn 5 ?_ (fun hg=>?_) ?_
  rotate_left
  ·refine Gn hg ?_;refine On hg (Ac ldC rfl rfl (Nt _)) ?_
   iterate 3 refine Gn hg ?_
   exact Ez
  refine G ?_;refine Ab rfl ?_ ?_<;>intro h2
  ·obtain⟨p,hp,hps⟩:∃p,nxI g x=some p/\p.sort=s.1:=by
    cases hh:nxI g x with
    |none=>rw[hh]at h2;simp at h2
    |some p=>rw[hh]at h2;exact⟨p,rfl,(by simp[nxS]at h2;grind)⟩
   have hbx:x.2.1<=30000000:=ai_ (ai_ hxo.2.1 W9) (ai_ (Alo hxo.1) hb)
   have hj2:s.2.2<T0.sets.length:=by omega
   have bn:(T0.set s.2.2).length<=30000000:=ai_ ((cq.set (j:=s.2.2)).bound (n:=n) Om) hb
   have eS:Fc g s x T0=T0.add s.2.2 (upI x):=by unfold Fc;grind
   have hst:=Tq (x:=x) cq hs hxo
   have dt:adv g s (Cu g n+1-(i0+1)) (i0+1) (Fc g s x T0)=adv g s (Cu g n+1) 0 S:=by
    rw[←hfu,show Cu g n+1-i0=(Cu g n+1-(i0+1))+1 by omega]
    simp only[adv,cd,hx]
   have hnl:i0+1<=((Fc g s x T0).set s.2.1).length:=by
    have:=Yd (g:=g) (s:=s) (x:=x) (S:=T0) (k:=s.2.1)
    grind
   refine G4 ?_
   refine O1 (Bp Ii rfl rfl (by decide) rfl) ?_
   refine G ?_
   refine O1 (Bp Ii rfl rfl (by decide) rfl) ?_
   refine G2 ?_
   refine O1 (Bp Ii rfl rfl (by decide) rfl) ?_
   refine G ?_;refine O1 (G0 Anl Ii rfl rfl) (Az rfl rfl rfl rfl (show Al Ew 187 [.pr X.c 0,nV s.2.2,itV (upI x)] σ0 _ from hL.c▸f187 hY (upI x) hj2 bn) ?_)
   rintro u1 σ1 ⟨Z,hZ,hLZ⟩;refine G6 ?_;refine⟨(i0+1,Fc g s x T0),gr,SL,Z,gr,hL.trans hLZ,hst.1.ok,hst.1.len.trans hlT,hnl,gr,dt⟩
  ·have eS:Fc g s x T0=T0:=by
    unfold Fc;cases hh:nxI g x with
    |none=>rfl
    |some p=>rw[hh]at h2;exact if_neg (by simp[nxS]at h2;grind)
   have hst:=Tq (x:=x) cq hs hxo
   have dt:adv g s (Cu g n+1-(i0+1)) (i0+1) (Fc g s x T0)=adv g s (Cu g n+1) 0 S:=by
    rw[←hfu,show Cu g n+1-i0=(Cu g n+1-(i0+1))+1 by omega]
    simp only[adv,cd,hx]
   have hnl:i0+1<=((Fc g s x T0).set s.2.1).length:=gr;refine G6 ?_;refine⟨(i0+1,Fc g s x T0),gr,SL,Y,gr,hL,hst.1.ok,hst.1.len.trans hlT,hnl,gr,dt⟩
 ·have bj:l.length<=i0:=gr
  have ma:T0=adv g s (Cu g n+1) 0 S:=by
   rw[←hfu,show Cu g n+1-i0=(Cu g n-i0)+1 by omega]
   simp only[adv,cd,List.getElem?_eq_none_iff.2 bj]
  refine Bo fun hw0=>?_
  refine G ?_;exact⟨[],rfl,_,_,a_ hw0 nl (fun _ _=>rfl),hL.n,.same rfl,Y,gr,hL⟩
section
variable {g:Gr}{text:List Str}{N:Nat}{X:Cp}{S:Ch}{σ:Sto}
def Cp.more(X:Cp)(a m b:Nat):Cp:={ X with vS:=.sr a 0 1 (X.vals.length+1) none,vI:=.sr b 0 1 (X.ms.length+1) none,vals:=X.vals++[nS],ms:=X.ms++[m] }
theorem Cp.loc_more{a m b:Nat}(t:Tg){c:Nat}(h:(X.more a m b).loc t=some c):(t=.s/\c=a)∨(t=.i/\c=b)∨(t=.m X.ms.length/\c=m)∨(t≠.s/\t≠.i/\t≠.m X.ms.length/\X.loc t=some c):=by
 cases t with
 |s=>cases h;exact .inl ⟨rfl,rfl⟩
 |i=>cases h;exact .inr (.inl ⟨rfl,rfl⟩)
 |c=>exact .inr (.inr (.inr ⟨by simp,by simp,by simp,h⟩))
 |d=>exact .inr (.inr (.inr ⟨by simp,by simp,by simp,h⟩))
 |v j=>
  refine .inr (.inr (.inr ⟨by simp,by simp,by simp,?_⟩))
  have h:((X.vals++[nS])[j]?).bind adr=some c:=h
  show(X.vals[j]?).bind adr=some c
  rw[List.getElem?_append]at h
  split at h
  ·exact h
  ·rename_i hj
   by_cases e:j-X.vals.length=0
   ·rw[e]at h;cases h
   ·rw[List.getElem?_eq_none_iff.2 (by simp;omega)]at h;cases h
 |m j=>
  have h:(X.ms++[m])[j]? =some c:=h;rw[List.getElem?_append]at h
  split at h
  ·rename_i hj
   exact .inr (.inr (.inr ⟨by simp,by simp,fun e=>by have:=Tg.m.inj e;omega,h⟩))
  ·rename_i hj
   by_cases e:j-X.ms.length=0
   ·rw[e]at h;cases h
    exact .inr (.inr (.inl ⟨by rw[show j=X.ms.length by omega],rfl⟩))
   ·rw[List.getElem?_eq_none_iff.2 (by simp;omega)]at h;cases h
abbrev fu_:=@Cp.loc_more
theorem ChS.openS(h:ChS g text N X S σ){m b:Nat}{τ:Sto}(hm:nx σ<m)(hb:m<b)(hτ:b<nx τ)
  (hc:τ.get X.c=some (.cells ((X.more (nx σ) m b).cells g text)))
  (hS:Own τ N eV 1 (X.vals++[nS]) (.sr (nx σ) 0 1 (X.vals.length+1) none))(hI:Own τ N eMp 1 (X.ms++[m]) (.sr b 0 1 (X.ms.length+1) none))(hM:GAt 351 bE τ m ([]:GM Ik Bool))
  (hf:∀c,c<nx σ->c≠X.c->adr X.vS≠some c->adr X.vI≠some c->τ.get c=σ.get c):ChS g text N (X.more (nx σ) m b) S.open' τ/\Lk X σ (X.more (nx σ) m b) τ:=by
 have oth:∀t a,X.loc t=some a->t≠.c->t≠.s->t≠.i->τ.get a=σ.get a:=fun t a ht n1 n2 n3=>
  hf a (h.lo t a ht).2 (fun e=>n1 (h.inj t .c a ht (by rw[e];rfl))) (fun e=>n2 (h.inj t .s a ht e)) (fun e=>n3 (h.inj t .i a ht e))
 have hN:=h.lo .c _ rfl
 refine⟨⟨fun t u a ht hu=>?_,fun t a ht=>?_,hc,?_,?_,?_,?_,fun k l u hl hu=>?_,fun k l u hl hu=>?_,h.done.of_get (oth .d _ rfl (by simp) (by simp) (by simp))⟩,⟨rfl,rfl,rfl,by omega,fun t a ht=>?_,fun c hc hn=>hf c hc (fun e=>hn .c (by rw[e];rfl)) (hn .s) (hn .i)⟩⟩
 ·rcases fu_ t ht with⟨rfl,rfl⟩|⟨rfl,rfl⟩|⟨rfl,rfl⟩|⟨_,_,_,h1⟩<;>rcases fu_ u hu with⟨rfl,e⟩|⟨rfl,e⟩|⟨rfl,e⟩|⟨_,_,_,h2⟩
  all_goals first|rfl|(exfalso;omega)|(have:=(h.lo _ _ h2).2;exfalso;omega)|(have:=(h.lo _ _ h1).2;exfalso;omega)|exact h.inj t u a h1 h2
 ·rcases fu_ t ht with⟨_,rfl⟩|⟨_,rfl⟩|⟨_,rfl⟩|⟨_,_,_,h1⟩
  ·omega
  ·omega
  ·omega
  ·have:=h.lo t a h1;omega
 ·have e:(X.more (nx σ) m b).vS=.sr (nx σ) 0 1 (X.vals.length+1) none:=rfl;rw[e];exact hS
 ·have e:(X.more (nx σ) m b).vI=.sr b 0 1 (X.ms.length+1) none:=rfl;rw[e];exact hI
 ·show(X.vals++[_]).length=(S.sets++[[]]).length
  simp[h.lv]
 ·show(X.ms++[_]).length=(S.sets++[[]]).length
  simp[h.lm]
 ·have hl:(S.sets++[[]])[k]? =some l:=hl;have hu:(X.vals++[nS])[k]? =some u:=hu;rw[List.getElem?_append]at hl hu;rw[h.lv]at hu
  split at hl
  ·rename_i hk
   rw[if_pos hk]at hu
   have hk':∀a,adr u=some a->X.loc (.v k)=some a:=fun a ha=>by show(X.vals[k]?).bind adr=_;rw[hu];exact ha
   exact(h.vals k l u hl hu).of_get Om fun a ha=>oth (.v k) a (hk' a ha) (by simp) (by simp) (by simp)
  ·rename_i hk
   rw[if_neg hk]at hu
   by_cases e:k-S.sets.length=0
   ·rw[e]at hl hu;cases hl;cases hu;exact .nil
   ·rw[List.getElem?_eq_none_iff.2 (by simp;omega)]at hl;cases hl
 ·have hl:(S.sets++[[]])[k]? =some l:=hl;have hu:(X.ms++[m])[k]? =some u:=hu;rw[List.getElem?_append]at hl hu;rw[h.lm]at hu
  split at hl
  ·rename_i hk
   rw[if_pos hk]at hu
   exact(h.mps k l u hl hu).of_get (oth (.m k) u hu (by simp) (by simp) (by simp))
  ·rename_i hk
   rw[if_neg hk]at hu
   by_cases e:k-S.sets.length=0
   ·rw[e]at hl hu;cases hl;cases hu
    exact⟨[],hM,fun x=>⟨fun hx=>(by cases hx),fun _=>rfl⟩⟩
   ·rw[List.getElem?_eq_none_iff.2 (by simp;omega)]at hl;cases hl
 ·rcases fu_ t ht with⟨_,rfl⟩|⟨_,rfl⟩|⟨_,rfl⟩|⟨_,_,_,h1⟩
  ·exact .inr nl
  ·exact .inr Om
  ·exact .inr Om
  ·exact .inl ⟨t,h1⟩
end
end Go.AM
