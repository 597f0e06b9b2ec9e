/- A part of the proof; shortened by program. -/
import Derived.Test.YtmkaboegdoadhaaGreatDoorP15
set_option maxRecDepth 100000
set_option maxHeartbeats 4000000
set_option linter.unusedSimpArgs false
set_option linter.unusedVariables false
namespace Go.AM
open Go Go.Proofs
def Qr(mu:SM Bool):List Hp->Nat->Option Nat
 |[],n=>some n
 |h::r,n=>if h.floating=true then(if(!mu.has (h.text.tail.headD []))=true then none else Qr mu r (n+1))else Qr mu r n
def Ana(l:List Pr)(i:Nat)(p:Pr):Bool:=match i with
 |0=>false
 |j+1=>match l[j]? with|some q=>decide ((0:Int)<=cmpP q p)|none=>false
theorem Aru{l i p q}(h:1<=i)(hq:l[i-1]? =some q):Ana l i p=decide ((0:Int)<=cmpP q p):=by
 cases i with
 |zero=>omega
 |succ j=>simp only[Nat.add_sub_cancel]at hq;simp only[Ana,hq]
theorem Aup{l i p}(h:i=0):Ana l i p=false:=by subst h;rfl
def Ya(k:Kn)(l:List Pr)(i:Nat)(p:Pr):Bool:=((!ltS p.a p.b|| !k.vars.has p.a)|| !k.vars.has p.b)||Ana l i p
def Ov(k:Kn)(l:List Pr):List Pr->Nat->Bool
 |[],_=>false
 |p::r,i=>Ya k l i p||Ov k l r (i+1)
def Kv(k:Kn)(f:Fr):SM Bool:=occM k.vars (f.text::H8 f.hyps)
def Rv(mu:SM Bool)(l:List Pr):List Pr:=Eo (fun p=> !mu.has p.a|| !mu.has p.b) l
def Mt(k:Kn)(f:Fr):Int:=match Qr (Kv k f) f.hyps 0 with
 |none=>70
 |some n=>if(!decide (Int.ofNat n=Int.ofNat (Kv k f).length))=true then 70 else if Ov k f.wide f.wide 0=true then 70 else if(!decide (f.apart=Rv (Kv k f) f.wide))=true then 70 else 0
theorem Hj.new{σ m k o}(hw:WFS σ)(h:Hj σ m k):Hj (σ.new o) m k:=⟨h.c.new (h.c.lt hw),h.v.new (h.v.lt hw),h.f.new (h.f.lt hw),h.h.new (h.h.lt hw),h.t.new (h.t.lt hw)⟩
theorem f217(m k f σ)(hk:Hj σ m k)(hb:f.hyps.length<1000000)(hb2:∀t∈f.text::H8 f.hyps,t.length<1000000)(hb3:f.wide.length<1000000)(hfl:∀h∈f.hyps,h.floating=true->∃a b,h.text=[a,b]):Cv 217 [knV m,.agg (eF f)] σ (iV (Mt k f)):=by
 refine Aj Tryz.func217 rfl rfl fun hw hu0=>?_
 refine G6 ?_
 refine XX 1 (l:=[(248,[slV eH 3 f.hyps,Af f.text],σ,slV eL 1 (f.text::H8 f.hyps),σ),(247,[.mp (m+1),slV eL 1 (f.text::H8 f.hyps)],σ,.mp (nx σ),(σ.new (Sg k.vars (f.text::H8 f.hyps))))]) ⟨f248 f.hyps f.text σ hb,f247x (m+1) k.vars (f.text::H8 f.hyps) σ hk.v (by have:=Am7 (l:=f.hyps);simp;omega) hb2,trivial⟩ ?_
 refine G9 ?_
 refine DT (Bq rfl rfl (Dw (by decide) Bv)) ?_
 refine G2 ?_
 refine⟨(by intro e he;simp at he;subst he;exact .refl),?_⟩
 refine G12 ?_;have hmu:Fi (σ.new (Sg k.vars (f.text::H8 f.hyps))) (nx σ) (Kv k f):=B8.fresh;have hk1:Hj (σ.new (Sg k.vars (f.text::H8 f.hyps))) m k:=hk.new hw;refine G ?_;refine Ci (fun q:Nat×AV=>[(0,knV m),(3,.pv (eF f)),(5,.mp (nx σ)),(6,q.2),(22,slV eH 3 f.hyps),(23,iV (.ofNat f.hyps.length)),(24,iV (.ofNat q.1))]) (fun q σ0=>q.1<=f.hyps.length/\σ0=(σ.new (Sg k.vars (f.text::H8 f.hyps)))/\∃n,q.2=iV (.ofNat n)/\n<=q.1/\Qr (Kv k f) f.hyps 0=Qr (Kv k f) (f.hyps.drop q.1) n) (fun q=>f.hyps.length-q.1) (0,iV (.ofNat 0)) SL ⟨aq_ _,rfl,0,rfl,nl,rfl⟩ ?_
 rintro⟨i0,v0⟩ σ0 hP0;obtain⟨hi0,rfl,n,hvn,hni,hf0⟩:i0<=f.hyps.length/\σ0=(σ.new (Sg k.vars (f.text::H8 f.hyps)))/\∃n,v0=iV (.ofNat n)/\n<=i0/\Qr (Kv k f) f.hyps 0=Qr (Kv k f) (f.hyps.drop i0) n:=hP0;refine G5 ?_;refine Ab rfl ?_ ?_<;>intro h1
 ·have bc:i0<f.hyps.length:=gr;obtain⟨a0,ha0⟩:=Ar bc;have hd0:=A4 ha0;subst hvn
  iterate 14 refine G ?_
  refine Ab rfl ?_ ?_<;>intro h2
  ·have h2':a0.floating=true:=h2;obtain⟨ta,tb,htx⟩:=hfl a0 (ab_ ha0) h2';refine G6 ?_
   refine O1 (A1 elC (fun _=>rfl) rfl rfl (by grind:a0.text[1]? =some tb) (i:=1)) ?_
   refine G ?_;refine O1 (De st9 Cr rfl hmu rfl) ?_;refine G2 ?_;refine Ab rfl ?_ ?_<;>intro h3
   ·refine G4 ?_
    have hS:Mt k f=70:=by rw[Mt,hf0,hd0,Qr,if_pos h2',if_pos gr]
    refine G ?_;exact⟨_,rfl,_,σ,am_ hw (Below.rfl'.new nl _),nl,.same rfl,congrArg iV hS.symm,rfl⟩
   ·refine G3 ?_;refine O1 (D3 (p:=n) (q:=1) okC rfl rfl Om) ?_;refine G6 ?_
    refine⟨(i0+1,iV (.ofNat (n+1))),gr,SL,bc,rfl,n+1,rfl,by omega,by rw[hf0,hd0,Qr,if_pos h2',if_neg gr]⟩
  ·have h2':a0.floating=false:=h2;refine G5 ?_
   refine⟨(i0+1,iV (.ofNat n)),gr,SL,bc,rfl,n,rfl,by omega,by rw[hf0,hd0,Qr,if_neg gr]⟩
 ·have bj:f.hyps.length<=i0:=gr;subst hvn
  have hs:Qr (Kv k f) f.hyps 0=some n:=by rw[hf0,ah_ bj];rfl
  refine G6 ?_;refine O1 (Aul Cr rfl hmu) ?_;refine G2 ?_;refine Ab rfl ?_ ?_<;>intro h2
  ·refine G4 ?_
   have hS:Mt k f=70:=by rw[Mt,hs];grind
   refine G ?_;exact⟨_,rfl,_,σ,am_ hw (Below.rfl'.new nl _),nl,.same rfl,congrArg iV hS.symm,rfl⟩
  ·refine G10 ?_;refine Bz f.wide.length (fun i2=>[(0,knV m),(3,.pv (eF f)),(5,.mp (nx σ)),(45,slV eP 2 f.wide),(46,iV (.ofNat f.wide.length)),(47,iV (.ofNat i2))]) (fun i2 σ2=>σ2=(σ.new (Sg k.vars (f.text::H8 f.hyps)))/\Ov k f.wide f.wide 0=Ov k f.wide (f.wide.drop i2) i2) SL ⟨rfl,rfl⟩ ?_
   rintro i2 σ2 hi2 ⟨rfl,hf2⟩;refine G5 ?_;refine Ab rfl ?_ ?_<;>intro h3
   ·have bv:i2<f.wide.length:=gr;obtain⟨a2,ha2⟩:=Ar bv;have hd2:=A4 ha2;refine G8 ?_;refine Rn ziC ldC rfl rfl (fun _=>rfl) rfl (fun _=>rfl) rfl rfl rfl rfl rfl ?_
    refine G ?_;refine Gg [(91,.bool (Ya k f.wide i2 a2))] ?_ ?_
    ·rcases av_ (!ltS a2.a a2.b)with hg5|hg5
     ·refine XS (l:=[]) trivial ?_;refine G4 ?_;refine DF (Abo okC rfl rfl) ?_;refine G ?_;refine Wx (w:=R1 hg5) (Wx (w:=R1 hg5) (Wx (w:=R1 hg5) (Wx (w:=R1 hg5) (Wx (w:=R1 hg5) (Wx (w:=R1 hg5) (Wx (w:=R1 hg5) (Wx (w:=R1 hg5) ?_)))))));refine DF (A3 rfl (R1 hg5) rfl) (DF (Ag rfl) (Wx (w:=R1 hg5) (Wx (w:=R1 hg5) (Wx (w:=R1 hg5) (Wx (w:=R1 hg5) (Wx (w:=R1 hg5) (Wx (w:=R1 hg5) ?_)))))));refine Wx (w:=R1 hg5) (Wx (w:=R1 hg5) (DF (A3 rfl (R1 hg5) rfl) (DF (Ag rfl) (Wx (w:=R1 hg5) (Wx (w:=R1 hg5) (Wx (w:=R1 hg5) (Du ?_)))))));refine Du (Du (Du (Du (Du (Du (Zy (e:=true) rfl rfl rfl rfl rfl rfl (Du ?_)))))));refine Wx (w:=R1 hg5) (DF (A3 rfl (R1 hg5) rfl) (C1 ?_))
      exact⟨⟨congrArg (fun b=>some (AV.bool b)) (by unfold Ya;rw[hg5];rfl),trivial⟩,sb,rfl⟩
     ·rcases av_ (!k.vars.has a2.a)with bd|bd
      ·refine XS (l:=[]) trivial ?_;refine DF (Ae fdC rfl rfl) (DF (Ac ldC rfl rfl rfl) (DF (Ae fdC rfl rfl) (DF (Ac ldC rfl rfl rfl) (DF (Abo okC rfl rfl) (DF (Ag rfl) (Wn (w:=R2 bd hg5) (Ag rfl) (Wn (w:=R2 bd hg5) (Eq rfl) ?_)))))));refine Wn (w:=R2 bd hg5) (Ae fdC rfl rfl) (Wn (w:=R2 bd hg5) (Ac ldC rfl rfl rfl) (Wn (w:=R2 bd hg5) (Ae fdC rfl rfl) (Wn (w:=R2 bd hg5) (Ac ldC rfl rfl rfl) (Wn (w:=R2 bd hg5) (De st9 Cr rfl hk1.v rfl) (Wn (w:=R2 bd hg5) (Dc rfl) (DF (Au rfl (R2 bd hg5) rfl) (DF (Ag rfl) ?_)))))));refine Wx (w:=R2 bd hg5) (Wx (w:=R2 bd hg5) (Wx (w:=R2 bd hg5) (Wx (w:=R2 bd hg5) (Wx (w:=R2 bd hg5) (Wx (w:=R2 bd hg5) (Wx (w:=R2 bd hg5) (Wx (w:=R2 bd hg5) ?_)))))));refine DF (A3 rfl (R2 bd hg5) rfl) (DF (Ag rfl) (Wx (w:=R2 bd hg5) (Wx (w:=R2 bd hg5) (Wx (w:=R2 bd hg5) (Du (Du (Du ?_)))))));refine Du (Du (Du (Du (Zy (e:=true) rfl rfl rfl rfl rfl rfl (Du (Wx (w:=R2 bd hg5) (DF (A3 rfl (R2 bd hg5) rfl) ?_)))))));refine C1 ?_
       exact⟨⟨congrArg (fun b=>some (AV.bool b)) (by unfold Ya;grind),trivial⟩,sb,rfl⟩
      ·rcases av_ (!k.vars.has a2.b)with bg|bg
       ·refine XS (l:=[]) trivial ?_;refine DF (Ae fdC rfl rfl) (DF (Ac ldC rfl rfl rfl) (DF (Ae fdC rfl rfl) (DF (Ac ldC rfl rfl rfl) (DF (Abo okC rfl rfl) (DF (Ag rfl) (Wn (w:=R3 bg bd hg5) (Ag rfl) (Wn (w:=R3 bg bd hg5) (Eq rfl) ?_)))))));refine Wn (w:=R3 bg bd hg5) (Ae fdC rfl rfl) (Wn (w:=R3 bg bd hg5) (Ac ldC rfl rfl rfl) (Wn (w:=R3 bg bd hg5) (Ae fdC rfl rfl) (Wn (w:=R3 bg bd hg5) (Ac ldC rfl rfl rfl) (Wn (w:=R3 bg bd hg5) (De st9 Cr rfl hk1.v rfl) (Wn (w:=R3 bg bd hg5) (Dc rfl) (DF (Au rfl (R3 bg bd hg5) rfl) (DF (Ag rfl) ?_)))))));refine Wn (w:=R3 bg bd hg5) (Ag rfl) (Wn (w:=R3 bg bd hg5) (Eq rfl) (Wn (w:=R3 bg bd hg5) (Ae fdC rfl rfl) (Wn (w:=R3 bg bd hg5) (Ac ldC rfl rfl rfl) (Wn (w:=R3 bg bd hg5) (Ae fdC rfl rfl) (Wn (w:=R3 bg bd hg5) (Ac ldC rfl rfl rfl) (Wn (w:=R3 bg bd hg5) (De st9 Cr rfl hk1.v rfl) (Wn (w:=R3 bg bd hg5) (Dc rfl) ?_)))))));refine DF (Au rfl (R3 bg bd hg5) rfl) (DF (Ag rfl) (Wx (w:=R3 bg bd hg5) (Wx (w:=R3 bg bd hg5) (Wx (w:=R3 bg bd hg5) (Du (Du (Du ?_)))))));refine Du (Du (Du (Du (Zy (e:=true) rfl rfl rfl rfl rfl rfl (Du (Wx (w:=R3 bg bd hg5) (DF (A3 rfl (R3 bg bd hg5) rfl) ?_)))))));refine C1 ?_
        exact⟨⟨congrArg (fun b=>some (AV.bool b)) (by unfold Ya;grind),trivial⟩,sb,rfl⟩
       ·rcases av_ (decide ((0:Int)<Int.ofNat i2))with bm|bm
        ·have h1i:0<i2:=gr
         obtain⟨pq,hpq⟩:=Ar (show i2-1<f.wide.length by omega)
         refine XS (l:=[(249,[.agg (eP pq),.agg (eP a2)],(σ.new (Sg k.vars (f.text::H8 f.hyps))),iV (cmpP pq a2),(σ.new (Sg k.vars (f.text::H8 f.hyps))))]) ⟨f249 pq a2 _,trivial⟩ ?_;refine DF (Ae fdC rfl rfl) (DF (Ac ldC rfl rfl rfl) (DF (Ae fdC rfl rfl) (DF (Ac ldC rfl rfl rfl) (DF (Abo okC rfl rfl) (DF (Ag rfl) (Wn (w:=R4 bm bg bd hg5) (Ag rfl) (Wn (w:=R4 bm bg bd hg5) (Eq rfl) ?_)))))));refine Wn (w:=R4 bm bg bd hg5) (Ae fdC rfl rfl) (Wn (w:=R4 bm bg bd hg5) (Ac ldC rfl rfl rfl) (Wn (w:=R4 bm bg bd hg5) (Ae fdC rfl rfl) (Wn (w:=R4 bm bg bd hg5) (Ac ldC rfl rfl rfl) (Wn (w:=R4 bm bg bd hg5) (De st9 Cr rfl hk1.v rfl) (Wn (w:=R4 bm bg bd hg5) (Dc rfl) (DF (Au rfl (R4 bm bg bd hg5) rfl) (DF (Ag rfl) ?_)))))));refine Wn (w:=R4 bm bg bd hg5) (Ag rfl) (Wn (w:=R4 bm bg bd hg5) (Eq rfl) (Wn (w:=R4 bm bg bd hg5) (Ae fdC rfl rfl) (Wn (w:=R4 bm bg bd hg5) (Ac ldC rfl rfl rfl) (Wn (w:=R4 bm bg bd hg5) (Ae fdC rfl rfl) (Wn (w:=R4 bm bg bd hg5) (Ac ldC rfl rfl rfl) (Wn (w:=R4 bm bg bd hg5) (De st9 Cr rfl hk1.v rfl) (Wn (w:=R4 bm bg bd hg5) (Dc rfl) ?_)))))));refine DF (Au rfl (R4 bm bg bd hg5) rfl) (DF (Ag rfl) (Wn (w:=R4 bm bg bd hg5) (Ag rfl) (Wn (w:=R4 bm bg bd hg5) (Wv (q:=0) okC rfl rfl) (Wn (w:=R4 bm bg bd hg5) (Ag rfl) (Wn (w:=R4 bm bg bd hg5) (Ae fdC rfl rfl) (Wn (w:=R4 bm bg bd hg5) (Ac ldC rfl rfl rfl) (Wn (w:=R4 bm bg bd hg5) (Ag rfl) ?_)))))));refine Wn (w:=R4 bm bg bd hg5) (W2 (p:=i2) (q:=1) okC rfl rfl Om Om) ?_;refine Wn (w:=R4 bm bg bd hg5) (A1 elC (fun _=>rfl) rfl rfl hpq) ?_
         refine Wn (w:=R4 bm bg bd hg5) (Ac ldC rfl rfl rfl) (Wn (w:=R4 bm bg bd hg5) (Ac ldC rfl rfl rfl) (Qi (e:=true) rfl rfl rfl rfl (R4 bm bg bd hg5) rfl rfl (Bq rfl rfl Bv) (Wn (w:=R4 bm bg bd hg5) (Agq (q:=0) okC rfl rfl) (Wn (w:=R4 bm bg bd hg5) (A3 rfl (R4 bm bg bd hg5) rfl) (DF (Au rfl (R4 bm bg bd hg5) rfl) (C1 ?_))))))
         exact⟨⟨congrArg (fun b=>some (AV.bool b)) (by unfold Ya;rw[hg5,bd,bg,Aru h1i hpq];rfl),trivial⟩,sb,rfl⟩
        ·refine XS (l:=[]) trivial ?_;refine DF (Ae fdC rfl rfl) (DF (Ac ldC rfl rfl rfl) (DF (Ae fdC rfl rfl) (DF (Ac ldC rfl rfl rfl) (DF (Abo okC rfl rfl) (DF (Ag rfl) (Wn (w:=R4 bm bg bd hg5) (Ag rfl) (Wn (w:=R4 bm bg bd hg5) (Eq rfl) ?_)))))));refine Wn (w:=R4 bm bg bd hg5) (Ae fdC rfl rfl) (Wn (w:=R4 bm bg bd hg5) (Ac ldC rfl rfl rfl) (Wn (w:=R4 bm bg bd hg5) (Ae fdC rfl rfl) (Wn (w:=R4 bm bg bd hg5) (Ac ldC rfl rfl rfl) (Wn (w:=R4 bm bg bd hg5) (De st9 Cr rfl hk1.v rfl) (Wn (w:=R4 bm bg bd hg5) (Dc rfl) (DF (Au rfl (R4 bm bg bd hg5) rfl) (DF (Ag rfl) ?_)))))));refine Wn (w:=R4 bm bg bd hg5) (Ag rfl) (Wn (w:=R4 bm bg bd hg5) (Eq rfl) (Wn (w:=R4 bm bg bd hg5) (Ae fdC rfl rfl) (Wn (w:=R4 bm bg bd hg5) (Ac ldC rfl rfl rfl) (Wn (w:=R4 bm bg bd hg5) (Ae fdC rfl rfl) (Wn (w:=R4 bm bg bd hg5) (Ac ldC rfl rfl rfl) (Wn (w:=R4 bm bg bd hg5) (De st9 Cr rfl hk1.v rfl) (Wn (w:=R4 bm bg bd hg5) (Dc rfl) ?_)))))));refine DF (Au rfl (R4 bm bg bd hg5) rfl) (DF (Ag rfl) (Wn (w:=R4 bm bg bd hg5) (Ag rfl) (Wn (w:=R4 bm bg bd hg5) (Wv (q:=0) okC rfl rfl) (Wn (w:=R4 bm bg bd hg5) (Ag rfl) (Wx (w:=R4 bm bg bd hg5) (Wx (w:=R4 bm bg bd hg5) (Wx (w:=R4 bm bg bd hg5) ?_)))))));refine Wx (w:=R4 bm bg bd hg5) (Wx (w:=R4 bm bg bd hg5) (Wx (w:=R4 bm bg bd hg5) (Wx (w:=R4 bm bg bd hg5) (Ta (e:=true) rfl rfl rfl rfl (R4 bm bg bd hg5) rfl rfl (Wx (w:=R4 bm bg bd hg5) (Wn (w:=R4 bm bg bd hg5) (Au rfl (R4 bm bg bd hg5) rfl) (DF (Au rfl (R4 bm bg bd hg5) rfl) ?_)))))));refine C1 ?_
         exact⟨⟨congrArg (fun b=>some (AV.bool b)) (by unfold Ya;rw[hg5,bd,bg,Aup gr];rfl),trivial⟩,sb,rfl⟩
    refine Ab rfl ?_ ?_<;>intro h4
    ·refine G4 ?_
     have hS:Mt k f=70:=by rw[Mt,hs];exact(if_neg (fun hh=>Bool.noConfusion (h2.symm.trans hh))).trans (if_pos (by rw[hf2,hd2,Ov,h4];rfl))
     refine G ?_;exact⟨_,rfl,_,σ,am_ hw (Below.rfl'.new nl _),nl,.same rfl,congrArg iV hS.symm,rfl⟩
    ·have hx4:Ya k f.wide i2 a2=false:=h4;refine G5 ?_
     refine⟨bv,SL,rfl,by rw[hf2,hd2,Ov,hx4];rfl⟩
   ·have ba:f.wide.length<=i2:=gr
    have hwb:Ov k f.wide f.wide 0=false:=by rw[hf2,ah_ ba];rfl
    refine G3 ?_
    refine XX 1 (l:=[(251,[.mp (nx σ),slV eP 2 f.wide],(σ.new (Sg k.vars (f.text::H8 f.hyps))),slV eP 2 (Rv (Kv k f) f.wide),(σ.new (Sg k.vars (f.text::H8 f.hyps)))),(250,[slV eP 2 f.apart,slV eP 2 (Rv (Kv k f) f.wide)],(σ.new (Sg k.vars (f.text::H8 f.hyps))),.bool (decide (f.apart=Rv (Kv k f) f.wide)),(σ.new (Sg k.vars (f.text::H8 f.hyps))))]) ⟨f251 (nx σ) (Kv k f) f.wide (σ.new (Sg k.vars (f.text::H8 f.hyps))) hmu hb3,f250 f.apart (Rv (Kv k f) f.wide) (σ.new (Sg k.vars (f.text::H8 f.hyps))) (by have:=H0 (p:=fun p:Pr=> !(Kv k f).has p.a|| !(Kv k f).has p.b) (l:=f.wide);unfold Rv;omega),trivial⟩ ?_
    refine G9 ?_
    refine⟨(by intro e he;simp at he;subst he;exact .refl),?_⟩
    refine Ab rfl ?_ ?_<;>intro h4
    ·refine G4 ?_
     have hS:Mt k f=70:=by rw[Mt,hs];grind
     refine G ?_;exact⟨_,rfl,_,σ,am_ hw (Below.rfl'.new nl _),nl,.same rfl,congrArg iV hS.symm,rfl⟩
    ·refine G5 ?_
     have hS:Mt k f=0:=by rw[Mt,hs];grind
     refine G ?_;exact⟨_,rfl,_,σ,am_ hw (Below.rfl'.new nl _),nl,.same rfl,congrArg iV hS.symm,rfl⟩
theorem Ai2(k:Nat)(σ):Cv 290 [.fn (.func k) [] []] σ (.fn (.func 291) [] [.pv [.fn (.func k) [] []]]):=by
 refine Aj Tryz.func290 rfl rfl fun hw hu0=>?_
 refine G11 ?_;refine B4 hw rfl ?_;exact rfl
theorem f291(k s b σ)(hk:Cv k [sV s] σ (.bool b)):Cv 291 [sV s,.pv [.fn (.func k) [] []]] σ (.bool (!b)):=by
 refine Aj Tryz.func291 rfl rfl fun hw hu0=>?_
 refine G8 ?_;refine Ca hk ?_;refine G4 ?_;refine B4 hw rfl ?_;exact rfl
structure Stm where
 kind:Int
 label:Str
 text:List Str
 proof:List Str
def eSt(s:Stm):List AV:=[iV s.kind,sV s.label,Af s.text,Af s.proof]
theorem f289(p l k cap σ)(hb:l.length<1000000)(hk:∀a∈l,Al Ew k ([.agg (eSt a)]++cap) σ fun v σ'=>v=.bool (p a)/\σ'=σ):Cv 289 [slV eSt 4 l,.fn (.func k) [] cap] σ (iV (A5 p l 0)):=by
 refine Aj Tryz.func289 rfl rfl fun hw hu0=>?_
 refine G12 ?_;refine Bz l.length (fun i0=>[(0,slV eSt 4 l),(1,.fn (.func k) [] cap),(7,iV (.ofNat l.length)),(8,iV (.ofNat i0))]) (fun i0 σ0=>σ0=σ/\A5 p l 0=A5 p (l.drop i0) i0) SL ⟨rfl,rfl⟩ ?_
 rintro i0 σ0 hi0 ⟨rfl,hf0⟩;refine G5 ?_;refine Ab rfl ?_ ?_<;>intro h1
 ·have bc:i0<l.length:=by simpa using h1
  obtain⟨a0,ha0⟩:=Ar bc;have hd0:=A4 ha0
  iterate 15 refine G ?_
  refine Ca (hk a0 (ab_ ha0)) ?_;refine G ?_;refine Ab rfl ?_ ?_<;>intro h2
  ·refine G6 ?_;refine B4 hw rfl ?_
   exact(by rw[hf0,hd0];simp only[A5,h2,cond_true];rfl)
  ·refine G5 ?_
   refine⟨bc,SL,rfl,by rw[hf0,hd0];simp only[A5,h2,cond_false]⟩
 ·have bj:l.length<=i0:=by simpa using h1
  refine G6 ?_;refine B4 hw rfl ?_
  exact(by rw[hf0,ah_ bj];rfl)
theorem f275(p l k cap σ)(hb:l.length<1000000)(hk:∀a∈l,Al Ew k ([.agg (eSt a)]++cap) σ fun v σ'=>v=.bool (p a)/\σ'=σ):Cv 275 [slV eSt 4 l,.fn (.func k) [] cap] σ (.bool (l.any p)):=by
 refine Aj Tryz.func275 rfl rfl fun hw hu0=>?_
 refine G8 ?_;refine Ca (f289 p l k cap σ hb hk) ?_;refine G4 ?_;refine B4 hw rfl ?_;exact congrArg AV.bool (Gf l)
theorem labX:Mq [2] [120]=true:=Kr
theorem symX:Mq [2,3] [120]=true:=Kr
theorem Nq{f f' a a' s s' t v r}{o:Option (AV×Sto)}(h:a'≠a)(k:Dk r (.fn f') a' t=o):Dk ((f,a,s,v,s')::r) (.fn f') a' t=o:=by
 simp only[Dk];grind
def stX(s:Str):List AV:=[iV 7,sV [120],Af [[120]],Af [s]]
theorem f277(s b σ)(hp:Cv 292 [sV s] σ (.bool b)):Cv 277 [.agg (stX s)] σ (.bool b):=by
 refine Aj Tryz.func277 rfl rfl fun hw hu0=>?_
 refine G12 ?_;refine TOr 3 ?_ (fun hg=>?_) ?_
 rotate_left
 ·iterate 3 refine Gn hg ?_
  exact Ez
 refine G ?_;refine Ab rfl ?_ ?_<;>intro h1
 ·grind
 ·refine G5 ?_
  refine O1 (Bp Av8 rfl rfl (by decide) (n:=7) rfl) ?_
  refine G9 ?_;refine Hq 4 _ ?_ rfl rfl rfl rfl rfl (Eh rfl) (fun hg=>?_) (fun hg=>?_) ?_
  rotate_left
  ·iterate 2 refine Gn hg ?_
   refine Bh rfl rfl rfl (by rw[hg];rfl) rfl rfl rfl rfl (f213 [120] _) ?_
   refine Gn hg ?_;refine G ?_;refine⟨rfl,?_,?_⟩
   ·exact sb
   ·exact rfl
  ·grind
  refine G ?_;refine TOr 8 ?_ (fun hg=>?_) ?_
  rotate_left
  ·iterate 4 refine Gn hg ?_
   refine Hq 3 _ ?_ rfl rfl rfl rfl rfl (Ft rfl rfl rfl rfl (by rw[hg];rfl)) (fun hg=>?_) (fun hg=>?_) ?_
   rotate_left
   ·iterate 2 refine Gn hg ?_
    refine On hg (Ko (q:=[]) okC rfl rfl) ?_;refine G ?_;refine⟨rfl,?_,?_⟩
    ·exact sb
    ·exact rfl
   ·iterate 3 refine Gn hg ?_
    refine G ?_;exact⟨rfl,sb⟩
   exact Ez
  refine G ?_;refine TOr 6 ?_ (fun hg=>?_) ?_
  rotate_left
  ·iterate 6 refine Gn hg ?_
   exact Ez
  refine G ?_;refine TOr 6 ?_ (fun hg=>?_) ?_
  rotate_left
  ·iterate 6 refine Gn hg ?_
   exact Ez
  refine G ?_;refine Ab rfl ?_ ?_<;>intro h2
  ·exact absurd h2 (by rw[labX];decide)
  ·refine G5 ?_;refine Aoy [(2,.bool b)] σ ?_ ?_
   ·rcases av_ (true)with hg6|hg6
    ·rcases av_ (b)with bi|bi
     ·rcases av_ (true)with cf|cf
      ·refine XI (l:=[(290,[.fn (.func 211) [] []],σ,.fn (.func 291) [] [.pv [.fn (.func 211) [] []]],σ),(46,[Af [[120]],.fn (.func 291) [] [.pv [.fn (.func 211) [] []]]],σ,.bool false,σ),(290,[.fn (.func 292) [] []],σ,.fn (.func 291) [] [.pv [.fn (.func 292) [] []]],σ),(46,[Af [s],.fn (.func 291) [] [.pv [.fn (.func 292) [] []]]],σ,.bool (!b),σ)]) ⟨Ai2 211 σ,(by have:=f46 (fun w=> !Mq [2,3] w) [[120]] 291 [.pv [.fn (.func 211) [] []]] σ (by simp) (fun a _=>f291 211 a _ σ (f211 a σ));simpa[symX]using this),Ai2 292 σ,(by have:=f46 (fun _=> !b) [s] 291 [.pv [.fn (.func 292) [] []]] σ (by simp) (fun a ha=>by simp at ha;subst ha;exact f291 292 a b σ hp);grind),trivial⟩ ?_
       refine G4 ?_
       refine DT (Bq rfl rfl (Dw (by decide) Bv)) ?_
       refine G5 ?_
       refine Qi (e:=true) rfl rfl rfl rfl (R3 cf bi hg6) rfl rfl (Bq rfl rfl (Nq gr (Dw (by decide) Bv))) ?_
       refine Qi (e:=true) rfl rfl rfl rfl (R3 cf bi hg6) rfl rfl (Bq rfl rfl (Dw (by decide) (Nq gr (Dw (by decide) Bv)))) ?_
       iterate 15 refine G ?_
       exact⟨rfl,by simp,⟨⟨congrArg (fun b=>some (AV.bool b)) gr,trivial⟩,rfl⟩⟩
      ·refine XI (l:=[(290,[.fn (.func 211) [] []],σ,.fn (.func 291) [] [.pv [.fn (.func 211) [] []]],σ),(46,[Af [[120]],.fn (.func 291) [] [.pv [.fn (.func 211) [] []]]],σ,.bool false,σ),(290,[.fn (.func 292) [] []],σ,.fn (.func 291) [] [.pv [.fn (.func 292) [] []]],σ),(46,[Af [s],.fn (.func 291) [] [.pv [.fn (.func 292) [] []]]],σ,.bool (!b),σ)]) ⟨Ai2 211 σ,gr,Ai2 292 σ,gr,trivial⟩ ?_;refine G4 ?_
       refine DT (Bq rfl rfl (Dw (by decide) Bv)) ?_
       refine DF (Dc rfl) (DF (Ag rfl) (Wn (w:=R3 cf bi hg6) (Ae fdC rfl rfl) (Wn (w:=R3 cf bi hg6) (Ac ldC rfl rfl rfl) (Wn (w:=R3 cf bi hg6) (Ag rfl) (Qi (e:=true) rfl rfl rfl rfl (R3 cf bi hg6) rfl rfl (Bq rfl rfl (Nq gr (Dw (by decide) Bv))) ?_)))))
       refine Qi (e:=true) rfl rfl rfl rfl (R3 cf bi hg6) rfl rfl (Bq rfl rfl (Dw (by decide) (Nq gr (Dw (by decide) Bv)))) ?_
       refine Wn (w:=R3 cf bi hg6) (Dc rfl) ?_;refine G2 ?_;refine Wn (w:=R3 cf bi hg6) (Ae fdC rfl rfl) (Wn (w:=R3 cf bi hg6) (Ac ldC rfl rfl rfl) (Wn (w:=R3 cf bi hg6) (H4 (q:=7) okC rfl rfl) (Wn (w:=R3 cf bi hg6) (Ag rfl) (Wn (w:=R3 cf bi hg6) (Ae fdC rfl rfl) (Wn (w:=R3 cf bi hg6) (Ac ldC rfl rfl rfl) (Wn (w:=R3 cf bi hg6) (Jl slC rfl) (Wn (w:=R3 cf bi hg6) (H4 (q:=0) okC rfl rfl) ?_)))))));refine Wn (w:=R3 cf bi hg6) (Au rfl (R3 cf bi hg6) rfl) ?_;refine G3 ?_
       grind
     ·refine XI (l:=[(290,[.fn (.func 211) [] []],σ,.fn (.func 291) [] [.pv [.fn (.func 211) [] []]],σ),(46,[Af [[120]],.fn (.func 291) [] [.pv [.fn (.func 211) [] []]]],σ,.bool false,σ),(290,[.fn (.func 292) [] []],σ,.fn (.func 291) [] [.pv [.fn (.func 292) [] []]],σ),(46,[Af [s],.fn (.func 291) [] [.pv [.fn (.func 292) [] []]]],σ,.bool (!b),σ)]) ⟨Ai2 211 σ,(by have:=f46 (fun w=> !Mq [2,3] w) [[120]] 291 [.pv [.fn (.func 211) [] []]] σ (by simp) (fun a _=>f291 211 a _ σ (f211 a σ));simpa[symX]using this),Ai2 292 σ,(by have:=f46 (fun _=> !b) [s] 291 [.pv [.fn (.func 292) [] []]] σ (by simp) (fun a ha=>by simp at ha;subst ha;exact f291 292 a b σ hp);grind),trivial⟩ ?_
      refine G4 ?_
      refine DT (Bq rfl rfl (Dw (by decide) Bv)) ?_
      refine G5 ?_
      refine Qi (e:=true) rfl rfl rfl rfl (R2 bi hg6) rfl rfl (Bq rfl rfl (Nq gr (Dw (by decide) Bv))) ?_
      refine Qi (e:=true) rfl rfl rfl rfl (R2 bi hg6) rfl rfl (Bq rfl rfl (Dw (by decide) (Nq gr (Dw (by decide) Bv)))) ?_
      refine Wn (w:=R2 bi hg6) (Dc rfl) (DF (A3 rfl (R2 bi hg6) rfl) (DF (Ag rfl) (Wx (w:=R2 bi hg6) (Wx (w:=R2 bi hg6) (Wx (w:=R2 bi hg6) (Wx (w:=R2 bi hg6) (Du ?_)))))));refine Du (Du (Du (Wx (w:=R2 bi hg6) (DF (Au rfl (R2 bi hg6) rfl) (DF (Gd rfl) (C1 ?_))))))
      exact⟨rfl,by simp,⟨⟨congrArg (fun b=>some (AV.bool b)) gr,trivial⟩,rfl⟩⟩
    ·refine XI (l:=[(290,[.fn (.func 211) [] []],σ,.fn (.func 291) [] [.pv [.fn (.func 211) [] []]],σ),(46,[Af [[120]],.fn (.func 291) [] [.pv [.fn (.func 211) [] []]]],σ,.bool false,σ),(290,[.fn (.func 292) [] []],σ,.fn (.func 291) [] [.pv [.fn (.func 292) [] []]],σ),(46,[Af [s],.fn (.func 291) [] [.pv [.fn (.func 292) [] []]]],σ,.bool (!b),σ)]) ⟨Ai2 211 σ,gr,Ai2 292 σ,gr,trivial⟩ ?_;refine G4 ?_
     refine DT (Bq rfl rfl (Dw (by decide) Bv)) ?_
     refine G5 ?_;refine Ta (e:=true) rfl rfl rfl rfl (R1 hg6) rfl rfl (Ta (e:=true) rfl rfl rfl rfl (R1 hg6) rfl rfl (Wx (w:=R1 hg6) (DF (Au rfl (R1 hg6) rfl) (DF (Ag rfl) (Wx (w:=R1 hg6) (Wx (w:=R1 hg6) (Wx (w:=R1 hg6) ?_)))))));refine Wx (w:=R1 hg6) ?_;refine G4 ?_;refine Wx (w:=R1 hg6) (DF (Au rfl (R1 hg6) rfl) (DF (Gd rfl) (C1 ?_)))
     grind
   refine G ?_;refine B4 hw rfl ?_;exact rfl
theorem f276(s b σ)(hp:Cv 292 [sV s] σ (.bool b)):Cv 276 [.agg (stX s)] σ (.bool (!b)):=by
 refine Aj Tryz.func276 rfl rfl fun hw hu0=>?_
 refine G8 ?_;refine Ca (f277 s b σ hp) ?_;refine G4 ?_;refine B4 hw rfl ?_;exact rfl
theorem Apd{N}:∀m:SM Str,Jc N (Cn sV m)=true:=fun m=>Aey (fun _=>rfl) m
theorem f222(a b va M N σ)(ha:σ.get a=some (.map 9 (Cn sV M) va))(hb:B8 sV σ b N)(hab:a≠b)(sM:SM.Srt M)(sN:SM.Srt N):
  Al Ew 222 [.mp a,.mp b] σ fun v σ'=>v=An/\σ'=σ.set a (.map 9 (Cn sV (SM.over N M)) (va+N.length)):=by
 refine Aj Tryz.func222 rfl rfl fun hw hu0=>?_
 refine T_itv fun hi=>?_
 obtain⟨vb,hb⟩:=hb;have hla:a<nx σ:=(hw _ _ ha).1;have hlb:b<nx σ:=(hw _ _ hb).1;refine G3 ?_;refine O1 (Air Ae6 rfl hb) ?_;refine G2 ?_;refine Ci (fun q:SM Str×SM Str=>[(0,.mp a),(7,.it (nx σ))])
  (fun q σ0=>(∃cur,σ0.get (nx σ)=some (.iter (some b) vb (Cn sV q.1) cur))/\σ0.get a=some (.map 9 (Cn sV q.2) (va+(N.length-q.1.length)))/\q.1.length<=N.length/\nx σ<=nx σ0/\(∀c,c<nx σ->c≠a->σ0.get c=σ.get c)/\SM.Srt q.2/\SM.Key1 q.1/\(q.1=N->q.2=M)/\∀s,(q.1.get s).or (q.2.get s)=(N.get s).or (M.get s))
  (fun q=>q.1.length) (N,M) SL
  ⟨⟨none,by rw[ag_,if_pos rfl]⟩,by rw[ag_,if_neg Om,ha,Nat.sub_self];rfl,nl,by rw[Ao];omega,fun c hc _=>by rw[ag_,if_neg Om],sM,sN.key1,fun _=>rfl,fun _=>rfl⟩ ?_
 rintro⟨left,M1⟩ σ0 ⟨⟨cur,hit⟩,hM,hln,hn,hk,hs,hk1,hid,hg⟩;simp only at hit hM hln hs hk1 hid hg;refine G ?_
 refine Ard rfl rfl rfl hit (by show(match σ0.get b with|some (.map _ _ v)=>Nat.beq v vb|_=>false)=true;rw[hk b hlb (gx_ hab),hb];exact aw_ _) (fun h0=>?_) (fun p hp=>?_)
 ·have h0':left=[]:=by cases left with
   |nil=>rfl
   |cons x l=>cases h0
  subst h0';refine G3 ?_
  refine Ab rfl (fun h1=>by cases h1) (fun h1=>?_)
  refine G ?_
  have hO:M1=SM.over N M:=hs.ext (SM.Srt.over sM) fun s=>by rw[SM.get_over sN.key1,←hg s];simp[SM.get]
  subst hO
  refine⟨_,rfl,An,σ.set a (.map 9 (Cn sV (SM.over N M)) (va+N.length)),Ds.setMap hw hi ha (Apd _) ?_ (by rw[Aq];exact hn) (fun c hc hne=>?_) ?_,by rw[Aq];exact nl,.same rfl,rfl,rfl⟩
  ·cases N with
   |nil=>exact .inr ⟨rfl,rfl⟩
   |cons x l=>exact .inl (by simp only[as_];omega)
  ·rw[aa_,if_neg Om];exact hk c hc hne
  ·rw[aa_,if_neg Om,hM];simp
 ·obtain⟨q,hq,rfl⟩:=Tc hp;obtain⟨q1,q2,q3⟩:=Abs hk1 hq;obtain⟨_,_,q4⟩:=Rp hq
  have hM':(σ0.set (nx σ) (.iter (some b) vb (Cn sV q.2) (some (kS q.1.1,sV q.1.2)))).get a=some (.map 9 (Cn sV M1) (va+(N.length-left.length))):=by rw[aa_,if_neg Om];exact hM
  refine G3 ?_
  refine Ab rfl (fun h1=>?_) (fun h1=>by cases h1)
  refine G4 ?_
  refine O1 (Ais rfl (by rw[aa_,if_pos rfl]) (by rw[aa_,if_neg Om,hk b hlb (gx_ hab)];exact hb)) ?_
  refine G9 ?_;refine O1 (Gh (v:=q.1.2) st9 Ae6 rfl hM' rfl rfl (fun te k1 k2=>I1 k1 k2)) ?_
  refine G ?_
  refine⟨(q.2,M1.put q.1.1 q.1.2),by show q.2.length<left.length;omega,SL,⟨_,by rw[aa_,if_neg Om,aa_,if_pos rfl]⟩,?_,by show q.2.length<=N.length;omega,by rw[Aq,Aq];exact hn,fun c hc hne=>?_,hs.put,q1,fun hh=>?_,fun s=>?_⟩
  ·rw[aa_,if_pos rfl]
   show some _=some (AO.map 9 _ (va+(N.length-q.2.length)))
   congr 2;omega
  ·rw[aa_,if_neg Om,aa_,if_neg Om];exact hk c hc hne
  ·have:q.2.length=N.length:=congrArg List.length hh;omega
  ·show(SM.get q.2 s).or ((M1.put q.1.1 q.1.2).get s)=_
   rw[←hg s,q3 s,ch_]
   by_cases hs:s=q.1.1
   ·subst hs;simp[q2]
   ·simp[hs]
def Kn.fr(k:Kn)(s:Str):Kn:={ k with frames:=k.frames.put s true }
def Jd(k:Kn)(nh:Nat):List Hp->Nat->SM Bool->SM Str->Int×SM Str
 |[],_,_,ty=>(0,ty)
 |h::r,i,lab,ty=>if(!decide (Vg k lab ty h (decide (Int.ofNat nh<=Int.ofNat i))=0))=true then(Vg k lab ty h (decide (Int.ofNat nh<=Int.ofNat i)),ty)
  else Jd k nh r (i+1) (lab.put h.label true) (if h.floating=true then ty.put (h.text.tail.headD []) (h.text.headD [])else ty)
def prfB(pw:Str->Bool)(f:Fr):Bool:=decide ((0:Int)<Int.ofNat f.proof.length)&&((!f.thm||decide ((8000:Int)<Int.ofNat f.proof.length))||f.proof.any (fun s=> !pw s))
def Fr.all(f:Fr):List Hp:=[f.hyps,f.dummies].flatten
def Kn.hyps'(k:Kn)(l:List Hp):Kn:={ k with hyps:=l.foldl (fun m h=>m.put h.label h) k.hyps }
def Ali(f:Fr):List Hp:=Eo (fun h=>h.floating) f.hyps
def Anb(f:Fr)(before:List Hp):List Hp:=(Ali f).drop (H1 before (Ali f))
def knF(k:Kn)(f:Fr):Kn:={ (k.fr f.label).hyps' f.all with types:=SM.over (Jd (k.fr f.label) f.hyps.length f.all 0 [] []).2 k.types }
def E9(pw:Str->Bool)(k:Kn)(f:Fr)(before:List Hp):Int:=
 if(!Mq [2] f.label)=true then 2
 else if(((k.hyps.get f.label).isSome||k.isSym f.label)||k.frames.has f.label)=true then 6
 else if(decide ((40:Int)<Int.ofNat f.hyps.length)||decide ((40:Int)<Int.ofNat f.dummies.length))=true then 4
 else if(!decide ((Jd (k.fr f.label) f.hyps.length f.all 0 [] []).1=0))=true then(Jd (k.fr f.label) f.hyps.length f.all 0 [] []).1
 else if(!decide ((k.fr f.label).textF f.text=0))=true then(k.fr f.label).textF f.text
 else if(!decide (Mt (k.fr f.label) f=0))=true then Mt (k.fr f.label) f
 else if prfB pw f=true then 2
 else if((Anb f before).any fun h=>((k.fr f.label).hyps.get h.label).isSome)=true then 7 else 0
structure FrB (f:Fr):Prop where
 h:f.hyps.length<1000000
 a:f.all.length<1000000
 t:f.text.length<1000000
 x:∀h∈f.all,h.text.length<1000000
 w:f.wide.length<1000000
 p:f.proof.length<1000000
def Anc(m:Nat)(σ σ':Sto):Prop:=nx σ<=nx σ'/\∀b,b<nx σ->(b<m∨m+5<=b)->σ'.get b=σ.get b
theorem nx1{σ n o}(h:nx σ=n):nx (σ.new o)=n+1:=gr
theorem Cd{ρ σ Rr t n kt sz agg z}(hi:mpI Ew.P t=some (kt,z,sz,agg))(hn:nx σ=n):As Ew Rr (.makeMap t none) ρ σ (.mp n) (σ.new (.map kt [] 0)):=by subst hn;exact Gx hi
theorem Hj.fr{σ σ' m k s ver}(hk:Hj σ m k)(hw:WFS σ)(hf:σ'.get (m+2)=some (.map 9 (Cn bV (k.frames.put s true)) ver))(hg:∀b,b<nx σ->b≠m+2->σ'.get b=σ.get b):Hj σ' m (k.fr s):=
 ⟨hk.c.of_get (hg _ (hk.c.lt hw) Om),hk.v.of_get (hg _ (hk.v.lt hw) Om),⟨ver,hf⟩,hk.h.of_get (hg _ (hk.h.lt hw) Om),hk.t.of_get (hg _ (hk.t.lt hw) Om)⟩
theorem Hj.hi{σ m a k O}(hk:Hj σ m k)(h:m+5<=a):Hj (σ.set a O) m k:=⟨hk.c.set Om,hk.v.set Om,hk.f.set Om,hk.h.set Om,hk.t.set Om⟩
theorem Hj.hp{σ m ver k h}(hk:Hj σ m k):Hj (σ.set (m+3) (.map 9 (Cn hV (k.hyps.put h.label h)) ver)) m { k with hyps:=k.hyps.put h.label h }:=
 ⟨hk.c.set Om,hk.v.set Om,hk.f.set Om,dz_,hk.t.set Om⟩
theorem Hj.ty{σ m ver k ty}(hk:Hj σ m k):Hj (σ.set (m+4) (.map 9 (Cn sV ty) ver)) m { k with types:=ty }:=
 ⟨hk.c.set Om,hk.v.set Om,hk.f.set Om,hk.h.set Om,dz_⟩
structure Ape (σ σ0:Sto)(m:Nat)(k:Kn)(lab:SM Bool)(ty:SM Str):Prop where
 n:nx σ0=nx σ+2
 g:∀b,b<nx σ->b≠m+2->σ0.get b=σ.get b
 k:Hj σ0 m k
 l:Fi σ0 (nx σ) lab
 t:B8 sV σ0 (nx σ+1) ty
 s:SM.Srt ty
theorem Ape.up{σ σ0 m k lab ty}(h:Ape σ σ0 m k lab ty):Anc m σ σ0:=⟨by rw[h.n];omega,fun b hb hm=>h.g b hb Om⟩
theorem Ab7{k lab ty h du}(h0:Vg k lab ty h du=0)(hf:h.floating=true):∃a b,h.text=[a,b]:=by
 have h2:h.text.length=2:=by
  unfold Vg at h0
  split at h0
  ·cases h0
  ·rename_i hb
   simp[Awa,hf]at hb
   omega
 match h.text,h2 with
 |[a,b],_=>exact⟨a,b,rfl⟩
theorem Alj(k:Kn)(l h):k.hyps' (l++[h])={ k.hyps' l with hyps:=(k.hyps' l).hyps.put h.label h }:=by
 unfold Kn.hyps';grind
theorem FrB.ess{f}(h:FrB f):∀t∈f.text::H8 f.hyps,t.length<1000000:=fun t ht=>by
 rcases an_.1 ht with rfl|ht
 ·exact h.t
 ·obtain⟨x,hx,rfl⟩:=bt_.1 ht
  exact h.x x (List.mem_flatten.2 ⟨f.hyps,by simp,(cp_.1 hx).1⟩)
theorem Arv{e:Int}(h:(!decide (e=0))=false):e=0:=gr
theorem Auq{ρ σ Rr x lo hi mx own n}(hx:Ah Ew ρ x=some (slV eH 3 own))(h1:Iz Ew ρ lo=some (some (iV (.ofNat n))))(h2:Iz Ew ρ hi=some (some (iV (.ofNat own.length))))(h3:Iz Ew ρ mx=some (some (iV (.ofNat own.length))))(hn:n<=own.length):
  As Ew Rr (.slice 47 x lo hi mx) ρ σ (.sv ((own.drop n).flatMap eH) 3 (own.drop n).length (some (own.length-n))) σ:=by
 have hb:Do own.length none (some (iV (.ofNat n))) (some (iV (.ofNat own.length))) (some (iV (.ofNat own.length)))=some (n,own.length,some (own.length-n)):=by
  have h2:Nat.ble n own.length=true:=ar_ hn;have h3:Nat.ble own.length own.length=true:=ar_ nl;simp only[Do,iV,My,h2,Li,h3,cond_true,be_]
 have:=Ag0 (Rr:=Rr) (σ:=σ) (lo:=lo) (hi:=hi) (mx:=mx) (elC (t:=47)) Qq hx h1 h2 h3 hb hn nl
 grind
theorem f176(pw)(hpw:∀s σ,Cv 218 [sV s] σ (.bool (!pw s)))(m k f before σ)(hk:Hj σ m k)(hsr:SM.Srt k.types)(hB:FrB f)(hbe:before.length<1000000):Al Ew 176 [knV m,.agg (eF f),slV eH 3 before] σ fun v σ'=>v=iV (E9 pw k f before)/\Anc m σ σ'/\(E9 pw k f before=0->Hj σ' m (knF k f)/\SM.Srt (knF k f).types):=by
 refine Aj Tryz.func176 rfl rfl fun hw hu0=>?_
 obtain⟨vf,hvf⟩:=id hk.f;have hm5:m+4<nx σ:=hk.t.lt hw;have hba:=hB.a;refine G11 ?_;refine Ca (f213 f.label _) ?_;refine G2 ?_;refine Ab rfl ?_ ?_<;>intro h1
 ·refine G4 ?_;have hE:E9 pw k f before=2:=(if_pos h1);refine Bo fun hw9=>?_
  refine G ?_
  exact⟨_,rfl,_,_,a_ hw9 nl (fun _ _=>rfl),nl,.same rfl,congrArg iV hE.symm,⟨nl,fun _ _ _=>rfl⟩,fun hh=>absurd (hE.symm.trans hh) (by decide)⟩
 ·refine G2 ?_;refine Gz 7 zH (hcs (k.hyps.get f.label)) [(8,.bool (k.hyps.get f.label).isSome)] (Ve _) rfl (fun hw=>?_) ?_
  ·refine XX 1 (l:=[]) trivial ?_;refine G6 ?_;refine DF (Vf rfl hk.h rfl) ?_;refine G3 ?_;refine DT (Bu ziC) (DT (By (vs:=zH) (vs':=hcs (k.hyps.get f.label)) ldC rfl rfl (A7 (Jx _)) Eg (Hh (Jx _))) (DF (Gd rfl) (C1 ?_)))
   exact⟨(by intro e he;simp at he;rcases he with rfl|rfl<;>first|exact .refl|exact K4 hw),⟨rfl,trivial⟩,sb,rfl,rfl⟩
  refine Gg [(48,.bool (((k.hyps.get f.label).isSome||k.isSym f.label)||k.frames.has f.label))] ?_ ?_
  ·rcases av_ ((k.hyps.get f.label).isSome)with hg1|hg1
   ·refine XS (l:=[(212,[knV m,sV f.label],σ,.bool (k.isSym f.label),σ)]) ⟨Aiz m k f.label σ hk,trivial⟩ ?_;refine DF (Ag rfl) (DF (Ag rfl) (Wx (w:=R1 hg1) (Wx (w:=R1 hg1) (Wx (w:=R1 hg1) (K5 rfl rfl rfl rfl (R1 hg1) rfl rfl (DF (A3 rfl (R1 hg1) rfl) (DF (Ag rfl) ?_)))))));refine Wx (w:=R1 hg1) (Wx (w:=R1 hg1) (Wx (w:=R1 hg1) (Wx (w:=R1 hg1) (Wx (w:=R1 hg1) (Wx (w:=R1 hg1) (Wx (w:=R1 hg1) (DF (A3 rfl (R1 hg1) rfl) ?_)))))));refine C1 ?_;exact⟨⟨congrArg (fun b=>some (AV.bool b)) (R1 hg1),trivial⟩,sb,rfl⟩
   ·rcases av_ (k.isSym f.label)with hg7|hg7
    ·refine XS (l:=[(212,[knV m,sV f.label],σ,.bool (k.isSym f.label),σ)]) ⟨Aiz m k f.label σ hk,trivial⟩ ?_;refine DF (Ag rfl) (DF (Ag rfl) (Wn (w:=R2 hg7 hg1) (Ac ldC rfl rfl rfl) (Wn (w:=R2 hg7 hg1) (Ae fdC rfl rfl) (Wn (w:=R2 hg7 hg1) (Ac ldC rfl rfl rfl) (Ol rfl rfl rfl rfl (R2 hg7 hg1) rfl rfl (Bq rfl rfl Bv) (DF (Au rfl (R2 hg7 hg1) rfl) (DF (Ag rfl) ?_)))))));refine Wx (w:=R2 hg7 hg1) (Wx (w:=R2 hg7 hg1) (Wx (w:=R2 hg7 hg1) (Wx (w:=R2 hg7 hg1) (Wx (w:=R2 hg7 hg1) (Wx (w:=R2 hg7 hg1) (Wx (w:=R2 hg7 hg1) (DF (A3 rfl (R2 hg7 hg1) rfl) ?_)))))));refine C1 ?_;exact⟨⟨congrArg (fun b=>some (AV.bool b)) (R2 hg7 hg1),trivial⟩,sb,rfl⟩
    ·refine XS (l:=[(212,[knV m,sV f.label],σ,.bool (k.isSym f.label),σ)]) ⟨Aiz m k f.label σ hk,trivial⟩ ?_;refine DF (Ag rfl) (DF (Ag rfl) (Wn (w:=R2 hg7 hg1) (Ac ldC rfl rfl rfl) (Wn (w:=R2 hg7 hg1) (Ae fdC rfl rfl) (Wn (w:=R2 hg7 hg1) (Ac ldC rfl rfl rfl) (Ol rfl rfl rfl rfl (R2 hg7 hg1) rfl rfl (Bq rfl rfl Bv) (DF (Au rfl (R2 hg7 hg1) rfl) (DF (Ag rfl) ?_)))))));refine Wn (w:=R2 hg7 hg1) (Ac ldC rfl rfl rfl) (Wn (w:=R2 hg7 hg1) (Eq rfl) (Wn (w:=R2 hg7 hg1) (Ae fdC rfl rfl) (Wn (w:=R2 hg7 hg1) (Ac ldC rfl rfl rfl) (Wn (w:=R2 hg7 hg1) (Ae fdC rfl rfl) (Wn (w:=R2 hg7 hg1) (Ac ldC rfl rfl rfl) (Wn (w:=R2 hg7 hg1) (De st9 Cr rfl hk.f rfl) (DF (Au rfl (R2 hg7 hg1) rfl) ?_)))))));refine C1 ?_;exact⟨⟨congrArg (fun b=>some (AV.bool b)) (R2 hg7 hg1),trivial⟩,sb,rfl⟩
  refine Ab rfl ?_ ?_<;>intro h2
  ·refine G4 ?_;have hE:E9 pw k f before=6:=((if_neg (fun hh=>Bool.noConfusion (h1.symm.trans hh))).trans (if_pos h2))
   refine Bo fun hw9=>?_
   refine G ?_
   exact⟨_,rfl,_,_,a_ hw9 nl (fun _ _=>rfl),nl,.same rfl,congrArg iV hE.symm,⟨nl,fun _ _ _=>rfl⟩,fun hh=>absurd (hE.symm.trans hh) (by decide)⟩
  ·refine G9 ?_;refine TOr 4 ?_ (fun hg=>?_) ?_
   rotate_left
   ·iterate 4 refine Gn hg ?_
    exact Ez
   refine G ?_;refine Ab rfl ?_ ?_<;>intro h3
   ·refine G4 ?_;have hE:E9 pw k f before=4:=((if_neg (fun hh=>Bool.noConfusion (h1.symm.trans hh))).trans ((if_neg (fun hh=>Bool.noConfusion (h2.symm.trans hh))).trans (if_pos h3)))
    refine Bo fun hw9=>?_
    refine G ?_
    exact⟨_,rfl,_,_,a_ hw9 nl (fun _ _=>rfl),nl,.same rfl,congrArg iV hE.symm,⟨nl,fun _ _ _=>rfl⟩,fun hh=>absurd (hE.symm.trans hh) (by decide)⟩
   ·refine G2 ?_;refine XS (l:=[]) trivial ?_;refine G6 ?_
    refine DT (Gh (v:=true) st9 Cr rfl hvf rfl rfl (fun te k1 k2=>by first|exact I0 k1 k2|exact I1 k1 k2|exact I2 k1 k2|exact Jn k1 k2|exact H6 k1 k2 rfl)) ?_
    refine G3 ?_;refine O1 (Cd (n:=nx σ) Cr (Aq σ _ _)) (O1 (Cd (n:=nx σ+1) Ae6 (nx1 (Aq σ _ _))) ?_);refine G10 ?_;refine Cx (Ai elC byW rfl rfl rfl) (Dv (len:=2)) rfl rfl ?_
    refine Ca (f214 [f.hyps,f.dummies] _ (by simp) hB.a) ?_
    refine G3 ?_
    have c8:∃lab ty,Ape σ (((σ.set (m+2) (.map 9 (Cn bV (k.frames.put f.label true)) (vf+1))).new (.map 9 [] 0)).new (.map 9 [] 0)) m (k.fr f.label) lab ty/\Jd (k.fr f.label) f.hyps.length f.all 0 [] []=Jd (k.fr f.label) f.hyps.length (f.all.drop 0) 0 lab ty/\∀h∈f.all.take 0,h.floating=true->∃a b,h.text=[a,b]:=by
     have hg:∀b,b<nx σ->b≠m+2->(((σ.set (m+2) (.map 9 (Cn bV (k.frames.put f.label true)) (vf+1))).new (.map 9 [] 0)).new (.map 9 [] 0)).get b=σ.get b:=gr;refine⟨[],[],⟨gr,hg,hk.fr (ver:=vf+1) hw ?_ hg,⟨0,?_⟩,⟨0,?_⟩,.nil⟩,rfl,gr⟩
     ·grind
     ·rw[ag_,if_neg gr,ag_,if_pos (by rw[Aq])];rfl
     ·rw[ag_,if_pos gr];rfl
    refine G ?_;refine Bz f.all.length (fun i0=>[(2,slV eH 3 before),(3,.pv [knV m]),(4,.pv (eF f)),(9,.pv [.mp (nx σ),.mp (nx σ+1)]),(73,slV eH 3 f.all),(74,iV (.ofNat f.all.length)),(75,iV (.ofNat i0))]) (fun i0 σ0=>∃lab ty,Ape σ σ0 m (k.fr f.label) lab ty/\Jd (k.fr f.label) f.hyps.length f.all 0 [] []=Jd (k.fr f.label) f.hyps.length (f.all.drop i0) i0 lab ty/\∀h∈f.all.take i0,h.floating=true->∃a b,h.text=[a,b]) SL c8 ?_
    rintro i0 σ0 hi0 ⟨lab,ty,⟨hn0,hg0,hk0,hl0,ht0,hs0⟩,hf0,h20⟩;refine G5 ?_;refine Ab rfl ?_ ?_<;>intro h4
    ·have bc:i0<f.all.length:=gr;obtain⟨a0,ha0⟩:=Ar bc;have hd0:=A4 ha0;have hne0:a0∈f.all:=ab_ ha0;obtain⟨vl,hvl⟩:=id hl0;obtain⟨vt0,ph⟩:=id ht0;refine G8 ?_;refine Rn ziC ldC rfl rfl (fun _=>rfl) rfl (fun _=>rfl) rfl rfl rfl rfl rfl ?_
     refine G12 ?_;refine Ca (f215 m (k.fr f.label) (nx σ) (nx σ+1) lab ty a0 _ σ0 hk0 hl0 ht0 (hB.x a0 (ab_ ha0))) ?_;refine G7 ?_;refine Ab rfl ?_ ?_<;>intro h5
     ·refine G5 ?_
      have hH:Jd (k.fr f.label) f.hyps.length f.all 0 [] []=((Vg (k.fr f.label) lab ty a0 (decide (Int.ofNat f.hyps.length<=Int.ofNat i0))),ty):=by rw[hf0,hd0,Jd,if_pos h5]
      have hup:Anc m σ σ0:=Ape.up ⟨hn0,hg0,hk0,hl0,ht0,hs0⟩;have hE:E9 pw k f before=(Vg (k.fr f.label) lab ty a0 (decide (Int.ofNat f.hyps.length<=Int.ofNat i0))):=((if_neg (fun hh=>Bool.noConfusion (h1.symm.trans hh))).trans ((if_neg (fun hh=>Bool.noConfusion (h2.symm.trans hh))).trans ((if_neg (fun hh=>Bool.noConfusion (h3.symm.trans hh))).trans gr)))
      refine Bo fun hw9=>?_
      refine G ?_;exact⟨_,rfl,_,_,a_ hw9 nl (fun _ _=>rfl),gr,.same rfl,congrArg iV hE.symm,hup,gr⟩
     ·refine G7 ?_
      refine O1 (Gh (v:=true) st9 Cr rfl hvl rfl rfl (fun te k1 k2=>by first|exact I0 k1 k2|exact I1 k1 k2|exact I2 k1 k2|exact Jn k1 k2|exact H6 k1 k2 rfl)) ?_
      refine G6 ?_;refine Ab rfl ?_ ?_<;>intro h6
      ·have h6f:a0.floating=true:=h6;obtain⟨t0,t1,htx⟩:=Ab7 (Arv h5) h6f;have htw:∀h∈f.all.take (i0+1),h.floating=true->∃a b,h.text=[a,b]:=gr;refine XS (l:=[]) trivial ?_;refine G4 ?_
       refine DF (A1 elC (fun _=>rfl) rfl rfl (by grind:a0.text[1]? =some t1) (i:=1)) ?_
       refine G3 ?_
       refine DF (A1 elC (fun _=>rfl) rfl rfl (by grind:a0.text[0]? =some t0) (i:=0)) ?_
       refine G ?_
       refine DT (Gh (v:=t0) st9 Ae6 rfl (by rw[aa_,if_neg Om];exact ph) rfl rfl (fun te k1 k2=>by first|exact I0 k1 k2|exact I1 k1 k2|exact I2 k1 k2|exact Jn k1 k2|exact H6 k1 k2 rfl)) ?_
       refine G5 ?_
       refine⟨bc,SL,⟨lab.put a0.label true,ty.put t1 t0,⟨gr,gr,(hk0.hi Om).hi Om,B8.set dz_ Om,dz_,hs0.put⟩,by rw[hf0,hd0,Jd,if_neg (fun hh=>Bool.noConfusion (h5.symm.trans hh)),if_pos h6f,htx];rfl,htw⟩⟩
      ·have h6f:a0.floating=false:=h6;have htw:∀h∈f.all.take (i0+1),h.floating=true->∃a b,h.text=[a,b]:=gr;refine G5 ?_
       refine⟨bc,SL,⟨lab.put a0.label true,ty,⟨gr,gr,hk0.hi Om,dz_,ht0.set Om,hs0⟩,by rw[hf0,hd0,Jd,if_neg (fun hh=>Bool.noConfusion (h5.symm.trans hh)),if_neg gr],htw⟩⟩
    ·have bj:f.all.length<=i0:=gr
     have hH:Jd (k.fr f.label) f.hyps.length f.all 0 [] []=(0,ty):=by rw[hf0,ah_ bj];rfl
     have hup:Anc m σ σ0:=Ape.up ⟨hn0,hg0,hk0,hl0,ht0,hs0⟩;have hb2:∀t∈f.text::H8 f.hyps,t.length<1000000:=hB.ess
     have hfl:∀h∈f.hyps,h.floating=true->∃a b,h.text=[a,b]:=fun h hh=>h20 h (by rw[at_ bj];simp[Fr.all,hh])
     have hrl:(Anb f before).length<4611686018427387904:=by have:=hB.h;have h9:=H0 (p:=fun h:Hp=>h.floating) (l:=f.hyps);unfold Anb Ali;grind
     refine G7 ?_;refine Ca (f216 m (k.fr f.label) f.text σ0 hk0 gr) ?_;refine G7 ?_;refine Ab rfl ?_ ?_<;>intro h5
     ·refine G5 ?_;have hE:E9 pw k f before=(k.fr f.label).textF f.text:=((if_neg (fun hh=>Bool.noConfusion (h1.symm.trans hh))).trans ((if_neg (fun hh=>Bool.noConfusion (h2.symm.trans hh))).trans ((if_neg (fun hh=>Bool.noConfusion (h3.symm.trans hh))).trans ((if_neg gr).trans (if_pos h5)))))
      refine Bo fun hw9=>?_
      refine G ?_;exact⟨_,rfl,_,_,a_ hw9 nl (fun _ _=>rfl),gr,.same rfl,congrArg iV hE.symm,hup,gr⟩
     ·refine G6 ?_;refine Ca (f217 m (k.fr f.label) f σ0 hk0 hB.h hb2 hB.w hfl) ?_;refine G7 ?_;refine Ab rfl ?_ ?_<;>intro h6
      ·refine G5 ?_;have hE:E9 pw k f before=Mt (k.fr f.label) f:=((if_neg (fun hh=>Bool.noConfusion (h1.symm.trans hh))).trans ((if_neg (fun hh=>Bool.noConfusion (h2.symm.trans hh))).trans ((if_neg (fun hh=>Bool.noConfusion (h3.symm.trans hh))).trans ((if_neg gr).trans ((if_neg (fun hh=>Bool.noConfusion (h5.symm.trans hh))).trans (if_pos h6))))))
       refine Bo fun hw9=>?_
       refine G ?_;exact⟨_,rfl,_,_,a_ hw9 nl (fun _ _=>rfl),gr,.same rfl,congrArg iV hE.symm,hup,gr⟩
      ·refine G9 ?_;refine TAn 14 ?_ (fun hg=>?_) ?_
       rotate_left
       ·iterate 4 refine Gn hg ?_
        refine Qh 4 _ ?_ rfl rfl rfl rfl rfl (Ft rfl rfl rfl rfl (by rw[hg];rfl)) (fun hg=>?_) (fun hg=>?_) ?_
        rotate_left
        ·iterate 4 refine Gn hg ?_
         refine G ?_;refine⟨rfl,?_,?_⟩
         ·exact sb
         ·exact rfl
        ·iterate 4 refine Gn hg ?_
         refine G ?_;exact⟨rfl,sb⟩
        refine Gn hg ?_
        refine Qh 3 _ ?_ rfl rfl rfl rfl rfl (Ft rfl rfl rfl rfl (by rw[hg];rfl)) (fun hg=>?_) (fun hg=>?_) ?_
        rotate_left
        ·iterate 2 refine Gn hg ?_
         refine Bh rfl rfl rfl (by rw[hg];rfl) rfl rfl rfl rfl (f46 (fun s=> !pw s) f.proof 218 [] σ0 gr (fun a _=>hpw a σ0)) ?_
         refine G ?_;refine⟨rfl,?_,?_⟩
         ·exact sb
         ·exact rfl
        ·iterate 3 refine Gn hg ?_
         refine G ?_;exact⟨rfl,sb⟩
        exact Ez
       refine G ?_;refine Ab rfl ?_ ?_<;>intro h7
       ·refine G4 ?_;have hE:E9 pw k f before=2:=((if_neg (fun hh=>Bool.noConfusion (h1.symm.trans hh))).trans ((if_neg (fun hh=>Bool.noConfusion (h2.symm.trans hh))).trans ((if_neg (fun hh=>Bool.noConfusion (h3.symm.trans hh))).trans ((if_neg gr).trans ((if_neg (fun hh=>Bool.noConfusion (h5.symm.trans hh))).trans ((if_neg (fun hh=>Bool.noConfusion (h6.symm.trans hh))).trans (if_pos h7)))))))
        refine Bo fun hw9=>?_
        refine G ?_
        exact⟨_,rfl,_,_,a_ hw9 nl (fun _ _=>rfl),gr,.same rfl,congrArg iV hE.symm,hup,fun hh=>absurd (hE.symm.trans hh) (by decide)⟩
       ·refine G4 ?_;refine Ca (f177 f σ0 hB.h) ?_;refine G7 ?_;refine Ca (f220 before (Ali f) σ0 hbe) ?_;refine G4 ?_;refine Cx (Auq rfl rfl rfl rfl (Ab5 _ _)) Dv rfl rfl ?_;refine G7 ?_;refine Ca (f45 (fun h=>((k.fr f.label).hyps.get h.label).isSome) (Anb f before) 221 [.pv [knV m]] σ0 hrl (fun a _=>f221 m (k.fr f.label) a σ0 hk0)) ?_
        refine G ?_;refine Ab rfl ?_ ?_<;>intro h8
        ·refine G4 ?_;have hE:E9 pw k f before=7:=((if_neg (fun hh=>Bool.noConfusion (h1.symm.trans hh))).trans ((if_neg (fun hh=>Bool.noConfusion (h2.symm.trans hh))).trans ((if_neg (fun hh=>Bool.noConfusion (h3.symm.trans hh))).trans ((if_neg gr).trans ((if_neg (fun hh=>Bool.noConfusion (h5.symm.trans hh))).trans ((if_neg (fun hh=>Bool.noConfusion (h6.symm.trans hh))).trans ((if_neg (fun hh=>Bool.noConfusion (h7.symm.trans hh))).trans (if_pos h8))))))))
         refine Bo fun hw9=>?_
         refine G ?_
         exact⟨_,rfl,_,_,a_ hw9 nl (fun _ _=>rfl),gr,.same rfl,congrArg iV hE.symm,hup,fun hh=>absurd (hE.symm.trans hh) (by decide)⟩
        ·refine G8 ?_;refine Cx (Ai elC byW rfl rfl rfl) (Dv (len:=2)) rfl rfl ?_
         refine Ca (f214 [f.hyps,f.dummies] _ (by simp) hB.a) ?_
         refine G4 ?_;refine Bz f.all.length (fun i2=>[(3,.pv [knV m]),(9,.pv [.mp (nx σ),.mp (nx σ+1)]),(161,slV eH 3 f.all),(162,iV (.ofNat f.all.length)),(163,iV (.ofNat i2))]) (fun i2 σ2=>nx σ2=nx σ+2/\(∀b,b<nx σ->b≠m+2->b≠m+3->σ2.get b=σ.get b)/\Hj σ2 m ((k.fr f.label).hyps' (f.all.take i2))/\B8 sV σ2 (nx σ+1) ty) SL ⟨hn0,fun b h9 h10 _=>hg0 b h9 h10,hk0,ht0⟩ ?_
         rintro i2 σ2 hi2 ⟨hn2,hg2,hk2,ht2⟩;refine G5 ?_;refine Ab rfl ?_ ?_<;>intro h9
         ·have bv:i2<f.all.length:=gr;obtain⟨a2,ha2⟩:=Ar bv;have hd2:=A4 ha2;obtain⟨vh,hvh⟩:=id hk2.h;refine G9 ?_;refine XX 1 (l:=[(180,[.agg (eH a2)],σ2,.agg (eH a2),σ2)]) ⟨f180 a2 σ2 (hB.x a2 (ab_ ha2)),trivial⟩ ?_;refine G8 ?_
          refine DT (Gh (v:=a2) st9 Qo rfl hvh rfl rfl (fun te k1 k2=>by first|exact I0 k1 k2|exact I1 k1 k2|exact I2 k1 k2|exact Jn k1 k2|exact H6 k1 k2 rfl)) ?_
          refine G ?_
          refine⟨(by intro e he;simp at he;subst he;exact .refl),?_⟩
          refine G4 ?_
          refine⟨bv,SL,gr,gr,by rw[Fw ha2,Alj];exact hk2.hp,ht2.set Om⟩
         ·have ba:f.all.length<=i2:=gr;rw[at_ ba]at hk2;obtain⟨vt,hvt⟩:=id hk2.t;refine G2 ?_;refine XS (l:=[(222,[.mp (m+4),.mp (nx σ+1)],σ2,An,(σ2.set (m+4) (.map 9 (Cn sV (SM.over ty k.types)) (vt+ty.length))))]) ⟨f222 (m+4) (nx σ+1) vt k.types ty σ2 hvt ht2 Om hsr hs0,trivial⟩ ?_;refine G12 ?_;have hE:E9 pw k f before=0:=((if_neg (fun hh=>Bool.noConfusion (h1.symm.trans hh))).trans ((if_neg (fun hh=>Bool.noConfusion (h2.symm.trans hh))).trans ((if_neg (fun hh=>Bool.noConfusion (h3.symm.trans hh))).trans ((if_neg gr).trans ((if_neg (fun hh=>Bool.noConfusion (h5.symm.trans hh))).trans ((if_neg (fun hh=>Bool.noConfusion (h6.symm.trans hh))).trans ((if_neg (fun hh=>Bool.noConfusion (h7.symm.trans hh))).trans (if_neg (fun hh=>Bool.noConfusion (h8.symm.trans hh))))))))))
          refine Bo fun hw9=>?_
          refine G ?_
          exact⟨_,rfl,_,_,a_ hw9 nl (fun _ _=>rfl),gr,.same rfl,congrArg iV hE.symm,⟨gr,gr⟩,fun _=>⟨by unfold knF;rw[hH];exact hk2.ty,by unfold knF;exact SM.Srt.over hsr⟩⟩
def kn0:Kn:=⟨[],[],[],[],[]⟩
def I3(pw:Str->Bool):List Fr->Kn->List Hp->Int
 |[],_,_=>0
 |f::r,k,before=>if(!decide (E9 pw k f before=0))=true then E9 pw k f before else I3 pw r (knF k f) (Ali f)
def Fy(pw:Str->Bool)(d:Db):Int:=
 if((decide ((400:Int)<Int.ofNat d.frames.length)||decide ((8000:Int)<Int.ofNat d.consts.length))||decide ((8000:Int)<Int.ofNat d.vars.length))=true then 8
 else if(!decide ((K8 d kn0).1=0))=true then(K8 d kn0).1 else I3 pw d.frames (K8 d kn0).2 []
structure DbB (d:Db):Prop where
 f:∀f∈d.frames,FrB f
 c:d.consts.length<1000000
 v:d.vars.length<1000000
 n:d.frames.length<1000000
theorem Tn:∀(l:List Str) (k:Kn),(Qp l k).2.types=k.types
 |[],_=>rfl
 |c::r,k=>by unfold Qp;cases L8 c<;>cases k.consts.has c<;>simp[Tn r]
theorem Ab8:∀(l:List Str) (k:Kn),(Sf l k).2.types=k.types
 |[],_=>rfl
 |c::r,k=>by unfold Sf;cases L8 c<;>cases k.isSym c<;>simp[Ab8 r]
theorem Alk(d k):(K8 d k).2.types=k.types:=by
 unfold K8;split
 ·rw[Ab8,Tn]
 ·rw[Tn]
theorem f145(pw)(hpw:∀s σ,Cv 218 [sV s] σ (.bool (!pw s)))(d σ)(hB:DbB d):Cv 145 [dbV d] σ (iV (Fy pw d)):=by
 refine Aj Tryz.func145 rfl rfl fun hw hu0=>?_
 iterate 13 refine G ?_
 refine TOr 4 ?_ (fun hg=>?_) ?_
 rotate_left
 ·iterate 4 refine Gn hg ?_
  exact Ez
 refine G ?_;refine TOr 4 ?_ (fun hg=>?_) ?_
 rotate_left
 ·iterate 4 refine Gn hg ?_
  exact Ez
 refine G ?_;refine Ab rfl ?_ ?_<;>intro h1
 ·refine G4 ?_;have hE:Fy pw d=8:=(if_pos h1);refine G ?_;exact⟨_,rfl,_,σ,am_ hw fn_,nl,.same rfl,congrArg iV hE.symm,rfl⟩
 ·refine G ?_;have hbn:=hB.n;have hg5:∀b,b<nx σ->(((((σ.new (.map 9 [] 0)).new (.map 9 [] 0)).new (.map 9 [] 0)).new (.map 9 [] 0)).new (.map 9 [] 0)).get b=σ.get b:=gr
  have pa:Hj (((((σ.new (.map 9 [] 0)).new (.map 9 [] 0)).new (.map 9 [] 0)).new (.map 9 [] 0)).new (.map 9 [] 0)) (nx σ) kn0:=by
   refine⟨⟨0,?_⟩,⟨0,?_⟩,⟨0,?_⟩,⟨0,?_⟩,⟨0,?_⟩⟩<;>simp only[ag_,Ao]<;>simp<;>rfl
  refine G2 ?_;refine O1 (Cd (n:=nx σ) Cr rfl) (O1 (Cd (n:=nx σ+1) Cr (nx1 rfl)) (O1 (Cd (n:=nx σ+2) Cr (nx1 (nx1 rfl))) (O1 (Cd (n:=nx σ+3) Qo (nx1 (nx1 (nx1 rfl)))) (O1 (Cd (n:=nx σ+4) Ae6 (nx1 (nx1 (nx1 (nx1 rfl))))) ?_))));refine G9 ?_;refine Az rfl rfl rfl rfl (f175 (nx σ) kn0 d (((((σ.new (.map 9 [] 0)).new (.map 9 [] 0)).new (.map 9 [] 0)).new (.map 9 [] 0)).new (.map 9 [] 0)) pa gr gr) fun v τ ⟨hv,ie,hk1⟩=>?_
  subst hv;refine G7 ?_;refine Ab rfl ?_ ?_<;>intro h2
  ·refine G5 ?_;have hE:Fy pw d=(K8 d kn0).1:=((if_neg (fun hh=>Bool.noConfusion (h1.symm.trans hh))).trans (if_pos h2))
   refine G ?_
   exact⟨_,rfl,_,σ,am_ hw ⟨by rw[ie.1];grind,fun b hb=>(ie.2 b (.inl hb)).trans (hg5 b hb)⟩,nl,.same rfl,congrArg iV hE.symm,rfl⟩
  ·refine G3 ?_;refine Cx (Gd rfl) (Agy (sz:=3)) rfl rfl ?_;refine G9 ?_
   have hn1:nx σ+5<=nx τ:=by rw[ie.1];grind
   have hg1:∀b,b<nx σ->τ.get b=σ.get b:=fun b hb=>(ie.2 b (.inl hb)).trans (hg5 b hb)
   have hs1:SM.Srt (K8 d kn0).2.types:=by rw[Alk];exact .nil
   refine G ?_
   refine Ci (fun q:Nat×AV=>[(3,knV (nx σ)),(5,q.2),(39,slV eF 8 d.frames),(40,iV (.ofNat d.frames.length)),(41,iV (.ofNat q.1))]) (fun q σ0=>q.1<=d.frames.length/\∃k be,q.2=slV eH 3 be/\be.length<1000000/\nx σ+5<=nx σ0/\(∀b,b<nx σ->σ0.get b=σ.get b)/\Hj σ0 (nx σ) k/\SM.Srt k.types/\I3 pw d.frames (K8 d kn0).2 []=I3 pw (d.frames.drop q.1) k be) (fun q=>d.frames.length-q.1) (0,slV eH 3 []) SL ⟨aq_ _,(K8 d kn0).2,[],rfl,by simp,hn1,hg1,hk1,hs1,rfl⟩ ?_
   rintro⟨i0,v0⟩ σ0 hP0;obtain⟨hi0,k,be,hbe,hbl,hn0,hg0,hk0,hs0,hf0⟩:i0<=d.frames.length/\∃k be,v0=slV eH 3 be/\be.length<1000000/\nx σ+5<=nx σ0/\(∀b,b<nx σ->σ0.get b=σ.get b)/\Hj σ0 (nx σ) k/\SM.Srt k.types/\I3 pw d.frames (K8 d kn0).2 []=I3 pw (d.frames.drop i0) k be:=hP0;refine G5 ?_;refine Ab rfl ?_ ?_<;>intro h3
   ·have bc:i0<d.frames.length:=gr;obtain⟨a0,ha0⟩:=Ar bc;have hd0:=A4 ha0;subst hbe
    iterate 15 refine G ?_
    refine Az rfl rfl rfl rfl (f176 pw hpw (nx σ) k a0 be σ0 hk0 hs0 (hB.f a0 (ab_ ha0)) hbl) fun v2 τ2 ⟨hv2,hup,hkn⟩=>?_
    subst hv2;refine G7 ?_;refine Ab rfl ?_ ?_<;>intro h4
    ·refine G5 ?_
     have hE:Fy pw d=E9 pw k a0 be:=((if_neg (fun hh=>Bool.noConfusion (h1.symm.trans hh))).trans ((if_neg (fun hh=>Bool.noConfusion (h2.symm.trans hh))).trans (by rw[hf0,hd0,I3];grind)))
     refine G ?_
     exact⟨_,rfl,_,σ,am_ hw ⟨by have:=hup.1;omega,fun b hb=>(hup.2 b Om (.inl hb)).trans (hg0 b hb)⟩,nl,.same rfl,congrArg iV hE.symm,rfl⟩
    ·refine G3 ?_;refine Ca (f177 a0 _ (hB.f a0 (ab_ ha0)).h) ?_;refine G6 ?_
     refine⟨(i0+1,slV eH 3 (Ali a0)),gr,SL,bc,knF k a0,Ali a0,rfl,gc_ H0 (hB.f a0 (ab_ ha0)).h,ai_ hn0 hup.1,fun b hb=>(hup.2 b Om (.inl hb)).trans (hg0 b hb),(hkn (Arv h4)).1,(hkn (Arv h4)).2,by rw[hf0,hd0,I3,if_neg (fun hh=>Bool.noConfusion (h4.symm.trans hh))]⟩
   ·have bj:d.frames.length<=i0:=gr
    have hH:I3 pw d.frames (K8 d kn0).2 []=0:=by rw[hf0,ah_ bj];rfl
    refine G5 ?_;have hE:Fy pw d=0:=((if_neg (fun hh=>Bool.noConfusion (h1.symm.trans hh))).trans ((if_neg (fun hh=>Bool.noConfusion (h2.symm.trans hh))).trans (hH)))
    refine G ?_
    exact⟨_,rfl,_,σ,am_ hw ⟨by omega,hg0⟩,nl,.same rfl,congrArg iV hE.symm,rfl⟩
end Go.AM
