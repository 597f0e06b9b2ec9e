/- A part of the proof; shortened by program. -/
import Derived.Test.YtmkaboegdoadhaaGreatDoorP28
set_option maxRecDepth 100000
set_option maxHeartbeats 4000000
set_option linter.unusedSimpArgs false
set_option linter.unusedVariables false
namespace Go.AM
open Go Go.Proofs
theorem An2{ρ:Ad}{σ:Sto}{Rr:Rec}{t sz by' i len:Nat}{cap:Option Nat}{k:IntKind}{zz:Option (List AV)}{cs:List AV}{x y:Operand}(hel:elI Ew.P t=some (sz,by',zz))(hx:Ah Ew ρ x=some (.sv cs sz len cap))(hy:Ah Ew ρ y=some (.int k (.ofNat i)))(hi:i<len):As Ew Rr (.indexAddr t x y) ρ σ (.pv (cs.drop (i*sz))) σ:=fun tm h=>by
 obtain⟨ti,e,te,k1,k2,k3,k4,k5,k6⟩:=Qc hel;have hb:Nat.blt i len=true:=Ce hi;subst k4;simp only[opA,Aw,k1,k2,k3,h.opd hx,h.opd hy,Gt,hb,cond_true]
theorem Avm{σ:Sto}{A B:List AV}(x:Nat):(Tw σ A B).get x=if x=nx σ+3 then some (.cells B)else if x=nx σ+2 then some (.cells A)else if x=nx σ∨x=nx σ+1 then none else σ.get x:=by
 have g1:∀(A B:List AV) x,((σ.new (.cells A)).new (.cells B)).get x=if x=nx σ+1 then some (.cells B)else if x=nx σ then some (.cells A)else σ.get x:=gr;unfold Tw
 grind
theorem Afw{α:Type}[DecidableEq α]:∀{l m:List α},l.Nodup->(∀x∈l,x∈m)->l.length<=m.length
 |[],_,_,_=>aq_ _
 |x::l,m,h,hs=>by
  have hx:=hs x (ap_ ..);have h:=ed_.1 h;have:=Afw (m:=m.erase x) h.2 fun y hy=>(List.mem_erase_of_ne (fun e:y=x=>h.1 gr)).2 (hs y (aj_ _ hy))
  grind
theorem Axy{d:Db}{a:List Str}(h:a.Nodup)(hv:∀s∈a,vrD d s=true):a.length<=600:=by
 have:=Afw (m:=(ofF d).1.rules.map (·.label)) h fun s hs=>by
  have hv:=hv s hs;unfold vrD at hv;rw[ad_]at hv;unfold rlB at hv;obtain⟨r,hr⟩:=bg_.1 hv.1
  rcases L9 (l:=(ofF d).1.rules) (s:=s)with⟨_,hro⟩|⟨n,rl,_,hat,hro⟩
  ·grind
  ·exact bt_.2 ⟨rl,ab_ hat,by unfold F4 at hro;grind⟩
 have h2:=(Yc d).len
 grind
theorem Ahp{α β:Type}{g:α->β->α}:∀(l:List β) (a:α),foM (fun a n=>some (g a n)) l a=some (l.foldl g a)
 |[],a=>rfl
 |x::l,a=>Ahp l (g a x)
theorem f53{d:Db}{r:Rs}{P mT:Nat}{σ:Sto}(hD:DbB d)(hvf:d.vars.length+d.frames.length<1000000)(hok:∀f∈d.frames,Acx f.text/\∀h∈f.hyps,Acx h.text)(hre:∀s,Ki r.equal s=true->eqD d s=true)(hrl:r.equal.length<=1000000)(h:BkS d r P mT σ){i:Nat}{f:Fr}(hfr:d.frames[i]? =some f)(hi:i<d.frames.length):
  Al Ew 53 [.pr P 0,nV i] σ fun v σ'=>v=.tup [.agg (eDf (Bb d r i).1),iV (Bb d r i).2]/\BkS d r P mT σ'/\PkF mT σ σ':=by
 have hiN:i<1000000:=gr;refine gm_ ?_;refine Mo Tryz.func53 (Ke _ _ Tryz.func53) rfl rfl fun hw hu0=>?_
 have hPl:=(hw _ _ h.ob).1
 have hml:mT<nx σ:=by
  obtain⟨M,⟨v,hM⟩,_⟩:=h.mp;exact(hw _ _ hM).1
 iterate  3 refine G ?_
 refine O1 (Bj (n:=nx σ+1) ziC (Bm σ)) ?_
 iterate  2 refine G ?_
 obtain⟨σ1,hσ1⟩:∃σ1,σ.bump.new (.cells z5)=σ1:=⟨_,rfl⟩;rw[hσ1];have n1:nx σ1=nx σ+2:=gr;have g1:∀b,b<nx σ->σ1.get b=σ.get b:=gr;have r1:σ1.get (nx σ+1)=some (.cells z5):=gr;have h1:BkS d r P mT σ1:=h.of_get (g1 P hPl) (g1 mT hml);have f1:PkF mT σ1 σ1:=PkF.refl
 have key:∀τ:Sto,BkS d r P mT τ->PkF mT σ1 τ->BkS d r P mT (τ.set (nx σ+1) (.cells z5))/\PkF mT σ (τ.set (nx σ+1) (.cells z5)):=fun τ hb hf=>by
  have hn:=hf.n
  exact⟨hb.of_get gr gr,gr,fun b q1 q2=>by rw[aa_,if_neg Om,hf.g b Om q2];exact g1 b q1⟩
 have hp0:Bb d r i=if(f.thm|| !Nv f.text)=true then(zDf,13)else if(f.hyps.any fun h=> !h.floating)=true then(zDf,210)else
   if(B1 d f.text).2≠0 then(zDf,(B1 d f.text).2)else Vw d r (B1 d f.text).1:=by unfold Bb;rw[hfr]
 iterate  6 refine G ?_
 refine TOr 8 ?_ (fun hg=>?_) ?_
 rotate_left
 ·iterate  5 refine Gn hg ?_
  refine On hg (lO h1.ob) ?_
  iterate  2 refine Gn hg ?_
  exact Ez
 refine G ?_;refine A0 rfl ?_ ?_<;>intro h2
 ·grind
 ·skip
  iterate  7 refine G ?_
  refine O1 (lO h1.ob) ?_
  iterate  11 refine G ?_
  refine TOr 4 ?_ (fun hg=>?_) ?_
  rotate_left
  ·iterate  2 refine Gn hg ?_
   refine Bh rfl rfl rfl (by rw[hg];rfl) rfl rfl rfl rfl (f106 f.text _) ?_
   refine Gn hg ?_;exact Ez
  refine G ?_;refine A0 rfl ?_ ?_<;>intro h2
  ·have hr:Bb d r i=(zDf,13):=gr
   iterate  3 refine G ?_
   refine O1 (sO (cs':=z5) r1) ?_
   iterate  2 refine G ?_
   refine Gi fun hw9=>?_
   refine G ?_
   exact⟨[.agg z5,_],Am (vs:=z5) (ldC (t:=41)) rfl (by simp only[Sto.cells];grind) rfl (Ba rfl rfl),.tup [.agg [sV [],.sv [] 1 0 none,.sv [] 1 0 none,sV [],.sv [] 2 0 none],_],_,a_ hw9 nl (fun _ _=>rfl),gr,.tup (.cons (.agg (.cons (.same rfl) (.cons (.nils gr) (.cons (.nils gr) (.cons (.same rfl) (.cons (.nils gr) .nil)))))) (.cons (.same rfl) .nil)),by rw[hr];rfl,(key _ h1 f1).1,(key _ h1 f1).2⟩
  ·rw[if_neg gr]at hp0
   iterate  6 refine G ?_
   refine Ca (f45 (fun h=> !h.floating) f.hyps 107 [] _ (by have:=(hD.f f (ab_ hfr)).h;omega) (fun a _=>f107 a _)) ?_
   refine G ?_;refine A0 rfl ?_ ?_<;>intro h3
   ·have hr:Bb d r i=(zDf,210):=gr
    iterate  3 refine G ?_
    refine O1 (sO (cs':=z5) r1) ?_
    iterate  2 refine G ?_
    refine Gi fun hw9=>?_
    refine G ?_
    exact⟨[.agg z5,_],Am (vs:=z5) (ldC (t:=41)) rfl (by simp only[Sto.cells];grind) rfl (Ba rfl rfl),.tup [.agg [sV [],.sv [] 1 0 none,.sv [] 1 0 none,sV [],.sv [] 2 0 none],_],_,a_ hw9 nl (fun _ _=>rfl),gr,.tup (.cons (.agg (.cons (.same rfl) (.cons (.nils gr) (.cons (.nils gr) (.cons (.same rfl) (.cons (.nils gr) .nil)))))) (.cons (.same rfl) .nil)),by rw[hr];rfl,(key _ h1 f1).1,(key _ h1 f1).2⟩
   ·rw[if_neg gr]at hp0;obtain⟨T,e,hTe⟩:∃T e,B1 d f.text=(T,e):=⟨_,_,rfl⟩
    obtain⟨lk,kk,hT⟩:∃lk kk,T=.node lk kk:=by cases T;grind
    have htv:En T=.agg [sV lk,slV eT 2 kk]:=by rw[hT];exact Cg lk kk
    have h108:Al Ew 108 [.pr P 0,Af f.text] σ1 fun v σ'=>v=.tup [.agg [sV lk,slV eT 2 kk],iV e]/\BkS d r P mT σ'/\PkF mT σ1 σ':=by
     have:=f108 hD hvf h1 (hok f (ab_ hfr)).1
     grind
    rw[hTe]at hp0
    iterate  6 refine G ?_
    refine Az rfl rfl rfl rfl h108 ?_;rintro _ σ2 ⟨rfl,h2',f2⟩;have n2:=f2.n
    have r2:σ2.get (nx σ+1)=some (.cells z5):=by rw[f2.g _ Om Om];exact r1
    iterate  12 refine G ?_
    refine A0 rfl ?_ ?_<;>intro h4
    ·have he:e≠0:=gr;have hr:Bb d r i=(zDf,e):=gr;have h2:=h2'
     iterate  4 refine G ?_
     refine O1 (sO (cs':=z5) r2) ?_
     iterate  2 refine G ?_
     refine Gi fun hw9=>?_
     refine G ?_
     exact⟨[.agg z5,_],Am (vs:=z5) (ldC (t:=41)) rfl (by simp only[Sto.cells];grind) rfl (Ba rfl rfl),.tup [.agg [sV [],.sv [] 1 0 none,.sv [] 1 0 none,sV [],.sv [] 2 0 none],_],_,a_ hw9 nl (fun _ _=>rfl),gr,.tup (.cons (.agg (.cons (.same rfl) (.cons (.nils gr) (.cons (.nils gr) (.cons (.same rfl) (.cons (.nils gr) .nil)))))) (.cons (.same rfl) .nil)),by rw[hr];rfl,(key _ h2 f2).1,(key _ h2 f2).2⟩
    ·have he:e=0:=gr;rw[if_neg (fun q=>q he)]at hp0
     have hp0:Bb d r i=Vw d r T:=hp0
     iterate  3 refine G ?_
     refine Dy fun df=>XS (l:=[(15,[Af r.equal,sV lk],σ2,.bool (Ki r.equal lk),σ2)]) ⟨f15 r.equal lk σ2 Om,trivial⟩ ?_
     iterate  4 refine G ?_
     refine DF (lO h2'.ob) ?_
     iterate  5 refine G ?_
     refine A0 rfl ?_ ?_<;>intro h5
     ·have hr:Bb d r i=(zDf,211):=by rw[hp0,hT];exact if_pos h5
      have h2:=h2'
      iterate  3 refine G ?_
      refine O1 (sO (cs':=z5) r2) ?_
      iterate  2 refine G ?_
      refine Gi fun hw9=>?_
      refine G ?_
      exact⟨[.agg z5,_],Am (vs:=z5) (ldC (t:=41)) rfl (by simp only[Sto.cells];grind) rfl (Ba rfl rfl),.tup [.agg [sV [],.sv [] 1 0 none,.sv [] 1 0 none,sV [],.sv [] 2 0 none],_],_,a_ hw9 nl (fun _ _=>rfl),gr,.tup (.cons (.agg (.cons (.same rfl) (.cons (.nils gr) (.cons (.nils gr) (.cons (.same rfl) (.cons (.nils gr) .nil)))))) (.cons (.same rfl) .nil)),by rw[hr];rfl,(key _ h2 f2).1,(key _ h2 f2).2⟩
     ·have hin:Ki r.equal lk=true:=gr
      obtain⟨left,right,rfl⟩:=Aj9 (by have:=(Q3 (by rw[hTe,he])).1;rwa[hT]at this) (hre lk hin)
      have hp1:Bb d r i=M7 d left right:=by rw[hp0,hT];exact if_neg (by show ¬(!Ki r.equal lk)=true;grind)
      iterate  2 refine G ?_
      obtain⟨ll,lks,rfl⟩:∃ll lks,left=.node ll lks:=by cases left;grind
      obtain⟨rl,rks,rfl⟩:∃rl rks,right=.node rl rks:=by cases right;grind
      have hKT:KB (.node lk [.node ll lks,.node rl rks]):=by have:=(Q3 (by rw[hTe,he])).2.1;grind
      have hkL:lks.length<=100000:=by cases hKT with|node _ hk=>cases hk _ (ap_ ..)with|node hl _=>exact hl
      have hkR:KB (.node rl rks):=by cases hKT with|node _ hk=>exact hk _ (aj_ _ (ap_ ..))
      obtain⟨a9,ha9⟩:∃a9,nx σ2+2=a9:=⟨_,rfl⟩;obtain⟨a10,gq⟩:∃a10,nx σ2+3=a10:=⟨_,rfl⟩
      have hsl:slV eT 2 [.node ll lks,.node rl rks]=.sv [sV ll,slV eT 2 lks,sV rl,slV eT 2 rks] 2 2 none:=by
       show AV.sv ([Ax.node ll lks,Ax.node rl rks].flatMap eT) 2 2 none=_
       rw[bs_,bs_,fk_,Cl,Cl];rfl
      have hbl:AV.beqs [sV ll,slV eT 2 lks] [sV ll,slV eT 2 lks]=true:=by rw[←Cl];exact Z8 _
      have hbr:AV.beqs [sV rl,slV eT 2 rks] [sV rl,slV eT 2 rks]=true:=by rw[←Cl];exact Z8 _
      have hb4:AV.beqs [sV ll,slV eT 2 lks,sV rl,slV eT 2 rks] [sV ll,slV eT 2 lks,sV rl,slV eT 2 rks]=true:=Vq (a:=[sV ll,slV eT 2 lks]) (b:=[sV rl,slV eT 2 rks]) hbl hbr
      have hbs:AV.beq (.sv [sV ll,slV eT 2 lks,sV rl,slV eT 2 rks] 2 2 none) (.sv [sV ll,slV eT 2 lks,sV rl,slV eT 2 rks] 2 2 none)=true:=by
       simp only[AV.beq,hb4,aw_,Af8,be_]
      have hal:=Avm (σ:=σ2) (A:=[.str [],nS]) (B:=[.str [],nS]);obtain⟨τ0,hτ0⟩:∃τ0,Tw σ2 [.str [],nS] [.str [],nS]=τ0:=⟨_,rfl⟩;rw[hτ0]at hal
      have nτ0:nx τ0=nx σ2+4:=by rw[←hτ0];unfold Tw;grind
      rw[hsl];refine Dy fun df=>?_
      refine Avi [.pv [.sv [sV ll,slV eT 2 lks,sV rl,slV eT 2 rks] 2 2 none],.sv [sV ll,slV eT 2 lks,sV rl,slV eT 2 rks] 2 2 none,.pv [sV ll,slV eT 2 lks,sV rl,slV eT 2 rks],.agg [sV ll,slV eT 2 lks],.pv [.sv [sV ll,slV eT 2 lks,sV rl,slV eT 2 rks] 2 2 none],.sv [sV ll,slV eT 2 lks,sV rl,slV eT 2 rks] 2 2 none,.pv [sV rl,slV eT 2 rks],.agg [sV rl,slV eT 2 rks],.pr a9 0,.pr a10 0,An,An] 8 9 10 11 Di rfl rfl ⟨by kernel_rfl,by kernel_rfl⟩ Kr rfl rfl rfl rfl Kr rfl rfl ziC ziC rfl rfl rfl rfl (by decide) (by decide) (by decide) (by rw[←ha9];rfl) (by rw[←gq];rfl) (sO (a:=a9) (off:=0) (cs:=[.str [],nS]) (cs':=[sV ll,slV eT 2 lks]) gr) (sO (a:=a10) (off:=0) (cs:=[.str [],nS]) (cs':=[sV rl,slV eT 2 rks]) (by rw[aa_,if_neg Om,hτ0,hal,if_pos gq.symm])) rfl rfl ?_ (fun _ _ _ _ _ _ _ _=>by kernel_rfl) (fun _ _ _ _ _ _ _=>by kernel_rfl) ?_
      ·intro k hk hc υ
       match k,hk,hc with
       |0,_,_=>exact⟨_,_,_,rfl,rfl,Ae (fdC (t:=39) (i:=1)) rfl rfl,rfl,by show AV.beqs [_] [_]=true;simp only[AV.beqs,hbs,be_]⟩
       |1,_,_=>exact⟨_,_,_,rfl,rfl,Ac (ldC (t:=37)) rfl rfl rfl,rfl,hbs⟩
       |2,_,_=>exact⟨_,_,_,rfl,rfl,An2 (i:=0) (elC (t:=37)) rfl rfl (by decide),rfl,hb4⟩
       |3,_,_=>exact⟨_,_,_,rfl,rfl,Ac (ldC (t:=39)) rfl rfl rfl,rfl,by simp only[AV.beq,hbl]⟩
       |4,_,_=>exact⟨_,_,_,rfl,rfl,Ae (fdC (t:=39) (i:=1)) rfl rfl,rfl,by show AV.beqs [_] [_]=true;simp only[AV.beqs,hbs,be_]⟩
       |5,_,_=>exact⟨_,_,_,rfl,rfl,Ac (ldC (t:=37)) rfl rfl rfl,rfl,hbs⟩
       |6,_,_=>exact⟨_,_,_,rfl,rfl,An2 (i:=1) (elC (t:=37)) rfl rfl (by decide),rfl,hbr⟩
       |7,_,_=>exact⟨_,_,_,rfl,rfl,Ac (ldC (t:=39)) rfl rfl rfl,rfl,by simp only[AV.beq,hbr]⟩
       |8,_,h=>cases h
       |9,_,h=>cases h
       |10,_,h=>cases h
       |11,_,h=>cases h
       |k+12,hk,_=>exact absurd hk (by simp)
      rw[hτ0];obtain⟨σ3,hσ3⟩:∃σ3,(τ0.set a9 (.cells [sV ll,slV eT 2 lks])).set a10 (.cells [sV rl,slV eT 2 rks])=σ3:=⟨_,rfl⟩;rw[hσ3];have n3:nx σ3=nx σ2+4:=gr
      have x9:σ3.get a9=some (.cells [sV ll,slV eT 2 lks]):=by rw[←hσ3,aa_,if_neg Om,aa_,if_pos rfl]
      have x10:σ3.get a10=some (.cells [sV rl,slV eT 2 rks]):=gr
      have g3:∀b,b<nx σ2->σ3.get b=σ2.get b:=fun b hb=>by rw[←hσ3,aa_,if_neg Om,aa_,if_neg Om,hal,if_neg Om,if_neg Om,if_neg Om]
      obtain⟨σ4,hσ4⟩:∃σ4,(σ3.kill a9).kill a10=σ4:=⟨_,rfl⟩;have n4:nx σ4=nx σ2+4:=gr
      have g4:∀b,b<nx σ2->σ4.get b=σ2.get b:=fun b hb=>by rw[←hσ4,bf_,if_neg Om,bf_,if_neg Om];exact g3 b hb
      have h4':BkS d r P mT σ4:=h2'.of_get (g4 P Om) (g4 mT Om)
      have f4:PkF mT σ1 σ4:=⟨by omega,fun b q1 q2=>by rw[g4 b Om];exact f2.g b q1 q2⟩
      have r4:σ4.get (nx σ+1)=some (.cells z5):=(g4 _ Om).trans r2
      have hul:∀N,AV.unds N [sV ll,slV eT 2 lks]=true:=fun N=>by rw[←Cl];exact Es _
      have hur:∀N,AV.unds N [sV rl,slV eT 2 rks]=true:=fun N=>by rw[←Cl];exact Es _
      iterate  2 refine G ?_
      refine Dy fun df=>?_
      refine Bo fun hw8=>?_
      refine Aby σ4 [(1,nV i),(2,.pv [.pr P 0]),(4,.pr (nx σ+1) 0),(9,.pv [sV ll,slV eT 2 lks]),(10,.pv [sV rl,slV eT 2 rks])] (by
       rw[←hσ4]
       exact ft_ ((hw8.kill a9).kill a10) gr fun b O hb=>by
        rw[bf_]at hb
        split at hb
        ·cases hb
        grind) Om ⟨⟨_,rfl,.same rfl⟩,⟨_,rfl,.same (show(Nat.blt P (nx σ4)&&true)=true from by rw[Ce Om];rfl)⟩,⟨_,rfl,.same (Jr Om)⟩,⟨_,rfl,.pr x9 (by rw[←hσ4,bf_,if_neg Om,bf_,if_pos rfl]) (dj_ (hul _))⟩,⟨_,rfl,.pr x10 gr (dj_ (hur _))⟩,trivial⟩ ?_
      refine Bo fun hw4=>?_
      iterate  3 refine G ?_
      refine Ca (f109 h4'.ob ll lks) ?_;refine G ?_;refine A0 rfl ?_ ?_<;>intro h6
      ·have hr:Bb d r i=(zDf,212):=by rw[hp1];exact if_pos h6
       have h4:=h4'
       iterate  3 refine G ?_
       refine O1 (sO (cs':=z5) r4) ?_
       iterate  2 refine G ?_
       refine Gi fun hw9=>?_
       refine G ?_
       exact⟨[.agg z5,_],Am (vs:=z5) (ldC (t:=41)) rfl (by simp only[Sto.cells];grind) rfl (Ba rfl rfl),.tup [.agg [sV [],.sv [] 1 0 none,.sv [] 1 0 none,sV [],.sv [] 2 0 none],_],_,a_ hw9 nl (fun _ _=>rfl),gr,.tup (.cons (.agg (.cons (.same rfl) (.cons (.nils gr) (.cons (.nils gr) (.cons (.same rfl) (.cons (.nils gr) .nil)))))) (.cons (.same rfl) .nil)),by rw[hr];rfl,(key _ h4 f4).1,(key _ h4 f4).2⟩
      ·have hvl:vrD d ll=false:=h6;have hp2:Bb d r i=match Mc d lks []with
        |none=>(zDf,212)
        |some args=>(⟨ll,args,Xh d args (.node rl rks),.node rl rks⟩,0):=by rw[hp1];unfold M7;rw[if_neg (by show ¬vrD d ll=true;grind)];rfl
       iterate  7 refine G ?_
       refine O1 (Bj (n:=nx σ4) ziC rfl) (O1 (sO (a:=nx σ4) (off:=0) (cs:=z5) (cs':=[sV ll,nS,nS,sV rl,slV eT 2 rks]) gr) ?_);refine G ?_;obtain⟨aD,haD⟩:∃aD,nx σ4=aD:=⟨_,rfl⟩;rw[haD];obtain⟨σ5,hσ5⟩:∃σ5,(σ4.new (.cells z5)).set aD (.cells [sV ll,nS,nS,sV rl,slV eT 2 rks])=σ5:=⟨_,rfl⟩;rw[hσ5];have n5:nx σ5=aD+1:=gr
       have g5:∀b,b<aD->σ5.get b=σ4.get b:=fun b hb=>by rw[←hσ5,aa_,if_neg Om,ag_,if_neg Om]
       have d5:σ5.get aD=some (.cells [sV ll,nS,nS,sV rl,slV eT 2 rks]):=gr;have h5':BkS d r P mT σ5:=h4'.of_get (g5 P Om) (g5 mT Om)
       iterate  9 refine G ?_
       refine Hz (fun q:Nat×List Str×AV=>[(2,.pv [.pr P 0]),(4,.pr (nx σ+1) 0),(10,.pv [sV rl,slV eT 2 rks]),(11,.pr aD 0),(87,slV eT 2 lks),(88,nV lks.length),(89,nV q.1)]) (fun q σ0=>q.1<=lks.length/\q.2.1.length<=q.1/\Mc d (lks.drop q.1) q.2.1=Mc d lks []/\σ0.get aD=some (.cells [sV ll,q.2.2,nS,sV rl,slV eT 2 rks])/\Own σ0 (aD+1) e1 1 q.2.1 q.2.2/\aD+1<=nx σ0/\∀b,b<aD->σ0.get b=σ4.get b) (fun q=>lks.length-q.1) (0,[],nS) SL ⟨aq_ _,nl,rfl,d5,.nil,by omega,g5⟩ ?_
       rintro⟨i0,a0,v0⟩ σ0 ⟨hi0,ou,dg,hd0,bf,n0,g0⟩;have hi0:i0<=lks.length:=hi0;have ou:a0.length<=i0:=ou;have dg:Mc d (lks.drop i0) a0=Mc d lks []:=dg;have hd0:σ0.get aD=some (.cells [sV ll,v0,nS,sV rl,slV eT 2 rks]):=hd0;have bf:Own σ0 (aD+1) e1 1 a0 v0:=bf;have n0:aD+1<=nx σ0:=n0;have g0:∀b,b<aD->σ0.get b=σ4.get b:=g0;have h0':BkS d r P mT σ0:=h4'.of_get (g0 P Om) (g0 mT Om);have r0:σ0.get (nx σ+1)=some (.cells z5):=(g0 _ Om).trans r4
       have f0:PkF mT σ1 σ0:=⟨by omega,fun b q1 q2=>by rw[g0 b Om];exact f4.g b q1 q2⟩
       iterate  5 refine G ?_
       refine A0 rfl ?_ ?_<;>intro h7
       ·have bc:i0<lks.length:=Int.ofNat_lt.1 (of_decide_eq_true h7);obtain⟨k,hk⟩:=Ar bc
        obtain⟨lk,kk,rfl⟩:∃lk kk,k=.node lk kk:=by cases k;grind
        have hek:eT (.node lk kk)=[sV lk,slV eT 2 kk]:=Cl lk kk;rw[A4 hk]at dg
        have dg:(if(!vrD d lk||Ki a0 lk)=true then none else Mc d (lks.drop (i0+1)) (a0++[lk]))=Mc d lks []:=dg
        iterate  5 refine G ?_
        refine O1 (A1 elC Dh rfl rfl hk) (O1 (Ac ldC rfl rfl (show Cz 2 true (eT (Ax.node lk kk)++_)=some (.agg [sV lk,slV eT 2 kk])from by rw[←hek];exact A6 (Dh _) _)) ?_)
        iterate  7 refine G ?_
        refine Ca (f109 h0'.ob lk kk) ?_
        iterate  2 refine G ?_
        refine TOr 5 ?_ (fun hg=>?_) ?_
        rotate_left
        ·refine Gn hg ?_;refine On hg (lO hd0) ?_
         iterate  2 refine Gn hg ?_
         refine Bh rfl rfl rfl (by rw[hg];rfl) rfl rfl rfl rfl (f15o (s:=lk) bf Om) ?_
         exact Ez
        refine G ?_;refine A0 rfl ?_ ?_<;>intro h8
        ·rw[if_pos h8]at dg;have hr:Bb d r i=(zDf,212):=gr;have h0:=h0'
         iterate  3 refine G ?_
         refine O1 (sO (cs':=z5) r0) ?_
         iterate  2 refine G ?_
         refine Gi fun hw9=>?_
         refine G ?_
         exact⟨[.agg z5,_],Am (vs:=z5) (ldC (t:=41)) rfl (by simp only[Sto.cells];grind) rfl (Ba rfl rfl),.tup [.agg [sV [],.sv [] 1 0 none,.sv [] 1 0 none,sV [],.sv [] 2 0 none],_],_,a_ hw9 nl (fun _ _=>rfl),gr,.tup (.cons (.agg (.cons (.same rfl) (.cons (.nils gr) (.cons (.nils gr) (.cons (.same rfl) (.cons (.nils gr) .nil)))))) (.cons (.same rfl) .nil)),by rw[hr];rfl,(key _ h0 f0).1,(key _ h0 f0).2⟩
        ·rw[if_neg gr]at dg
         obtain⟨σ6,hap,n6,jc,g6⟩:=dn_ (enc:=e1) (sz:=1) (by':=16) (fun _=>rfl) n0 bf lk (by simp only[sizeLim];omega)
         have hd6:σ6.get aD=some (.cells [sV ll,v0,nS,sV rl,slV eT 2 rks]):=(g6 _ Om (fun e=>by have:=(bf.adr_lt e).1;omega)).trans hd0
         iterate  3 refine G ?_
         refine O1 (lO hd0) ?_
         iterate  2 refine G ?_
         refine Cx (Ai elC byW rfl rfl rfl) (Dv (len:=1)) rfl rfl (O1 (Av elC rfl slC rfl rfl rfl (new:=e1 lk) rfl hap) ?_);refine G ?_;refine O1 (sO (cs':=[sV ll,.sr (nx σ0) 0 1 (a0.length+1) none,nS,sV rl,slV eT 2 rks]) hd6) ?_
         iterate  5 refine G ?_
         exact⟨(i0+1,a0++[lk],.sr (nx σ0) 0 1 (a0.length+1) none),gr,SL,gr,gr,dg,gr,jc.of_get gr (fun b q=>by rw[aa_,if_neg (by have:=(jc.adr_lt q).1;omega)]),gr,fun b hb=>by rw[aa_,if_neg Om,g6 b Om (fun e=>by have:=(bf.adr_lt e).1;omega)];exact g0 b hb⟩
       ·have bj:lks.length<=i0:=bm_.1 (Int.not_lt.1 (fun q=>of_decide_eq_false h7 q))
        rw[ah_ bj]at dg;have dg:some a0=Mc d lks []:=dg;have hp3:Bb d r i=(⟨ll,a0,Xh d a0 (.node rl rks),.node rl rks⟩,0):=gr;have hNd:(⟨ll,a0,Xh d a0 (.node rl rks),.node rl rks⟩:Df).right=.node rl rks:=rfl;refine G ?_;obtain⟨aY,haY⟩:∃aY,nx σ0+1=aY:=⟨_,rfl⟩;obtain⟨σ7,hσ7⟩:∃σ7,σ0.bump.new (.loop .ready)=σ7:=⟨_,rfl⟩;have n7:nx σ7=nx σ0+2:=gr
        have g7:∀b,b<nx σ0->σ7.get b=σ0.get b:=fun b hb=>by rw[←hσ7,ag_,Bm,if_neg Om,Fh]
        have y7:σ7.get aY=some (.loop .ready):=gr
        have h58:Cv 58 [.agg [sV rl,slV eT 2 rks]] σ0 (Awm (.node rl rks)):=by have:=f58 (.node rl rks) σ0;rwa[Cg]at this
        iterate  4 refine G ?_
        refine Ca h58 ?_
        iterate  2 refine G ?_
        refine L6 rfl (fun tm htm=>?_)
        rw[hσ7,haY]
        refine et_ (f110 (L:=⟨aY,tm,Tryz.f53.ntmps,_,_,_⟩) (mT:=aY) (I:=fun(a:List Str) F τ=>∃vD,F=(fun b=>b=aD∨adr vD=some b)/\τ.get aY=some (.loop .ready)/\τ.get aD=some (.cells [sV ll,v0,vD,sV rl,slV eT 2 rks])/\Own τ (aY+1) e1 1 a vD/\(a.Nodup/\∀s∈a,vrD d s=true)/\aY<nx τ/\∀b,b<aY->b≠aD->τ.get b=σ7.get b) (J:=fun _ _=>False) (st:=fun a n=>some (Sw d a0 a n)) (ap_ ..) ⟨?ext,?y⟩ hkR [] (fun b=>b=aD) σ7 ⟨nS,by funext b;simp[adr],y7,(g7 _ Om).trans hd0,.nil,⟨dk_,gr⟩,by omega,fun _ _ _=>rfl⟩ gr Om) ?pos
        case ext=>
         rintro a F τ τ' ⟨vD,h1,h2,h3,h4,h5,h6,h7⟩ hn hg
         exact⟨vD,h1,gr,gr,h4.of_get hn (fun b q=>hg b (h4.adr_lt q).2),h5,by omega,gr⟩
        case y=>
         rintro a F k τ ⟨vD,rfl,hyt,hdt,hot,⟨hnd,hvr⟩,hlt,hgt⟩
         obtain⟨lk,kk,rfl⟩:∃lk kk,k=.node lk kk:=by cases k;grind
         have bl:=Axy hnd hvr;rw[Cg];obtain⟨τ1,hτ1⟩:∃τ1,τ.set aY (.loop .busy)=τ1:=⟨_,rfl⟩;have nt1:nx τ1=nx τ:=gr;have gt1:∀b,b≠aY->τ1.get b=τ.get b:=gr;have yt1:τ1.get aY=some (.loop .busy):=gr;have dt1:τ1.get aD=some (.cells [sV ll,v0,vD,sV rl,slV eT 2 rks]):=gr
         have ot1:Own τ1 (aY+1) e1 1 a vD:=hot.of_get Om (fun b q=>gt1 b (by have:=(hot.adr_lt q).1;omega))
         have gz:∀b,b<nx σ0->b≠aD->τ1.get b=σ0.get b:=gr
         have oA1:Own τ1 (aD+1) e1 1 a0 v0:=bf.of_get Om (fun b q=>gz b (bf.adr_lt q).2 (by have:=(bf.adr_lt q).1;omega))
         have bk1:BkS d r P mT τ1:=h0'.of_get (gz P Om Om) (gz mT Om Om);refine Tk htm rfl Kr Kr Kr hyt gr ?_
         iterate  3 refine G ?_
         refine⟨hyt,?_⟩;rw[show τ.set aY (.loop .busy)=τ1 from hτ1]
         iterate  5 refine G ?_
         refine Ca (f109 bk1.ob lk kk) ?_;refine G ?_;refine Hq 6 _ ?_ rfl rfl rfl rfl rfl (Eh rfl) (fun hg=>?_) (fun hg=>?_) ?_
         rotate_left
         ·refine Gn hg ?_;refine On hg (lO dt1) ?_
          iterate  2 refine Gn hg ?_
          refine Bh rfl rfl rfl (by rw[hg];rfl) rfl rfl rfl rfl (f15o (s:=lk) oA1 Om) ?_
          refine Gn hg ?_;refine G ?_;refine⟨rfl,?_,?_⟩
          ·exact sb
          ·exact rfl
         ·iterate 6 refine Of hg ?_
          refine G ?_;exact⟨rfl,sb⟩
         refine G ?_;refine Hq 6 _ ?_ rfl rfl rfl rfl rfl (Eh rfl) (fun hg=>?_) (fun hg=>?_) ?_
         rotate_left
         ·refine Gn hg ?_;refine On hg (lO dt1) ?_
          iterate  2 refine Gn hg ?_
          refine Bh rfl rfl rfl (by rw[hg];rfl) rfl rfl rfl rfl (f15o (s:=lk) ot1 Om) ?_
          refine Gn hg ?_;refine G ?_;refine⟨rfl,?_,?_⟩
          ·exact sb
          ·exact rfl
         ·iterate 6 refine Of hg ?_
          refine G ?_;exact⟨rfl,sb⟩
         refine G ?_;refine A0 rfl ?_ ?_<;>intro h9
         ·have hst:Sw d a0 a (.node lk kk)=a++[lk]:=if_pos h9;rw[ad_,ad_]at h9;obtain⟨⟨q1,_⟩,q3⟩:=h9
          have q3:lk∉a:=fun hm=>by
           have:Ki a lk=true:=e_.2 ⟨lk,hm,decide_eq_true rfl⟩
           grind
          obtain⟨τ2,hap,n2',bw,g2'⟩:=dn_ (enc:=e1) (sz:=1) (by':=16) (fun _=>rfl) (show aY+1<=nx τ1 by omega) ot1 lk (by simp only[sizeLim];omega)
          have hd2:τ2.get aD=some (.cells [sV ll,v0,vD,sV rl,slV eT 2 rks]):=(g2' _ Om (fun e=>by have:=(ot1.adr_lt e).1;omega)).trans dt1
          have hy2:τ2.get aY=some (.loop .busy):=(g2' _ Om (fun e=>by have:=(ot1.adr_lt e).1;omega)).trans yt1
          iterate  2 refine G ?_
          refine O1 (lO dt1) ?_
          iterate  2 refine G ?_
          refine Cx (Ai elC byW rfl rfl rfl) (Dv (len:=1)) rfl rfl (O1 (Av elC rfl slC rfl rfl rfl (new:=e1 lk) rfl hap) ?_);refine G ?_;refine O1 (sO (cs':=[sV ll,v0,.sr (nx τ1) 0 1 (a.length+1) none,sV rl,slV eT 2 rks]) hd2) ?_;refine G ?_;refine⟨gr,?_⟩;rw[hst]
          refine⟨rfl,_,⟨.sr (nx τ1) 0 1 (a.length+1) none,rfl,by rw[aa_,if_pos rfl];rfl,by rw[aa_,if_neg gr,aa_,if_pos rfl],?_,⟨?_,?_⟩,gr,?_⟩,?_⟩
          ·exact bw.of_get gr (fun b q=>by have:=(bw.adr_lt q).1;rw[aa_,if_neg gr,aa_,if_neg Om])
          ·grind
          ·grind
          ·intro b hb hne
           rw[aa_,if_neg gr,aa_,if_neg hne,g2' b Om (fun e=>by have:=(ot1.adr_lt e).1;omega),gt1 b Om]
           grind
          ·refine⟨gr,fun b hb=>?_,fun b hb hF h1 _=>?_⟩
           ·rcases hb with rfl|hb
            ·grind
            ·have hb:some (nx τ1)=some b:=hb
             grind
           grind
         ·have hst:Sw d a0 a (.node lk kk)=a:=if_neg (fun q=>by have q:=q.symm.trans h9;cases q)
          refine G ?_;refine⟨yt1,?_⟩;rw[hst]
          refine⟨rfl,_,⟨vD,rfl,by rw[aa_,if_pos rfl];rfl,gr,ot1.of_get gr (fun b q=>by rw[aa_,if_neg (by have:=(ot1.adr_lt q).1;grind)]),⟨hnd,hvr⟩,gr,gr⟩,.of gr gr⟩
        case pos=>
         intro u σ' bh;rw[Ahp]at bh;obtain⟨F',⟨vD,_,hy9,hd9,ho9,_,hl9,hg9⟩,ig⟩:=bh;have hg9:∀b,b<nx σ0->b≠aD->σ'.get b=σ0.get b:=gr;refine⟨.normal,hy9,?_⟩;obtain⟨σ9,hσ9⟩:∃σ9,σ'.kill aY=σ9:=⟨_,rfl⟩;rw[show σ'.kill aY=σ9 from hσ9]
         have n9:nx σ9=nx σ':=gr;have k9:∀b,b≠aY->σ9.get b=σ'.get b:=gr;have d9:σ9.get aD=some (.cells [sV ll,v0,vD,sV rl,slV eT 2 rks]):=(k9 _ Om).trans hd9;have r9:σ9.get (nx σ+1)=some (.cells z5):=gr
         have oD9:Own σ9 (aY+1) e1 1 (Xh d a0 (.node rl rks)) vD:=ho9.of_get Om (fun b q=>k9 b (by have:=(ho9.adr_lt q).1;omega))
         have oA9:Own σ9 (aD+1) e1 1 a0 v0:=bf.of_get Om (fun b q=>by have:=bf.adr_lt q;grind)
         have hEd:eDf ⟨ll,a0,Xh d a0 (.node rl rks),.node rl rks⟩=[sV ll,Af a0,Af (Xh d a0 (.node rl rks)),sV rl,slV eT 2 rks]:=by unfold eDf;rw[Cl];rfl
         iterate  2 refine G ?_
         refine O1 (lO d9) (O1 (sO (cs':=[sV ll,v0,vD,sV rl,slV eT 2 rks]) r9) ?_)
         iterate  3 refine G ?_
         have hno:∀a,aD+1<=a->(σ4.kill (nx σ+1)).get a=none:=fun a ha=>by rw[bf_,if_neg Om];exact hw4.none Om
         have hpk:PkF mT σ (σ4.kill (nx σ+1)):=⟨gr,fun b q1 q2=>by rw[bf_,if_neg Om,f4.g b Om q2];exact g1 b q1⟩
         refine⟨[.agg [sV ll,v0,vD,sV rl,slV eT 2 rks],_],Am (vs:=[sV ll,v0,vD,sV rl,slV eT 2 rks]) (ldC (t:=41)) rfl (by simp only[Sto.cells];grind) rfl (Ba rfl rfl),.tup [.agg [sV ll,Af a0,Af (Xh d a0 (.node rl rks)),sV rl,slV eT 2 rks],iV 0],σ4.kill (nx σ+1),?_,hpk.n,?_,gr,h4'.of_get gr gr,hpk⟩
         ·refine ft_ (hw4.kill _) gr fun b O hb=>?_
          rw[bf_]at hb
          split at hb
          ·cases hb
          ·rename_i hne
           have hlb:=(hw4 _ _ hb).1;rw[aa_,if_neg hne,k9 b Om,hg9 b Om Om,g0 b Om];exact hb
         ·have q1:Own (σ9.set (nx σ+1) (.cells [sV ll,v0,vD,sV rl,slV eT 2 rks])) (aD+1) e1 1 a0 v0:=oA9.of_get gr (fun b q=>by rw[aa_,if_neg (by have:=(oA9.adr_lt q).1;omega)])
          have q2:Own (σ9.set (nx σ+1) (.cells [sV ll,v0,vD,sV rl,slV eT 2 rks])) (aY+1) e1 1 (Xh d a0 (.node rl rks)) vD:=oD9.of_get gr (fun b q=>by rw[aa_,if_neg (by have:=(oD9.adr_lt q).1;omega)])
          exact .tup (.cons (.agg (.cons (.same rfl) (.cons (q1.fz (fun _=>rfl) hno (A2 D9 _)) (.cons (q2.fz (fun _=>rfl) (fun a ha=>hno a Om) (A2 D9 _)) (dj_ (hur _)))))) (.cons (.same rfl) .nil))
theorem Alw{g:Gr}{t:Str}(h:[124,45]∉g.sorts)(ht:t≠[124,45]):[124,45]∉Vk g t:=by
 unfold Vk
 grind
theorem Akc{hy:SM Hp}:∀{l:List Str} {g g':Gr},Kw hy l g=some g'->(∀r∈g.rules,r.var=true)->[124,45]∉g.sorts->(∀r∈g'.rules,r.var=true)/\[124,45]∉g'.sorts
 |[],g,g',h,h1,h2=>by cases h;grind
 |v::l,g,g',h,h1,h2=>by
  unfold Kw at h
  split at h
  ·cases h
  ·split at h
   ·cases h
   ·rename_i hh _ hne
    refine Akc h (fun r hr=>?_) (Alw h2 gr)
    rcases bb_.1 hr with q|q
    ·exact h1 r q
    grind
theorem O7:∀{l:List Fr} {g g':Gr},F6 l g=some g'->g'.sorts=g.sorts/\∀r∈g'.rules,r∈g.rules∨∃f∈l,Hs f=some r/\f.text.headD []∈g.sorts
 |[],g,g',h=>by cases h;grind
 |f::l,g,g',h=>by
  unfold F6 at h
  split at h
  ·obtain⟨a,b⟩:=O7 h
   grind
  ·rename_i hs
   split at h
   ·cases h
   ·rename_i rl hrl
    obtain⟨a,b⟩:=O7 h;refine⟨a,fun r hr=>?_⟩
    rcases b r hr with q|⟨f',q1,q2⟩
    ·rcases bb_.1 q with q|q
     ·exact .inl q
     ·rw[ao_.1 q];refine .inr ⟨f,ap_ ..,hrl,?_⟩;unfold Acf at hs
      grind
    grind
theorem Atg{d:Db}{r:Rl}(h:r∈(ofF d).1.rules)(hv:r.var=false):∃f∈d.frames,f.label=r.label/\f.text.headD []≠[124,45]:=by
 unfold ofF at h
 split at h
 ·cases h
 ·split at h
  ·cases h
  ·rename_i g hg
   obtain⟨h1,h2⟩:=Akc hg (fun r hr=>by cases hr) (fun q=>by cases q)
   split at h
   ·cases h
   ·rename_i g' hg'
    split at h
    ·cases h
    ·rcases(O7 hg').2 r h with q|⟨f,q1,q2,q3⟩
     ·grind
     ·refine⟨f,q1,?_,fun e=>h2 (e▸q3)⟩
      unfold Hs at q2
      grind
theorem Xj{d:Db}{r:Rs}(he:∀s,Ki r.equal s=true->eqD d s=true){i:Nat}{x:Df}(h:Bb d r i=(x,0)):∃f lab left right,d.frames[i]? =some f/\Nv f.text=true/\(B1 d f.text)=(.node lab [left,right],0)/\Mb left=x.label/\x.right=right/\vrD d (Mb left)=false/\KB left/\ArT (ofF d).1 left/\KB right/\Mc d (Afu left) []=some x.args/\x.dummies=Xh d x.args right/\M6 (.node lab [left,right])<=4000:=by
 unfold Bb at h
 split at h
 ·grind
 ·rename_i f hf
  split at h
  ·grind
  ·rename_i h1
   split at h
   ·grind
   ·split at h
    ·grind
    ·rename_i h3
     obtain⟨T,e,hT⟩:∃T e,B1 d f.text=(T,e):=⟨_,_,rfl⟩;rw[hT]at h h3;have h3:e=0:=Classical.byContradiction h3;subst h3;obtain⟨hA,hK,hC⟩:=Q3 hT
     obtain⟨lab,ks,rfl⟩:∃lab ks,T=.node lab ks:=by cases T;grind
     unfold Vw at h
     split at h
     ·grind
     ·rename_i h4
      have h4:Ki r.equal lab=true:=by
       cases hq:Ki r.equal lab with
       |true=>rfl
       |false=>exact absurd (show(!Ki r.equal (Mb (.node lab ks)))=true by show(!Ki r.equal lab)=true;rw[hq];rfl) h4
      obtain⟨left,right,rfl⟩:=Aj9 hA (he lab h4);have h:M7 d left right=(x,0):=h;unfold M7 at h
      split at h
      ·grind
      ·rename_i h5
       split at h
       ·grind
       ·rename_i args bp
        have hx:=(Prod.mk.inj h).1
        refine⟨f,lab,left,right,hf,?_,hT,by rw[←hx],by rw[←hx],gr,?_,?_,?_,gr,by rw[←hx],hC⟩
        ·grind
        ·cases hK with
         |node _ hk=>exact hk _ (ap_ ..)
        ·generalize hQ:Ax.node lab [left,right]=Q at hA
         cases hA with
         |node _ _ hk=>
          obtain⟨_,rfl⟩:=Ax.node.inj hQ;exact hk _ (ap_ ..)
        ·cases hK with
         |node _ hk=>exact hk _ (aj_ _ (ap_ ..))
theorem Acy{d:Db}{r:Rs}(he:∀s,Ki r.equal s=true->eqD d s=true){i:Nat}{x:Df}(h:Bb d r i=(x,0)):KB x.right/\x.args.length<=10000/\x.dummies.length<=10000:=by
 obtain⟨f,lab,left,right,_,_,_,_,hr,_,_,_,hK,ha,hd,hc⟩:=Xj he h;rw[M6,Ach,Ach,Ach]at hc;refine⟨hr▸hK,?_,?_⟩
 ·have:=Afv _ _ _ ha
  have h2:(Afu left).length<=M6 left:=by
   cases left with
   |node l ks=>have:=Ajh ks;rw[M6];show ks.length<=_;omega
  grind
 ·rw[hd];have:=An0 (d:=d) (args:=x.args) (Sh right) [];rw[An1]at this
  show((Sh right).foldl (Sw d x.args) []).length<=_
  grind
theorem Ath{d:Db}{r:Rs}(he:∀s,Ki r.equal s=true->eqD d s=true)(i:Nat):KB (Bb d r i).1.right:=by
 by_cases h:(Bb d r i).2=0
 ·exact(Acy he (show Bb d r i=((Bb d r i).1,0)from Prod.ext rfl h)).1
 ·have hz:(Bb d r i).1=zDf:=by
   unfold Bb at h⊢
   split
   ·rfl
   ·rename_i f hf
    rw[hf]at h;simp only at h
    split
    ·rfl
    ·rename_i h1
     rw[if_neg h1]at h
     split
     ·rfl
     ·rename_i h2
      rw[if_neg h2]at h
      split
      ·rfl
      ·rename_i h3
       rw[if_neg h3]at h;unfold Vw at h⊢
       split
       ·rfl
       ·rename_i h4
        rw[if_neg h4]at h
        split
        ·rename_i hk
         rw[hk]at h;simp only at h;unfold M7 at h⊢
         split
         ·rfl
         ·rename_i h5
          rw[if_neg h5]at h
          split
          ·rfl
          grind
        ·rfl
  rw[hz];exact Atd
theorem Aqb(t:Ax):Hk t (Mb t)=true:=by
 cases t with
 |node l ks=>rw[R0];simp[Mb]
theorem Avn{d:Db}{t:Ax}(h:ArT (ofF d).1 t)(hv:vrD d (Mb t)=false):∃f∈d.frames,f.label=Mb t/\f.text.headD []≠[124,45]:=by
 cases h with
 |@node r ks hr _ _=>
  obtain⟨rl,hrl⟩:=Ar hr
  have iq:Md (ofF d).1 r=rl.label:=by unfold Md;rw[hrl]
  have hv:vrD d (Md (ofF d).1 r)=false:=hv
  show ∃f∈d.frames,f.label=Md (ofF d).1 r/\_
  rw[iq]at hv⊢;have hro:F4 (ofF d).1.rules rl.label=some rl:=Aft (Yc d).nd hrl
  have:vrD d rl.label=rl.var:=by unfold vrD rlB rlD;rw[hro];rfl
  rw[this]at hv;exact Atg (ab_ hrl) hv
theorem Akd{f:Fr}(h:Nv f.text=true):f.text∈fmF f:=by
 unfold fmF;grind
theorem Avo{f:Fr}{h:Hp}(hm:h∈f.hyps)(h1:h.floating=false)(h2:Nv h.text=true):h.text∈fmF f:=by
 unfold fmF hyF
 grind
def asT(d:Db)(f:Fr):List Ax:=(f.text::(f.hyps.filter fun h=> !h.floating).map (·.text)).filterMap fun l=>if(B1 d l).2=0/\Nv l=true then some (B1 d l).1 else none
theorem An3{d:Db}{f:Fr}{t:Ax}(h:t∈asT d f):∃l∈fmF f,B1 d l=(t,0):=by
 unfold asT at h;obtain⟨l,hl,he⟩:=List.mem_filterMap.1 h
 split at he
 ·rename_i hc
  cases he;refine⟨l,?_,Prod.ext rfl hc.1⟩
  rcases an_.1 hl with rfl|hl
  ·exact Akd hc.2
  ·obtain⟨h,hm,rfl⟩:=bt_.1 hl;obtain⟨h1,h2⟩:=cp_.1 hm;exact Avo h1 gr hc.2
 ·cases he
theorem Acz{d:Db}{x:Df}{i:Nat}(h:I8 d x i=false){f:Fr}(hf:f∈d.frames.take i){l:List Str}(hl:l∈fmF f){t:Ax}(ht:B1 d l=(t,0)):Hk t x.label=false:=by
 unfold I8 at h;rw[bv_]at h;have:=dv_.1 h.2 l (List.mem_flatMap.2 ⟨f,hf,hl⟩);unfold usF at this
 grind
theorem Yg{d:Db}{x:Df}{i:Nat}(h:I8 d x i=false){j:Nat}(hj:i<j){f:Fr}(hf:d.frames[j]? =some f):f.label≠x.label:=fun e=>by
 unfold I8 at h;rw[bv_]at h
 have hm:f∈d.frames.drop (i+1):=by
  refine ab_ (i:=j-(i+1)) ?_
  grind
 grind
structure NewOk (d:Db)(r:Rs)(i:Nat)(x:Df):Prop where
 p:Bb d r i=(x,0)
 c:Hk x.right x.label=false
 k:∃k,k<i/\A5 (fun f:Fr=>decide (f.label=x.label)) d.frames 0=Int.ofNat k
 a:∀f∈d.frames.take i,∀t∈asT d f,Hk t x.label=false
theorem Axz{d:Db}{r:Rs}(he:∀s,Ki r.equal s=true->eqD d s=true){i:Nat}{x:Df}(h:Ck d r i=(x,0)):NewOk d r i x:=by
 obtain⟨h1,h2,h3⟩:=Xi h;refine⟨h1,h3,?_,fun f hf t ht=>?_⟩
 ·obtain⟨f,lab,left,right,hf,ha,hT,hl,_,hv,_,hA,_⟩:=Xj he h1;obtain⟨f',hm,hl',hne⟩:=Avn hA hv
  rcases Ha (p:=fun f:Fr=>decide (f.label=x.label)) d.frames 0 with⟨_,hn⟩|⟨k,f'',hk,hat,hp,hn⟩
  ·grind
  ·refine⟨k,?_,gr⟩;have hkl:=(ae_.1 hat).1;have hpl:f''.label=x.label:=of_decide_eq_true hp
   rcases Nat.lt_trichotomy k i with q|q|q
   ·exact q
   ·exfalso

    obtain⟨j,hj⟩:=au_.1 hm;have hji:j<=i:=Classical.byContradiction fun q=>Yg h2 Om hj (hl'.trans hl)
    rcases Nat.lt_or_ge j i with q2|q2
    ·have:f'∈d.frames.take k:=ab_ (i:=j) gr
     grind
    ·have:j=i:=by omega
     subst this;rw[hf]at hj;cases hj;unfold Nv at ha;refine hne ?_;have ha:=of_decide_eq_true ha;cases hx:f.text with
     |nil=>rw[hx]at ha;cases ha
     |cons a b=>rw[hx]at ha;cases ha;rfl
   ·exact absurd hpl (Yg h2 q hat)
 ·obtain⟨l,hl,htr⟩:=An3 ht;exact Acz h2 hf hl htr
theorem Ax0{d:Db}{r:Rs}(he:∀s,Ki r.equal s=true->eqD d s=true){i:Nat}{x:Df}(h:Ck d r i=(x,0)):∃f l t,d.frames[i]? =some f/\l∈fmF f/\B1 d l=(t,0)/\Hk t x.label=true/\∀s,Hk x.right s=true->Hk t s=true:=by
 obtain⟨h1,_,_⟩:=Xi h;obtain⟨f,lab,left,right,hf,ha,hT,hl,hr,_⟩:=Xj he h1;refine⟨f,f.text,_,hf,Akd ha,hT,?_,fun s hs=>?_⟩
 ·rw[R0,←hl];simp[Aqb]
 ·rw[hr]at hs;rw[R0];simp[hs]
theorem Ax1{d:Db}{r:Rs}(he:∀s,Ki r.equal s=true->eqD d s=true){i j:Nat}{x y:Df}(hx:Ck d r i=(x,0))(hy:Ck d r j=(y,0))(hij:i<j):x.label≠y.label/\Hk x.right y.label=false:=by
 obtain⟨f,l,t,hf,hl,ht,h1,h2⟩:=Ax0 he hx;obtain⟨_,k2,_⟩:=Xi hy;have hm:f∈d.frames.take j:=ab_ (i:=i) gr;have:=Acz k2 hm hl ht
 grind
theorem Tx{d:Db}{r:Rs}(h:Kh d r=0):(∀s,Ki r.equal s=true->eqD d s=true)/\(ofF d).2=0/\r.equal.length<=40/\r.bound.length<=40:=by
 unfold Kh at h
 split at h
 ·grind
 ·rename_i h1
  split at h
  ·cases h
  ·rename_i h2
   split at h
   ·cases h
   ·rename_i h3
    simp only[bk_,not_or]at h3
    refine⟨fun s hs=>?_,Classical.byContradiction h1,by omega,by omega⟩
    obtain⟨y,hy,e⟩:=e_.1 hs
    grind
structure DOk (d:Db)(r:Rs):Prop where
 db:DbB d
 vf:d.vars.length+d.frames.length<1000000
 ok:∀f∈d.frames,Acx f.text/\∀h∈f.hyps,Acx h.text
 ne:Pne d
 op:Kh d r=0
 ap:∀f∈d.frames,f.apart.length<=1000000
theorem DOk.f53{d:Db}{r:Rs}(H:DOk d r){P mT:Nat}{σ:Sto}(h:BkS d r P mT σ){i:Nat}(hi:i<d.frames.length):
  Al Ew 53 [.pr P 0,nV i] σ fun v σ'=>v=.tup [.agg (eDf (Bb d r i).1),iV (Bb d r i).2]/\BkS d r P mT σ'/\PkF mT σ σ':=by
 obtain⟨f,hf⟩:=Ar hi
 exact Go.AM.f53 H.db H.vf H.ok (Tx H.op).1 (by have:=(Tx H.op).2.2.1;omega) h hf hi
theorem DOk.f101{d:Db}{r:Rs}(H:DOk d r){P mT:Nat}{σ:Sto}(h:BkS d r P mT σ){i:Nat}(hi:i<d.frames.length):
  Al Ew 101 [.pr P 0,nV i] σ fun v σ'=>v=.tup [.agg (eDf (Ck d r i).1),iV (Ck d r i).2]/\BkS d r P mT σ'/\PkF mT σ σ':=by
 obtain⟨f,hf⟩:=Ar hi
 exact Go.AM.f101 H.db H.vf H.ok H.ne (by have:=(Tx H.op).2.2.2;omega) h hf hi (H.ap f (ab_ hf)) (fun x hx=>Acy (Tx H.op).1 hx) fun σ hb=>H.f53 hb hi
structure ACons (Ls:List RF)(L:RF)(d:Db)(r:Rs)(P mT:Nat){α:Type}(I:Nat->α->(Nat->Prop)->Sto->Prop)(J:XE->Sto->Prop)(st:α->Nat×Df->Option α):Prop where
 ext:∀n n' a F τ τ',I n a F τ->n<=n'->nx τ<=nx τ'->(∀b,b<nx τ->b≠mT->τ'.get b=τ.get b)->I n' a F τ'
 y:∀n a F i x τ,n<=i->i<d.frames.length->Ck d r i=(x,0)->BkS d r P mT τ->I n a F τ->YX Ew Ls L [nV i,.agg (eDf x)] τ fun z τ'=>BkS d r P mT τ'/\match st a (i,x)with
  |some a'=>z=.normal/\∃F',I (i+1) a' F' τ'/\Con mT mT F τ F' τ'
  |none=>z≠.normal/\J z τ'
def Vx(d:Db)(r:Rs)(i:Nat):List (Nat×Df):=((List.range d.frames.length).drop i).filterMap fun i=>if(Ck d r i).2=0 then some (i,(Ck d r i).1)else none
theorem Alx{d:Db}{r:Rs}{i:Nat}(hi:i<d.frames.length):Vx d r i=(if(Ck d r i).2=0 then[(i,(Ck d r i).1)]else[])++Vx d r (i+1):=by
 have:(List.range d.frames.length)[i]? =some i:=List.getElem?_range hi;unfold Vx;rw[A4 this,List.filterMap_cons]
 grind
theorem Ake{d:Db}{r:Rs}{i:Nat}{x:Df}(h:(i,x)∈Ip d r):i<d.frames.length/\Ck d r i=(x,0):=by
 unfold Ip at h
 grind
def Awp(P:Nat):AV:=.fn (.func 105) [] [.pv [.pr P 0]]
theorem f52{P:Nat}{σ:Sto}(hP:P<nx σ):Cv 52 [.pr P 0] σ (Awp P):=by
 refine Aj Tryz.func52 rfl rfl fun hw hu0=>?_
 refine G11 ?_
 exact⟨_,rfl,_,_,a_ hw nl (fun _ _=>rfl),nl,.same (show AV.und (nx σ) (Awp P)=true from by show(true&&((Nat.blt P (nx σ)&&true)&&true))=true;rw[Ce hP];rfl),rfl,rfl⟩
theorem Ax2(x:Df):Cz 5 true (eDf x)=some (.agg (eDf x)):=by
 have:=A6 (F8 x) []
 grind
theorem f105{Ls:List RF}{L:RF}(hL:L∈Ls){d:Db}{r:Rs}{P mT:Nat}(H:DOk d r){α:Type}{I:Nat->α->(Nat->Prop)->Sto->Prop}{J:XE->Sto->Prop}{st:α->Nat×Df->Option α}(hC:ACons Ls L d r P mT I J st)(acc:α)(F:Nat->Prop)(σ:Sto)(hB:BkS d r P mT σ)(hI:I 0 acc F σ)(hF:∀b,F b->b<nx σ):
  Hl Ew Ls 105 (.yl L.aY::[.pv [.pr P 0]]) σ fun _ σ'=>BkS d r P mT σ'/\match foM st (Ip d r) acc with
   |some a'=>∃F',I d.frames.length a' F' σ'/\Con mT mT F σ F' σ'
   |none=>nx σ<=nx σ'/\∃x,x≠.normal/\J x σ':=by
 have hfn:=H.db.n;have hIb:I 0 acc F σ.bump:=hC.ext _ _ _ _ _ _ hI nl gr fun _ _ _=>Fe
 have hBb:BkS d r P mT σ.bump:=hB.of_get Fe Fe;refine Mo Tryz.func105 (Ke _ _ Tryz.func105) rfl rfl fun hw hu0=>?_
 refine Oo ?_
 iterate  6 refine G ?_
 refine O1 (lO hBb.ob) ?_
 iterate  4 refine G ?_
 refine Hz (fun q:Nat×α=>[(0,.yl L.aY),(1,.pv [.pr P 0]),(11,nV d.frames.length),(12,nV q.1)]) (fun q σ0=>q.1<=d.frames.length/\∃F0,I q.1 q.2 F0 σ0/\BkS d r P mT σ0/\Con mT mT F σ F0 σ0/\nx σ+1<=nx σ0/\foM st (Vx d r q.1) q.2=foM st (Ip d r) acc) (fun q=>d.frames.length-q.1) (0,acc) SL ⟨aq_ _,F,hIb,hBb,.of gr (fun _ _ _ _=>Fe),gr,rfl⟩ ?_
 rintro⟨i0,a0⟩ σ0 ⟨hi0,F0,hI0,hB0,hc0,n0,bu⟩;have hi0:i0<=d.frames.length:=hi0;have hI0:I i0 a0 F0 σ0:=hI0;have bu:foM st (Vx d r i0) a0=foM st (Ip d r) acc:=bu
 iterate  5 refine G ?_
 refine A0 rfl ?_ ?_<;>intro h1
 ·have bc:i0<d.frames.length:=Int.ofNat_lt.1 (of_decide_eq_true h1);rw[Alx bc]at bu;obtain⟨x,e,hxe⟩:∃x e,Ck d r i0=(x,e):=⟨_,_,rfl⟩;have hcA:=H.f101 hB0 bc;rw[hxe]at hcA bu
  iterate  12 refine G ?_
  refine Az rfl rfl rfl rfl hcA ?_;rintro _ σ1 ⟨rfl,hB1,hp1⟩
  iterate  3 refine G ?_
  refine Mp ziC ldC rfl (fun _=>rfl) rfl (A7 (F8 x)) rfl ?_
  iterate  2 refine G ?_
  have hn1:=hp1.n;have hI1:I i0 a0 F0 σ1:=hC.ext _ _ _ _ _ _ hI0 nl hp1.n hp1.g;have hc1:Con mT mT F σ F0 σ1:=hc0.trans (.of hp1.n fun b hb h1 _=>hp1.g b hb h1)
  refine Cf ?_;refine Er ?_;refine Gm 3 fun df=>?_
  iterate  4 refine G ?_
  by_cases hb:e=0
  ·subst hb;have bu:foM st ((i0,x)::Vx d r (i0+1)) a0=foM st (Ip d r) acc:=bu;refine TOp 3 ?_;refine Bi rfl rfl rfl rfl rfl noR rfl rfl (Ag rfl) (Bi rfl rfl rfl rfl rfl noR rfl rfl (Ag rfl) (Bi rfl rfl rfl rfl rfl noR rfl rfl (Ac ldC rfl rfl (Ax2 x)) ?_));refine G ?_;refine Lg hL (fun tm ht=>Ft rfl rfl rfl rfl rfl _ Hy.refl tm ht) rfl rfl rfl rfl (hC.y i0 a0 F0 i0 x σ1 nl bc hxe hB1 hI1) fun z σ5 hp5 hn5=>?_
   obtain⟨hB5,hp5⟩:=hp5;cases hst:st a0 (i0,x)with
   |none=>
    rw[hst]at hp5;obtain⟨hx5,hJ5⟩:=hp5
    have hgo:Iu z=false:=by cases z<;>first|exact absurd rfl hx5|rfl
    rw[hgo];refine TOp 2 ?_;refine Bi rfl rfl rfl rfl rfl noR rfl rfl (Dc rfl) (O1 (A3 rfl rfl rfl) ?_)
    iterate  2 refine G ?_
    refine A0 rfl (fun h3=>?_) gr
    refine G ?_;intro hw9
    refine⟨[],rfl,_,_,a_ hw9 nl (fun _ _=>rfl),by omega,.same rfl,hB5,?_⟩
    rw[←bu];simp only[foM,hst]
    exact⟨by omega,z,hx5,hJ5⟩
   |some a5=>
    rw[hst]at hp5;obtain⟨rfl,F5,hI5,hc5⟩:=hp5;refine TOp 2 ?_;refine Bi rfl rfl rfl rfl rfl noR rfl rfl (Dc rfl) (O1 (A3 rfl rfl rfl) ?_)
    iterate  2 refine G ?_
    refine A0 rfl (fun h3=>by cases h3) (fun h3=>?_)
    iterate  5 refine G ?_
    refine⟨(i0+1,a5),gr,SL,gr,F5,hI5,hB5,hc1.trans hc5,by omega,?_⟩
    rw[←bu];simp only[foM,hst]
  ·rw[if_neg hb]at bu;have bu:foM st (Vx d r (i0+1)) a0=foM st (Ip d r) acc:=bu;have hbb:decide (e=0)=false:=decide_eq_false hb;rw[hbb];refine TOp 6 ?_;refine Co rfl rfl rfl rfl rfl rfl (Co rfl rfl rfl rfl rfl rfl (Co rfl rfl rfl rfl rfl rfl (Co rfl rfl rfl rfl rfl rfl (Co rfl rfl rfl rfl rfl rfl (O1 (Au rfl rfl rfl) ?_)))))
   iterate  2 refine G ?_
   refine A0 rfl gr (fun h3=>?_)
   iterate  5 refine G ?_
   exact⟨(i0+1,a0),gr,SL,gr,F0,hC.ext _ _ _ _ _ _ hI1 (dm_ _) nl (fun _ _ _=>rfl),hB1,hc1,by omega,bu⟩
 ·have bj:d.frames.length<=i0:=bm_.1 (Int.not_lt.1 (fun q=>of_decide_eq_false h1 q))
  have hie:i0=d.frames.length:=by omega
  subst hie
  have fj:Vx d r d.frames.length=[]:=by unfold Vx;rw[ah_ gr];rfl
  rw[fj]at bu;refine G ?_;intro hw9
  refine⟨[],rfl,_,_,a_ hw9 nl (fun _ _=>rfl),by omega,.same rfl,hB0,?_⟩
  rw[←bu];exact⟨F0,hI0,hc0⟩
def eNn(n:Nat):List AV:=[nV n]
def Ac0(d:Db)(r:Rs):List Nat×Int:=if Kh d r≠0 then([],Kh d r)else((Ip d r).map (·.1),0)
theorem Akf{α β:Type}:∀(l:List (α×β)) (a:List α),l.foldl (fun a q=>a++[q.1]) a=a++l.map (·.1)
 |[],a=>by simp
 |q::l,a=>by rw[ct_,Akf l,ca_];rfl
theorem BkS.lt{d:Db}{r:Rs}{P mT:Nat}{σ:Sto}(h:BkS d r P mT σ)(hw:WFS σ):P<nx σ/\mT<nx σ:=by
 refine⟨(hw _ _ h.ob).1,?_⟩;obtain⟨M,⟨v,hM⟩,_⟩:=h.mp;exact(hw _ _ hM).1
theorem f11{d:Db}{r:Rs}(hD:DbB d)(hvf:d.vars.length+d.frames.length<1000000)(hH:Kh d r=0->DOk d r)(σ:Sto):
  Cv 11 [dbV d,.agg (eRs r)] σ (.tup [slV eNn 1 (Ac0 d r).1,iV (Ac0 d r).2]):=by
 have hfn:=hD.n;refine gm_ ?_;refine Mo Tryz.func11 (Ke _ _ Tryz.func11) rfl rfl fun hw hu0=>?_
 iterate  11 refine G ?_
 refine Az rfl rfl rfl rfl (f51 r _ hD hvf) ?_
 rintro _ σ1 (⟨ho,rfl,rfl⟩|⟨ho,P,mT,rfl,hB1,hP1,hm1,hm2,n1,g1⟩)
 ·have bs:Ac0 d r=([],Kh d r):=if_pos ho
  iterate  12 refine G ?_
  refine A0 rfl (fun h1=>?_) (fun h1=>absurd h1 (by simp[ho]))
  iterate  7 refine G ?_
  rw[bs];exact⟨_,rfl,.tup [.sv [] 1 0 none,iV (Kh d r)],σ,am_ hw ⟨gr,fun _ _=>Fe⟩,nl,.tup (.cons (.nils gr) (.cons (.same rfl) .nil)),rfl,rfl⟩
 ·have H:=hH ho;have bs:Ac0 d r=((Ip d r).map (·.1),0):=if_neg (fun q=>q ho)
  rw[Bm]at hP1 hm1 n1 g1;have g1:∀b,b<nx σ->σ1.get b=σ.get b:=gr
  iterate  12 refine G ?_
  refine A0 rfl gr (fun h1=>?_)
  refine G ?_;obtain⟨σ2,hσ2⟩:∃σ2,σ1.new (.cells [nS])=σ2:=⟨_,rfl⟩;have n2:nx σ2=nx σ1+1:=gr;have g2:∀b,b<nx σ1->σ2.get b=σ1.get b:=gr;have l2:σ2.get (nx σ1)=some (.cells [nS]):=gr;refine Gi fun hw1=>?_
  have hP2:=(hB1.lt hw1).1;have hB2:BkS d r P mT σ2:=hB1.of_get (g2 P hP2) (g2 mT hm2)
  iterate  2 refine G ?_
  refine O1 (Bj (n:=nx σ1) ziC rfl) ?_;refine G ?_;rw[hσ2];obtain⟨aL,haL⟩:∃aL,nx σ1=aL:=⟨_,rfl⟩;rw[haL]at l2 n2 g2 hP2 hm2⊢;obtain⟨aY,haY⟩:∃aY,nx σ2+1=aY:=⟨_,rfl⟩;obtain⟨σ7,hσ7⟩:∃σ7,σ2.bump.new (.loop .ready)=σ7:=⟨_,rfl⟩;have n7:nx σ7=nx σ2+2:=gr;have g7:∀b,b<nx σ2->σ7.get b=σ2.get b:=gr;have y7:σ7.get aY=some (.loop .ready):=gr;have hB7:BkS d r P mT σ7:=hB2.of_get (g7 P Om) (g7 mT Om)
  iterate  4 refine G ?_
  refine Nm rfl rfl rfl rfl (f52 (σ:=σ2) Om) ?_
  iterate  2 refine G ?_
  refine L6 rfl (fun tm htm=>?_)
  rw[hσ7,haY]
  refine et_ (f105 (L:=⟨aY,tm,Tryz.f11.ntmps,_,_,_⟩) (I:=fun n (a:List Nat) F τ=>∃vL,F=(fun b=>b=aL∨adr vL=some b)/\τ.get aY=some (.loop .ready)/\τ.get aL=some (.cells [vL])/\Own τ (aY+1) eNn 1 a vL/\a.length<=n/\aY<nx τ/\∀b,b<nx σ->τ.get b=σ.get b) (J:=fun _ _=>False) (st:=fun a q=>some (a++[q.1])) (ap_ ..) H ⟨?ext,?y⟩ [] (fun b=>b=aL) σ7 hB7 ⟨nS,by funext b;simp[adr],y7,(g7 _ Om).trans l2,.nil,aq_ _,by omega,gr⟩ gr) ?pos
  case ext=>
   rintro n n' a F τ τ' ⟨vL,h1,h2,h3,h4,h5,h6,h7⟩ hnn hn hg
   exact⟨vL,h1,gr,gr,h4.of_get hn (fun b q=>hg b (h4.adr_lt q).2 (by have:=(h4.adr_lt q).1;omega)),by omega,by omega,gr⟩
  case y=>
   rintro n a F i x τ hni hi hch hBt ⟨vL,rfl,hyt,hlt,hot,hla,hyl,hgt⟩;obtain⟨τ1,hτ1⟩:∃τ1,τ.set aY (.loop .busy)=τ1:=⟨_,rfl⟩;have nt1:nx τ1=nx τ:=gr;have gt1:∀b,b≠aY->τ1.get b=τ.get b:=gr;have yt1:τ1.get aY=some (.loop .busy):=gr;have lt1:τ1.get aL=some (.cells [vL]):=gr
   have ot1:Own τ1 (aY+1) eNn 1 a vL:=hot.of_get Om (fun b q=>gt1 b (by have:=(hot.adr_lt q).1;omega))
   obtain⟨τ2,hap,n2',bw,g2'⟩:=dn_ (enc:=eNn) (sz:=1) (by':=8) (fun _=>rfl) (show aY+1<=nx τ1 by omega) ot1 i (by simp only[sizeLim];omega)
   have hl2:τ2.get aL=some (.cells [vL]):=(g2' _ Om (fun e=>by have:=(ot1.adr_lt e).1;omega)).trans lt1
   have hy2:τ2.get aY=some (.loop .busy):=(g2' _ Om (fun e=>by have:=(ot1.adr_lt e).1;omega)).trans yt1
   have iw:∀b,b<nx τ->b≠aY->adr vL≠some b->τ2.get b=τ.get b:=fun b q1 q2 q3=>(g2' b Om q3).trans (gt1 b q2)
   refine Tk htm rfl Kr Kr Kr hyt gr ?_
   iterate  3 refine G ?_
   refine⟨hyt,?_⟩;rw[show τ.set aY (.loop .busy)=τ1 from hτ1]
   iterate  2 refine G ?_
   refine O1 (lO lt1) ?_;refine G ?_;refine Cx (Ai elC byW rfl rfl rfl) (Dv (len:=1)) rfl rfl (O1 (Av elC rfl slC rfl rfl rfl (new:=eNn i) rfl hap) (O1 (sO (cs':=[.sr (nx τ1) 0 1 (a.length+1) none]) hl2) ?_));refine G ?_
   refine⟨gr,hBt.of_get ?_ ?_,rfl,_,⟨.sr (nx τ1) 0 1 (a.length+1) none,rfl,by rw[aa_,if_pos rfl];rfl,gr,?_,?_,gr,?_⟩,?_⟩
   ·rw[aa_,if_neg gr,aa_,if_neg Om];exact iw _ Om Om (fun e=>by have:=(ot1.adr_lt e).1;omega)
   ·rw[aa_,if_neg gr,aa_,if_neg Om];exact iw _ Om Om (fun e=>by have:=(ot1.adr_lt e).1;omega)
   ·exact bw.of_get gr (fun b q=>by have:=(bw.adr_lt q).1;grind)
   ·grind
   ·intro b hb
    rw[aa_,if_neg gr,aa_,if_neg Om,iw b Om Om (fun e=>by have:=(ot1.adr_lt e).1;omega)]
    exact hgt b hb
   ·refine⟨gr,fun b hb=>?_,fun b hb hF h1 _=>?_⟩
    ·rcases hb with rfl|hb
     ·grind
     ·have hb:some (nx τ1)=some b:=hb
      grind
    ·by_cases hbY:b=aY
     ·subst hbY;rw[aa_,if_pos rfl,hyt];rfl
     grind
  case pos=>
   rintro u σ' ⟨hB9,bh⟩;rw[Ahp]at bh;obtain⟨F',⟨vL,_,hy9,hl9,ho9,_,hn9,hg9⟩,ig⟩:=bh;rw[Akf,bd_]at ho9;refine⟨.normal,hy9,?_⟩;have hk9:(σ'.kill aY).get aL=some (.cells [vL]):=gr
   iterate  2 refine G ?_
   refine O1 (lO hk9) ?_
   iterate  4 refine G ?_
   have ho:Own (σ'.kill aY) (aY+1) eNn 1 ((Ip d r).map (·.1)) vL:=ho9.of_get gr (fun b q=>by rw[bf_,if_neg (by have:=(ho9.adr_lt q).1;omega)])
   rw[bs];exact⟨_,rfl,.tup [slV eNn 1 ((Ip d r).map (·.1)),iV 0],σ,am_ hw ⟨gr,gr⟩,nl,.tup (.cons (ho.fz (fun _=>rfl) (fun a ha=>hw.none Om) (A2 (fun _=>rfl) _)) (.cons (.same rfl) .nil)),rfl,rfl⟩
theorem f50{d:Db}{r:Rs}(H:DOk d r){i:Nat}(hi:i<d.frames.length)(σ:Sto):
  Cv 50 [dbV d,.agg (eRs r),nV i] σ (iV (Ck d r i).2):=by
 refine Aj Tryz.func50 rfl rfl fun hw hu0=>?_
 refine G10 ?_;refine Az rfl rfl rfl rfl (f51 r _ H.db H.vf) ?_
 rintro _ σ2 (⟨ho,rfl,rfl⟩|⟨ho,P,mT,rfl,hB2,hP2,hm1,hm2,n2,g2⟩)
 ·exact absurd H.op ho
 refine G12 ?_;refine Ab rfl gr (fun h1=>?_)
 refine G5 ?_;refine Az rfl rfl rfl rfl (H.f101 hB2 hi) ?_;rintro _ σ3 ⟨rfl,hB3,hp3⟩;have n3:=hp3.n;refine G11 ?_
 exact⟨_,rfl,_,_,am_ hw ⟨by omega,fun b hb=>by rw[hp3.g b Om Om];exact g2 b hb⟩,nl,.same rfl,rfl,rfl⟩
theorem f13{d:Db}{r:Rs}(H:DOk d r){i:Nat}(hi:i<d.frames.length)(σ:Sto):
  Cv 13 [dbV d,.agg (eRs r),nV i] σ (.tup [.agg (eDf (Bb d r i).1),iV (Bb d r i).2]):=by
 have hK:=Ath (Tx H.op).1 i;obtain⟨x,e,hxe⟩:∃x e,Bb d r i=(x,e):=⟨_,_,rfl⟩;rw[hxe]at hK⊢
 obtain⟨lr,kr,hrt⟩:∃lr kr,x.right=.node lr kr:=by cases x.right;grind
 have hE:eDf x=[sV x.label,Af x.args,Af x.dummies,sV lr,slV eT 2 kr]:=by unfold eDf;rw[hrt,Cl];rfl
 have h54:∀σ,Cv 54 [.agg [sV lr,slV eT 2 kr]] σ (.agg [sV lr,slV eT 2 kr]):=fun σ=>by
  have:=f54 hK σ
  rwa[hrt,Cg]at this
 refine Aj Tryz.func13 rfl rfl fun hw hu0=>?_
 refine G4 ?_;refine O1 (Bj (n:=nx σ) ziC rfl) ?_;refine G2 ?_;obtain⟨σ1,hσ1⟩:∃σ1,σ.new (.cells z5)=σ1:=⟨_,rfl⟩;rw[hσ1];have n1:nx σ1=nx σ+1:=gr;have g1:∀b,b<nx σ->σ1.get b=σ.get b:=gr;have r1:σ1.get (nx σ)=some (.cells z5):=gr;refine G4 ?_;refine Az rfl rfl rfl rfl (f51 r _ H.db H.vf) ?_
 rintro _ σ2 (⟨ho,rfl,rfl⟩|⟨ho,P,mT,rfl,hB2,hP2,hm1,hm2,n2,g2⟩)
 ·exact absurd H.op ho
 refine G12 ?_;refine Ab rfl gr (fun h1=>?_)
 refine G ?_;have hc3:=H.f53 hB2 hi;rw[hxe]at hc3;refine G4 ?_;refine Az rfl rfl rfl rfl hc3 ?_;rintro _ σ3 ⟨rfl,hB3,hp3⟩;rw[hE];have n3:=hp3.n
 have r3:σ3.get (nx σ)=some (.cells z5):=by rw[hp3.g _ Om Om,g2 _ Om];exact r1
 obtain⟨σ4,hσ4⟩:∃σ4,(σ3.new (.cells z5)).set (nx σ3) (.cells [sV x.label,Af x.args,Af x.dummies,sV lr,slV eT 2 kr])=σ4:=⟨_,rfl⟩;have n4:nx σ4=nx σ3+1:=gr;have g4:∀b,b<nx σ3->σ4.get b=σ3.get b:=gr;have d4:σ4.get (nx σ3)=some (.cells [sV x.label,Af x.args,Af x.dummies,sV lr,slV eT 2 kr]):=gr;refine G3 ?_;refine O1 (Bj (n:=nx σ3) ziC rfl) (O1 (sO (a:=nx σ3) (off:=0) (cs:=z5) (cs':=[sV x.label,Af x.args,Af x.dummies,sV lr,slV eT 2 kr]) gr) ?_);rw[hσ4];refine G5 ?_;refine O1 (lO d4) ?_;refine Ca (h54 _) ?_;refine G ?_;refine O1 (sO (cs':=[sV x.label,Af x.args,Af x.dummies,sV lr,slV eT 2 kr]) d4) ?_;refine G ?_;obtain⟨σ5,hσ5⟩:∃σ5,σ4.set (nx σ3) (.cells [sV x.label,Af x.args,Af x.dummies,sV lr,slV eT 2 kr])=σ5:=⟨_,rfl⟩;rw[hσ5];have n5:nx σ5=nx σ4:=gr;have g5:∀b,σ5.get b=σ4.get b:=gr;have r5:σ5.get (nx σ)=some (.cells z5):=gr;refine G2 ?_;refine O1 (lO ((g5 _).trans d4)) ?_;refine G ?_;refine O1 (sO (cs':=[sV x.label,Af x.args,Af x.dummies,sV lr,slV eT 2 kr]) r5) ?_;refine G3 ?_
 exact⟨[.agg [sV x.label,Af x.args,Af x.dummies,sV lr,slV eT 2 kr],iV e],Am (vs:=[sV x.label,Af x.args,Af x.dummies,sV lr,slV eT 2 kr]) (ldC (t:=41)) rfl (by simp only[Sto.cells];grind) rfl (Ba rfl rfl),.tup [.agg [sV x.label,Af x.args,Af x.dummies,sV lr,slV eT 2 kr],iV e],σ,am_ hw ⟨gr,fun b hb=>by rw[aa_,if_neg Om,g5,g4 _ Om,hp3.g b Om Om,g2 b Om];exact g1 b hb⟩,nl,.same (by
  show(AV.unds (nx σ) [sV x.label,Af x.args,Af x.dummies,sV lr,slV eT 2 kr]&&(true&&true))=true
  have h1:AV.unds (nx σ) [sV lr,slV eT 2 kr]=true:=by rw[←Cl];exact Es _
  have h2:AV.und (nx σ) (Af x.args)=true:=A2 D9 _;have h3:AV.und (nx σ) (Af x.dummies)=true:=A2 D9 _;simp only[AV.unds,h2,h3]at h1⊢
  simp at h1⊢;exact⟨rfl,h1⟩),rfl,rfl⟩
end Go.AM
