/- A part of the proof; shortened by program. -/
import Derived.KernelRfl
import Derived.Test.YtmkaboegdoadhaaGreatDoorChecked
import Derived.Test.YtmkaboegdoadhaaGreatDoorP06
set_option maxRecDepth 100000
set_option maxHeartbeats 4000000
set_option linter.unusedSimpArgs false
set_option linter.unusedVariables false
namespace Go.AM
open Go
section
variable {E:Env}{ops:List Oper}{Rr:Rec}{T:Nat->Tr AV}{V:Nat->AV}
theorem Up{o tm σ σ' v}(h:Ahv E ops Rr o tm σ=some (v,σ')):Bn ops o tm=some true/\opA E o.op Rr tm σ=some (v,σ'):=by
 unfold Ahv at h
 split at h
 ·rename_i hg;exact⟨hg,h⟩
 ·cases h
def Oe(E:Env)(ops:List Oper)(Rr:Rec)(T:Nat->Tr AV)(V:Nat->AV)(P:Nd->Prop)(c:Nd)(next:List Nat):Prop:=∀e∈next,∃o v σ' c',ops[e]? =some o/\Aia E ops Rr o (T e) c.σ v σ'/\P c'/\
 (∀x,x∈c'.D↔x∈c.D∨x=e)/\Conv E (fun i=>if i=e then v else ovr c.U V i) σ' (ovr c'.U V) c'.σ
theorem Oe.mono{P P' c next}(h:Oe E ops Rr T V P c next)(hp:∀c,P c->P' c):Oe E ops Rr T V P' c next:=fun e he=>by
 obtain⟨o,v,σ',c',h1,h2,h3,h4⟩:=h e he;exact⟨o,v,σ',c',h1,h2,hp _ h3,h4⟩
theorem Aid{e σ σ' D}(h:Ps E ops Rr T V e σ=some σ'){P}(hp:P ⟨e::D,σ',[]⟩):Oe E ops Rr T V P ⟨D,σ,[]⟩ [e]:=by
 unfold Ps at h
 split at h
 ·rename_i o ho
  split at h
  ·rename_i v τ hv
   cases hb:AV.beq (V e) v with
   |false=>rw[hb]at h;cases h
   |true=>
    rw[hb]at h;cases h;have:=AV.beq_eq _ _ hb;obtain⟨g1,g2⟩:=Up hv;intro x hx;rw[ao_]at hx;subst hx
    refine⟨o,v,σ',_,ho,.inl ⟨g1,g2⟩,hp,fun y=>by simp[or_comm],ff_ fun i=>?_⟩
    by_cases hi:i=x
    ·rw[if_pos hi,←this,hi];rfl
    ·rw[if_neg hi]
  ·cases h
 ·cases h
theorem At4{i j σ σ' D l}(h:N2 E ops Rr T V i j D σ=some (l,σ')){P}(hp:P ⟨j::i::D,σ',[]⟩)(hq:∀x∈l,P x.1):
  (⟨D,σ,[]⟩:Nd)∈l.map (·.1)/\(∀x∈l,Oe E ops Rr T V P x.1 x.2)/\∀x∈l,(∀k∈x.1.D,k∈D∨k=i∨k=j)/\(x.1.U=[]∨∃p v,x.1.U=[(p,v)]/\p∈x.1.D):=by
 unfold N2 at h
 split at h
 ·rename_i oi oj hoi hoj
  split at h
  ·rename_i v1 σi v3 σj h1 h3
   obtain⟨gi,h1⟩:=Up h1;obtain⟨gj,h3⟩:=Up h3
   split at h
   ·rename_i ti xi yi tj xj yj ei ej
    rw[ei]at h1;rw[ej]at h3;obtain⟨s1,l1,c1,A,rfl,rfl,k1⟩:=Qb h1;obtain⟨s2,l2,c2,B,rfl,rfl,k2⟩:=Qb h3;simp only at h;rw[ag_,if_pos rfl,ag_,if_pos rfl]at h;simp only at h;cases hb:(!Nat.beq i j&&AV.beq (V i) (.sr (nx σ+2) 0 s1 l1 c1)&&AV.beq (V j) (.sr (nx σ+3) 0 s2 l2 c2))with
    |false=>rw[hb]at h;cases h
    |true=>
     rw[hb]at h;cases h;simp only[ad_,bi_]at hb;obtain⟨⟨b0,b1⟩,b2⟩:=hb
     have hij:i≠j:=fun hh=>by rw[hh,aw_]at b0;cases b0
     have b1:=AV.beq_eq _ _ b1;have b2:=AV.beq_eq _ _ b2
     have g1:∀(A B:List AV) x,((σ.new (.cells A)).new (.cells B)).get x=if x=nx σ+1 then some (.cells B)else if x=nx σ then some (.cells A)else σ.get x:=fun A B x=>by rw[ag_,ag_,Ao]
     have hge:∀x,((((((σ.new (.cells A)).new (.cells B)).kill (nx σ)).kill (nx σ+1)).new (.cells A)).new (.cells B)).get x=if x=nx σ+3 then some (.cells B)else if x=nx σ+2 then some (.cells A)else if x=nx σ∨x=nx σ+1 then none else σ.get x:=fun x=>by
      rw[ag_,ag_,bf_,bf_,g1];simp only[Ao,B3]
      by_cases q1:x=nx σ+3
      ·rw[if_pos Om,if_pos q1]
      ·rw[if_neg Om,if_neg q1]
       by_cases q2:x=nx σ+2
       ·rw[if_pos Om,if_pos q2]
       ·rw[if_neg Om,if_neg q2]
        by_cases q3:x=nx σ+1
        ·rw[if_pos q3,if_pos (.inr q3)]
        ·rw[if_neg q3,if_neg q3]
         by_cases q4:x=nx σ
         ·rw[if_pos q4,if_pos (.inl q4)]
         ·rw[if_neg q4,if_neg q4,if_neg (by omega:¬(x=nx σ∨x=nx σ+1))]
     have hnr:nx ((((((σ.new (.cells A)).new (.cells B)).kill (nx σ)).kill (nx σ+1)).new (.cells A)).new (.cells B))=nx σ+4:=by simp only[Ao,B3]
     refine⟨by simp,fun x hx=>?_,fun x hx=>?_⟩
     ·simp only[an_,cl_,or_false]at hx
      rcases hx with rfl|rfl|rfl
      ·intro e he;simp only[an_,cl_,or_false]at he
       rcases he with rfl|rfl
       ·exact⟨oi,_,_,⟨e::D,σ.new (.cells A),[(e,.sr (nx σ) 0 s1 l1 c1)]⟩,hoi,.inl ⟨gi,by rw[ei];exact h1⟩,hq (⟨e::D,σ.new (.cells A),[(e,.sr (nx σ) 0 s1 l1 c1)]⟩,[j]) (by simp),fun y=>by simp[or_comm],ff_ fun _=>rfl⟩
       ·exact⟨oj,_,_,⟨e::D,σ.new (.cells B),[(e,.sr (nx σ) 0 s2 l2 c2)]⟩,hoj,.inl ⟨gj,by rw[ej];exact h3⟩,hq (⟨e::D,σ.new (.cells B),[(e,.sr (nx σ) 0 s2 l2 c2)]⟩,[i]) (by simp),fun y=>by simp[or_comm],ff_ fun _=>rfl⟩
      ·intro e he;rw[ao_]at he;subst he
       refine⟨oj,_,_,_,hoj,.inl ⟨gj,by rw[ej];exact k2 _⟩,hp,fun y=>by simp[or_comm],Conv.rename (σ:=σ) (A:=A) (B:=B) (a:=nx σ) (b:=nx σ+1) (.inl ⟨rfl,rfl⟩) (by simp only[Ao]) hnr (by rw[g1,if_neg Om,if_pos rfl]) (by rw[g1,if_pos rfl]) (fun x=>?_) fun x=>?_⟩
       ·rw[hge]
        by_cases q:x=nx σ∨x=nx σ+1
        ·rw[if_pos q,if_pos q]
        ·rw[if_neg q,if_neg q,show((σ.new (.cells A)).new (.cells B)).get x=σ.get x from by rw[g1,if_neg Om,if_neg Om]]
       ·show(if x=e then _ else ovr [(i,_)] V x)=V x∨_
        by_cases q1:x=e
        ·rw[if_pos q1];refine .inr (.inr ⟨s2,l2,c2,by rw[Ao],?_⟩);rw[q1];exact b2
        ·rw[if_neg q1]
         by_cases q2:x=i
         ·refine .inr (.inl ⟨s1,l1,c1,?_,?_⟩)
          ·show(if x=i then _ else _)=_;rw[if_pos q2]
          ·rw[q2];exact b1
         ·left;show(if x=i then _ else _)=_;rw[if_neg q2]
      ·intro e he;rw[ao_]at he;subst he
       refine⟨oi,_,_,_,hoi,.inl ⟨gi,by rw[ei];exact k1 _⟩,hp,fun y=>by simp[or_left_comm,or_comm],Conv.rename (σ:=σ) (A:=A) (B:=B) (a:=nx σ+1) (b:=nx σ) (.inr ⟨rfl,rfl⟩) (by simp only[Ao]) hnr (by rw[g1,if_pos rfl]) (by rw[g1,if_neg Om,if_pos rfl]) (fun x=>?_) fun x=>?_⟩
       ·rw[hge]
        by_cases q:x=nx σ∨x=nx σ+1
        ·rw[if_pos q,if_pos q]
        ·rw[if_neg q,if_neg q,show((σ.new (.cells B)).new (.cells A)).get x=σ.get x from by rw[g1,if_neg Om,if_neg Om]]
       ·show(if x=e then _ else ovr [(j,_)] V x)=V x∨_
        by_cases q1:x=e
        ·rw[if_pos q1];refine .inr (.inl ⟨s1,l1,c1,by rw[Ao],?_⟩);rw[q1];exact b1
        ·rw[if_neg q1]
         by_cases q2:x=j
         ·refine .inr (.inr ⟨s2,l2,c2,?_,?_⟩)
          ·show(if x=j then _ else _)=_;rw[if_pos q2]
          ·rw[q2];exact b2
         ·left;show(if x=j then _ else _)=_;rw[if_neg q2]
     ·simp only[an_,cl_,or_false]at hx
      rcases hx with rfl|rfl|rfl
      ·exact⟨fun k hk=>.inl hk,.inl rfl⟩
      ·exact⟨fun k hk=>by rcases an_.1 hk with h|h;exact .inr (.inl h);exact .inl h,.inr ⟨i,_,rfl,by simp⟩⟩
      ·exact⟨fun k hk=>by rcases an_.1 hk with h|h;exact .inr (.inr h);exact .inl h,.inr ⟨j,_,rfl,by simp⟩⟩
   ·rename_i ti xi yi tj xj yj ei ej
    rw[ei]at h1;rw[ej]at h3
    split at h
    ·rename_i a oa b ob ha hb'
     cases hb:(!Nat.beq i j&& !Nat.beq a b&&AV.beq (V i) An&&AV.beq (V j) An)with
     |false=>rw[hb]at h;cases h
     |true=>
      rw[hb]at h;simp only[cond_true]at h;simp only[ad_,bi_]at hb;obtain⟨⟨⟨b0,b3⟩,b1⟩,b2⟩:=hb
      have hab:a≠b:=fun hh=>by rw[hh,aw_]at b3;cases b3
      have b1:=AV.beq_eq _ _ b1;have b2:=AV.beq_eq _ _ b2
      split at h
      ·rename_i v2 σij h2
       cases h;obtain⟨_,h2⟩:=Up h2;rw[ej]at h2;obtain⟨rfl,vs,X,p1,rfl,p2⟩:=Abc ha h1;obtain⟨rfl,us,Y,r1,rfl,r2⟩:=Abc hb' h3
       have h2':=r2 (σ.set a (.cells X)) (by rw[aa_,if_neg (gx_ hab)];exact r1)
       rw[h2']at h2;cases h2
       have hcv:∀(k:Nat) (hk:V k=An),Conv E (fun x=>if x=k then An else ovr [] V x) ((σ.set a (.cells X)).set b (.cells Y)) (ovr [] V) ((σ.set a (.cells X)).set b (.cells Y)):=fun k hk=>ff_ fun x=>by
        by_cases q:x=k
        ·rw[if_pos q,q];exact hk.symm
        ·rw[if_neg q]
       have iu:∀(k:Nat) (hk:V k=An) (τ:Sto),Conv E (fun x=>if x=k then An else ovr [] V x) τ (ovr [] V) τ:=fun k hk τ=>ff_ fun x=>by
        by_cases q:x=k
        ·rw[if_pos q,q];exact hk.symm
        ·rw[if_neg q]
       refine⟨by simp,fun x hx=>?_,fun x hx=>?_⟩
       ·simp only[an_,cl_,or_false]at hx
        rcases hx with rfl|rfl|rfl
        ·intro e he;simp only[an_,cl_,or_false]at he
         rcases he with rfl|rfl
         ·exact⟨oi,_,_,⟨e::D,σ.set a (.cells X),[]⟩,hoi,.inl ⟨gi,by rw[ei];exact h1⟩,hq (⟨e::D,σ.set a (.cells X),[]⟩,[j]) (by simp),fun y=>by simp[or_comm],iu _ b1 _⟩
         ·exact⟨oj,_,_,⟨e::D,σ.set b (.cells Y),[]⟩,hoj,.inl ⟨gj,by rw[ej];exact h3⟩,hq (⟨e::D,σ.set b (.cells Y),[]⟩,[i]) (by simp),fun y=>by simp[or_comm],iu _ b2 _⟩
        ·intro e he;rw[ao_]at he;subst he
         exact⟨oj,_,_,_,hoj,.inl ⟨gj,by rw[ej];exact h2'⟩,hp,fun y=>by simp[or_comm],iu _ b2 _⟩
        ·intro e he;rw[ao_]at he;subst he
         refine⟨oi,An,_,_,hoi,.inl ⟨gi,by rw[ei];exact p2 (σ.set b (.cells Y)) (by rw[aa_,if_neg hab];exact p1)⟩,hp,fun y=>by simp[or_left_comm,or_comm],?_⟩
         rw[←Sto.set_comm hab];exact iu _ b1 _
       ·simp only[an_,cl_,or_false]at hx
        rcases hx with rfl|rfl|rfl
        ·exact⟨fun k hk=>.inl hk,.inl rfl⟩
        ·exact⟨fun k hk=>by rcases an_.1 hk with h|h;exact .inr (.inl h);exact .inl h,.inl rfl⟩
        ·exact⟨fun k hk=>by rcases an_.1 hk with h|h;exact .inr (.inr h);exact .inl h,.inl rfl⟩
      ·cases h
    ·cases h
   ·cases h
  ·cases h
 ·cases h
end
section
variable {E:Env}{ops:List Oper}{Rr:Rec}{T:Nat->Tr AV}{V:Nat->AV}{b:List Nat}
structure Ago (E:Env)(ops:List Oper)(Rr:Rec)(T:Nat->Tr AV)(V:Nat->AV)(es D:List Nat)(σ:Sto)(nl:NL)(nf:Nd):Prop where
 hd:(⟨D,σ,[]⟩:Nd)∈nl.map (·.1)++[nf]
 ok:∀x∈nl,Oe E ops Rr T V (·∈nl.map (·.1)++[nf]) x.1 x.2
 sub:∀c∈nl.map (·.1)++[nf],(∀k∈c.D,k∈D∨k∈es)/\(c.U=[]∨∃p v,c.U=[(p,v)]/\p∈c.D)
 fin:nf.U=[]
theorem Uq:∀(es D:List Nat) (σ:Sto) (nl:NL) (nf:Nd),Ne E ops Rr T V b es D σ=some (nl,nf)->Ago E ops Rr T V es D σ nl nf
 |[],D,σ,nl,nf,h=>by
  simp only[Ne,af_,ba_]at h;obtain⟨rfl,rfl⟩:=h
  exact⟨by simp,fun x hx=>(by cases hx),gr,rfl⟩
 |[e],D,σ,nl,nf,h=>by
  simp only[Ne]at h
  split at h
  ·rename_i σ' hc
   simp only[af_,ba_]at h;obtain⟨rfl,rfl⟩:=h
   refine⟨by simp,fun x hx=>?_,fun c hc=>?_,rfl⟩
   ·rw[ao_]at hx;subst hx
    exact Aid hc (by simp)
   grind
  grind
 |e::j::r,D,σ,nl,nf,h=>by
  rw[Ne]at h
  split at h
  ·split at h
   ·rename_i σ' hc
    split at h
    ·rename_i m nf' hm
     simp only[af_,ba_]at h;obtain⟨rfl,rfl⟩:=h;have w:=Uq (j::r) (e::D) σ' m nf' hm
     refine⟨by simp,fun x hx=>?_,fun c hc=>?_,w.fin⟩
     ·rcases an_.1 hx with rfl|hx
      ·exact Aid hc (by simp only[cn_,ay_];exact aj_ _ w.hd)
      ·exact(w.ok x hx).mono gr
     ·simp only[cn_,ay_]at hc
      rcases an_.1 hc with rfl|hc
      ·grind
      ·obtain⟨h1,h2⟩:=w.sub c hc
       grind
    grind
   grind
  ·split at h
   ·rename_i l σ' hp
    split at h
    ·rename_i m nf' hm
     simp only[af_,ba_]at h;obtain⟨rfl,rfl⟩:=h;have w:=Uq r (j::e::D) σ' m nf' hm
     obtain⟨p1,p2,p3⟩:=At4 (P:=(·∈(l++m).map (·.1)++[nf'])) hp (by rw[co_,ca_];exact fg_ _ w.hd) gr
     refine⟨gr,fun x hx=>?_,fun c hc=>?_,w.fin⟩
     ·rcases bb_.1 hx with hx|hx
      ·grind
      ·exact(w.ok x hx).mono gr
     ·rw[co_,ca_]at hc
      rcases bb_.1 hc with hc|hc
      ·obtain⟨x,hx,rfl⟩:=bt_.1 hc
       grind
      ·obtain⟨h1,h2⟩:=w.sub c hc
       grind
    grind
   grind
end
theorem Wu{nt}:∀{ops:List Oper} {vl:List AV} {tm:Tr AV} {tl:List (Tr AV)},Adi nt ops vl tm=some tl->tl.getD 0 .e=tm/\
  ∀k o,ops[k]? =some o->Ka o.dst (tl.getD k .e) nt (vl.getD k .any)=some (tl.getD (k+1) .e)
 |[],[],tm,tl,h=>by simp only[Adi,af_]at h;grind
 |o::r,v::vs,tm,tl,h=>by
  simp only[Adi]at h
  split at h
  ·rename_i tm' hp
   split at h
   ·rename_i l hl
    cases h;obtain⟨h1,h2⟩:=Wu hl
    grind
   grind
  grind
 |[],_::_,_,_,h=>by simp[Adi]at h
 |_::_,[],_,_,h=>by simp[Adi]at h
section
variable {E:Env}{ops:Array Oper}{Rr:Rec}
theorem Og{k o}(ho:ops[k]? =some o):B5 (Bc E o.op)=true↔k∈A8 E ops.toList 0:=by
 have hol:ops.toList[k]? =some o:=gr;obtain⟨e1,e2⟩:=Ie (E:=E) ops.toList 0
 constructor
 ·grind
 ·intro h;obtain⟨m,hm⟩:=au_.1 h
  grind
theorem Ss(hm:E.P.follows .mixedOrders=true)(hR:Bk E Rr){s s' vl C w a}(st:SSt E C w s a)(h:Rd E ops Rr s vl=some s'){id ro n}:
  (Code.region id ops true).wpIn (Cy ro) n E.P (Aej E C (nx s.sto) w [(.normal,s')]) a w:=by
 unfold Rd at h
 split at h
 ·cases h
 ·rename_i tl htl
  obtain⟨t0,tk⟩:=Wu htl
  split at h
  ·cases h
  ·rename_i hse
   simp only[ad_]at hse
   split at h
   ·cases h
   ·rename_i nl nf hst
    have W:=Uq _ _ _ _ _ hst;cases hck:((nl++[(nf,[])]).all (Hm E ops.toList Rr (fun k=>tl.getD k .e) (fun k=>vl.getD k .any) (Region.before ops).toList (A8 E ops.toList 0))&&nl.all fun x=>(A8 E ops.toList 0).any fun e=> !x.1.D.contains e)with
    |false=>rw[hck]at h;cases h
    |true=>
     rw[hck]at h;cases h;simp only[ad_]at hck;obtain⟨ia,pp⟩:=hck
     have bs:∀c∈nl.map (·.1)++[nf],∃nx,(c,nx)∈nl++[(nf,[])]/\Oe E ops.toList Rr (fun k=>tl.getD k .e) (fun k=>vl.getD k .any) (·∈nl.map (·.1)++[nf]) c nx:=fun c hc=>by
      rcases bb_.1 hc with hc|hc
      ·obtain⟨x,hx,rfl⟩:=bt_.1 hc;exact⟨x.2,dg_ _ hx,W.ok x hx⟩
      ·rw[ao_]at hc;subst hc
       exact⟨[],by simp,fun e he=>by cases he⟩
     have dw:∀c nx,(c,nx)∈nl++[(nf,[])]->Hm E ops.toList Rr (fun k=>tl.getD k .e) (fun k=>vl.getD k .any) (Region.before ops).toList (A8 E ops.toList 0) (c,nx)=true:=fun c nx hc=>b_.1 ia _ hc
     have bl:ops.toList.length=ops.size:=by simp
     have fo:∀c∈nl.map (·.1)++[nf],∀k,k<ops.size->k∉c.D->Sz (Region.before ops).toList (A8 E ops.toList 0) c.D k=true->
       Aeb (Region.before ops).toList c.U k=true/\(k∈A8 E ops.toList 0∨Lp E ops.toList Rr (fun k=>tl.getD k .e) (fun k=>vl.getD k .any) c.σ k=true):=fun c hc k hk hD hok=>by
      obtain⟨nx,h1,_⟩:=bs c hc;have h2:=dw c nx h1;unfold Hm at h2
      grind
     refine Xy (s':=⟨tl.getD ops.size .e,s.nt,s.df,nf.σ⟩) (es:=A8 E ops.toList 0) (V:=fun k=>vl.getD k .any) (T:=fun k=>tl.getD k .e) (nds:=nl.map (·.1)++[nf]) hm hR st ⟨hse.1,hse.2,fun k o ho=>Og ho,fun k hk t=>?_,fun k o ho d hd=>?_,fun c hc k hk=>?_,fun c hc k hk=>?_,fun c hc k hk hD hok i hi=>?_,fun c hc k o ho he hok=>?_,fun c hc k o ho he hD hok=>?_⟩ W.hd (fun c hc hD=>?_) rfl rfl rfl (fun e he=>?_)
     ·exact Ni (n:=ops.size) (T:=fun k=>tl.getD k .e) (V:=fun k=>vl.getD k .any) t0 (fun k hk=>⟨ops[k],by simp[hk],tk k _ (by simp[hk])⟩) k hk t
     ·have:=tk k o gr;rw[hd]at this;simp only[Ka]at this;cases hb:Nat.blt d s.nt
      ·grind
      ·exact al_ hb
     ·rcases(W.sub c hc).1 k hk with h|h
      ·cases h
      grind
     ·rcases(W.sub c hc).2 with h|⟨p,v,h,hp⟩
      ·rw[h];rfl
      ·rw[h];show(if k=p then _ else _)=_;grind
     ·have h1:=(fo c hc k hk hD hok).1
      rcases(W.sub c hc).2 with h|⟨p,v,h,hp⟩
      ·rw[h];rfl
      ·rw[h]at h1⊢
       show(if i=p then _ else _)=_
       rw[if_neg];intro hh;subst hh;unfold Aeb at h1;simp only[Gc]at h1
       grind
     ·have hk:=(bc_.1 ho).1
      have hD:k∉c.D:=fun hh=>by
       rcases(W.sub c hc).1 k hh with h|h
       ·cases h
       grind
      rcases(fo c hc k hk hD hok).2 with h1|h1
      ·grind
      ·have hne:B5 (Bc E o.op)=false:=by
        cases hh:B5 (Bc E o.op)with
        |false=>rfl
        |true=>exact absurd ((Og ho).1 hh) he
       unfold Lp at h1
       rw[show ops.toList[k]? =some o by simpa using ho]at h1
       simp only at h1
       split at h1
       ·rename_i hg
        split at h1
        ·rename_i v τ hv
         have:=AV.beq_eq _ _ h1;subst this;refine .inl ⟨hg,?_⟩
         have hτ:τ=c.σ:=by
          cases hcl:Bc E o.op with
          |eff=>rw[hcl]at hne;cases hne
          |pure=>exact(Aa9 hR hcl _ _ _ _ hv).1
          |read=>rw[Iy hcl]at hv;exact S6 hcl hv
         grind
        grind
       ·rename_i hg
        exact .inr ⟨hg,AV.beq_eq _ _ h1,rfl⟩
       grind
     ·obtain⟨nx,h1,h2⟩:=bs c hc;have h3:=dw c nx h1;unfold Hm at h3;simp only[ad_]at h3;have h4:=b_.1 h3.1 k he;have hD':c.D.contains k=false:=gr;rw[hD',hok]at h4;simp only[Bool.not_true,Bool.false_or]at h4;obtain⟨o',v,σ',c',q1,q2,q3,q4,q5⟩:=h2 k (List.contains_iff_mem.1 h4)
      grind
     ·rcases bb_.1 hc with hc|hc
      ·grind
      ·rw[ao_]at hc;subst hc
       exact⟨fun k=>by rw[W.fin];rfl,rfl⟩
     ·obtain⟨m,hm'⟩:=au_.1 he;obtain⟨k',o',q1,q2,_⟩:=(Ie (E:=E) ops.toList 0).2 m e hm'
      grind
end
abbrev Ad:=List (Nat×AV)
def Ad.at:Ad->Nat->Option AV
 |[],_=>none
 |(j,v)::r,i=>cond (Nat.beq j i) (some v) (Ad.at r i)
def Has(tm:Tr AV)(ρ:Ad):Prop:=∀i v,Ad.at ρ i=some v->tm.get i=some v
def hdV:AV->Option AV
 |.any=>none
 |.bool b=>some (.bool b)
 |.int k n=>some (.int k n)
 |.str l=>some (.str l)
 |.nil v=>some (.nil v)
 |.agg l=>some (.agg l)
 |.fn f a b=>some (.fn f a b)
 |.tup l=>some (.tup l)
 |_=>none
theorem Awx{v u}(h:hdV v=some u):v=u:=by cases v<;>simp_all [hdV]
section
variable {E:Env}{ρ:Ad}{tm:Tr AV}{σ σ' σ'':Sto}{Rr:Rec}{lf nt:Nat}{df:List (Nat×List AV)}
def Ah(E:Env)(ρ:Ad):Operand->Option AV
 |.tmp t=>Ad.at ρ t
 |.const v=>hdV (ofV v)
 |.global g=>match E.gl g with|some cs=>some (.pv cs)|none=>none
 |.func f=>some (.fn (.func f) [] [])
def Kc(E:Env)(ρ:Ad):List Operand->Option (List AV)
 |[]=>some []
 |x::r=>match Ah E ρ x,Kc E ρ r with
  |some v,some l=>some (v::l)
  |_,_=>none
def Iz(E:Env)(ρ:Ad):Option Operand->Option (Option AV)
 |none=>some none
 |some x=>match Ah E ρ x with|some v=>some (some v)|none=>none
theorem Has.opd(h:Has tm ρ){x v}(hx:Ah E ρ x=some v):opd E tm x=v:=by
 cases x with
 |tmp t=>simp only[Ah]at hx;simp only[Go.AM.opd,h t v hx]
 |const c=>exact Awx hx
 |global g=>
  simp only[Ah]at hx;simp only[Go.AM.opd]
  split at hx
  ·grind
  ·cases hx
 |func f=>simp only[Ah,af_]at hx;exact hx
theorem Has.opds(h:Has tm ρ):∀{l:List Operand} {vs:List AV},Kc E ρ l=some vs->opds E tm l=vs
 |[],vs,hl=>by simp only[Kc,af_]at hl;subst hl;rfl
 |x::r,vs,hl=>by
  simp only[Kc]at hl
  split at hl
  ·rename_i v l hv hr
   cases hl;simp only[Go.AM.opds,h.opd hv,Has.opds h hr]
  grind
theorem Has.opdO(h:Has tm ρ){x v}(hx:Iz E ρ x=some v):opdO E tm x=v:=by
 cases x with
 |none=>simp only[Iz,af_]at hx;subst hx;rfl
 |some x=>
  simp only[Iz]at hx
  split at hx
  ·rename_i u hu;cases hx;simp only[Go.AM.opdO,h.opd hu]
  ·cases hx
theorem Has.put(h:Has tm ρ)(d v):Has (tm.put (d+1) d (some v)) ((d,v)::ρ):=by
 intro i u hu;rw[dd_];simp only[Ad.at]at hu;cases hb:Nat.beq d i with
 |true=>rw[hb]at hu;have:=ac_ hb;subst this;rw[if_pos rfl];exact hu
 |false=>
  rw[hb]at hu
  rw[if_neg (fun he=>by subst he;rw[aw_]at hb;cases hb)]
  exact h i u hu
def As(E:Env)(Rr:Rec)(op:Op)(ρ:Ad)(σ:Sto)(v:AV)(σ':Sto):Prop:=∀tm,Has tm ρ->opA E op Rr tm σ=some (v,σ')
variable {x y c a b:Operand}{v u u' z:AV}{l l':List AV}{t:Nat}{n:Nat}
theorem Ag(hx:Ah E ρ x=some v):As E Rr (.move x) ρ σ v σ:=fun tm h=>by simp only[opA,Aw,Aad,h.opd hx]
theorem Gd(hx:Ah E ρ x=some v):As E Rr (.assign x) ρ σ v σ:=fun tm h=>by simp only[opA,Aw,Aad,h.opd hx]
theorem A3{bb}(hc:Ah E ρ c=some (.bool bb))(hb:bb=true)(hx:Ah E ρ a=some v):As E Rr (.pick c a b) ρ σ v σ:=fun tm h=>by
 subst hb;simp only[opA,Aw,Ad8,h.opd hc,h.opd hx]
theorem Au{bb}(hc:Ah E ρ c=some (.bool bb))(hb:bb=false)(hx:Ah E ρ b=some v):As E Rr (.pick c a b) ρ σ v σ:=fun tm h=>by
 subst hb;simp only[opA,Aw,Ad8,h.opd hc,h.opd hx]
theorem Ge{ad off}(hx:Ah E ρ x=some (.pr ad off)):As E Rr (.nilCheck x) ρ σ (.pr ad off) σ:=fun tm h=>by simp only[opA,Aw,Jf,h.opd hx]
theorem Eq(hx:Ah E ρ x=some (.pv l)):As E Rr (.nilCheck x) ρ σ (.pv l) σ:=fun tm h=>by simp only[opA,Aw,Jf,h.opd hx]
def zI(P:Program)(t:Nat):Option (List AV):=match Ay P t with|some ti=>ti.zero|none=>none
def ldI(P:Program)(t:Nat):Option (Nat×Bool):=match Ay P t with|some ti=>some (ti.size,ti.isAgg)|none=>none
def okI(P:Program)(t:Nat):Bool:=match Ay P t with|some _=>true|none=>false
def fdI(P:Program)(t i:Nat):Option (Nat×Nat×Bool):=match Ay P t with
 |some ti=>match ti.desc with
  |.struct fs=>match fs.toList[i]? with
   |some f=>match Ay P f.type with
    |some tf=>some (f.offset,tf.size,tf.isAgg)
    |none=>none
   |none=>none
  |_=>none
 |none=>none
def elI(P:Program)(t:Nat):Option (Nat×Nat×Option (List AV)):=match Ay P t with
 |some ti=>match ti.desc with
  |.slice e=>match Ay P e with
   |some te=>some (te.size,te.bytes,te.zero)
   |none=>none
  |_=>none
 |none=>none
def arI(P:Program)(t:Nat):Option (Nat×Nat×Bool):=match Ay P t with
 |some ti=>match ti.desc with
  |.array n e=>match Ay P e with
   |some te=>some (n,te.size,te.isAgg)
   |none=>none
  |_=>none
 |none=>none
def bdF(P:Program):List Field->Option (List (Nat×Nat))
 |[]=>some []
 |f::r=>match Ay P f.type,bdF P r with
  |some ti,some l=>some ((f.offset,ti.size)::l)
  |_,_=>none
def bdI(P:Program)(t:Nat):Option (List AV×List (Nat×Nat)):=match Ay P t with
 |some ti=>match ti.zero,ti.desc with
  |some z,.struct fs=>match Q7 P fs.toList,bdF P fs.toList with
   |true,some l=>some (z,l)
   |_,_=>none
  |_,_=>none
 |none=>none
def mpI(P:Program)(t:Nat):Option (Nat×AV×Nat×Bool):=match Ay P t with
 |some ti=>match ti.desc with
  |.map kt et=>match Ay P et with
   |some te=>match Lh te with
    |some z=>some (kt,z,te.size,te.isAgg)
    |none=>none
   |none=>none
  |_=>none
 |none=>none
def Fs(P:Program)(t:Nat):Bool:=match Ay P t with|some ti=>(match ti.desc with|.string=>true|_=>false)|none=>false
def Zv(P:Program)(t:Nat):Bool:=match Ay P t with|some ti=>(match ti.desc with|.bool=>true|_=>false)|none=>false
def Mk(P:Program)(t:Nat):Bool:=match Ay P t with|some ti=>(match ti.desc with|.slice _=>true|_=>false)|none=>false
def Cz(sz:Nat)(agg:Bool)(l:List AV):Option AV:=
 match agg with
 |true=>match Dr sz l with|some cs=>some (.agg cs)|none=>none
 |false=>match l with|v::_=>some v|[]=>none
def Em(σ:Sto):AV->Option (List AV)
 |.pr a off=>match σ.cells a with|some vs=>some (vs.drop off)|none=>none
 |.pv cs=>some cs
 |_=>none
theorem Rj{P sz agg}(h:ldI P t=some (sz,agg)):∃ti,Ay P t=some ti/\ti.size=sz/\ti.isAgg=agg:=by
 unfold ldI at h
 grind
theorem Ml(ti l):Ff ti l=Cz ti.size ti.isAgg l:=by
 unfold Ff Cz
 grind
theorem Ac{sz agg cs}(hi:ldI E.P t=some (sz,agg))(hx:Ah E ρ x=some u)(hc:Em σ u=some cs)(hv:Cz sz agg cs=some v):
  As E Rr (.load t x) ρ σ v σ:=fun tm h=>by
 obtain⟨ti,h1,h2,h3⟩:=Rj hi;subst h2 h3;simp only[opA,Aw,h1,h.opd hx];cases u<;>simp only[Em]at hc<;>try (cases hc)
 ·rename_i a off
  split at hc
  ·rename_i vs hvs
   cases hc;simp only[Na,hvs,Ml,hv]
  grind
 ·simp only[Na,Ml,hv]
theorem By{sz agg ad off vs vs' cs}(hi:ldI E.P t=some (sz,agg))(hx:Ah E ρ x=some (.pr ad off))(hy:Ah E ρ y=some v)
  (hc:v.cellsN sz=some cs)(hv:σ.cells ad=some vs)(hs:Et vs off cs=some vs'):As E Rr (.store t x y) ρ σ An (σ.set ad (.cells vs')):=fun tm h=>by
 obtain⟨ti,h1,h2,h3⟩:=Rj hi;subst h2 h3;simp only[opA,Aw,h1,h.opd hx,h.opd hy,Wc,hc,hv,hs]
theorem Bu{z}(hi:zI E.P t=some z):As E Rr (.alloc t) ρ σ (.pr (nx σ) 0) (σ.new (.cells z)):=fun tm h=>by
 unfold zI at hi
 split at hi
 ·rename_i ti hti
  simp only[opA,Aw,hti,hi,Aab]
 grind
theorem Aqy{sz agg cs}(hi:ldI E.P t=some (sz,agg))(hx:Ah E ρ x=some v)(hc:v.cellsN sz=some cs):
  As E Rr (.box t x) ρ σ (.pr (nx σ) 0) (σ.new (.cells cs)):=fun tm h=>by
 obtain⟨ti,h1,h2,h3⟩:=Rj hi;subst h2 h3;simp only[opA,Aw,h1,h.opd hx,sBox,hc]
def addP:AV->Nat->Option AV
 |.pr a off,n=>some (.pr a (off+n))
 |.pv cs,n=>some (.pv (cs.drop n))
 |_,_=>none
theorem Amf(x n):Po x n=addP x n:=by cases x<;>simp only[Po,addP,Ak]
theorem Ae{i off sz agg}(hi:fdI E.P t i=some (off,sz+1,agg))(hx:Ah E ρ x=some u)(hp:addP u off=some v):
  As E Rr (.fieldAddr t x i) ρ σ v σ:=fun tm h=>by
 unfold fdI at hi
 split at hi
 ·rename_i ti hti
  split at hi
  ·rename_i fs hfs
   split at hi
   ·rename_i f hf
    split at hi
    ·rename_i tf htf
     simp only[af_,ba_]at hi;obtain⟨k1,k2,k3⟩:=hi;subst k1;simp only[opA,Aw,hti,hfs,hf,htf,k2,h.opd hx,Aqj,Amf,hp]
    grind
   grind
  grind
 grind
theorem Qc{sz by' zz}(h:elI E.P t=some (sz,by',zz)):∃ti e te,Ay E.P t=some ti/\ti.desc=.slice e/\Ay E.P e=some te/\te.size=sz/\te.bytes=by'/\te.zero=zz:=by
 unfold elI at h
 grind
theorem Abd{u n}(h:lenA u=some n)(hs:Ad9 u=true):(∃a off sz cap,u=.sr a off sz n cap)∨(∃cs sz cap,u=.sv cs sz n cap)∨(u=.nil (.slice none 0 0)/\n=0):=by
 unfold lenA at h
 split at h
 ·grind
 ·grind
 ·grind
 ·simp[Ad9]at hs
 grind
def Aie:AV->Nat->AV
 |.sr a off sz _ _,n=>.pr a (off+n)
 |.sv cs _ _ _,n=>.pv (cs.drop n)
 |_,_=>.any
theorem Aif{sz by' m zz k}(hi:elI E.P t=some (sz,by',zz))(hx:Ah E ρ x=some u)(hy:Ah E ρ y=some (.int k (.ofNat n)))
  (hl:lenA u=some m)(hs:Ad9 u=true)(hn:n<m):As E Rr (.indexAddr t x y) ρ σ (Aie u (n*sz)) σ:=fun tm h=>by
 obtain⟨ti,e,te,h1,h2,h3,h4,h5,h6⟩:=Qc hi;subst h4;simp only[opA,Aw,h1,h2,h3,h.opd hx,h.opd hy]
 have hb:∀m,n<m->Nat.blt n m=true:=fun m hm=>by simpa using hm
 rcases Abd hl hs with⟨a,off,sz',cap,rfl⟩|⟨cs,sz',cap,rfl⟩|⟨rfl,rfl⟩
 ·simp only[Gt,hb _ hn,cond_true,Ak,Aie]
 ·simp only[Gt,hb _ hn,cond_true,Aie]
 ·omega
theorem Bp{sz m agg k}(hi:arI E.P t=some (m,sz,agg))(hx:Ah E ρ x=some u)(hy:Ah E ρ y=some (.int k (.ofNat n)))
  (hn:n<m)(hp:addP u (n*sz)=some v):As E Rr (.indexAddr t x y) ρ σ v σ:=fun tm h=>by
 unfold arI at hi
 split at hi
 ·rename_i ti hti
  split at hi
  ·rename_i nn e he
   split at hi
   ·rename_i te hte
    simp only[af_,ba_]at hi;obtain⟨k1,k2,k3⟩:=hi;subst k1 k2
    have hb:Nat.blt n nn=true:=by simpa using hn
    simp only[opA,Aw,hti,he,hte,h.opd hx,h.opd hy,E6,hb,cond_true,Amf,hp]
   grind
  grind
 grind
theorem Aig{s k w}(hi:Fs E.P t=true)(hx:Ah E ρ x=some (.str s))(hy:Ah E ρ y=some (.int k (.ofNat n)))(hn:s[n]? =some w):
  As E Rr (.index t x y) ρ σ (.int .u8 (.ofNat w)) σ:=fun tm h=>by
 unfold Fs at hi
 split at hi
 ·rename_i ti hti
  split at hi
  ·rename_i hd
   simp only[opA,Aw,hti,hd,h.opd hx,h.opd hy,Lc,hn]
  grind
 grind
theorem Nl{P}(h:okI P t=true):∃ti,Ay P t=some ti:=by
 unfold okI at h
 grind
theorem Qd(k):Ed k k=true:=by cases k<;>rfl
theorem L0{k op p q}{ty:Nat}(hi:okI E.P t=true)(hx:Ah E ρ x=some (.int k p))(hy:Ah E ρ y=some (.int k q))(hv:Ic op k p q=some v):
  As E Rr (.binOp op t x y ty) ρ σ v σ:=fun tm h=>by
 obtain⟨ti,hti⟩:=Nl hi;simp only[opA,Aw,h.opd hx,h.opd hy,Wb,hti,Qd,cond_true,hv,Sx]
theorem Agp{op p q}{ty:Nat}(hi:okI E.P t=true)(hx:Ah E ρ x=some (.str p))(hy:Ah E ρ y=some (.str q))(hv:T3 op p q=some v):
  As E Rr (.binOp op t x y ty) ρ σ v σ:=fun tm h=>by
 obtain⟨ti,hti⟩:=Nl hi;simp only[opA,Aw,h.opd hx,h.opd hy,Wb,hti,hv,Sx]
theorem At5{k p q}:Ic .lss k p q=some (.bool (decide (p<q))):=by
 simp only[Ic,Ec];congr 2;grind
theorem At6{k p q}:Ic .leq k p q=some (.bool (decide (p<=q))):=by simp only[Ic,Ec]
theorem At7{k p q}:Ic .gtr k p q=some (.bool (decide (q<p))):=by
 simp only[Ic,Ec];congr 2;grind
theorem At8{k p q}:Ic .geq k p q=some (.bool (decide (q<=p))):=by simp only[Ic,Ec]
theorem At9{k p q}:Ic .eql k p q=some (.bool (decide (p=q))):=by simp only[Ic,Jg];congr 2
theorem Aua{k p q}:Ic .neq k p q=some (.bool (!decide (p=q))):=by simp only[Ic,Jg];congr 2
theorem Aub{p q}(h:p+q<9223372036854775808):Ic .add .i64 (.ofNat p) (.ofNat q)=some (.int .i64 (.ofNat (p+q))):=by
 have:Nat.ble (p+q) 9223372036854775807=true:=ar_ Om;simp only[Ic,Ako,Me,Ak,M0,this,cond_true]
theorem Amg{p q}:T3 .eql p q=some (.bool (decide (p=q))):=by
 simp only[T3];congr 2;by_cases h:p=q
 ·rw[(Gu p q).2 h];simp[h]
 ·cases hb:Fm p q
  ·simp[h]
  ·exact absurd ((Gu p q).1 hb) h
theorem Auc{p q}:T3 .neq p q=some (.bool (!decide (p=q))):=by
 have:=@Amg p q;simp only[T3,af_,AV.bool.injEq]at this⊢
 grind
theorem Qe{k p q}{ty:Nat}(hi:okI E.P t=true)(hx:Ah E ρ x=some (.int k p))(hy:Ah E ρ y=some (.int k q)):As E Rr (.binOp .lss t x y ty) ρ σ (.bool (decide (p<q))) σ:=L0 hi hx hy At5
theorem Hn{k p q}{ty:Nat}(hi:okI E.P t=true)(hx:Ah E ρ x=some (.int k p))(hy:Ah E ρ y=some (.int k q)):As E Rr (.binOp .leq t x y ty) ρ σ (.bool (decide (p<=q))) σ:=L0 hi hx hy At6
theorem Wv{k p q}{ty:Nat}(hi:okI E.P t=true)(hx:Ah E ρ x=some (.int k p))(hy:Ah E ρ y=some (.int k q)):As E Rr (.binOp .gtr t x y ty) ρ σ (.bool (decide (q<p))) σ:=L0 hi hx hy At7
theorem Agq{k p q}{ty:Nat}(hi:okI E.P t=true)(hx:Ah E ρ x=some (.int k p))(hy:Ah E ρ y=some (.int k q)):As E Rr (.binOp .geq t x y ty) ρ σ (.bool (decide (q<=p))) σ:=L0 hi hx hy At8
theorem H4{k p q}{ty:Nat}(hi:okI E.P t=true)(hx:Ah E ρ x=some (.int k p))(hy:Ah E ρ y=some (.int k q)):As E Rr (.binOp .eql t x y ty) ρ σ (.bool (decide (p=q))) σ:=L0 hi hx hy At9
theorem Aqz{k p q}{ty:Nat}(hi:okI E.P t=true)(hx:Ah E ρ x=some (.int k p))(hy:Ah E ρ y=some (.int k q)):As E Rr (.binOp .neq t x y ty) ρ σ (.bool (!decide (p=q))) σ:=L0 hi hx hy Aua
theorem D3{p q}{ty:Nat}(hi:okI E.P t=true)(hx:Ah E ρ x=some (.int .i64 (.ofNat p)))(hy:Ah E ρ y=some (.int .i64 (.ofNat q)))(hb:p+q<9223372036854775808):
  As E Rr (.binOp .add t x y ty) ρ σ (.int .i64 (.ofNat (p+q))) σ:=L0 hi hx hy (Aub hb)
theorem Awy{p q}{ty:Nat}(hi:okI E.P t=true)(hx:Ah E ρ x=some (.str p))(hy:Ah E ρ y=some (.str q)):As E Rr (.binOp .eql t x y ty) ρ σ (.bool (decide (p=q))) σ:=Agp hi hx hy Amg
theorem Awz{p q}{ty:Nat}(hi:okI E.P t=true)(hx:Ah E ρ x=some (.str p))(hy:Ah E ρ y=some (.str q)):As E Rr (.binOp .neq t x y ty) ρ σ (.bool (!decide (p=q))) σ:=Agp hi hx hy Auc
theorem Dc{bb}(hx:Ah E ρ x=some (.bool bb)):As E Rr (.unOp .not t x) ρ σ (.bool (!bb)) σ:=fun tm h=>by
 simp only[opA,Aw,h.opd hx,unA,Sx]
theorem S7{vs i}(hx:Ah E ρ x=some (.tup vs))(hv:vs[i]? =some v):As E Rr (.extract x i) ρ σ v σ:=fun tm h=>by
 simp only[opA,Aw,h.opd hx,Nc,hv]
theorem Amh{f p q}(hp:Kc E ρ p.toList=some l)(hq:Kc E ρ q.toList=some l'):As E Rr (.makeFunc f p q) ρ σ (.fn f l l') σ:=fun tm h=>by
 simp only[opA,Aw,h.opds hp,h.opds hq,Al4]
theorem Ami{f args}{tys:Array Nat}{k:Nat}{vs first cap full}(hf:Ah E ρ f=some (.fn (.func k) first cap))(ha:Kc E ρ args.toList=some vs)
  (hl:first++vs++cap=full)(hr:Rr (.fn k) full σ=some (v,σ')):As E Rr (.call ⟨.value f,args,tys⟩) ρ σ v σ':=fun tm h=>by
 subst hl;simp only[opA,h.opd hf,h.opds ha,Rb,hr]
theorem Abe{kt sz agg}(h:mpI E.P t=some (kt,z,sz,agg)):∃ti et te,Ay E.P t=some ti/\ti.desc=.map kt et/\Ay E.P et=some te/\Lh te=some z/\te.size=sz/\te.isAgg=agg:=by
 unfold mpI at h
 grind
def Xz(σ:Sto)(kt:Nat)(es:List (Key×AV)):AV->Prop
 |.mp r=>∃ver,σ.get r=some (.map kt es ver)
 |.nil (.map none)=>es=[]
 |_=>False
theorem X3{kt es u}(h:Xz σ kt es u):(∃r ver,u=.mp r/\σ.get r=some (.map kt es ver))∨(u=.nil (.map none)/\es=[]):=by
 unfold Xz at h
 grind
theorem Aet{kt sz agg key es}(hi:mpI E.P t=some (kt,z,sz,agg))(hx:Ah E ρ x=some u)(hm:Xz σ kt es u)
  (hy:Ah E ρ y=some u')(hk:D4 E.P kt u'=some key):As E Rr (.lookup t x y false) ρ σ ((D5 key es).getD z) σ:=fun tm h=>by
 obtain⟨ti,et,te,h1,h2,h3,h4,h5,h6⟩:=Abe hi;simp only[opA,Aw,h1,h2,h3,h4,h.opd hx,h.opd hy,hk,Ky]
 rcases X3 hm with⟨r,ver,rfl,hm'⟩|⟨rfl,rfl⟩
 ·simp only[hm',aw_];cases D5 key es<;>rfl
 ·simp[D5,Aae]
theorem Abf{kt sz agg key es}(hi:mpI E.P t=some (kt,z,sz,agg))(hx:Ah E ρ x=some u)(hm:Xz σ kt es u)
  (hy:Ah E ρ y=some u')(hk:D4 E.P kt u'=some key):As E Rr (.lookup t x y true) ρ σ (.tup [(D5 key es).getD z,.bool (D5 key es).isSome]) σ:=fun tm h=>by
 obtain⟨ti,et,te,h1,h2,h3,h4,h5,h6⟩:=Abe hi;simp only[opA,Aw,h1,h2,h3,h4,h.opd hx,h.opd hy,hk,Ky]
 rcases X3 hm with⟨r,ver,rfl,hm'⟩|⟨rfl,rfl⟩
 ·simp only[hm',aw_];cases D5 key es<;>rfl
 ·simp[D5,Aae]
def Aot(k:Key)(v:AV)(es:List (Key×AV)):List (Key×AV):=match D5 k es with|some _=>Ph k v es|none=>Nx k v es
theorem Aeu{kt sz ver r agg key es w}(hi:mpI E.P t=some (kt,z,sz,agg))(hx:Ah E ρ x=some (.mp r))(hm:σ.get r=some (.map kt es ver))
  (hy:Ah E ρ y=some u')(hk:D4 E.P kt u'=some key)(hw:Ah E ρ w=some v)(hf:∀te:TI,te.size=sz->te.isAgg=agg->Je te v=true):
  As E Rr (.mapUpdate t x y w) ρ σ An (σ.set r (.map kt (Aot key v es) (ver+1))):=fun tm h=>by
 obtain⟨ti,et,te,h1,h2,h3,h4,h5,h6⟩:=Abe hi;simp only[opA,Aw,h1,h2,h3,h.opd hx,h.opd hy,h.opd hw,hk,N1,hm,aw_,hf te h5 h6,be_,Ak,Aot]
 grind
theorem Gx{kt sz agg}(hi:mpI E.P t=some (kt,z,sz,agg)):As E Rr (.makeMap t none) ρ σ (.mp (nx σ)) (σ.new (.map kt [] 0)):=fun tm h=>by
 obtain⟨ti,et,te,h1,h2,h3,h4,h5,h6⟩:=Abe hi;simp only[opA,Aw,h1,h2,T5]
theorem Bf{t₀}(hi:Mk E.P t₀=true)(hx:Ah E ρ x=some u)(hl:lenA u=some n)(hs:Ad9 u=true):As E Rr (.call ⟨.builtin .len,#[x],#[t₀]⟩) ρ σ (.int .i64 (.ofNat n)) σ:=fun tm h=>by
 unfold Mk at hi
 split at hi
 ·rename_i ti hti
  split at hi
  ·rename_i e hd
   simp only[opA,Aw,hti,Ee,hd,h.opd hx,opds,sLen]
   rcases Abd hl hs with⟨a,off,sz',cap,rfl⟩|⟨cs,sz',cap,rfl⟩|⟨rfl,rfl⟩<;>rfl
  grind
 grind
theorem Aou{t₀ s}(hi:Fs E.P t₀=true)(hx:Ah E ρ x=some (.str s)):As E Rr (.call ⟨.builtin .len,#[x],#[t₀]⟩) ρ σ (.int .i64 (.ofNat s.length)) σ:=fun tm h=>by
 unfold Fs at hi
 split at hi
 ·rename_i ti hti
  split at hi
  ·rename_i hd
   simp only[opA,Aw,hti,Ee,hd,h.opd hx,opds,Zt,Ak]
  grind
 grind
end
section
open Go Go.Proofs
def Ak1:List AV:=[.str [],.bool false,.int .i64 0,.int .i64 0,.str [36,99],.bool false,.int .i64 1,.int .i64 200,.str [36,118],.bool false,.int .i64 1,.int .i64 200,.str [36,102],.bool true,.int .i64 2,.int .i64 2,
 .str [36,101],.bool true,.int .i64 1,.int .i64 200,.str [36,100],.bool false,.int .i64 1,.int .i64 200,.str [36,97],.bool true,.int .i64 1,.int .i64 200,.str [36,112],.bool true,.int .i64 1,.int .i64 200,
 .str [36,123],.bool false,.int .i64 0,.int .i64 0,.str [36,125],.bool false,.int .i64 0,.int .i64 0]
def glW(g:Nat):Option (List AV):=match Nat.beq g 0 with|true=>some Ak1|false=>none
noncomputable def Ew:Env:={ P:=Tryz.prog,gl:=glW,sum:=fun _=>none,dsum:=fun _=>none,byref:=fun _=>false }
theorem Di:Tryz.prog.follows .mixedOrders=true:=by kernel_rfl
def Abg(fn:Func):Bool:= !(fn.name== "runtime.NumGoroutine")
theorem Agr:Tryz.prog.funcs.toList.all Abg=true:=by kernel_rfl
theorem Ke(f:Nat)(fn)(h:Tryz.prog.funcs[f]? =some fn):(fn.name== "runtime.NumGoroutine")=false:=by
 have h1:fn∈Tryz.prog.funcs.toList:=gr;have:=b_.1 Agr fn h1
 simpa[Abg]using this
end
section
variable {E:Env}{C C':Ctx}{N N':Nat}{w w':World}{Rr:Rec}
theorem Ig:∀(l:List AV) (i:Nat) (t:Tr AV) (j:Nat),(Kz l i t).get j=if i<=j/\j<i+l.length then l[j-i]? else t.get j
 |[],i,t,j=>by simp only[Kz];rw[if_neg (by simp)]
 |x::r,i,t,j=>by
  simp only[Kz];rw[Ig r (i+1),dd_];simp only[as_]
  by_cases h1:i+1<=j/\j<i+1+r.length
  ·rw[if_pos h1,if_pos Om,show j-i=(j-(i+1))+1 by omega];rfl
  ·rw[if_neg h1]
   by_cases h2:j=i
   ·subst h2;rw[if_pos rfl,if_pos Om];simp
   ·rw[if_neg h2,if_neg Om]
theorem Ags{P σ}(hs:Sim P C w σ){tm tmps}(ht:TR C (nx σ) w tm tmps){r v}(h:Aai P tm σ r=some v):
  ∃x,((match r with
   |.tmp t=>pure (tmps.getD t undef)
   |.cell a t=>do loadVar t (←asAddr (tmps.getD a undef)):Sem Value)).run P w=.ok x w/\R C (nx σ) w v x:=by
 cases r with
 |tmp t=>exact⟨_,rfl,ht t v h⟩
 |cell a t=>
  simp only[Aai]at h
  split at h
  ·rename_i ti hti
   split at h
   ·rename_i b off cr
    split at h
    ·rename_i vs hvs
     have hX:=ht a _ cr
     have hl:Na ti (.pr b off) σ=some (v,σ):=by simp[Na,hvs,h]
     obtain⟨_,x,q1,q2⟩:=P1 hs hti hX hl;unfold R at hX;obtain⟨ad,hX,_⟩:=hX;refine⟨x,?_,q2⟩
     show((do loadVar t (←asAddr (tmps.getD a undef)):Sem Value)).run P w=_
     rw[hX]at q1⊢
     simpa[Instr.loadAt,Instr.sureAddr,asAddr]using q1
    ·cases h
   ·cases h
  ·cases h
theorem Abh{P σ}(hs:Sim P C w σ){tm tmps}(ht:TR C (nx σ) w tm tmps){f:ResultVar->Sem Value}
  (hf:∀r,f r=match r with
   |.tmp t=>pure (tmps.getD t undef)
   |.cell a t=>do loadVar t (←asAddr (tmps.getD a undef))):∀{rs:List ResultVar} {vs:List AV},Ahw P tm σ rs=some vs->∃xs,(rs.mapM f).run P w=.ok xs w/\RL C (nx σ) w vs xs
 |[],vs,h=>by simp only[Ahw,af_]at h;subst h;exact⟨[],by simp,by unfold RL;trivial⟩
 |r::rs,vs,h=>by
  simp only[Ahw]at h
  split at h
  ·rename_i v l hv hl
   cases h;obtain⟨x,h1,h2⟩:=Ags hs ht hv;obtain⟨xs,h3,h4⟩:=Abh hs ht hf hl
   refine⟨x::xs,?_,by unfold RL;exact⟨h2,h4⟩⟩
   have h1':(f r).run P w=.ok x w:=by rw[hf r];exact h1
   simp[h_,h1',h3]
  ·cases h
theorem Hx{P σ}(hs:Sim P C w σ){tm fn tmps}(ht:TR C (nx σ) w tm tmps){vs}(h:Ahw P tm σ fn.results.toList=some vs):
  ∃x,(results fn tmps).run P w=.ok x w/\R C (nx σ) w (Akq vs) x:=by
 obtain⟨f,hf,he⟩:∃f:ResultVar->Sem Value,(∀r,f r=match r with
   |.tmp t=>pure (tmps.getD t undef)
   |.cell a t=>do loadVar t (←asAddr (tmps.getD a undef)))/\results fn tmps=(do let vs←fn.results.mapM f;pure (if h:vs.size=1 then vs[0]else .tuple vs)):=
  ⟨_,fun r=>by cases r<;>rfl,rfl⟩
 obtain⟨xs,h1,h2⟩:=Abh hs ht hf h
 have hr:(results fn tmps).run P w=.ok (if h:xs.toArray.size=1 then xs.toArray[0]else .tuple xs.toArray) w:=by
  rw[he];simp only[Array.mapM_eq_mapM_toList,Sem.run_bind,Sem.run_map];rw[h1]
  simp
 refine⟨_,hr,?_⟩
 match vs,xs,h2 with
 |[],[],_=>unfold Akq R;exact⟨#[],rfl,by unfold RL;trivial⟩
 |[v],[x],h2=>unfold RL at h2;exact h2.1
 |v::v'::r,x::x'::s,h2=>
  have:¬(x::x'::s).toArray.size=1:=by simp
  rw[dif_neg this];simp only[Akq];unfold R;exact⟨_,rfl,h2⟩
 |[],_::_,h2=>unfold RL at h2;exact h2.elim
 |[_],[],h2=>unfold RL at h2;exact h2.elim
 |[_],_::_::_,h2=>unfold RL at h2;have:=h2.2;unfold RL at this;exact this.elim
 |_::_::_,[],h2=>unfold RL at h2;exact h2.elim
 |_::_::_,[_],h2=>unfold RL at h2;have:=h2.2;unfold RL at this;exact this.elim
theorem Ur{C w σ args vs}{fn:Func}(hs:Sim E.P C w σ)(hg:Iw C (nx σ) w E)(bp:RL C (nx σ) w args vs.toList)(hle:args.length<=fn.ntmps):
  SSt E C w ⟨Kz args 0 .e,fn.ntmps,[],σ⟩ { tmps:=vs++Array.replicate (fn.ntmps-vs.size) undef,defers:=[] }:=by
 have bl:=bp.length;simp only[cd_]at bl
 refine⟨hs,hg,fun i y hy=>?_,by simp;omega,by unfold DR;trivial⟩
 simp only at hy;rw[Ig]at hy
 split at hy
 ·rename_i hi
  rw[es_]at hy;obtain⟨x,k1,k2⟩:=bp.get i y hy
  have:(vs++Array.replicate (fn.ntmps-vs.size) undef).getD i undef=x:=by
   rw[bo_,ek_ Om,←bw_,k1];rfl
  rw[this];exact k2
 ·simp[Tr.get]at hy
end
def Oh:Obj->Bool
 |.cells .. =>false
 |_=>true
structure Jb (w w':World)(l:Nat):Prop where
 size:w'.heap.size=w.heap.size
 other:∀b,b≠l->w'.heap[b]? =w.heap[b]?
 was:∃o,w.heap[l]? =some o/\Oh o=true
 is:∃o,w'.heap[l]? =some o/\Oh o=true
 os:w'.os=w.os/\w'.output=w.output
theorem Jb.put{w l o o'}(h:w.heap[l]? =some o)(h1:Oh o=true)(h2:Oh o'=true):Jb w (w.putObj l o') l:=
 ⟨World.putObj_size,fun b hb=>World.putObj_heap_other hb,⟨o,h,h1⟩,⟨o',World.putObj_heap_same (bc_.1 h).1,h2⟩,rfl,rfl⟩
abbrev gy_:=@Jb.put
section
variable {C:Ctx}{N:Nat}{w w':World}{l:Nat}
theorem Jb.cell(t:Jb w w' l){a v}(h:w.cell? a=some v):w'.cell? a=some v:=by
 by_cases hb:a.block=l
 ·obtain⟨o,h1,h2⟩:=t.was;unfold World.cell? at h;rw[hb,h1]at h;cases o<;>simp[Oh]at h2<;>simp at h
 ·unfold World.cell? at *;rw[t.other _ hb];exact h
theorem Jb.csize(t:Jb w w' l)(c):csize w' c=csize w c:=by
 unfold AM.csize
 by_cases hb:c=l
 ·subst hb;obtain⟨o,h1,h2⟩:=t.was;obtain⟨o',k1,k2⟩:=t.is;rw[h1,k1];cases o<;>simp[Oh]at h2<;>cases o'<;>simp[Oh]at k2<;>rfl
 ·rw[t.other _ hb]
mutual
theorem R.turn (t:Jb w w' l):∀(x:AV) (v:Value),R C N w x v->R C N w' x v
 |.pr _ _,v,hr=>by unfold R at *;exact hr
 |.sr a off sz len cap,v,hr=>by
  unfold R at *;obtain⟨ad,k,h1,h2,h3,h4,h5⟩:=hr
  exact⟨ad,k,h1,h2,h3,h4,fun c o hc=>by rw[t.csize];exact h5 c o hc⟩
 |.mp _,v,hr=>by unfold R at *;exact hr
 |.it _,v,hr=>by unfold R at *;exact hr
 |.stp _,v,hr=>by unfold R at *;exact hr
 |.yl _,v,hr=>by unfold R at *;exact hr
 |.flt _ _,v,hr=>by unfold R at *;exact hr
 |.pv cs,v,hr=>by
  unfold R at *;obtain⟨c,o,h1,h2,h3⟩:=hr;exact⟨c,o,h1,h2,RC.turn t cs c o h3⟩
 |.sv cs sz len cap,v,hr=>by
  unfold R at *;obtain⟨ado,q,h1,h2,h3,h4,h0,hh⟩:=hr;refine⟨ado,q,h1,h2,h3,h4,h0,fun ad ha=>?_⟩
  obtain⟨h5,h6,h7⟩:=hh ad ha;exact⟨h5,h6,RC.turn t cs ad.block ad.off h7⟩
 |.fn f p q,v,hr=>by
  unfold R at *;obtain⟨a,c,h1,h2,h3⟩:=hr;exact⟨a,c,h1,RL.turn t p _ h2,RL.turn t q _ h3⟩
 |.ifc ty x,v,hr=>by
  unfold R at *;obtain⟨y,h1,h2⟩:=hr;exact⟨y,h1,R.turn t x y h2⟩
 |.agg cs,v,hr=>by
  unfold R at *;obtain⟨a,h1,h2,h3⟩:=hr;exact⟨a,h1,RL.turn t cs _ h2,h3⟩
 |.tup vs,v,hr=>by
  unfold R at *;obtain⟨a,h1,h2⟩:=hr;exact⟨a,h1,RL.turn t vs _ h2⟩
 |.any,v,hr=>by unfold R;trivial
 |.bool x,v,hr=>by unfold R at *;exact hr
 |.int k' n,v,hr=>by unfold R at *;exact hr
 |.str l,v,hr=>by unfold R at *;exact hr
 |.nil y,v,hr=>by unfold R at *;exact hr
theorem RC.turn (t:Jb w w' l):∀(cs:List AV) (c o:Nat),RC C N w c cs o->RC C N w' c cs o
 |[],c,o,_=>by unfold RC;trivial
 |x::r,c,o,hr=>by
  unfold RC at *;obtain⟨⟨v,h1,h2,h3⟩,h4⟩:=hr;exact⟨⟨v,t.cell h1,h2,R.turn t x v h3⟩,RC.turn t r c (o+1) h4⟩
theorem RL.turn (t:Jb w w' l):∀(l:List AV) (vs:List Value),RL C N w l vs->RL C N w' l vs
 |[],[],_=>by unfold RL;trivial
 |x::r,v::s,hr=>by
  unfold RL at *;exact⟨R.turn t x v hr.1,RL.turn t r s hr.2⟩
 |[],_::_,hr=>by unfold RL at hr;exact hr.elim
 |_::_,[],hr=>by unfold RL at hr;exact hr.elim
end
theorem ER.turn(t:Jb w w' l):∀{l:List (Key×AV)} {L:List MapEntry},ER C N w l L->ER C N w' l L
 |[],[],_=>by unfold ER;trivial
 |x::r,f::s,h=>by unfold ER at *;exact⟨⟨h.1.1,R.turn t _ _ h.1.2⟩,ER.turn t h.2⟩
 |[],_::_,h=>by unfold ER at h;exact h.elim
 |_::_,[],h=>by unfold ER at h;exact h.elim
theorem OR.turn{P σ a O}(h:OR P C w σ a O)(t:Jb w w' l)(hl:¬C.own l):OR P C w' σ a O:=by
 have hh:∀{a c o},C.loc a=some (c,o)->w'.heap[c]? =w.heap[c]? :=fun{a c o} hc=>t.other c (fun e=>hl (.inr ⟨a,o,e▸hc⟩))
 cases O with
 |cells vs=>
  obtain⟨c,o,cs,T,h1,h2,h3⟩:=h;exact⟨c,o,cs,T,h1,(hh h1).trans h2,RC.turn t _ _ _ h3⟩
 |map kt es ver=>
  obtain⟨c,E,clock,h1,h2,h3⟩:=h;obtain⟨L,k1,k2⟩:=h3.perm;exact⟨c,E,clock,h1,(hh h1).trans h2,h3.typed,⟨L,k1,ER.turn t k2⟩,h3.keys,h3.born,h3.apart⟩
 |iter m ver left cur=>
  cases m with
  |none=>
   obtain⟨c,since,seen,last,h1,h2,h3⟩:=h;exact⟨c,since,seen,last,h1,(hh h1).trans h2,h3⟩
  |some m=>
   obtain⟨h0,c,cm,since,seen,last,h1,h2,h3⟩:=h;refine⟨h0,c,cm,since,seen,last,h1,(hh h1).trans h2,fun kt es' v' hg=>?_⟩
   obtain⟨k1,k2⟩:=h3 kt es' v' hg;refine⟨k1,fun hv=>?_⟩
   obtain⟨E,q1,q2,q3,⟨L,q4,q5⟩,q6⟩:=k2 hv;exact⟨E,q1,(hh q1).trans q2,q3,⟨L,q4,ER.turn t q5⟩,fun k x hk=>let⟨f,f1,f2,f3,f4⟩:=q6 k x hk;⟨f,f1,f2,f3,R.turn t _ _ f4⟩⟩
 |stamp m ver k=>
  obtain⟨h0,h3⟩:=h;refine⟨h0,fun kt es' v' hg=>?_⟩
  obtain⟨k1,k2⟩:=h3 kt es' v' hg;refine⟨k1,fun hv=>?_⟩
  obtain⟨cm,E,clock,q1,q2,f⟩:=k2 hv;exact⟨cm,E,clock,q1,(hh q1).trans q2,f⟩
 |loop st=>
  obtain⟨c,r,h1,h2,h3⟩:=h;exact⟨c,r,h1,h2,(hh h1).trans h3⟩
theorem Sim.turn{P σ}(h:Sim P C w σ)(t:Jb w w' l)(hl:¬C.own l):Sim P C w' σ:=
 ⟨fun a O hg=>(h.obj a O hg).turn t hl,h.bound,h.dom,h.inj,fun a c o hc=>by rw[t.size];exact h.lt a c o hc,fun b hb=>by rw[t.size];exact h.rlt b hb,h.rdis⟩
theorem Bm(σ):nx σ.bump=nx σ+1:=by cases σ;simp only[Sto.bump,Ak,nx]
theorem Fh(σ:Sto)(a):σ.bump.get a=σ.get a:=by cases σ;simp only[Sto.bump,Ak,Sto.get]
theorem Sim.bump{P σ}(h:Sim P C w σ)(n):
  Sim P (C.addStm (nx σ) n) w σ.bump/\Ext C (nx σ) w (C.addStm (nx σ) n) (nx σ+1) w:=by
 have hne:∀{a},a<nx σ->¬a=nx σ:=fun h=>by omega
 have e:Ext C (nx σ) w (C.addStm (nx σ) n) (nx σ+1) w:=⟨by omega,nl,fun b _ ho=>⟨ho,rfl⟩,fun _ _ _ h=>h,
  fun a ha=>by simp[Ctx.addStm,hne ha],fun _ _=>rfl,fun _ _ _ _ _=>rfl,⟨rfl,fun _ _=>rfl⟩,rfl,rfl⟩
 refine⟨⟨fun a X hg=>?_,fun a X hg=>?_,fun a q hq=>?_,h.inj,h.lt,h.rlt,h.rdis⟩,e⟩
 ·rw[Fh]at hg
  refine(h.obj a X hg).ext (by rw[Bm];exact e) (h.bound a X hg) rfl (fun _ _ _=>rfl) fun x hx kt es' v' hg'=>?_
  rw[Fh]at hg';exact⟨kt,es',v',hg',nl,fun _=>⟨rfl,fun _ _ _=>rfl⟩⟩
 ·rw[Bm];rw[Fh]at hg;have:=h.bound a X hg;omega
 ·rw[Fh];exact h.dom a q hq
end
attribute [grind=] Bm Fh
section
variable {E:Env}{C C' C₁ C₂:Ctx}{N N' N₁ N₂:Nat}{w w' w₁ w₂ w₃ w₄:World}{l:Nat}
theorem Ext.turnNew(e:Ext C N w C₁ N₁ w₁)(t:Jb w₁ w₂ l)(hl:¬C₁.own l)(hge:w.heap.size<=l):Ext C N w C₁ N₁ w₂ where
 next:=e.next
 size:=by rw[t.size];exact e.size
 keep b hb ho:=by
  obtain⟨k1,k2⟩:=e.keep b hb ho
  exact⟨k1,by rw[t.other b Om,k2]⟩
 loc:=e.loc
 stm:=e.stm
 lr:=e.lr
 bsz a ha c o hc:=by rw[t.csize];exact e.bsz a ha c o hc
 res:=⟨e.res.1,fun b hb=>by rw[t.other b (fun he=>hl (.inl (by rw[e.res.1];grind))),e.res.2 b hb]⟩
 os:=⟨t.os.1.trans e.os.1,t.os.2.trans e.os.2⟩
end
def Ctx.setLoop(C:Ctx)(a:Nat)(n:Int)(r:Loop):Ctx:={ C with stm:=fun b=>if b=a then n else C.stm b,lr:=fun b=>if b=a then some r else C.lr b }
section
variable {P:Program}{C:Ctx}{w w':World}{σ:Sto}
theorem Sim.setLoop(h:Sim P C w σ)(n r):Sim P (C.setLoop (nx σ) n r) w σ/\Ext C (nx σ) w (C.setLoop (nx σ) n r) (nx σ) w:=by
 have hne:∀{a},a<nx σ->¬a=nx σ:=gr;have e:Ext C (nx σ) w (C.setLoop (nx σ) n r) (nx σ) w:=⟨nl,nl,fun b _ ho=>⟨ho,rfl⟩,fun _ _ _ h=>h,
  fun a ha=>by simp[Ctx.setLoop,hne ha],fun a ha=>by simp[Ctx.setLoop,hne ha],fun _ _ _ _ _=>rfl,⟨rfl,fun _ _=>rfl⟩,rfl,rfl⟩
 exact⟨⟨fun a X hg=>(h.obj a X hg).ext e (h.bound a X hg) rfl (fun _ _ _=>rfl) fun x _ kt es' v' hg'=>⟨kt,es',v',hg',nl,fun _=>⟨rfl,fun _ _ _=>rfl⟩⟩,
  h.bound,h.dom,h.inj,h.lt,h.rlt,h.rdis⟩,e⟩
theorem Sim.newLoop(h:Sim P C w σ){r}(hr:C9 r .ready=r)(p:Pu w w' (.loop r)):
  Sim P ((C.setLoop (nx σ) (w.heap.size:Int) r).add (nx σ) w.heap.size 0) w' (σ.new (.loop .ready))/\
  Ext C (nx σ) w ((C.setLoop (nx σ) (w.heap.size:Int) r).add (nx σ) w.heap.size 0) (nx σ+1) w':=by
 obtain⟨h1,e1⟩:=h.setLoop (w.heap.size:Int) r
 obtain⟨h2,e2⟩:=h1.new p (.loop .ready) rfl fun _=>⟨w.heap.size,r,by simp[Ctx.add],by simp[Ctx.add,Ctx.setLoop],by rw[hr];exact p.here⟩
 exact⟨h2,e1.trans e2⟩
theorem Sim.turnLoop(h:Sim P C w σ){a st}(hg:σ.get a=some (.loop st))(st'):
  ∃c r,C.loc a=some (c,0)/\C.lr a=some r/\w.heap[c]? =some (.loop (C9 r st))/\
   Sim P C (w.putObj c (.loop (C9 r st'))) (σ.set a (.loop st'))/\Ext C (nx σ) w C (nx σ) (w.putObj c (.loop (C9 r st'))):=by
 obtain⟨c,r,h1,h2,h3⟩:=h.obj a _ hg;have hlt:=(bc_.1 h3).1;have p:Wr w (w.putObj c (.loop (C9 r st'))) c (.loop (C9 r st')):=⟨World.putObj_size,World.putObj_heap_same hlt,fun b hb=>World.putObj_heap_other hb,rfl,rfl⟩
 have hsz:csize (w.putObj c (.loop (C9 r st'))) c=csize w c:=by unfold csize;rw[p.here,h3]
 obtain⟨k1,k2⟩:=h.upd h1 p hsz hg (.loop st') rfl gr fun _=>⟨c,r,h1,h2,p.here⟩
 grind
end
section
variable {E:Env}{Rr:Rec}
theorem Aq0{C N w x vs}(h:RL C N w [x] vs.toList):∃v,vs=#[v]/\R C N w x v:=by
 obtain⟨l⟩:=vs
 match l,h with
 |[],h=>unfold RL at h;exact h.elim
 |[v],h=>unfold RL at h;exact⟨v,rfl,h.1⟩
 |_::_::_,h=>unfold RL at h;have:=h.2;unfold RL at this;exact this.elim
def Gl(b B:Nat)(C:Ctx)(N:Nat)(w:World):Prop:=b<N/\(C.stm b).toNat=B/\B<=w.heap.size
theorem Gl.ext{b B C N w C' N' w'}(h:Gl b B C N w)(e:Ext C N w C' N' w'):Gl b B C' N' w':=
 ⟨ak_ h.1 e.next,by rw[e.stm b h.1];exact h.2.1,ai_ h.2.2 e.size⟩
theorem MB.of_DR{C N w}:∀{r:List (Nat×List AV)} {ds:List Deferred},DR C N w r ds->MB C N r w.heap.size
 |[],_,_=>fun x hx=>by cases hx
 |y::r,[],h=>by unfold DR at h;grind
 |y::r,d::ds,h=>by
  unfold DR at h;intro x hx hk a b hab
  rcases an_.1 hx with rfl|hx
  ·grind
  ·exact MB.of_DR h.2 x hx hk a b hab
end
end Go.AM
