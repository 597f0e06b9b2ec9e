/- A part of the proof; shortened by program. -/
import Derived.KernelRfl
import Derived.Test.YtmkaboegdoadhaaGreatDoorChecked
import Derived.Test.YtmkaboegdoadhaaGreatDoorQ05
set_option maxRecDepth 100000
set_option maxHeartbeats 4000000
set_option linter.unusedSimpArgs false
set_option linter.unusedVariables false
namespace Go.AM
open Go
section
variable {E:Env}{ops:List Oper}{Rr:Rec}{T:Nat->Tr AV}{V:Nat->AV}
theorem Up{o tm J J' v}(h:Ahv E ops Rr o tm J=some (v,J')):Bn ops o tm=some true/\opA E o.op Rr tm J=some (v,J'):=by
 unfold Ahv at h
 split at h
 ·rename_i hg;exact⟨hg,h⟩
 ·cases h
def Oe(E:Env)(ops:List Oper)(Rr:Rec)(T:Nat->Tr AV)(V:Nat->AV)(P:Nd->Prop)(c:Nd)(next:List Nat):Prop:=∀e∈next,∃o v J' c',ops[e]? =some o/\Aia E ops Rr o (T e) c.J v J'/\P c'/\
 (∀x,x∈c'.D↔x∈c.D∨x=e)/\Conv E (fun i=>if i=e then v else ovr c.aC V i) J' (ovr c'.aC V) c'.J
theorem Oe.mono{P P' c next}(h:Oe E ops Rr T V P c next)(hp:∀c,P c->P' c):Oe E ops Rr T V P' c next:=fun e he=>by
 obtain⟨o,v,J',c',h1,h2,h3,h4⟩:=h e he;exact⟨o,v,J',c',h1,h2,hp _ h3,h4⟩
theorem Aid{e J J' D}(h:Ps E ops Rr T V e J=some J'){P}(hp:P ⟨e::D,J',[]⟩):Oe E ops Rr T V P ⟨D,J,[]⟩ [e]:=by
 unfold Ps at h
 split at h
 ·rename_i o ho
  split at h
  ·rename_i v U hv
   cases hb:AV.beq (V e) v with
   |false=>rw[hb]at h;cases h
   |true=>
    rw[hb]at h;cases h;have:=AV.beq_eq _ _ hb;obtain⟨g1,g2⟩:=Up hv;intro x hx;rw[ao_]at hx;subst hx
    refine⟨o,v,J',_,ho,.inl ⟨g1,g2⟩,hp,fun y=>by simp[or_comm],ff_ fun i=>?_⟩
    by_cases hi:i=x
    ·rw[if_pos hi,←this,hi];rfl
    ·rw[if_neg hi]
  ·cases h
 ·cases h
theorem At4{i j J J' D l}(h:N2 E ops Rr T V i j D J=some (l,J')){P}(hp:P ⟨j::i::D,J',[]⟩)(hq:∀x∈l,P x.1):
  (⟨D,J,[]⟩:Nd)∈l.map (·.1)/\(∀x∈l,Oe E ops Rr T V P x.1 x.2)/\∀x∈l,(∀k∈x.1.D,k∈D∨k=i∨k=j)/\(x.1.aC=[]∨∃p v,x.1.aC=[(p,v)]/\p∈x.1.D):=by
 unfold N2 at h
 split at h
 ·rename_i oi oj hoi hoj
  split at h
  ·rename_i v1 σi v3 σj h1 h3
   obtain⟨gi,h1⟩:=Up h1;obtain⟨gj,h3⟩:=Up h3
   split at h
   ·rename_i ti xi yi tj xj yj ei ej
    rw[ei]at h1;rw[ej]at h3;obtain⟨s1,l1,c1,A,rfl,rfl,k1⟩:=Qb h1;obtain⟨s2,l2,c2,B,rfl,rfl,k2⟩:=Qb h3;simp only at h;rw[ag_,if_pos rfl,ag_,if_pos rfl]at h;simp only at h;cases hb:(!Nat.beq i j&&AV.beq (V i) (.sr (nx J+2) 0 s1 l1 c1)&&AV.beq (V j) (.sr (nx J+3) 0 s2 l2 c2))with
    |false=>rw[hb]at h;cases h
    |true=>
     rw[hb]at h;cases h;simp only[ad_,bi_]at hb;obtain⟨⟨b0,b1⟩,b2⟩:=hb
     have hij:i≠j:=fun hh=>by rw[hh,aw_]at b0;cases b0
     have b1:=AV.beq_eq _ _ b1;have b2:=AV.beq_eq _ _ b2
     have g1:∀(A B:List AV) x,((J.new (.cells A)).new (.cells B)).get x=if x=nx J+1 then some (.cells B)else if x=nx J then some (.cells A)else J.get x:=fun A B x=>by rw[ag_,ag_,Ao]
     have hge:∀x,((((((J.new (.cells A)).new (.cells B)).kill (nx J)).kill (nx J+1)).new (.cells A)).new (.cells B)).get x=if x=nx J+3 then some (.cells B)else if x=nx J+2 then some (.cells A)else if x=nx J∨x=nx J+1 then none else J.get x:=fun x=>by
      rw[ag_,ag_,bf_,bf_,g1];simp only[Ao,B3]
      by_cases q1:x=nx J+3
      ·rw[if_pos Om,if_pos q1]
      ·rw[if_neg Om,if_neg q1]
       by_cases q2:x=nx J+2
       ·rw[if_pos Om,if_pos q2]
       ·rw[if_neg Om,if_neg q2]
        by_cases q3:x=nx J+1
        ·rw[if_pos q3,if_pos (.inr q3)]
        ·rw[if_neg q3,if_neg q3]
         by_cases q4:x=nx J
         ·rw[if_pos q4,if_pos (.inl q4)]
         ·rw[if_neg q4,if_neg q4,if_neg (by omega:¬(x=nx J∨x=nx J+1))]
     have hnr:nx ((((((J.new (.cells A)).new (.cells B)).kill (nx J)).kill (nx J+1)).new (.cells A)).new (.cells B))=nx J+4:=by simp only[Ao,B3]
     refine⟨by simp,fun x hx=>?_,fun x hx=>?_⟩
     ·simp only[an_,cl_,or_false]at hx
      rcases hx with rfl|rfl|rfl
      ·intro e he;simp only[an_,cl_,or_false]at he
       rcases he with rfl|rfl
       ·exact⟨oi,_,_,⟨e::D,J.new (.cells A),[(e,.sr (nx J) 0 s1 l1 c1)]⟩,hoi,.inl ⟨gi,by rw[ei];exact h1⟩,hq (⟨e::D,J.new (.cells A),[(e,.sr (nx J) 0 s1 l1 c1)]⟩,[j]) (by simp),fun y=>by simp[or_comm],ff_ fun _=>rfl⟩
       ·exact⟨oj,_,_,⟨e::D,J.new (.cells B),[(e,.sr (nx J) 0 s2 l2 c2)]⟩,hoj,.inl ⟨gj,by rw[ej];exact h3⟩,hq (⟨e::D,J.new (.cells B),[(e,.sr (nx J) 0 s2 l2 c2)]⟩,[i]) (by simp),fun y=>by simp[or_comm],ff_ fun _=>rfl⟩
      ·intro e he;rw[ao_]at he;subst he
       refine⟨oj,_,_,_,hoj,.inl ⟨gj,by rw[ej];exact k2 _⟩,hp,fun y=>by simp[or_comm],Conv.rename (J:=J) (A:=A) (B:=B) (a:=nx J) (b:=nx J+1) (.inl ⟨rfl,rfl⟩) (by simp only[Ao]) hnr (by rw[g1,if_neg Om,if_pos rfl]) (by rw[g1,if_pos rfl]) (fun x=>?_) fun x=>?_⟩
       ·rw[hge]
        by_cases q:x=nx J∨x=nx J+1
        ·rw[if_pos q,if_pos q]
        ·rw[if_neg q,if_neg q,show((J.new (.cells A)).new (.cells B)).get x=J.get x from by rw[g1,if_neg Om,if_neg Om]]
       ·show(if x=e then _ else ovr [(i,_)] V x)=V x∨_
        by_cases q1:x=e
        ·rw[if_pos q1];refine .inr (.inr ⟨s2,l2,c2,by rw[Ao],?_⟩);rw[q1];exact b2
        ·rw[if_neg q1]
         by_cases q2:x=i
         ·refine .inr (.inl ⟨s1,l1,c1,?_,?_⟩)
          ·show(if x=i then _ else _)=_;rw[if_pos q2]
          ·rw[q2];exact b1
         ·left;show(if x=i then _ else _)=_;rw[if_neg q2]
      ·intro e he;rw[ao_]at he;subst he
       refine⟨oi,_,_,_,hoi,.inl ⟨gi,by rw[ei];exact k1 _⟩,hp,fun y=>by simp[or_left_comm,or_comm],Conv.rename (J:=J) (A:=A) (B:=B) (a:=nx J+1) (b:=nx J) (.inr ⟨rfl,rfl⟩) (by simp only[Ao]) hnr (by rw[g1,if_pos rfl]) (by rw[g1,if_neg Om,if_pos rfl]) (fun x=>?_) fun x=>?_⟩
       ·rw[hge]
        by_cases q:x=nx J∨x=nx J+1
        ·rw[if_pos q,if_pos q]
        ·rw[if_neg q,if_neg q,show((J.new (.cells B)).new (.cells A)).get x=J.get x from by rw[g1,if_neg Om,if_neg Om]]
       ·show(if x=e then _ else ovr [(j,_)] V x)=V x∨_
        by_cases q1:x=e
        ·rw[if_pos q1];refine .inr (.inl ⟨s1,l1,c1,by rw[Ao],?_⟩);rw[q1];exact b1
        ·rw[if_neg q1]
         by_cases q2:x=j
         ·refine .inr (.inr ⟨s2,l2,c2,?_,?_⟩)
          ·show(if x=j then _ else _)=_;rw[if_pos q2]
          ·rw[q2];exact b2
         ·left;show(if x=j then _ else _)=_;rw[if_neg q2]
     ·simp only[an_,cl_,or_false]at hx
      rcases hx with rfl|rfl|rfl
      ·exact⟨fun k hk=>.inl hk,.inl rfl⟩
      ·exact⟨fun k hk=>by rcases an_.1 hk with h|h;exact .inr (.inl h);exact .inl h,.inr ⟨i,_,rfl,by simp⟩⟩
      ·exact⟨fun k hk=>by rcases an_.1 hk with h|h;exact .inr (.inr h);exact .inl h,.inr ⟨j,_,rfl,by simp⟩⟩
   ·rename_i ti xi yi tj xj yj ei ej
    rw[ei]at h1;rw[ej]at h3
    split at h
    ·rename_i a oa b ob ha hb'
     cases hb:(!Nat.beq i j&& !Nat.beq a b&&AV.beq (V i) An&&AV.beq (V j) An)with
     |false=>rw[hb]at h;cases h
     |true=>
      rw[hb]at h;simp only[cond_true]at h;simp only[ad_,bi_]at hb;obtain⟨⟨⟨b0,b3⟩,b1⟩,b2⟩:=hb
      have hab:a≠b:=fun hh=>by rw[hh,aw_]at b3;cases b3
      have b1:=AV.beq_eq _ _ b1;have b2:=AV.beq_eq _ _ b2
      split at h
      ·rename_i v2 σij h2
       cases h;obtain⟨_,h2⟩:=Up h2;rw[ej]at h2;obtain⟨rfl,vs,X,p1,rfl,p2⟩:=Abc ha h1;obtain⟨rfl,us,Y,r1,rfl,r2⟩:=Abc hb' h3
       have h2':=r2 (J.set a (.cells X)) (by rw[aa_,if_neg (gx_ hab)];exact r1)
       rw[h2']at h2;cases h2
       have hcv:∀(k:Nat) (hk:V k=An),Conv E (fun x=>if x=k then An else ovr [] V x) ((J.set a (.cells X)).set b (.cells Y)) (ovr [] V) ((J.set a (.cells X)).set b (.cells Y)):=fun k hk=>ff_ fun x=>by
        by_cases q:x=k
        ·rw[if_pos q,q];exact hk.symm
        ·rw[if_neg q]
       have iu:∀(k:Nat) (hk:V k=An) (U:Sto),Conv E (fun x=>if x=k then An else ovr [] V x) U (ovr [] V) U:=fun k hk U=>ff_ fun x=>by
        by_cases q:x=k
        ·rw[if_pos q,q];exact hk.symm
        ·rw[if_neg q]
       refine⟨by simp,fun x hx=>?_,fun x hx=>?_⟩
       ·simp only[an_,cl_,or_false]at hx
        rcases hx with rfl|rfl|rfl
        ·intro e he;simp only[an_,cl_,or_false]at he
         rcases he with rfl|rfl
         ·exact⟨oi,_,_,⟨e::D,J.set a (.cells X),[]⟩,hoi,.inl ⟨gi,by rw[ei];exact h1⟩,hq (⟨e::D,J.set a (.cells X),[]⟩,[j]) (by simp),fun y=>by simp[or_comm],iu _ b1 _⟩
         ·exact⟨oj,_,_,⟨e::D,J.set b (.cells Y),[]⟩,hoj,.inl ⟨gj,by rw[ej];exact h3⟩,hq (⟨e::D,J.set b (.cells Y),[]⟩,[i]) (by simp),fun y=>by simp[or_comm],iu _ b2 _⟩
        ·intro e he;rw[ao_]at he;subst he
         exact⟨oj,_,_,_,hoj,.inl ⟨gj,by rw[ej];exact h2'⟩,hp,fun y=>by simp[or_comm],iu _ b2 _⟩
        ·intro e he;rw[ao_]at he;subst he
         refine⟨oi,An,_,_,hoi,.inl ⟨gi,by rw[ei];exact p2 (J.set b (.cells Y)) (by rw[aa_,if_neg hab];exact p1)⟩,hp,fun y=>by simp[or_left_comm,or_comm],?_⟩
         rw[←Sto.set_comm hab];exact iu _ b1 _
       ·simp only[an_,cl_,or_false]at hx
        rcases hx with rfl|rfl|rfl
        ·exact⟨fun k hk=>.inl hk,.inl rfl⟩
        ·exact⟨fun k hk=>by rcases an_.1 hk with h|h;exact .inr (.inl h);exact .inl h,.inl rfl⟩
        ·exact⟨fun k hk=>by rcases an_.1 hk with h|h;exact .inr (.inr h);exact .inl h,.inl rfl⟩
      ·cases h
    ·cases h
   ·cases h
  ·cases h
 ·cases h
end
section
variable {E:Env}{ops:List Oper}{Rr:Rec}{T:Nat->Tr AV}{V:Nat->AV}{b:List Nat}
structure Ago (E:Env)(ops:List Oper)(Rr:Rec)(T:Nat->Tr AV)(V:Nat->AV)(es D:List Nat)(J:Sto)(nl:NL)(nf:Nd):Prop where
 hd:(⟨D,J,[]⟩:Nd)∈nl.map (·.1)++[nf]
 ok:∀x∈nl,Oe E ops Rr T V (·∈nl.map (·.1)++[nf]) x.1 x.2
 sub:∀c∈nl.map (·.1)++[nf],(∀k∈c.D,k∈D∨k∈es)/\(c.aC=[]∨∃p v,c.aC=[(p,v)]/\p∈c.D)
 fin:nf.aC=[]
theorem Uq:∀(es D:List Nat) (J:Sto) (nl:NL) (nf:Nd),Ne E ops Rr T V b es D J=some (nl,nf)->Ago E ops Rr T V es D J nl nf
 |[],D,J,nl,nf,h=>by
  simp only[Ne,af_,ba_]at h;obtain⟨rfl,rfl⟩:=h
  exact⟨by simp,fun x hx=>(by cases hx),gr,rfl⟩
 |[e],D,J,nl,nf,h=>by
  simp only[Ne]at h
  split at h
  ·rename_i J' hc
   simp only[af_,ba_]at h;obtain⟨rfl,rfl⟩:=h
   refine⟨by simp,fun x hx=>?_,fun c hc=>?_,rfl⟩
   ·rw[ao_]at hx;subst hx
    exact Aid hc (by simp)
   grind
  grind
 |e::j::r,D,J,nl,nf,h=>by
  rw[Ne]at h
  split at h
  ·split at h
   ·rename_i J' hc
    split at h
    ·rename_i m nf' hm
     simp only[af_,ba_]at h;obtain⟨rfl,rfl⟩:=h;have w:=Uq (j::r) (e::D) J' m nf' hm
     refine⟨by simp,fun x hx=>?_,fun c hc=>?_,w.fin⟩
     ·rcases an_.1 hx with rfl|hx
      ·exact Aid hc (by simp only[cn_,ay_];exact aj_ _ w.hd)
      ·exact(w.ok x hx).mono gr
     ·simp only[cn_,ay_]at hc
      rcases an_.1 hc with rfl|hc
      ·grind
      ·obtain⟨h1,h2⟩:=w.sub c hc
       grind
    grind
   grind
  ·split at h
   ·rename_i l J' hp
    split at h
    ·rename_i m nf' hm
     simp only[af_,ba_]at h;obtain⟨rfl,rfl⟩:=h;have w:=Uq r (j::e::D) J' m nf' hm
     obtain⟨p1,p2,p3⟩:=At4 (P:=(·∈(l++m).map (·.1)++[nf'])) hp (by rw[co_,ca_];exact fg_ _ w.hd) gr
     refine⟨gr,fun x hx=>?_,fun c hc=>?_,w.fin⟩
     ·rcases bb_.1 hx with hx|hx
      ·grind
      ·exact(w.ok x hx).mono gr
     ·rw[co_,ca_]at hc
      rcases bb_.1 hc with hc|hc
      ·obtain⟨x,hx,rfl⟩:=bt_.1 hc
       grind
      ·obtain⟨h1,h2⟩:=w.sub c hc
       grind
    grind
   grind
end
theorem Wu{nt}:∀{ops:List Oper} {vl:List AV} {tm:Tr AV} {tl:List (Tr AV)},Adi nt ops vl tm=some tl->tl.getD 0 .e=tm/\
  ∀k o,ops[k]? =some o->Ka o.dst (tl.getD k .e) nt (vl.getD k .any)=some (tl.getD (k+1) .e)
 |[],[],tm,tl,h=>by simp only[Adi,af_]at h;grind
 |o::r,v::vs,tm,tl,h=>by
  simp only[Adi]at h
  split at h
  ·rename_i tm' hp
   split at h
   ·rename_i l hl
    cases h;obtain⟨h1,h2⟩:=Wu hl
    grind
   grind
  grind
 |[],_::_,_,_,h=>by simp[Adi]at h
 |_::_,[],_,_,h=>by simp[Adi]at h
section
variable {E:Env}{ops:Array Oper}{Rr:Rec}
theorem Og{k o}(ho:ops[k]? =some o):B5 (Bc E o.op)=true↔k∈A8 E ops.toList 0:=by
 have hol:ops.toList[k]? =some o:=gr;obtain⟨e1,e2⟩:=Ie (E:=E) ops.toList 0
 constructor
 ·grind
 ·intro h;obtain⟨m,hm⟩:=au_.1 h
  grind
theorem Ss(hm:E.P.follows .mixedOrders=true)(hR:Bk E Rr){s s' vl C w a}(st:SSt E C w s a)(h:Rd E ops Rr s vl=some s'){id ro n}:
  (Code.region id ops true).wpIn (Cy ro) n E.P (Aej E C (nx s.sto) w [(.normal,s')]) a w:=by
 unfold Rd at h
 split at h
 ·cases h
 ·rename_i tl htl
  obtain⟨t0,tk⟩:=Wu htl
  split at h
  ·cases h
  ·rename_i hse
   simp only[ad_]at hse
   split at h
   ·cases h
   ·rename_i nl nf hst
    have W:=Uq _ _ _ _ _ hst;cases hck:((nl++[(nf,[])]).all (Hm E ops.toList Rr (fun k=>tl.getD k .e) (fun k=>vl.getD k .any) (Region.before ops).toList (A8 E ops.toList 0))&&nl.all fun x=>(A8 E ops.toList 0).any fun e=> !x.1.D.contains e)with
    |false=>rw[hck]at h;cases h
    |true=>
     rw[hck]at h;cases h;simp only[ad_]at hck;obtain⟨ia,pp⟩:=hck
     have bs:∀c∈nl.map (·.1)++[nf],∃nx,(c,nx)∈nl++[(nf,[])]/\Oe E ops.toList Rr (fun k=>tl.getD k .e) (fun k=>vl.getD k .any) (·∈nl.map (·.1)++[nf]) c nx:=fun c hc=>by
      rcases bb_.1 hc with hc|hc
      ·obtain⟨x,hx,rfl⟩:=bt_.1 hc;exact⟨x.2,dg_ _ hx,W.ok x hx⟩
      ·rw[ao_]at hc;subst hc
       exact⟨[],by simp,fun e he=>by cases he⟩
     have dw:∀c nx,(c,nx)∈nl++[(nf,[])]->Hm E ops.toList Rr (fun k=>tl.getD k .e) (fun k=>vl.getD k .any) (Region.before ops).toList (A8 E ops.toList 0) (c,nx)=true:=fun c nx hc=>b_.1 ia _ hc
     have bl:ops.toList.length=ops.size:=by simp
     have fo:∀c∈nl.map (·.1)++[nf],∀k,k<ops.size->k∉c.D->Sz (Region.before ops).toList (A8 E ops.toList 0) c.D k=true->
       Aeb (Region.before ops).toList c.aC k=true/\(k∈A8 E ops.toList 0∨Lp E ops.toList Rr (fun k=>tl.getD k .e) (fun k=>vl.getD k .any) c.J k=true):=fun c hc k hk hD hok=>by
      obtain⟨nx,h1,_⟩:=bs c hc;have h2:=dw c nx h1;unfold Hm at h2
      grind
     refine Xy (s':=⟨tl.getD ops.size .e,s.nt,s.df,nf.J⟩) (es:=A8 E ops.toList 0) (V:=fun k=>vl.getD k .any) (T:=fun k=>tl.getD k .e) (nds:=nl.map (·.1)++[nf]) hm hR st ⟨hse.1,hse.2,fun k o ho=>Og ho,fun k hk t=>?_,fun k o ho d hd=>?_,fun c hc k hk=>?_,fun c hc k hk=>?_,fun c hc k hk hD hok i hi=>?_,fun c hc k o ho he hok=>?_,fun c hc k o ho he hD hok=>?_⟩ W.hd (fun c hc hD=>?_) rfl rfl rfl (fun e he=>?_)
     ·exact Ni (n:=ops.size) (T:=fun k=>tl.getD k .e) (V:=fun k=>vl.getD k .any) t0 (fun k hk=>⟨ops[k],by simp[hk],tk k _ (by simp[hk])⟩) k hk t
     ·have:=tk k o gr;rw[hd]at this;simp only[Ka]at this;cases hb:Nat.blt d s.nt
      ·grind
      ·exact al_ hb
     ·rcases(W.sub c hc).1 k hk with h|h
      ·cases h
      grind
     ·rcases(W.sub c hc).2 with h|⟨p,v,h,hp⟩
      ·rw[h];rfl
      ·rw[h];show(if k=p then _ else _)=_;grind
     ·have h1:=(fo c hc k hk hD hok).1
      rcases(W.sub c hc).2 with h|⟨p,v,h,hp⟩
      ·rw[h];rfl
      ·rw[h]at h1⊢
       show(if i=p then _ else _)=_
       rw[if_neg];intro hh;subst hh;unfold Aeb at h1;simp only[Gc]at h1
       grind
     ·have hk:=(bc_.1 ho).1
      have hD:k∉c.D:=fun hh=>by
       rcases(W.sub c hc).1 k hh with h|h
       ·cases h
       grind
      rcases(fo c hc k hk hD hok).2 with h1|h1
      ·grind
      ·have hne:B5 (Bc E o.op)=false:=by
        cases hh:B5 (Bc E o.op)with
        |false=>rfl
        |true=>exact absurd ((Og ho).1 hh) he
       unfold Lp at h1
       rw[show ops.toList[k]? =some o by simpa using ho]at h1
       simp only at h1
       split at h1
       ·rename_i hg
        split at h1
        ·rename_i v U hv
         have:=AV.beq_eq _ _ h1;subst this;refine .inl ⟨hg,?_⟩
         have hτ:U=c.J:=by
          cases hcl:Bc E o.op with
          |eff=>rw[hcl]at hne;cases hne
          |pure=>exact(Aa9 hR hcl _ _ _ _ hv).1
          |read=>rw[Iy hcl]at hv;exact S6 hcl hv
         grind
        grind
       ·rename_i hg
        exact .inr ⟨hg,AV.beq_eq _ _ h1,rfl⟩
       grind
     ·obtain⟨nx,h1,h2⟩:=bs c hc;have h3:=dw c nx h1;unfold Hm at h3;simp only[ad_]at h3;have h4:=b_.1 h3.1 k he;have hD':c.D.contains k=false:=gr;rw[hD',hok]at h4;simp only[Bool.not_true,Bool.false_or]at h4;obtain⟨o',v,J',c',q1,q2,q3,q4,q5⟩:=h2 k (List.contains_iff_mem.1 h4)
      grind
     ·rcases bb_.1 hc with hc|hc
      ·grind
      ·rw[ao_]at hc;subst hc
       exact⟨fun k=>by rw[W.fin];rfl,rfl⟩
     ·obtain⟨m,hm'⟩:=au_.1 he;obtain⟨k',o',q1,q2,_⟩:=(Ie (E:=E) ops.toList 0).2 m e hm'
      grind
end
abbrev Ad:=List (Nat×AV)
def Ad.at:Ad->Nat->Option AV
 |[],_=>none
 |(j,v)::r,i=>cond (Nat.beq j i) (some v) (Ad.at r i)
def Has(tm:Tr AV)(ρ:Ad):Prop:=∀i v,Ad.at ρ i=some v->tm.get i=some v
def hdV:AV->Option AV
 |.any=>none
 |.bool b=>some (.bool b)
 |.int k n=>some (.int k n)
 |.str l=>some (.str l)
 |.nil v=>some (.nil v)
 |.agg l=>some (.agg l)
 |.fn f a b=>some (.fn f a b)
 |.tup l=>some (.tup l)
 |_=>none
theorem Awx{v u}(h:hdV v=some u):v=u:=by cases v<;>simp_all [hdV]
section
variable {E:Env}{ρ:Ad}{tm:Tr AV}{J J' J'':Sto}{Rr:Rec}{lf nt:Nat}{df:List (Nat×List AV)}
def Ah(E:Env)(ρ:Ad):Operand->Option AV
 |.tmp t=>Ad.at ρ t
 |.const v=>hdV (ofV v)
 |.global g=>match E.gl g with|some cs=>some (.pv cs)|none=>none
 |.func f=>some (.fn (.func f) [] [])
def Kc(E:Env)(ρ:Ad):List Operand->Option (List AV)
 |[]=>some []
 |x::r=>match Ah E ρ x,Kc E ρ r with
  |some v,some l=>some (v::l)
  |_,_=>none
def Iz(E:Env)(ρ:Ad):Option Operand->Option (Option AV)
 |none=>some none
 |some x=>match Ah E ρ x with|some v=>some (some v)|none=>none
theorem Has.opd(h:Has tm ρ){x v}(hx:Ah E ρ x=some v):opd E tm x=v:=by
 cases x with
 |tmp t=>simp only[Ah]at hx;simp only[Go.AM.opd,h t v hx]
 |const c=>exact Awx hx
 |global g=>
  simp only[Ah]at hx;simp only[Go.AM.opd]
  split at hx
  ·grind
  ·cases hx
 |func f=>simp only[Ah,af_]at hx;exact hx
theorem Has.opds(h:Has tm ρ):∀{l:List Operand} {vs:List AV},Kc E ρ l=some vs->opds E tm l=vs
 |[],vs,hl=>by simp only[Kc,af_]at hl;subst hl;rfl
 |x::r,vs,hl=>by
  simp only[Kc]at hl
  split at hl
  ·rename_i v l hv hr
   cases hl;simp only[Go.AM.opds,h.opd hv,Has.opds h hr]
  grind
theorem Has.opdO(h:Has tm ρ){x v}(hx:Iz E ρ x=some v):opdO E tm x=v:=by
 cases x with
 |none=>simp only[Iz,af_]at hx;subst hx;rfl
 |some x=>
  simp only[Iz]at hx
  split at hx
  ·rename_i u hu;cases hx;simp only[Go.AM.opdO,h.opd hu]
  ·cases hx
theorem Has.put(h:Has tm ρ)(d v):Has (tm.put (d+1) d (some v)) ((d,v)::ρ):=by
 intro i u hu;rw[dd_];simp only[Ad.at]at hu;cases hb:Nat.beq d i with
 |true=>rw[hb]at hu;have:=ac_ hb;subst this;rw[if_pos rfl];exact hu
 |false=>
  rw[hb]at hu
  rw[if_neg (fun he=>by subst he;rw[aw_]at hb;cases hb)]
  exact h i u hu
def As(E:Env)(Rr:Rec)(op:Op)(ρ:Ad)(J:Sto)(v:AV)(J':Sto):Prop:=∀tm,Has tm ρ->opA E op Rr tm J=some (v,J')
variable {x y c a b:Operand}{v u u' z:AV}{l l':List AV}{t:Nat}{n:Nat}
theorem Ag(hx:Ah E ρ x=some v):As E Rr (.move x) ρ J v J:=fun tm h=>by simp only[opA,Aw,Aad,h.opd hx]
theorem Gd(hx:Ah E ρ x=some v):As E Rr (.assign x) ρ J v J:=fun tm h=>by simp only[opA,Aw,Aad,h.opd hx]
theorem A3{bb}(hc:Ah E ρ c=some (.bool bb))(hb:bb=true)(hx:Ah E ρ a=some v):As E Rr (.pick c a b) ρ J v J:=fun tm h=>by
 subst hb;simp only[opA,Aw,Ad8,h.opd hc,h.opd hx]
theorem Au{bb}(hc:Ah E ρ c=some (.bool bb))(hb:bb=false)(hx:Ah E ρ b=some v):As E Rr (.pick c a b) ρ J v J:=fun tm h=>by
 subst hb;simp only[opA,Aw,Ad8,h.opd hc,h.opd hx]
theorem Ge{ad off}(hx:Ah E ρ x=some (.pr ad off)):As E Rr (.nilCheck x) ρ J (.pr ad off) J:=fun tm h=>by simp only[opA,Aw,Jf,h.opd hx]
theorem Eq(hx:Ah E ρ x=some (.pv l)):As E Rr (.nilCheck x) ρ J (.pv l) J:=fun tm h=>by simp only[opA,Aw,Jf,h.opd hx]
def zI(P:Program)(t:Nat):Option (List AV):=match Ay P t with|some ti=>ti.zero|none=>none
def ldI(P:Program)(t:Nat):Option (Nat×Bool):=match Ay P t with|some ti=>some (ti.size,ti.isAgg)|none=>none
def okI(P:Program)(t:Nat):Bool:=match Ay P t with|some _=>true|none=>false
def fdI(P:Program)(t i:Nat):Option (Nat×Nat×Bool):=match Ay P t with
 |some ti=>match ti.desc with
  |.struct fs=>match fs.toList[i]? with
   |some f=>match Ay P f.type with
    |some tf=>some (f.offset,tf.size,tf.isAgg)
    |none=>none
   |none=>none
  |_=>none
 |none=>none
def elI(P:Program)(t:Nat):Option (Nat×Nat×Option (List AV)):=match Ay P t with
 |some ti=>match ti.desc with
  |.slice e=>match Ay P e with
   |some te=>some (te.size,te.bytes,te.zero)
   |none=>none
  |_=>none
 |none=>none
def arI(P:Program)(t:Nat):Option (Nat×Nat×Bool):=match Ay P t with
 |some ti=>match ti.desc with
  |.array n e=>match Ay P e with
   |some te=>some (n,te.size,te.isAgg)
   |none=>none
  |_=>none
 |none=>none
def bdF(P:Program):List Field->Option (List (Nat×Nat))
 |[]=>some []
 |f::r=>match Ay P f.type,bdF P r with
  |some ti,some l=>some ((f.offset,ti.size)::l)
  |_,_=>none
def bdI(P:Program)(t:Nat):Option (List AV×List (Nat×Nat)):=match Ay P t with
 |some ti=>match ti.zero,ti.desc with
  |some z,.struct fs=>match Q7 P fs.toList,bdF P fs.toList with
   |true,some l=>some (z,l)
   |_,_=>none
  |_,_=>none
 |none=>none
def mpI(P:Program)(t:Nat):Option (Nat×AV×Nat×Bool):=match Ay P t with
 |some ti=>match ti.desc with
  |.map kt et=>match Ay P et with
   |some te=>match Lh te with
    |some z=>some (kt,z,te.size,te.isAgg)
    |none=>none
   |none=>none
  |_=>none
 |none=>none
def Fs(P:Program)(t:Nat):Bool:=match Ay P t with|some ti=>(match ti.desc with|.string=>true|_=>false)|none=>false
def Zv(P:Program)(t:Nat):Bool:=match Ay P t with|some ti=>(match ti.desc with|.bool=>true|_=>false)|none=>false
def Mk(P:Program)(t:Nat):Bool:=match Ay P t with|some ti=>(match ti.desc with|.slice _=>true|_=>false)|none=>false
def Cz(sz:Nat)(agg:Bool)(l:List AV):Option AV:=
 match agg with
 |true=>match Dr sz l with|some cs=>some (.agg cs)|none=>none
 |false=>match l with|v::_=>some v|[]=>none
def Em(J:Sto):AV->Option (List AV)
 |.pr a off=>match J.cells a with|some vs=>some (vs.drop off)|none=>none
 |.pv cs=>some cs
 |_=>none
theorem Rj{P sz agg}(h:ldI P t=some (sz,agg)):∃ti,Ay P t=some ti/\ti.size=sz/\ti.isAgg=agg:=by
 unfold ldI at h
 grind
theorem Ml(ti l):Ff ti l=Cz ti.size ti.isAgg l:=by
 unfold Ff Cz
 grind
theorem Ac{sz agg cs}(hi:ldI E.P t=some (sz,agg))(hx:Ah E ρ x=some u)(hc:Em J u=some cs)(hv:Cz sz agg cs=some v):
  As E Rr (.load t x) ρ J v J:=fun tm h=>by
 obtain⟨ti,h1,h2,h3⟩:=Rj hi;subst h2 h3;simp only[opA,Aw,h1,h.opd hx];cases u<;>simp only[Em]at hc<;>try (cases hc)
 ·rename_i a off
  split at hc
  ·rename_i vs hvs
   cases hc;simp only[Na,hvs,Ml,hv]
  grind
 ·simp only[Na,Ml,hv]
theorem By{sz agg ad off vs vs' cs}(hi:ldI E.P t=some (sz,agg))(hx:Ah E ρ x=some (.pr ad off))(hy:Ah E ρ y=some v)
  (hc:v.cellsN sz=some cs)(hv:J.cells ad=some vs)(hs:Et vs off cs=some vs'):As E Rr (.store t x y) ρ J An (J.set ad (.cells vs')):=fun tm h=>by
 obtain⟨ti,h1,h2,h3⟩:=Rj hi;subst h2 h3;simp only[opA,Aw,h1,h.opd hx,h.opd hy,Wc,hc,hv,hs]
theorem Bu{z}(hi:zI E.P t=some z):As E Rr (.alloc t) ρ J (.pr (nx J) 0) (J.new (.cells z)):=fun tm h=>by
 unfold zI at hi
 split at hi
 ·rename_i ti hti
  simp only[opA,Aw,hti,hi,Aab]
 grind
theorem Aqy{sz agg cs}(hi:ldI E.P t=some (sz,agg))(hx:Ah E ρ x=some v)(hc:v.cellsN sz=some cs):
  As E Rr (.box t x) ρ J (.pr (nx J) 0) (J.new (.cells cs)):=fun tm h=>by
 obtain⟨ti,h1,h2,h3⟩:=Rj hi;subst h2 h3;simp only[opA,Aw,h1,h.opd hx,sBox,hc]
def addP:AV->Nat->Option AV
 |.pr a off,n=>some (.pr a (off+n))
 |.pv cs,n=>some (.pv (cs.drop n))
 |_,_=>none
theorem Amf(x n):Po x n=addP x n:=by cases x<;>simp only[Po,addP,Ak]
theorem Ae{i off sz agg}(hi:fdI E.P t i=some (off,sz+1,agg))(hx:Ah E ρ x=some u)(hp:addP u off=some v):
  As E Rr (.fieldAddr t x i) ρ J v J:=fun tm h=>by
 unfold fdI at hi
 split at hi
 ·rename_i ti hti
  split at hi
  ·rename_i fs hfs
   split at hi
   ·rename_i f hf
    split at hi
    ·rename_i tf htf
     simp only[af_,ba_]at hi;obtain⟨k1,k2,k3⟩:=hi;subst k1;simp only[opA,Aw,hti,hfs,hf,htf,k2,h.opd hx,Aqj,Amf,hp]
    grind
   grind
  grind
 grind
theorem Qc{sz by' zz}(h:elI E.P t=some (sz,by',zz)):∃ti e te,Ay E.P t=some ti/\ti.desc=.slice e/\Ay E.P e=some te/\te.size=sz/\te.bytes=by'/\te.zero=zz:=by
 unfold elI at h
 grind
theorem Abd{u n}(h:lenA u=some n)(hs:Ad9 u=true):(∃a off sz cap,u=.sr a off sz n cap)∨(∃cs sz cap,u=.sv cs sz n cap)∨(u=.nil (.slice none 0 0)/\n=0):=by
 unfold lenA at h
 split at h
 ·grind
 ·grind
 ·grind
 ·simp[Ad9]at hs
 grind
def Aie:AV->Nat->AV
 |.sr a off sz _ _,n=>.pr a (off+n)
 |.sv cs _ _ _,n=>.pv (cs.drop n)
 |_,_=>.any
theorem Aif{sz by' m zz k}(hi:elI E.P t=some (sz,by',zz))(hx:Ah E ρ x=some u)(hy:Ah E ρ y=some (.int k (.ofNat n)))
  (hl:lenA u=some m)(hs:Ad9 u=true)(hn:n<m):As E Rr (.indexAddr t x y) ρ J (Aie u (n*sz)) J:=fun tm h=>by
 obtain⟨ti,e,te,h1,h2,h3,h4,h5,h6⟩:=Qc hi;subst h4;simp only[opA,Aw,h1,h2,h3,h.opd hx,h.opd hy]
 have hb:∀m,n<m->Nat.blt n m=true:=fun m hm=>by simpa using hm
 rcases Abd hl hs with⟨a,off,sz',cap,rfl⟩|⟨cs,sz',cap,rfl⟩|⟨rfl,rfl⟩
 ·simp only[Gt,hb _ hn,cond_true,Ak,Aie]
 ·simp only[Gt,hb _ hn,cond_true,Aie]
 ·omega
theorem Bp{sz m agg k}(hi:arI E.P t=some (m,sz,agg))(hx:Ah E ρ x=some u)(hy:Ah E ρ y=some (.int k (.ofNat n)))
  (hn:n<m)(hp:addP u (n*sz)=some v):As E Rr (.indexAddr t x y) ρ J v J:=fun tm h=>by
 unfold arI at hi
 split at hi
 ·rename_i ti hti
  split at hi
  ·rename_i nn e he
   split at hi
   ·rename_i te hte
    simp only[af_,ba_]at hi;obtain⟨k1,k2,k3⟩:=hi;subst k1 k2
    have hb:Nat.blt n nn=true:=by simpa using hn
    simp only[opA,Aw,hti,he,hte,h.opd hx,h.opd hy,E6,hb,cond_true,Amf,hp]
   grind
  grind
 grind
theorem Aig{s k w}(hi:Fs E.P t=true)(hx:Ah E ρ x=some (.str s))(hy:Ah E ρ y=some (.int k (.ofNat n)))(hn:s[n]? =some w):
  As E Rr (.index t x y) ρ J (.int .u8 (.ofNat w)) J:=fun tm h=>by
 unfold Fs at hi
 split at hi
 ·rename_i ti hti
  split at hi
  ·rename_i hd
   simp only[opA,Aw,hti,hd,h.opd hx,h.opd hy,Lc,hn]
  grind
 grind
theorem Nl{P}(h:okI P t=true):∃ti,Ay P t=some ti:=by
 unfold okI at h
 grind
theorem Qd(k):Ed k k=true:=by cases k<;>rfl
theorem L0{k op p q}{ty:Nat}(hi:okI E.P t=true)(hx:Ah E ρ x=some (.int k p))(hy:Ah E ρ y=some (.int k q))(hv:Ic op k p q=some v):
  As E Rr (.binOp op t x y ty) ρ J v J:=fun tm h=>by
 obtain⟨ti,hti⟩:=Nl hi;simp only[opA,Aw,h.opd hx,h.opd hy,Wb,hti,Qd,cond_true,hv,Sx]
theorem Agp{op p q}{ty:Nat}(hi:okI E.P t=true)(hx:Ah E ρ x=some (.str p))(hy:Ah E ρ y=some (.str q))(hv:T3 op p q=some v):
  As E Rr (.binOp op t x y ty) ρ J v J:=fun tm h=>by
 obtain⟨ti,hti⟩:=Nl hi;simp only[opA,Aw,h.opd hx,h.opd hy,Wb,hti,hv,Sx]
theorem At5{k p q}:Ic .lss k p q=some (.bool (decide (p<q))):=by
 simp only[Ic,Ec];congr 2;grind
theorem At6{k p q}:Ic .leq k p q=some (.bool (decide (p<=q))):=by simp only[Ic,Ec]
theorem At7{k p q}:Ic .gtr k p q=some (.bool (decide (q<p))):=by
 simp only[Ic,Ec];congr 2;grind
theorem At8{k p q}:Ic .geq k p q=some (.bool (decide (q<=p))):=by simp only[Ic,Ec]
theorem At9{k p q}:Ic .eql k p q=some (.bool (decide (p=q))):=by simp only[Ic,Jg];congr 2
theorem Aua{k p q}:Ic .neq k p q=some (.bool (!decide (p=q))):=by simp only[Ic,Jg];congr 2
theorem Aub{p q}(h:p+q<9223372036854775808):Ic .add .i64 (.ofNat p) (.ofNat q)=some (.int .i64 (.ofNat (p+q))):=by
 have:Nat.ble (p+q) 9223372036854775807=true:=ar_ Om;simp only[Ic,Ako,Me,Ak,M0,this,cond_true]
theorem Amg{p q}:T3 .eql p q=some (.bool (decide (p=q))):=by
 simp only[T3];congr 2;by_cases h:p=q
 ·rw[(Gu p q).2 h];simp[h]
 ·cases hb:Fm p q
  ·simp[h]
  ·exact absurd ((Gu p q).1 hb) h
theorem Auc{p q}:T3 .neq p q=some (.bool (!decide (p=q))):=by
 have:=@Amg p q;simp only[T3,af_,AV.bool.injEq]at this⊢
 grind
theorem Qe{k p q}{ty:Nat}(hi:okI E.P t=true)(hx:Ah E ρ x=some (.int k p))(hy:Ah E ρ y=some (.int k q)):As E Rr (.binOp .lss t x y ty) ρ J (.bool (decide (p<q))) J:=L0 hi hx hy At5
theorem Hn{k p q}{ty:Nat}(hi:okI E.P t=true)(hx:Ah E ρ x=some (.int k p))(hy:Ah E ρ y=some (.int k q)):As E Rr (.binOp .leq t x y ty) ρ J (.bool (decide (p<=q))) J:=L0 hi hx hy At6
theorem Wv{k p q}{ty:Nat}(hi:okI E.P t=true)(hx:Ah E ρ x=some (.int k p))(hy:Ah E ρ y=some (.int k q)):As E Rr (.binOp .gtr t x y ty) ρ J (.bool (decide (q<p))) J:=L0 hi hx hy At7
theorem Agq{k p q}{ty:Nat}(hi:okI E.P t=true)(hx:Ah E ρ x=some (.int k p))(hy:Ah E ρ y=some (.int k q)):As E Rr (.binOp .geq t x y ty) ρ J (.bool (decide (q<=p))) J:=L0 hi hx hy At8
theorem H4{k p q}{ty:Nat}(hi:okI E.P t=true)(hx:Ah E ρ x=some (.int k p))(hy:Ah E ρ y=some (.int k q)):As E Rr (.binOp .eql t x y ty) ρ J (.bool (decide (p=q))) J:=L0 hi hx hy At9
theorem Aqz{k p q}{ty:Nat}(hi:okI E.P t=true)(hx:Ah E ρ x=some (.int k p))(hy:Ah E ρ y=some (.int k q)):As E Rr (.binOp .neq t x y ty) ρ J (.bool (!decide (p=q))) J:=L0 hi hx hy Aua
theorem D3{p q}{ty:Nat}(hi:okI E.P t=true)(hx:Ah E ρ x=some (.int .i64 (.ofNat p)))(hy:Ah E ρ y=some (.int .i64 (.ofNat q)))(hb:p+q<9223372036854775808):
  As E Rr (.binOp .add t x y ty) ρ J (.int .i64 (.ofNat (p+q))) J:=L0 hi hx hy (Aub hb)
theorem Awy{p q}{ty:Nat}(hi:okI E.P t=true)(hx:Ah E ρ x=some (.str p))(hy:Ah E ρ y=some (.str q)):As E Rr (.binOp .eql t x y ty) ρ J (.bool (decide (p=q))) J:=Agp hi hx hy Amg
theorem Awz{p q}{ty:Nat}(hi:okI E.P t=true)(hx:Ah E ρ x=some (.str p))(hy:Ah E ρ y=some (.str q)):As E Rr (.binOp .neq t x y ty) ρ J (.bool (!decide (p=q))) J:=Agp hi hx hy Auc
theorem Dc{bb}(hx:Ah E ρ x=some (.bool bb)):As E Rr (.unOp .not t x) ρ J (.bool (!bb)) J:=fun tm h=>by
 simp only[opA,Aw,h.opd hx,unA,Sx]
theorem S7{vs i}(hx:Ah E ρ x=some (.tup vs))(hv:vs[i]? =some v):As E Rr (.extract x i) ρ J v J:=fun tm h=>by
 simp only[opA,Aw,h.opd hx,Nc,hv]
theorem Amh{f p q}(hp:Kc E ρ p.toList=some l)(hq:Kc E ρ q.toList=some l'):As E Rr (.makeFunc f p q) ρ J (.fn f l l') J:=fun tm h=>by
 simp only[opA,Aw,h.opds hp,h.opds hq,Al4]
theorem Ami{f args}{tys:Array Nat}{k:Nat}{vs first cap full}(hf:Ah E ρ f=some (.fn (.func k) first cap))(ha:Kc E ρ args.toList=some vs)
  (hl:first++vs++cap=full)(hr:Rr (.fn k) full J=some (v,J')):As E Rr (.call ⟨.value f,args,tys⟩) ρ J v J':=fun tm h=>by
 subst hl;simp only[opA,h.opd hf,h.opds ha,Rb,hr]
theorem Abe{kt sz agg}(h:mpI E.P t=some (kt,z,sz,agg)):∃ti et te,Ay E.P t=some ti/\ti.desc=.map kt et/\Ay E.P et=some te/\Lh te=some z/\te.size=sz/\te.isAgg=agg:=by
 unfold mpI at h
 grind
def Xz(J:Sto)(kt:Nat)(es:List (Key×AV)):AV->Prop
 |.mp r=>∃ver,J.get r=some (.map kt es ver)
 |.nil (.map none)=>es=[]
 |_=>False
theorem X3{kt es u}(h:Xz J kt es u):(∃r ver,u=.mp r/\J.get r=some (.map kt es ver))∨(u=.nil (.map none)/\es=[]):=by
 unfold Xz at h
 grind
theorem Aet{kt sz agg key es}(hi:mpI E.P t=some (kt,z,sz,agg))(hx:Ah E ρ x=some u)(hm:Xz J kt es u)
  (hy:Ah E ρ y=some u')(hk:D4 E.P kt u'=some key):As E Rr (.lookup t x y false) ρ J ((D5 key es).getD z) J:=fun tm h=>by
 obtain⟨ti,et,te,h1,h2,h3,h4,h5,h6⟩:=Abe hi;simp only[opA,Aw,h1,h2,h3,h4,h.opd hx,h.opd hy,hk,Ky]
 rcases X3 hm with⟨r,ver,rfl,hm'⟩|⟨rfl,rfl⟩
 ·simp only[hm',aw_];cases D5 key es<;>rfl
 ·simp[D5,Aae]
theorem Abf{kt sz agg key es}(hi:mpI E.P t=some (kt,z,sz,agg))(hx:Ah E ρ x=some u)(hm:Xz J kt es u)
  (hy:Ah E ρ y=some u')(hk:D4 E.P kt u'=some key):As E Rr (.lookup t x y true) ρ J (.tup [(D5 key es).getD z,.bool (D5 key es).isSome]) J:=fun tm h=>by
 obtain⟨ti,et,te,h1,h2,h3,h4,h5,h6⟩:=Abe hi;simp only[opA,Aw,h1,h2,h3,h4,h.opd hx,h.opd hy,hk,Ky]
 rcases X3 hm with⟨r,ver,rfl,hm'⟩|⟨rfl,rfl⟩
 ·simp only[hm',aw_];cases D5 key es<;>rfl
 ·simp[D5,Aae]
def Aot(k:Key)(v:AV)(es:List (Key×AV)):List (Key×AV):=match D5 k es with|some _=>Ph k v es|none=>Nx k v es
theorem Aeu{kt sz ver r agg key es w}(hi:mpI E.P t=some (kt,z,sz,agg))(hx:Ah E ρ x=some (.mp r))(hm:J.get r=some (.map kt es ver))
  (hy:Ah E ρ y=some u')(hk:D4 E.P kt u'=some key)(hw:Ah E ρ w=some v)(hf:∀te:TI,te.size=sz->te.isAgg=agg->Je te v=true):
  As E Rr (.mapUpdate t x y w) ρ J An (J.set r (.map kt (Aot key v es) (ver+1))):=fun tm h=>by
 obtain⟨ti,et,te,h1,h2,h3,h4,h5,h6⟩:=Abe hi;simp only[opA,Aw,h1,h2,h3,h.opd hx,h.opd hy,h.opd hw,hk,N1,hm,aw_,hf te h5 h6,be_,Ak,Aot]
 grind
theorem Gx{kt sz agg}(hi:mpI E.P t=some (kt,z,sz,agg)):As E Rr (.makeMap t none) ρ J (.mp (nx J)) (J.new (.map kt [] 0)):=fun tm h=>by
 obtain⟨ti,et,te,h1,h2,h3,h4,h5,h6⟩:=Abe hi;simp only[opA,Aw,h1,h2,T5]
theorem Bf{t₀}(hi:Mk E.P t₀=true)(hx:Ah E ρ x=some u)(hl:lenA u=some n)(hs:Ad9 u=true):As E Rr (.call ⟨.builtin .len,#[x],#[t₀]⟩) ρ J (.int .i64 (.ofNat n)) J:=fun tm h=>by
 unfold Mk at hi
 split at hi
 ·rename_i ti hti
  split at hi
  ·rename_i e hd
   simp only[opA,Aw,hti,Ee,hd,h.opd hx,opds,sLen]
   rcases Abd hl hs with⟨a,off,sz',cap,rfl⟩|⟨cs,sz',cap,rfl⟩|⟨rfl,rfl⟩<;>rfl
  grind
 grind
theorem Aou{t₀ s}(hi:Fs E.P t₀=true)(hx:Ah E ρ x=some (.str s)):As E Rr (.call ⟨.builtin .len,#[x],#[t₀]⟩) ρ J (.int .i64 (.ofNat s.length)) J:=fun tm h=>by
 unfold Fs at hi
 split at hi
 ·rename_i ti hti
  split at hi
  ·rename_i hd
   simp only[opA,Aw,hti,Ee,hd,h.opd hx,opds,Zt,Ak]
  grind
 grind
end
section
open Go Go.Proofs
def Ak1:List AV:=[.str [],.bool false,.int .i64 0,.int .i64 0,.str [36,99],.bool false,.int .i64 1,.int .i64 200,.str [36,118],.bool false,.int .i64 1,.int .i64 200,.str [36,102],.bool true,.int .i64 2,.int .i64 2,
 .str [36,101],.bool true,.int .i64 1,.int .i64 200,.str [36,100],.bool false,.int .i64 1,.int .i64 200,.str [36,97],.bool true,.int .i64 1,.int .i64 200,.str [36,112],.bool true,.int .i64 1,.int .i64 200,
 .str [36,123],.bool false,.int .i64 0,.int .i64 0,.str [36,125],.bool false,.int .i64 0,.int .i64 0]
def glW(g:Nat):Option (List AV):=match Nat.beq g 0 with|true=>some Ak1|false=>none
noncomputable def Ew:Env:={ P:=Tryz.prog,gl:=glW,sum:=fun _=>none,dsum:=fun _=>none,byref:=fun _=>false }
theorem Di:Tryz.prog.follows .mixedOrders=true:=by kernel_rfl
def Abg(fn:Func):Bool:= !(fn.name== "runtime.NumGoroutine")
theorem Agr:Tryz.prog.funcs.toList.all Abg=true:=by kernel_rfl
theorem Ke(f:Nat)(fn)(h:Tryz.prog.funcs[f]? =some fn):(fn.name== "runtime.NumGoroutine")=false:=by
 have h1:fn∈Tryz.prog.funcs.toList:=gr;have:=b_.1 Agr fn h1
 simpa[Abg]using this
end
section
variable {E:Env}{C C':Ctx}{N N':Nat}{w w':World}{Rr:Rec}
theorem Ig:∀(l:List AV) (i:Nat) (t:Tr AV) (j:Nat),(Kz l i t).get j=if i<=j/\j<i+l.length then l[j-i]? else t.get j
 |[],i,t,j=>by simp only[Kz];rw[if_neg (by simp)]
 |x::r,i,t,j=>by
  simp only[Kz];rw[Ig r (i+1),dd_];simp only[as_]
  by_cases h1:i+1<=j/\j<i+1+r.length
  ·rw[if_pos h1,if_pos Om,show j-i=(j-(i+1))+1 by omega];rfl
  ·rw[if_neg h1]
   by_cases h2:j=i
   ·subst h2;rw[if_pos rfl,if_pos Om];simp
   ·rw[if_neg h2,if_neg Om]
theorem Ags{P J}(hs:Sim P C w J){tm tmps}(ht:TR C (nx J) w tm tmps){r v}(h:Aai P tm J r=some v):
  ∃x,((match r with
   |.tmp t=>pure (tmps.getD t undef)
   |.cell a t=>do loadVar t (←asAddr (tmps.getD a undef)):Sem Value)).run P w=.ok x w/\R C (nx J) w v x:=by
 cases r with
 |tmp t=>exact⟨_,rfl,ht t v h⟩
 |cell a t=>
  simp only[Aai]at h
  split at h
  ·rename_i ti hti
   split at h
   ·rename_i b off cr
    split at h
    ·rename_i vs hvs
     have hX:=ht a _ cr
     have hl:Na ti (.pr b off) J=some (v,J):=by simp[Na,hvs,h]
     obtain⟨_,x,q1,q2⟩:=P1 hs hti hX hl;unfold R at hX;obtain⟨ad,hX,_⟩:=hX;refine⟨x,?_,q2⟩
     show((do loadVar t (←asAddr (tmps.getD a undef)):Sem Value)).run P w=_
     rw[hX]at q1⊢
     simpa[Instr.loadAt,Instr.sureAddr,asAddr]using q1
    ·cases h
   ·cases h
  ·cases h
theorem Abh{P J}(hs:Sim P C w J){tm tmps}(ht:TR C (nx J) w tm tmps){f:ResultVar->Sem Value}
  (hf:∀r,f r=match r with
   |.tmp t=>pure (tmps.getD t undef)
   |.cell a t=>do loadVar t (←asAddr (tmps.getD a undef))):∀{rs:List ResultVar} {vs:List AV},Ahw P tm J rs=some vs->∃xs,(rs.mapM f).run P w=.ok xs w/\RL C (nx J) w vs xs
 |[],vs,h=>by simp only[Ahw,af_]at h;subst h;exact⟨[],by simp,by unfold RL;trivial⟩
 |r::rs,vs,h=>by
  simp only[Ahw]at h
  split at h
  ·rename_i v l hv hl
   cases h;obtain⟨x,h1,h2⟩:=Ags hs ht hv;obtain⟨xs,h3,h4⟩:=Abh hs ht hf hl
   refine⟨x::xs,?_,by unfold RL;exact⟨h2,h4⟩⟩
   have h1':(f r).run P w=.ok x w:=by rw[hf r];exact h1
   simp[h_,h1',h3]
  ·cases h
theorem Hx{P J}(hs:Sim P C w J){tm fn tmps}(ht:TR C (nx J) w tm tmps){vs}(h:Ahw P tm J fn.results.toList=some vs):
  ∃x,(results fn tmps).run P w=.ok x w/\R C (nx J) w (Akq vs) x:=by
 obtain⟨f,hf,he⟩:∃f:ResultVar->Sem Value,(∀r,f r=match r with
   |.tmp t=>pure (tmps.getD t undef)
   |.cell a t=>do loadVar t (←asAddr (tmps.getD a undef)))/\results fn tmps=(do let vs←fn.results.mapM f;pure (if h:vs.size=1 then vs[0]else .tuple vs)):=
  ⟨_,fun r=>by cases r<;>rfl,rfl⟩
 obtain⟨xs,h1,h2⟩:=Abh hs ht hf h
 have hr:(results fn tmps).run P w=.ok (if h:xs.toArray.size=1 then xs.toArray[0]else .tuple xs.toArray) w:=by
  rw[he];simp only[Array.mapM_eq_mapM_toList,Sem.run_bind,Sem.run_map];rw[h1]
  simp
 refine⟨_,hr,?_⟩
 match vs,xs,h2 with
 |[],[],_=>unfold Akq R;exact⟨#[],rfl,by unfold RL;trivial⟩
 |[v],[x],h2=>unfold RL at h2;exact h2.1
 |v::v'::r,x::x'::s,h2=>
  have:¬(x::x'::s).toArray.size=1:=by simp
  rw[dif_neg this];simp only[Akq];unfold R;exact⟨_,rfl,h2⟩
 |[],_::_,h2=>unfold RL at h2;exact h2.elim
 |[_],[],h2=>unfold RL at h2;exact h2.elim
 |[_],_::_::_,h2=>unfold RL at h2;have:=h2.2;unfold RL at this;exact this.elim
 |_::_::_,[],h2=>unfold RL at h2;exact h2.elim
 |_::_::_,[_],h2=>unfold RL at h2;have:=h2.2;unfold RL at this;exact this.elim
theorem Ur{C w J args vs}{fn:Func}(hs:Sim E.P C w J)(hg:Iw C (nx J) w E)(bp:RL C (nx J) w args vs.toList)(hle:args.length<=fn.ntmps):
  SSt E C w ⟨Kz args 0 .e,fn.ntmps,[],J⟩ { tmps:=vs++Array.replicate (fn.ntmps-vs.size) undef,defers:=[] }:=by
 have bl:=bp.length;simp only[cd_]at bl
 refine⟨hs,hg,fun i y hy=>?_,by simp;omega,by unfold DR;trivial⟩
 simp only at hy;rw[Ig]at hy
 split at hy
 ·rename_i hi
  rw[es_]at hy;obtain⟨x,k1,k2⟩:=bp.get i y hy
  have:(vs++Array.replicate (fn.ntmps-vs.size) undef).getD i undef=x:=by
   rw[bo_,ek_ Om,←bw_,k1];rfl
  rw[this];exact k2
 ·simp[Tr.get]at hy
end
def Oh:Obj->Bool
 |.cells .. =>false
 |_=>true
structure Jb (w w':World)(l:Nat):Prop where
 size:w'.heap.size=w.heap.size
 other:∀b,b≠l->w'.heap[b]? =w.heap[b]?
 was:∃o,w.heap[l]? =some o/\Oh o=true
 is:∃o,w'.heap[l]? =some o/\Oh o=true
 os:w'.os=w.os/\w'.output=w.output
theorem Jb.put{w l o o'}(h:w.heap[l]? =some o)(h1:Oh o=true)(h2:Oh o'=true):Jb w (w.putObj l o') l:=
 ⟨World.putObj_size,fun b hb=>World.putObj_heap_other hb,⟨o,h,h1⟩,⟨o',World.putObj_heap_same (bc_.1 h).1,h2⟩,rfl,rfl⟩
abbrev gy_:=@Jb.put
section
variable {C:Ctx}{N:Nat}{w w':World}{l:Nat}
theorem Jb.cell(t:Jb w w' l){a v}(h:w.cell? a=some v):w'.cell? a=some v:=by
 by_cases hb:a.block=l
 ·obtain⟨o,h1,h2⟩:=t.was;unfold World.cell? at h;rw[hb,h1]at h;cases o<;>simp[Oh]at h2<;>simp at h
 ·unfold World.cell? at *;rw[t.other _ hb];exact h
theorem Jb.csize(t:Jb w w' l)(c):csize w' c=csize w c:=by
 unfold AM.csize
 by_cases hb:c=l
 ·subst hb;obtain⟨o,h1,h2⟩:=t.was;obtain⟨o',k1,k2⟩:=t.is;rw[h1,k1];cases o<;>simp[Oh]at h2<;>cases o'<;>simp[Oh]at k2<;>rfl
 ·rw[t.other _ hb]
mutual
theorem R.turn (t:Jb w w' l):∀(x:AV) (v:Value),R C N w x v->R C N w' x v
 |.pr _ _,v,hr=>by unfold R at *;exact hr
 |.sr a off sz len cap,v,hr=>by
  unfold R at *;obtain⟨ad,k,h1,h2,h3,h4,h5⟩:=hr
  exact⟨ad,k,h1,h2,h3,h4,fun c o hc=>by rw[t.csize];exact h5 c o hc⟩
 |.mp _,v,hr=>by unfold R at *;exact hr
 |.it _,v,hr=>by unfold R at *;exact hr
 |.stp _,v,hr=>by unfold R at *;exact hr
 |.yl _,v,hr=>by unfold R at *;exact hr
 |.flt _ _,v,hr=>by unfold R at *;exact hr
 |.pv cs,v,hr=>by
  unfold R at *;obtain⟨c,o,h1,h2,h3⟩:=hr;exact⟨c,o,h1,h2,RC.turn t cs c o h3⟩
 |.sv cs sz len cap,v,hr=>by
  unfold R at *;obtain⟨ado,q,h1,h2,h3,h4,h0,hh⟩:=hr;refine⟨ado,q,h1,h2,h3,h4,h0,fun ad ha=>?_⟩
  obtain⟨h5,h6,h7⟩:=hh ad ha;exact⟨h5,h6,RC.turn t cs ad.block ad.off h7⟩
 |.fn f p q,v,hr=>by
  unfold R at *;obtain⟨a,c,h1,h2,h3⟩:=hr;exact⟨a,c,h1,RL.turn t p _ h2,RL.turn t q _ h3⟩
 |.ifc ty x,v,hr=>by
  unfold R at *;obtain⟨y,h1,h2⟩:=hr;exact⟨y,h1,R.turn t x y h2⟩
 |.agg cs,v,hr=>by
  unfold R at *;obtain⟨a,h1,h2,h3⟩:=hr;exact⟨a,h1,RL.turn t cs _ h2,h3⟩
 |.tup vs,v,hr=>by
  unfold R at *;obtain⟨a,h1,h2⟩:=hr;exact⟨a,h1,RL.turn t vs _ h2⟩
 |.any,v,hr=>by unfold R;trivial
 |.bool x,v,hr=>by unfold R at *;exact hr
 |.int k' n,v,hr=>by unfold R at *;exact hr
 |.str l,v,hr=>by unfold R at *;exact hr
 |.nil y,v,hr=>by unfold R at *;exact hr
theorem RC.turn (t:Jb w w' l):∀(cs:List AV) (c o:Nat),RC C N w c cs o->RC C N w' c cs o
 |[],c,o,_=>by unfold RC;trivial
 |x::r,c,o,hr=>by
  unfold RC at *;obtain⟨⟨v,h1,h2,h3⟩,h4⟩:=hr;exact⟨⟨v,t.cell h1,h2,R.turn t x v h3⟩,RC.turn t r c (o+1) h4⟩
theorem RL.turn (t:Jb w w' l):∀(l:List AV) (vs:List Value),RL C N w l vs->RL C N w' l vs
 |[],[],_=>by unfold RL;trivial
 |x::r,v::s,hr=>by
  unfold RL at *;exact⟨R.turn t x v hr.1,RL.turn t r s hr.2⟩
 |[],_::_,hr=>by unfold RL at hr;exact hr.elim
 |_::_,[],hr=>by unfold RL at hr;exact hr.elim
end
theorem ER.turn(t:Jb w w' l):∀{l:List (Key×AV)} {L:List MapEntry},ER C N w l L->ER C N w' l L
 |[],[],_=>by unfold ER;trivial
 |x::r,f::s,h=>by unfold ER at *;exact⟨⟨h.1.1,R.turn t _ _ h.1.2⟩,ER.turn t h.2⟩
 |[],_::_,h=>by unfold ER at h;exact h.elim
 |_::_,[],h=>by unfold ER at h;exact h.elim
theorem OR.turn{P J a O}(h:OR P C w J a O)(t:Jb w w' l)(hl:¬C.own l):OR P C w' J a O:=by
 have hh:∀{a c o},C.loc a=some (c,o)->w'.heap[c]? =w.heap[c]? :=fun{a c o} hc=>t.other c (fun e=>hl (.inr ⟨a,o,e▸hc⟩))
 cases O with
 |cells vs=>
  obtain⟨c,o,cs,T,h1,h2,h3⟩:=h;exact⟨c,o,cs,T,h1,(hh h1).trans h2,RC.turn t _ _ _ h3⟩
 |map kt es ver=>
  obtain⟨c,E,clock,h1,h2,h3⟩:=h;obtain⟨L,k1,k2⟩:=h3.perm;exact⟨c,E,clock,h1,(hh h1).trans h2,h3.typed,⟨L,k1,ER.turn t k2⟩,h3.keys,h3.born,h3.apart⟩
 |iter m ver left cur=>
  cases m with
  |none=>
   obtain⟨c,since,seen,last,h1,h2,h3⟩:=h;exact⟨c,since,seen,last,h1,(hh h1).trans h2,h3⟩
  |some m=>
   obtain⟨h0,c,cm,since,seen,last,h1,h2,h3⟩:=h;refine⟨h0,c,cm,since,seen,last,h1,(hh h1).trans h2,fun kt es' v' hg=>?_⟩
   obtain⟨k1,k2⟩:=h3 kt es' v' hg;refine⟨k1,fun hv=>?_⟩
   obtain⟨E,q1,q2,q3,⟨L,q4,q5⟩,q6⟩:=k2 hv;exact⟨E,q1,(hh q1).trans q2,q3,⟨L,q4,ER.turn t q5⟩,fun k x hk=>let⟨f,f1,f2,f3,f4⟩:=q6 k x hk;⟨f,f1,f2,f3,R.turn t _ _ f4⟩⟩
 |stamp m ver k=>
  obtain⟨h0,h3⟩:=h;refine⟨h0,fun kt es' v' hg=>?_⟩
  obtain⟨k1,k2⟩:=h3 kt es' v' hg;refine⟨k1,fun hv=>?_⟩
  obtain⟨cm,E,clock,q1,q2,f⟩:=k2 hv;exact⟨cm,E,clock,q1,(hh q1).trans q2,f⟩
 |loop st=>
  obtain⟨c,r,h1,h2,h3⟩:=h;exact⟨c,r,h1,h2,(hh h1).trans h3⟩
theorem Sim.turn{P J}(h:Sim P C w J)(t:Jb w w' l)(hl:¬C.own l):Sim P C w' J:=
 ⟨fun a O hg=>(h.obj a O hg).turn t hl,h.bound,h.dom,h.inj,fun a c o hc=>by rw[t.size];exact h.lt a c o hc,fun b hb=>by rw[t.size];exact h.rlt b hb,h.rdis⟩
theorem Bm(J):nx J.bump=nx J+1:=by cases J;simp only[Sto.bump,Ak,nx]
theorem Fh(J:Sto)(a):J.bump.get a=J.get a:=by cases J;simp only[Sto.bump,Ak,Sto.get]
theorem Sim.bump{P J}(h:Sim P C w J)(n):
  Sim P (C.addStm (nx J) n) w J.bump/\Ext C (nx J) w (C.addStm (nx J) n) (nx J+1) w:=by
 have hne:∀{a},a<nx J->¬a=nx J:=fun h=>by omega
 have e:Ext C (nx J) w (C.addStm (nx J) n) (nx J+1) w:=⟨by omega,nl,fun b _ ho=>⟨ho,rfl⟩,fun _ _ _ h=>h,
  fun a ha=>by simp[Ctx.addStm,hne ha],fun _ _=>rfl,fun _ _ _ _ _=>rfl,⟨rfl,fun _ _=>rfl⟩,rfl,rfl⟩
 refine⟨⟨fun a X hg=>?_,fun a X hg=>?_,fun a q hq=>?_,h.inj,h.lt,h.rlt,h.rdis⟩,e⟩
 ·rw[Fh]at hg
  refine(h.obj a X hg).ext (by rw[Bm];exact e) (h.bound a X hg) rfl (fun _ _ _=>rfl) fun x hx kt es' v' hg'=>?_
  rw[Fh]at hg';exact⟨kt,es',v',hg',nl,fun _=>⟨rfl,fun _ _ _=>rfl⟩⟩
 ·rw[Bm];rw[Fh]at hg;have:=h.bound a X hg;omega
 ·rw[Fh];exact h.dom a q hq
end
attribute [grind=] Bm Fh
section
variable {E:Env}{C C' C₁ C₂:Ctx}{N N' N₁ N₂:Nat}{w w' w₁ w₂ w₃ w₄:World}{l:Nat}
theorem Ext.turnNew(e:Ext C N w C₁ N₁ w₁)(t:Jb w₁ w₂ l)(hl:¬C₁.own l)(hge:w.heap.size<=l):Ext C N w C₁ N₁ w₂ where
 next:=e.next
 size:=by rw[t.size];exact e.size
 keep b hb ho:=by
  obtain⟨k1,k2⟩:=e.keep b hb ho
  exact⟨k1,by rw[t.other b Om,k2]⟩
 loc:=e.loc
 stm:=e.stm
 lr:=e.lr
 bsz a ha c o hc:=by rw[t.csize];exact e.bsz a ha c o hc
 res:=⟨e.res.1,fun b hb=>by rw[t.other b (fun he=>hl (.inl (by rw[e.res.1];grind))),e.res.2 b hb]⟩
 os:=⟨t.os.1.trans e.os.1,t.os.2.trans e.os.2⟩
end
def Ctx.setLoop(C:Ctx)(a:Nat)(n:Int)(r:Loop):Ctx:={ C with stm:=fun b=>if b=a then n else C.stm b,lr:=fun b=>if b=a then some r else C.lr b }
section
variable {P:Program}{C:Ctx}{w w':World}{J:Sto}
theorem Sim.setLoop(h:Sim P C w J)(n r):Sim P (C.setLoop (nx J) n r) w J/\Ext C (nx J) w (C.setLoop (nx J) n r) (nx J) w:=by
 have hne:∀{a},a<nx J->¬a=nx J:=gr;have e:Ext C (nx J) w (C.setLoop (nx J) n r) (nx J) w:=⟨nl,nl,fun b _ ho=>⟨ho,rfl⟩,fun _ _ _ h=>h,
  fun a ha=>by simp[Ctx.setLoop,hne ha],fun a ha=>by simp[Ctx.setLoop,hne ha],fun _ _ _ _ _=>rfl,⟨rfl,fun _ _=>rfl⟩,rfl,rfl⟩
 exact⟨⟨fun a X hg=>(h.obj a X hg).ext e (h.bound a X hg) rfl (fun _ _ _=>rfl) fun x _ kt es' v' hg'=>⟨kt,es',v',hg',nl,fun _=>⟨rfl,fun _ _ _=>rfl⟩⟩,
  h.bound,h.dom,h.inj,h.lt,h.rlt,h.rdis⟩,e⟩
theorem Sim.newLoop(h:Sim P C w J){r}(hr:C9 r .ready=r)(p:Pu w w' (.loop r)):
  Sim P ((C.setLoop (nx J) (w.heap.size:Int) r).add (nx J) w.heap.size 0) w' (J.new (.loop .ready))/\
  Ext C (nx J) w ((C.setLoop (nx J) (w.heap.size:Int) r).add (nx J) w.heap.size 0) (nx J+1) w':=by
 obtain⟨h1,e1⟩:=h.setLoop (w.heap.size:Int) r
 obtain⟨h2,e2⟩:=h1.new p (.loop .ready) rfl fun _=>⟨w.heap.size,r,by simp[Ctx.add],by simp[Ctx.add,Ctx.setLoop],by rw[hr];exact p.here⟩
 exact⟨h2,e1.trans e2⟩
theorem Sim.turnLoop(h:Sim P C w J){a st}(hg:J.get a=some (.loop st))(st'):
  ∃c r,C.loc a=some (c,0)/\C.lr a=some r/\w.heap[c]? =some (.loop (C9 r st))/\
   Sim P C (w.putObj c (.loop (C9 r st'))) (J.set a (.loop st'))/\Ext C (nx J) w C (nx J) (w.putObj c (.loop (C9 r st'))):=by
 obtain⟨c,r,h1,h2,h3⟩:=h.obj a _ hg;have hlt:=(bc_.1 h3).1;have p:Wr w (w.putObj c (.loop (C9 r st'))) c (.loop (C9 r st')):=⟨World.putObj_size,World.putObj_heap_same hlt,fun b hb=>World.putObj_heap_other hb,rfl,rfl⟩
 have hsz:csize (w.putObj c (.loop (C9 r st'))) c=csize w c:=by unfold csize;rw[p.here,h3]
 obtain⟨k1,k2⟩:=h.upd h1 p hsz hg (.loop st') rfl gr fun _=>⟨c,r,h1,h2,p.here⟩
 grind
end
section
variable {E:Env}{Rr:Rec}
theorem Aq0{C N w x vs}(h:RL C N w [x] vs.toList):∃v,vs=#[v]/\R C N w x v:=by
 obtain⟨l⟩:=vs
 match l,h with
 |[],h=>unfold RL at h;exact h.elim
 |[v],h=>unfold RL at h;exact⟨v,rfl,h.1⟩
 |_::_::_,h=>unfold RL at h;have:=h.2;unfold RL at this;exact this.elim
def Gl(b B:Nat)(C:Ctx)(N:Nat)(w:World):Prop:=b<N/\(C.stm b).toNat=B/\B<=w.heap.size
theorem Gl.ext{b B C N w C' N' w'}(h:Gl b B C N w)(e:Ext C N w C' N' w'):Gl b B C' N' w':=
 ⟨ak_ h.1 e.next,by rw[e.stm b h.1];exact h.2.1,ai_ h.2.2 e.size⟩
theorem MB.of_DR{C N w}:∀{r:List (Nat×List AV)} {ds:List Deferred},DR C N w r ds->MB C N r w.heap.size
 |[],_,_=>fun x hx=>by cases hx
 |y::r,[],h=>by unfold DR at h;grind
 |y::r,d::ds,h=>by
  unfold DR at h;intro x hx hk a b hab
  rcases an_.1 hx with rfl|hx
  ·grind
  ·exact MB.of_DR h.2 x hx hk a b hab
end
section
mutual
def AV.und (N:Nat):AV->Bool
 |.pr a _=>Nat.blt a N
 |.sr a _ _ _ _=>Nat.blt a N
 |.mp a=>Nat.blt a N
 |.it a=>Nat.blt a N
 |.stp a=>Nat.blt a N
 |.yl a=>Nat.blt a N
 |.pv cs=>AV.unds N cs
 |.sv cs _ _ _=>AV.unds N cs
 |.fn _ p q=>AV.unds N p&&AV.unds N q
 |.ifc _ x=>AV.und N x
 |.agg cs=>AV.unds N cs
 |.tup vs=>AV.unds N vs
 |_=>true
def AV.unds (N:Nat):List AV->Bool
 |[]=>true
 |x::r=>AV.und N x&&AV.unds N r
end
structure Ak2 (C' C:Ctx):Prop where
 loc:∀a p,C'.loc a=some p->C.loc a=some p
 stm:C'.stm=C.stm
 lr:C'.lr=C.lr
 res:C'.res=C.res
section
variable {C:Ctx}{N M:Nat}{w:World}
theorem Ce{a N}(h:a<N):Nat.blt a N=true:=by simpa using h
theorem Gy{a N}(h:Nat.blt a N=true):a<N:=by simpa using h
mutual
theorem R.und:∀(x:AV) (v:Value),R C N w x v->AV.und N x=true
 |.any,_,_=>rfl
 |.bool _,_,_=>rfl
 |.int _ _,_,_=>rfl
 |.str _,_,_=>rfl
 |.nil _,_,_=>rfl
 |.flt _ _,_,_=>rfl
 |.pr a _,v,h=>by unfold R at h;obtain⟨_,_,h,_⟩:=h;exact Ce h
 |.sr a _ _ _ _,v,h=>by unfold R at h;obtain⟨_,_,_,h,_⟩:=h;exact Ce h
 |.mp a,v,h=>by unfold R at h;obtain⟨_,_,h,_⟩:=h;exact Ce h
 |.it a,v,h=>by unfold R at h;obtain⟨_,_,h,_⟩:=h;exact Ce h
 |.stp a,v,h=>by unfold R at h;exact Ce h.2
 |.yl a,v,h=>by unfold R at h;exact Ce h.2
 |.pv cs,v,h=>by unfold R at h;obtain⟨c,o,_,_,h⟩:=h;exact RC.unds cs c o h
 |.sv cs sz len cap,v,h=>by
  unfold R at h;obtain⟨ado,k,_,h1,_,h2,h3,h4⟩:=h;cases ado with
  |none=>
   have hk:=h3 rfl
   have hl:len=0:=by omega
   rw[hl,dw_]at h2;have:=ce_ h2;subst this;rfl
  |some ad=>exact RC.unds cs _ _ (h4 ad rfl).2.2
 |.fn _ p q,v,h=>by
  unfold R at h;obtain⟨a,b,_,h1,h2⟩:=h;simp only[AV.und,ad_];exact⟨RL.unds p _ h1,RL.unds q _ h2⟩
 |.ifc _ x,v,h=>by unfold R at h;obtain⟨y,_,h⟩:=h;exact R.und x y h
 |.agg cs,v,h=>by unfold R at h;obtain⟨a,_,h,_⟩:=h;exact RL.unds cs _ h
 |.tup vs,v,h=>by unfold R at h;obtain⟨a,_,h⟩:=h;exact RL.unds vs _ h
theorem RC.unds:∀(cs:List AV) (c o:Nat),RC C N w c cs o->AV.unds N cs=true
 |[],_,_,_=>rfl
 |x::r,c,o,h=>by
  unfold RC at h;obtain⟨⟨v,_,_,h1⟩,h2⟩:=h;simp only[AV.unds,ad_];exact⟨R.und x v h1,RC.unds r c (o+1) h2⟩
theorem RL.unds:∀(l:List AV) (vs:List Value),RL C N w l vs->AV.unds N l=true
 |[],[],_=>rfl
 |x::r,v::s,h=>by
  unfold RL at h;simp only[AV.unds,ad_];exact⟨R.und x v h.1,RL.unds r s h.2⟩
 |[],_::_,h=>by unfold RL at h;grind
 |_::_,[],h=>by unfold RL at h;grind
end
theorem Ak2.own{C'}(k:Ak2 C' C){c}(h:C'.own c):C.own c:=by
 rcases h with h|⟨a,o,h⟩
 ·exact .inl (by rw[←k.res];exact h)
 ·exact .inr ⟨a,o,k.loc a _ h⟩
variable {C':Ctx}
mutual
theorem R.cut (k:Ak2 C' C):∀(x:AV) (v:Value),AV.und M x=true->R C N w x v->R C' M w x v
 |.any,_,_,_=>by unfold R;trivial
 |.bool _,_,_,h=>by unfold R at *;exact h
 |.int _ _,_,_,h=>by unfold R at *;exact h
 |.str _,_,_,h=>by unfold R at *;exact h
 |.nil _,_,_,h=>by unfold R at *;exact h
 |.flt _ _,_,_,h=>by unfold R at *;exact h
 |.pr a _,v,b,h=>by
  unfold R at *;obtain⟨ad,h1,h2,h3⟩:=h;exact⟨ad,h1,Gy b,fun c o hc=>h3 c o (k.loc _ _ hc)⟩
 |.sr a _ _ _ _,v,b,h=>by
  unfold R at *;obtain⟨ad,kk,h1,h2,h3,h4,h5⟩:=h;exact⟨ad,kk,h1,Gy b,h3,h4,fun c o hc=>h5 c o (k.loc _ _ hc)⟩
 |.mp a,v,b,h=>by
  unfold R at *;obtain⟨c,h1,h2,h3⟩:=h;exact⟨c,h1,Gy b,fun c' o hc=>h3 c' o (k.loc _ _ hc)⟩
 |.it a,v,b,h=>by
  unfold R at *;obtain⟨c,h1,h2,h3⟩:=h;exact⟨c,h1,Gy b,fun c' o hc=>h3 c' o (k.loc _ _ hc)⟩
 |.stp a,v,b,h=>by unfold R at *;rw[k.stm];exact⟨h.1,Gy b⟩
 |.yl a,v,b,h=>by unfold R at *;rw[k.stm];exact⟨h.1,Gy b⟩
 |.pv cs,v,b,h=>by
  unfold R at *;obtain⟨c,o,h1,h2,h3⟩:=h;exact⟨c,o,h1,fun hne ho=>h2 hne (k.own ho),RC.cut k cs c o b h3⟩
 |.sv cs sz len cap,v,b,h=>by
  unfold R at *;obtain⟨ado,kk,h1,h2,h3,h4,h0,hh⟩:=h;refine⟨ado,kk,h1,h2,h3,h4,h0,fun ad ha=>?_⟩
  obtain⟨h5,h6,h7⟩:=hh ad ha;exact⟨h5,fun hne ho=>h6 hne (k.own ho),RC.cut k cs _ _ b h7⟩
 |.fn _ p q,v,b,h=>by
  simp only[AV.und,ad_]at b;unfold R at *;obtain⟨a,c,h1,h2,h3⟩:=h;exact⟨a,c,h1,RL.cut k p _ b.1 h2,RL.cut k q _ b.2 h3⟩
 |.ifc _ x,v,b,h=>by unfold R at *;obtain⟨y,h1,h2⟩:=h;exact⟨y,h1,R.cut k x y b h2⟩
 |.agg cs,v,b,h=>by unfold R at *;obtain⟨a,h1,h2,h3⟩:=h;exact⟨a,h1,RL.cut k cs _ b h2,h3⟩
 |.tup vs,v,b,h=>by unfold R at *;obtain⟨a,h1,h2⟩:=h;exact⟨a,h1,RL.cut k vs _ b h2⟩
theorem RC.cut (k:Ak2 C' C):∀(cs:List AV) (c o:Nat),AV.unds M cs=true->RC C N w c cs o->RC C' M w c cs o
 |[],_,_,_,_=>by unfold RC;trivial
 |x::r,c,o,b,h=>by
  simp only[AV.unds,ad_]at b;unfold RC at *;obtain⟨⟨v,h1,h2,h3⟩,h4⟩:=h;exact⟨⟨v,h1,h2,R.cut k x v b.1 h3⟩,RC.cut k r c (o+1) b.2 h4⟩
theorem RL.cut (k:Ak2 C' C):∀(l:List AV) (vs:List Value),AV.unds M l=true->RL C N w l vs->RL C' M w l vs
 |[],[],_,_=>by unfold RL;trivial
 |x::r,v::s,b,h=>by
  simp only[AV.unds,ad_]at b;unfold RL at *;exact⟨R.cut k x v b.1 h.1,RL.cut k r s b.2 h.2⟩
 |[],_::_,_,h=>by unfold RL at h;grind
 |_::_,[],_,h=>by unfold RL at h;grind
end
def Jc(N:Nat)(es:List (Key×AV)):Bool:=es.all fun x=>AV.und N x.2
theorem ER.und:∀{es:List (Key×AV)} {L:List MapEntry},ER C N w es L->Jc N es=true
 |[],[],_=>rfl
 |x::r,f::s,h=>by
  unfold ER at h;simp only[Jc,cs_,ad_];exact⟨R.und _ _ h.1.2,ER.und h.2⟩
 |[],_::_,h=>by unfold ER at h;grind
 |_::_,[],h=>by unfold ER at h;grind
theorem ER.cut(k:Ak2 C' C):∀{es:List (Key×AV)} {L:List MapEntry},Jc M es=true->ER C N w es L->ER C' M w es L
 |[],[],_,_=>by unfold ER;trivial
 |x::r,f::s,b,h=>by
  simp only[Jc,cs_,ad_]at b;unfold ER at *;exact⟨⟨h.1.1,R.cut k _ _ b.1 h.1.2⟩,ER.cut k b.2 h.2⟩
 |[],_::_,_,h=>by unfold ER at h;grind
 |_::_,[],_,h=>by unfold ER at h;grind
end
mutual
inductive Fz (J U:Sto):AV->AV->Prop
 |same {v:AV}:AV.und (nx U) v=true->Fz J U v v
 |any {v:AV}:Fz J U v .any
 |pr {a off:Nat} {vs l:List AV}:J.get a=some (.cells vs)->U.get a=none->FzL J U (vs.drop off) l->Fz J U (.pr a off) (.pv l)
 |sr {a off sz len:Nat} {cap:Option Nat} {vs cs l:List AV}:J.get a=some (.cells vs)->U.get a=none->Dr (len*sz) (vs.drop off)=some cs->FzL J U cs l->Fz J U (.sr a off sz len cap) (.sv l sz len none)
 |nils {sz:Nat} {cap:Option Nat}:(∀q,cap=some q->q=0)->Fz J U (.nil (.slice none 0 0)) (.sv [] sz 0 cap)
 |agg {a b:List AV}:FzL J U a b->Fz J U (.agg a) (.agg b)
 |tup {a b:List AV}:FzL J U a b->Fz J U (.tup a) (.tup b)
 |sv {a b:List AV} {sz len:Nat} {cap cap':Option Nat}:(∀q,cap'=some q->cap=some q)->FzL J U a b->Fz J U (.sv a sz len cap) (.sv b sz len cap')
inductive FzL (J U:Sto):List AV->List AV->Prop
 |nil:FzL J U [] []
 |cons {x y:AV} {r s:List AV}:Fz J U x y->FzL J U r s->FzL J U (x::r) (y::s)
end
theorem FzL.length{J U}:∀{a b:List AV},FzL J U a b->a.length=b.length
 |_,_,.nil=>rfl
 |_,_,.cons _ h=>by simp[FzL.length h]
theorem FzL.same{J U}:∀{a:List AV},AV.unds (nx U) a=true->FzL J U a a
 |[],_=>.nil
 |x::r,h=>by simp only[AV.unds,ad_]at h;exact .cons (.same h.1) (FzL.same h.2)
abbrev dj_:=@FzL.same
section
variable {P:Program}{C:Ctx}{w:World}{J U:Sto}
theorem Ctx.keep_sub(C U):Ak2 (C.keep U) C:=by
 refine⟨fun a p h=>?_,rfl,rfl,rfl⟩
 simp only[Ctx.keep]at h
 grind
theorem Sim.freed(h:Sim P C w J){a c o}(hl:C.loc a=some (c,o))(ht:U.get a=none):¬(C.keep U).own c:=by
 rintro(hr|⟨b,o',hb⟩)
 ·exact h.rdis a c o hl hr
 ·simp only[Ctx.keep]at hb
  split at hb
  ·rename_i hs
   have:=h.inj a b c o o' hl hb
   grind
  grind
mutual
theorem Fz.R (h:Sim P C w J):∀{v v':AV} {x:Value},Fz J U v v'->R C (nx J) w v x->R (C.keep U) (nx U) w v' x
 |v,_,x,.same hu,hr=>R.cut (C.keep_sub U) v x hu hr
 |v,_,x,.any,hr=>by unfold AM.R;trivial
 |.pr a off,_,x,.pr (vs:=vs) (l:=l) hg ht hl,hr=>by
  obtain⟨c,o,cs,T,k1,k2,k3⟩:=h.obj a _ hg;unfold AM.R at hr⊢;obtain⟨ad,rfl,_,h3⟩:=hr;have:=h3 c o k1;subst this;exact⟨c,o+off,rfl,fun _=>h.freed k1 ht,FzL.RC h hl (k3.drop off)⟩
 |.sr a off sz len cap,_,x,.sr (vs:=vs) (cs:=cs) (l:=l) hg ht hk hl,hr=>by
  obtain⟨c,o,cs₀,T,k1,k2,k3⟩:=h.obj a _ hg;unfold AM.R at hr⊢;obtain⟨ad,k,rfl,_,h4,h5,h6⟩:=hr;obtain⟨q1,q2⟩:=h6 c o k1;obtain⟨t1,t2⟩:=Hu hk
  have bl:l.length=len*sz:=by rw[←hl.length];exact t2
  refine⟨some ad,k,rfl,h4,fun q hq=>(by cases hq),bl,fun hh=>(by cases hh),fun ad' ha=>?_⟩
  cases ha
  have ec:l≠[]->0<k:=fun hne=>by
   rcases de_ len with h0|h0
   ·rw[h0,dw_]at bl;grind
   ·omega
  refine⟨gr,fun hne=>by rw[q1 (ec hne)];exact h.freed k1 ht,?_⟩
  by_cases hne:l=[]
  ·subst hne;unfold AM.RC;trivial
  ·rw[q1 (ec hne)];exact FzL.RC h hl ((k3.drop off).take _ hk)
 |_,_,x,.nils (sz:=sz) hc,hr=>by
  unfold AM.R at hr⊢
  grind
 |_,_,x,.agg hl,hr=>by
  unfold AM.R at hr⊢;obtain⟨a,h1,h2,h3⟩:=hr;exact⟨a,h1,FzL.RL h hl h2,h3⟩
 |_,_,x,.tup hl,hr=>by
  unfold AM.R at hr⊢;obtain⟨a,h1,h2⟩:=hr;exact⟨a,h1,FzL.RL h hl h2⟩
 |_,_,x,.sv (a:=a) (b:=b) hc hl,hr=>by
  unfold AM.R at hr⊢;obtain⟨ado,k,h1,h2,h3,h4,h5,h6⟩:=hr
  refine⟨ado,k,h1,h2,fun q hq=>h3 q (hc q hq),by rw[←hl.length];exact h4,h5,fun ad ha=>?_⟩
  obtain⟨q1,q2,q3⟩:=h6 ad ha;refine⟨q1,fun hne ho=>q2 (fun h0=>?_) ((C.keep_sub U).own ho),FzL.RC h hl q3⟩
  have:=hl.length
  grind
theorem FzL.RL (h:Sim P C w J):∀{l l':List AV} {xs:List Value},FzL J U l l'->RL C (nx J) w l xs->RL (C.keep U) (nx U) w l' xs
 |_,_,[],.nil,hr=>by unfold AM.RL;trivial
 |_,_,_::_,.nil,hr=>by unfold AM.RL at hr;grind
 |_,_,[],.cons _ _,hr=>by unfold AM.RL at hr;grind
 |_,_,x::xs,.cons h1 h2,hr=>by unfold AM.RL at hr⊢;exact⟨Fz.R h h1 hr.1,FzL.RL h h2 hr.2⟩
theorem FzL.RC (h:Sim P C w J):∀{l l':List AV} {c o:Nat},FzL J U l l'->RC C (nx J) w c l o->RC (C.keep U) (nx U) w c l' o
 |_,_,_,_,.nil,hr=>by unfold AM.RC;trivial
 |_,_,c,o,.cons h1 h2,hr=>by
  unfold AM.RC at hr⊢;obtain⟨⟨v,k1,k2,k3⟩,k4⟩:=hr;exact⟨⟨v,k1,k2,Fz.R h h1 k3⟩,FzL.RC h h2 k4⟩
end
def Aov(J U:Sto):List (Key×AV)->List (Key×AV)->Prop
 |[],[]=>True
 |x::r,y::s=>x.1=y.1/\Fz J U x.2 y.2/\Aov J U r s
 |_,_=>False
theorem Aov.ER(h:Sim P C w J):∀{l l':List (Key×AV)} {L:List MapEntry},Aov J U l l'->ER C (nx J) w l L->ER (C.keep U) (nx U) w l' L
 |[],[],[],_,_=>by unfold AM.ER;trivial
 |[],[],_::_,_,hr=>by unfold AM.ER at hr;grind
 |_::_,_::_,[],_,hr=>by unfold AM.ER at hr;grind
 |x::r,y::s,f::L,hf,hr=>by
  obtain⟨h1,h2,h3⟩:=hf;unfold AM.ER at hr⊢;exact⟨⟨gr,h2.R h hr.1.2⟩,Aov.ER h h3 hr.2⟩
 |[],_::_,_,hf,_=>hf.elim
 |_::_,[],_,hf,_=>hf.elim
def AO.und(N:Nat):AO->Bool
 |.cells vs=>AV.unds N vs
 |.map _ es _=>Jc N es
 |.iter m _ _ _=>match m with|none=>true|some r=>Nat.blt r N
 |.stamp m _ _=>Nat.blt m N
 |.loop _=>true
def Ak3(N:Nat):Option (Key×AV)->Bool
 |none=>true
 |some x=>AV.und N x.2
def Agt(U:Sto):AO->Prop
 |.iter (some r) ver left cur=>∀kt es,U.get r=some (.map kt es ver)->Jc (nx U) left=true/\Ak3 (nx U) cur=true
 |_=>True
inductive FzO (J U:Sto):AO->AO->Prop
 |iter {m:Option Nat} {ver:Nat} {left:List (Key×AV)} {cur:Option (Key×AV)}:AO.und (nx U) (.iter m ver left cur)=true->Agt U (.iter m ver left cur)->FzO J U (.iter m ver left cur) (.iter m ver left cur)
 |stamp {m ver:Nat} {k:Key}:AO.und (nx U) (.stamp m ver k)=true->FzO J U (.stamp m ver k) (.stamp m ver k)
 |cells {a b:List AV}:FzL J U a b->FzO J U (.cells a) (.cells b)
 |map {kt ver:Nat} {a b:List (Key×AV)}:Aov J U a b->FzO J U (.map kt a ver) (.map kt b ver)
 |loop {st:LS}:FzO J U (.loop st) (.loop st)
def Ds(J U:Sto):Prop:=nx U<=nx J/\∀a O,U.get a=some O->a<nx U/\∃O₀,J.get a=some O₀/\FzO J U O₀ O
theorem Sim.frz(h:Sim P C w J)(hf:Ds J U):Sim P (C.keep U) w U:=by
 have k:=C.keep_sub U;refine⟨fun a O ha=>?_,fun a O ha=>(hf.2 a O ha).1,fun a p hp=>?_,fun a b c o o' ha hb=>h.inj a b c o o' (k.loc _ _ ha) (k.loc _ _ hb),
  fun a c o ha=>h.lt a c o (k.loc _ _ ha),h.rlt,fun a c o ha=>h.rdis a c o (k.loc _ _ ha)⟩
 ·obtain⟨h1,O₀,h2,h3⟩:=hf.2 a O ha;have ho:=h.obj a O₀ h2
  have hk:(C.keep U).loc a=C.loc a:=by simp[Ctx.keep,ha]
  cases h3 with
  |cells hl=>
   obtain⟨c,o,cs,T,k1,k2,k3⟩:=ho;exact⟨c,o,cs,T,hk.trans k1,k2,hl.RC h k3⟩
  |map hl=>
   obtain⟨c,E,clock,k1,k2,k3⟩:=ho;exact⟨c,E,clock,hk.trans k1,k2,k3.typed,let⟨L,q1,q2⟩:=k3.perm;⟨L,q1,hl.ER h q2⟩,k3.keys,k3.born,k3.apart⟩
  |loop=>
   obtain⟨c,r,k1,k2,k3⟩:=ho;exact⟨c,r,hk.trans k1,k2,k3⟩
  |stamp hu=>
   obtain⟨k0,k1⟩:=ho
   rename_i m ver ky
   refine⟨Gy hu,fun kt es ver' hg=>?_⟩
   obtain⟨_,O₁,g1,g2⟩:=hf.2 m _ hg;cases g2 with
   |map hl=>
    obtain⟨q1,q2⟩:=k1 _ _ _ g1;refine⟨q1,fun hv=>?_⟩
    obtain⟨cm,E,clock,p1,p2,p3⟩:=q2 hv
    exact⟨cm,E,clock,by simp[Ctx.keep,hg,p1],p2,p3⟩
  |iter u1 hu=>
   rename_i m ver left cur
   cases m with
   |none=>
    obtain⟨c,since,seen,last,k1,k2,k3⟩:=ho;exact⟨c,since,seen,last,hk.trans k1,k2,k3⟩
   |some m=>
    obtain⟨k0,c,cm,since,seen,last,k1,k2,k3⟩:=ho;refine⟨Gy u1,c,cm,since,seen,last,hk.trans k1,k2,fun kt es ver' hg=>?_⟩
    obtain⟨_,O₁,g1,g2⟩:=hf.2 m _ hg;cases g2 with
    |map hl=>
     obtain⟨q1,q2⟩:=k3 _ _ _ g1;refine⟨q1,fun hv=>?_⟩
     subst hv;obtain⟨u2,u3⟩:=hu _ _ hg;obtain⟨E,p1,p2,p3,⟨L,p4,p5⟩,p6⟩:=q2 rfl
     refine⟨E,by simp[Ctx.keep,hg,p1],p2,p3,⟨L,p4,ER.cut k u2 p5⟩,fun ky x hx=>?_⟩
     obtain⟨f,f1,f2,f3,f4⟩:=p6 ky x hx;subst hx;exact⟨f,f1,f2,f3,R.cut k _ _ u3 f4⟩
 ·have hs:(U.get a).isSome=true:=by
   simp only[Ctx.keep]at hp
   grind
  obtain⟨O,hO⟩:=bg_.1 hs;obtain⟨_,O₀,h2,h3⟩:=hf.2 a O hO;obtain⟨O₁,h4,h5⟩:=h.dom a p (k.loc a p hp);rw[h2]at h4;cases h4;refine⟨O,hO,?_⟩
  cases h3<;>first|rfl|exact h5
def WFS(J:Sto):Prop:=∀a O,J.get a=some O->a<nx J/\AO.und (nx J) O=true/\Agt J O
theorem Sim.wfs(h:Sim P C w J):WFS J:=by
 intro a O hg;refine⟨h.bound a O hg,?_⟩;have ho:=h.obj a O hg;cases O with
 |cells vs=>obtain⟨c,o,cs,T,_,_,k⟩:=ho;exact⟨RC.unds _ _ _ k,trivial⟩
 |map kt es ver=>obtain⟨c,E,clock,_,_,k⟩:=ho;obtain⟨L,_,q⟩:=k.perm;exact⟨ER.und q,trivial⟩
 |stamp m ver k=>exact⟨Ce ho.1,trivial⟩
 |loop st=>exact⟨rfl,trivial⟩
 |iter m ver left cur=>
  cases m with
  |none=>exact⟨rfl,trivial⟩
  |some r=>
   obtain⟨k0,c,cm,since,seen,last,k1,k2,k3⟩:=ho;refine⟨Ce k0,fun kt es hr=>?_⟩
   obtain⟨_,q2⟩:=k3 _ _ _ hr;obtain⟨E,p1,p2,p3,⟨L,p4,p5⟩,p6⟩:=q2 rfl;refine⟨ER.und p5,?_⟩;cases cur with
   |none=>rfl
   |some x=>obtain⟨f,f1,f2,f3,f4⟩:=p6 x.1 x.2 rfl;exact R.und _ _ f4
theorem Oi(h:∀{v:AV},AV.und (nx U) v=true->Fz J U v v):∀{es:List (Key×AV)},Jc (nx U) es=true->Aov J U es es
 |[],_=>trivial
 |x::r,k=>by
  simp only[Jc,cs_,ad_]at k;exact⟨rfl,h k.1,Oi h k.2⟩
theorem Ds.of_same(h:WFS U)(hn:nx U<=nx J)(hg:∀a,a<nx U->J.get a=U.get a):Ds J U:=by
 refine⟨hn,fun a O ha=>?_⟩
 obtain⟨h1,h2,h3⟩:=h a O ha;refine⟨h1,O,(hg a h1).trans ha,?_⟩;cases O with
 |cells vs=>exact .cells (dj_ h2)
 |map kt es ver=>exact .map (Oi .same h2)
 |iter m ver left cur=>exact .iter h2 h3
 |stamp m ver k=>exact .stamp h2
 |loop st=>exact .loop
abbrev a_:=@Ds.of_same
theorem Ext.base{C' N N' B w'}(h:Ext C N w C' N' w')(hB:B<=N):Ext C B w C' B w':=
 ⟨nl,h.size,h.keep,fun a ha=>h.loc a Om,fun a ha=>h.stm a Om,fun a ha=>h.lr a Om,fun a ha=>h.bsz a Om,h.res,h.os⟩
theorem Ext.top{C' B N' w'}(h:Ext C B w C' B w')(hB:B<=N'):Ext C B w C' N' w':=
 ⟨hB,h.size,h.keep,h.loc,h.stm,h.lr,h.bsz,h.res,h.os⟩
theorem Ext.keepB(C U B w):Ext C B w (C.keep U) B w:=
 ⟨nl,nl,fun b _ ho=>⟨fun hh=>ho ((C.keep_sub U).own hh),rfl⟩,fun a _ p hp=>(C.keep_sub U).loc a p hp,fun _ _=>rfl,fun _ _=>rfl,fun _ _ _ _ _=>rfl,⟨rfl,fun _ _=>rfl⟩,rfl,rfl⟩
abbrev en_:=@Ext.keepB
end
end
def Oj(l:Ad):Tr AV:=l.foldr (fun p t=>t.put (p.1+1) p.1 (some p.2)) .e
def Km:Ad->Ad->Prop
 |[],_=>True
 |(i,v)::r,ρ=>Ad.at ρ i=some v/\Km r ρ
theorem Km.at:∀{ρ' ρ:Ad},Km ρ' ρ->∀i v,Ad.at ρ' i=some v->Ad.at ρ i=some v
 |[],ρ,_,i,v,h=>by simp[Ad.at]at h
 |(j,u)::r,ρ,h,i,v,hv=>by
  obtain⟨h1,h2⟩:=h;simp only[Ad.at]at hv;cases hb:Nat.beq j i with
  |true=>rw[hb]at hv;cases hv;have:=ac_ hb;subst this;exact h1
  |false=>rw[hb]at hv;exact Km.at h2 i v hv
theorem Has.subL{tm ρ ρ'}(h:Has tm ρ)(k:Km ρ' ρ):Has tm ρ':=fun i v hv=>h i v (k.at i v hv)
def Al(E:Env)(f:Nat)(args:List AV)(J:Sto)(Post:AV->Sto->Prop):Prop:=
 ∀(C:Ctx) (w:World) (vs:Array Value),Sim E.P C w J->Iw C (nx J) w E->RL C (nx J) w args vs.toList->
  Aa2 E.P f/\Calls E.P f vs w fun
   |.returned x,w'=>∃v J' C',Post v J'/\Sim E.P C' w' J'/\Ext C (nx J) w C' (nx J') w'/\R C' (nx J') w' v x
   |_,_=>False
theorem Al.mono{E f args J Post Post'}(h:Al E f args J Post)(k:∀v J',Post v J'->Post' v J'):Al E f args J Post':=by
 intro C w vs hs hg ha;obtain⟨h1,h2⟩:=h C w vs hs hg ha;refine⟨h1,h2.mono fun e w' he=>?_⟩
 grind
open Classical in
noncomputable def Dk:List (Nat×List AV×Sto×AV×Sto)->Rec
 |[],_,_,_=>none
 |(f,a,s,v,s')::r,.fn f',a',J=>if f'=f/\a'=a/\J=s then some (v,s')else Dk r (.fn f') a' J
 |_::_,.yl _,_,_=>none
def Aev(E:Env):List (Nat×List AV×Sto×AV×Sto)->Prop
 |[]=>True
 |(f,a,s,v,s')::r=>Al E f a s (fun u U=>u=v/\U=s')/\Aev E r
theorem Aq1{a}:∀(l:List (Nat×List AV×Sto×AV×Sto)) (x:List AV) (J:Sto),Dk l (.yl a) x J=none
 |[],_,_=>rfl
 |_::_,_,_=>rfl
theorem Aih{E f'}:∀{l:List (Nat×List AV×Sto×AV×Sto)},Aev E l->Akz E f' (Dk l (.fn f'))
 |[],_=>fun C w J args vs v J' hs hg ha h=>by cases h
 |(f,a,s,v,s')::r,hk=>fun C w J args vs u J' hs hg ha h=>by
  simp only[Dk]at h
  split at h
  ·rename_i he
   obtain⟨rfl,rfl,rfl⟩:=he;cases h;obtain⟨h1,h2⟩:=hk.1 C w vs hs hg ha;refine⟨h1,h2.mono fun e w' he=>?_⟩
   cases e with
   |returned x=>obtain⟨v,J',C',⟨rfl,rfl⟩,k1,k2,k3⟩:=he;exact⟨C',k1,k2,k3⟩
   |panicked _=>exact he.elim
   |outgrown=>exact he.elim
  ·exact Aih hk.2 C w J args vs u J' hs hg ha h
theorem Bw{E l}(hk:Aev E l)(hp:∀f,E.pu f=true->False:=by intro f h;exact absurd (show false=true from h) (by decide)):Bk E (Dk l):=
 ⟨fun _=>Aih hk,fun a C w J args vs v J' hs hg ha h=>(by rw[Aq1]at h;cases h),fun f h=>(hp f h).elim⟩
abbrev Cc:=XE->Ad->Sto->Prop
def Sd(E:Env)(nt:Nat)(df:List (Nat×List AV))(B:Nat)(Q:Cc)(C:Ctx)(w:World):Exit->Act->World->Prop:=fun e a' w'=>
 ∃x tm' ρ' J' C',Jj x=e/\Has tm' ρ'/\Q x ρ' J'/\SSt E C' w' ⟨tm',nt,df,J'⟩ a'/\B<=nx J'/\Ext C B w C' B w'
def T(E:Env)(nt:Nat)(df:List (Nat×List AV))(B:Nat)(c:Code)(Q:Cc)(ρ:Ad)(J:Sto):Prop:=
 ∀(ro:Option Nat) (n:Nat),(ro=none∨Ln c=true)->∀(C:Ctx) (w:World) (tm:Tr AV) (a:Act),Has tm ρ->SSt E C w ⟨tm,nt,df,J⟩ a->B<=nx J->c.wpIn (Cy ro) n E.P (Sd E nt df B Q C w) a w
def TO(E:Env)(nt:Nat)(df:List (Nat×List AV))(B:Nat)(ops r:List Oper)(K:Ad->Sto->Prop)(ρ:Ad)(J:Sto):Prop:=
 ∀(ro:Option Nat) (n:Nat),(ro=none∨D6 r=true)->∀(C:Ctx) (w:World) (tm:Tr AV) (a:Act),Has tm ρ->SSt E C w ⟨tm,nt,df,J⟩ a->B<=nx J->∀(arr:Array Oper) (i:Nat) (QQ:Exit->Act->World->Prop) (rest:List Nat),arr.toList=ops->(∀j,j<r.length->r[j]? =arr[i+j]?)->
  (∀C' w' a' tm' ρ' J',Has tm' ρ'->K ρ' J'->SSt E C' w' ⟨tm',nt,df,J'⟩ a'->B<=nx J'->Ext C B w C' B w'->wpOpsIn (Cy ro) n E.P arr QQ rest a' w')->wpOpsIn (Cy ro) n E.P arr QQ (List.range' i r.length++rest) a w
section
variable {E:Env}{nt B:Nat}{df:List (Nat×List AV)}{Q Q':Cc}{ρ ρ':Ad}{J J':Sto}{K:Ad->Sto->Prop}
theorem Sd.mono{C w e a w'}(h:Sd E nt df B Q C w e a w')(hQ:∀x ρ J,Q x ρ J->Q' x ρ J):Sd E nt df B Q' C w e a w':=by
 obtain⟨x,tm',ρ',J',C',h1,h2,h3,h4⟩:=h;exact⟨x,tm',ρ',J',C',h1,h2,hQ _ _ _ h3,h4⟩
theorem Sd.from{C C₀ w w₀ e a w'}(h:Sd E nt df B Q C w e a w')(hx:Ext C₀ B w₀ C B w):Sd E nt df B Q C₀ w₀ e a w':=by
 obtain⟨x,tm',ρ',J',C',h1,h2,h3,h4,hB,h5⟩:=h;exact⟨x,tm',ρ',J',C',h1,h2,h3,h4,hB,hx.trans h5⟩
theorem T.mono{c}(h:T E nt df B c Q ρ J)(hQ:∀x ρ J,Q x ρ J->Q' x ρ J):T E nt df B c Q' ρ J:=
 fun ro n hn C w tm a ht st hB=>wpIn_mono (h ro n hn C w tm a ht st hB) fun e a' w' he=>he.mono hQ
theorem T.sub{c}(h:T E nt df B c Q ρ' J)(hs:Km ρ' ρ):T E nt df B c Q ρ J:=
 fun ro n hn C w tm a ht st=>h ro n hn C w tm a (ht.subL hs) st
theorem T.wp{c}(h:T E nt df B c Q ρ J)(C w tm a)(ht:Has tm ρ)(st:SSt E C w ⟨tm,nt,df,J⟩ a)(hB:B<=nx J):c.wp E.P (Sd E nt df B Q C w) a w:=(wpIn_wide (n:=0)).1 (h none 0 (.inl rfl) C w tm a ht st hB)
theorem Agu(h:Q .normal ρ J):T E nt df B .skip Q ρ J:=fun _ _ _ C w tm a ht st hB=>wpIn_skip ⟨.normal,tm,ρ,J,C,rfl,ht,h,st,hB,cf_ _ _ _⟩
theorem Aud{n}(h:Q .normal ρ J):T E nt df B (.label n) Q ρ J:=fun _ _ _ C w tm a ht st hB=>wpIn_label ⟨.normal,tm,ρ,J,C,rfl,ht,h,st,hB,cf_ _ _ _⟩
theorem Agv{n}(h:Q (.exit n) ρ J):T E nt df B (.exit n) Q ρ J:=fun _ _ _ C w tm a ht st hB=>wpIn_exit ⟨.exit n,tm,ρ,J,C,rfl,ht,h,st,hB,cf_ _ _ _⟩
theorem Amj(h:Q .ret ρ J):T E nt df B .ret Q ρ J:=fun _ _ _ C w tm a ht st hB=>wpIn_ret ⟨.ret,tm,ρ,J,C,rfl,ht,h,st,hB,cf_ _ _ _⟩
def Pa(k:Ad->Sto->Prop)(Q:Cc):Cc
 |.normal=>k
 |x=>Q x
theorem Aew{x y}(h:T E nt df B x (Pa (T E nt df B y Q) Q) ρ J):T E nt df B (.seq x y) Q ρ J:=by
 intro ro n hn C w tm a ht st hB;simp only[Ln,ad_]at hn;refine wpIn_seq (wpIn_mono (h ro n (hn.imp (fun h=>h) (·.1)) C w tm a ht st hB) fun e a' w' he=>?_)
 obtain⟨x',tm',ρ',J',C',h1,h2,h3,h4,hB',h5⟩:=he;subst h1;cases x' with
 |normal=>exact wpIn_mono (h3 ro n (hn.imp (fun h=>h) (·.2)) C' w' tm' a' h2 h4 hB') fun e a'' w'' he=>he.from h5
 |exit id=>exact⟨.exit id,tm',ρ',J',C',rfl,h2,h3,h4,hB',h5⟩
 |ret=>exact⟨.ret,tm',ρ',J',C',rfl,h2,h3,h4,hB',h5⟩
theorem Ab{c x y b}(hc:Ah E ρ c=some (.bool b))(h1:b=true->T E nt df B x Q ρ J)(h2:b=false->T E nt df B y Q ρ J):T E nt df B (.cond c x y) Q ρ J:=by
 intro ro n hn C w tm a ht st hB;simp only[Ln,ad_]at hn;have hv:=Be st.glob st.tmps c;rw[ht.opd hc]at hv;unfold R at hv;cases b with
 |true=>exact wpIn_cond_true hv (h1 rfl ro n (hn.imp (fun h=>h) (·.1)) C w tm a ht st hB)
 |false=>exact wpIn_cond_false hv (h2 rfl ro n (hn.imp (fun h=>h) (·.2)) C w tm a ht st hB)
def Qf(id:Nat)(Q:Cc):Cc
 |.exit j=>cond (Nat.beq j id) (Q .normal) (Q (.exit j))
 |x=>Q x
theorem Amk{id c}(h:T E nt df B c (Qf id Q) ρ J):T E nt df B (.block id c) Q ρ J:=by
 intro ro n hn C w tm a ht st hB;refine wpIn_block (wpIn_mono (h ro n hn C w tm a ht st hB) fun e a' w' he=>?_)
 obtain⟨x',tm',ρ',J',C',h1,h2,h3,h4,hB',h5⟩:=he;subst h1;cases x' with
 |normal=>exact⟨.normal,tm',ρ',J',C',rfl,h2,h3,h4,hB',h5⟩
 |ret=>exact⟨.ret,tm',ρ',J',C',rfl,h2,h3,h4,hB',h5⟩
 |exit j=>
  simp only[Qf]at h3
  by_cases hj:j=id
  ·subst hj;rw[aw_]at h3;simp only[Jj,Exit.inBlock,if_true];exact⟨.normal,tm',ρ',J',C',rfl,h2,h3,h4,hB',h5⟩
  ·have hb:Nat.beq j id=false:=by cases hb:Nat.beq j id with|true=>exact absurd (ac_ hb) hj|false=>rfl
   rw[hb]at h3;simp only[Jj,Exit.inBlock,if_neg hj];exact⟨.exit j,tm',ρ',J',C',rfl,h2,h3,h4,hB',h5⟩
theorem Aue{c}(h:T E nt df B c Q ρ J):T E nt df B (.scope c) Q ρ J:=by
 intro ro n hn C w tm a ht st hB;refine Sc (wpIn_mono (h ro n hn C w tm a ht st hB) fun e a' w' he=>?_)
 obtain⟨x',tm',ρ',J',C',h1,h2,h3,h4,hB',h5⟩:=he;subst h1;cases x'<;>exact⟨_,tm',ρ',J',C',rfl,h2,h3,h4,hB',h5⟩
theorem Aw0{c}(I:Nat->Ad->Sto->Prop)(n)(h0:∃ρ',Km ρ' ρ/\I n ρ' J)
  (hs:∀n ρ J,I n ρ J->T E nt df B c (Pa (fun ρ' J'=>∃m ρ'',m<n/\Km ρ'' ρ'/\I m ρ'' J') Q) ρ J):T E nt df B (.loop c) Q ρ J:=by
 intro ro m hn;have key:∀(n:Nat) (ρ:Ad) (J:Sto),I n ρ J->∀(C:Ctx) (w:World) (tm:Tr AV) (a:Act),Has tm ρ->SSt E C w ⟨tm,nt,df,J⟩ a->B<=nx J->∀(b:Frame) (k:List Item) (cs:List Frame),b.roundOf=(Cy ro).round->(Cy ro).fn b.fn->(Cy ro).room (cs.length+1+m)->
   ∃e a' w',Sd E nt df B Q C w e a' w'/\ArrivesIn (Machine.fenced E.P (Cy ro)) E.P (lone (b.atR a (.code c::.inLoop c::k)) cs w) b k cs e a' w':=by
  intro n
  induction n using Nat.strongRecOn with
  |_ n ih=>
   intro ρ J hI C w tm a ht st hB b k cs hro hb hr;obtain⟨e,a₁,w₁,hq,br⟩:=hs n ρ J hI ro m hn C w tm a ht st hB b (.inLoop c::k) cs hro hb hr;obtain⟨x',tm',ρ',J',C',h1,h2,h3,h4,hB',h5⟩:=hq;subst h1;cases x' with
   |normal=>
    obtain⟨m,ρ'',hm,cc,hI'⟩:=h3;obtain⟨e₂,a₂,w₂,hq₂,harr₂⟩:=ih m hm ρ'' J' hI' C' w₁ tm' a₁ (h2.subL cc) h4 hB' b k cs hro hb hr;exact⟨e₂,a₂,w₂,hq₂.from h5,.of_steps (StepsIn.trans br (.one (fenced_calm hb hr rfl) stepR_inLoop)) harr₂⟩
   |exit id=>exact⟨.exit id,a₁,w₁,⟨_,tm',ρ',J',C',rfl,h2,h3,h4,hB',h5⟩,.pass (x:=.inLoop c) rfl (fun _ _=>.inl (by simp)) br⟩
   |ret=>exact⟨.ret,a₁,w₁,⟨_,tm',ρ',J',C',rfl,h2,h3,h4,hB',h5⟩,.pass (x:=.inLoop c) rfl (fun _ _=>.inl (by simp)) br⟩
 intro C w tm a ht st hB b k cs hro hb hr;obtain⟨ρ',cc,hI⟩:=h0;obtain⟨e,a',w',hq,br⟩:=key n ρ' J hI C w tm a (ht.subL cc) st hB b k cs hro hb hr;exact⟨e,a',w',hq,.of_steps (.one (fenced_calm hb hr rfl) stepR_loop) br⟩
theorem Ci{α:Type}{c}(ρI:α->Ad)(P:α->Sto->Prop)(μ:α->Nat)(a₀)(h0:Km (ρI a₀) ρ)(h1:P a₀ J)
  (hs:∀a J,P a J->T E nt df B c (Pa (fun ρ' J'=>∃a',μ a'<μ a/\Km (ρI a') ρ'/\P a' J') Q) (ρI a) J):T E nt df B (.loop c) Q ρ J:=by
 refine Aw0 (fun n ρ J=>∃a,n=μ a/\ρ=ρI a/\P a J) (μ a₀) ⟨ρI a₀,h0,a₀,rfl,rfl,h1⟩ ?_
 grind
theorem Bz{c}(len)(ρI:Nat->Ad)(P:Nat->Sto->Prop)(h0:Km (ρI 0) ρ)(h1:P 0 J)
  (hs:∀i J,i<=len->P i J->T E nt df B c (Pa (fun ρ' J'=>i<len/\Km (ρI (i+1)) ρ'/\P (i+1) J') Q) (ρI i) J):T E nt df B (.loop c) Q ρ J:=by
 refine Ci ρI (fun i J=>i<=len/\P i J) (fun i=>len-i) 0 h0 ⟨aq_ _,h1⟩ ?_
 rintro i J ⟨hi,hp⟩;refine(hs i J hi hp).mono fun x ρ' J' hq=>?_
 cases x with
 |normal=>obtain⟨g1,g2,g3⟩:=hq;exact⟨i+1,by omega,g2,by omega,g3⟩
 |exit id=>exact hq
 |ret=>exact hq
theorem B7{id ops}(h:TO E nt df B ops.toList ops.toList (fun ρ J=>Q .normal ρ J) ρ J):T E nt df B (.region id ops false) Q ρ J:=by
 intro ro n hn C w tm a ht st hB;refine wpIn_region ?_;rw[dr_,←cd_];have:=h ro n hn C w tm a ht st hB ops 0 (Sd E nt df B Q C w) [] rfl gr fun C' w' a' tm' ρ' J' h1 h2 h3 h4 h5=>⟨.normal,tm',ρ',J',C',rfl,h1,h2,h3,h4,h5⟩
 grind
theorem Dd{ops}(h:K ρ J):TO E nt df B ops [] K ρ J:=by
 intro _ _ _ C w tm a ht st hB arr i QQ rest _ _ hQ;simp only[cu_,gr_,bd_];exact hQ C w a tm ρ J ht h st hB (cf_ _ _ _)
theorem Aow{ops g r}(h:TO E nt df B ops g (fun ρ' J'=>TO E nt df B ops r K ρ' J') ρ J):TO E nt df B ops (g++r) K ρ J:=by
 intro ro n hn C w tm a ht st hB arr i QQ rest br hr hQ;rw[bx_,←List.range'_append_1,ca_];simp only[D6,List.all_append,ad_]at hn;refine h ro n (hn.imp (fun h=>h) (·.1)) C w tm a ht st hB arr i QQ _ br (fun j hj=>?_) fun C' w' a' tm' ρ' J' h1 h2 h3 h4 h5=>?_
 ·grind
 ·refine h2 ro n (hn.imp (fun h=>h) (·.2)) C' w' tm' a' h1 h3 h4 arr (i+g.length) QQ rest br (fun j hj=>?_) fun C2 w2 a2 tm2 ρ2 J2 q1 q2 q3 qB q4=>hQ C2 w2 a2 tm2 ρ2 J2 q1 q2 q3 qB (h5.trans q4)
  have:=hr (g.length+j) gr
  grind
theorem Aq2(n){ops r}(h:TO E nt df B ops (r.take n) (fun ρ' J'=>TO E nt df B ops (r.drop n) K ρ' J') ρ J):TO E nt df B ops r K ρ J:=by
 have:=Aow h
 rwa[cc_]at this
theorem TO.mono{ops r K'}(h:TO E nt df B ops r K ρ J)(k:∀ρ J,K ρ J->K' ρ J):TO E nt df B ops r K' ρ J:=
 fun ro n hn C w tm a ht st hB arr i QQ rest h1 h2 hQ=>h ro n hn C w tm a ht st hB arr i QQ rest h1 h2 fun C' w' a' tm' ρ' J' q1 q2=>hQ C' w' a' tm' ρ' J' q1 (k _ _ q2)
def Ga:Op->Bool
 |.defer _=>false
 |_=>true
theorem L1{ro o r}(h:ro=none∨D6 (o::r)=true):Aqr ro o.op/\(ro=none∨D6 r=true):=by
 rcases h with h|h
 ·exact⟨.inl h,.inl h⟩
 ·simp only[D6,cs_,ad_]at h;exact⟨.inr gr,.inr h.2⟩
theorem Qg{ops r o Rr}(hR:Bk E Rr){ρ₁ J₁}
  (h:∀tm,Has tm ρ->∃tm',Yi E ops o Rr ⟨tm,nt,df,J⟩=some ⟨tm',nt,df,J₁⟩/\Has tm' ρ₁)(k:TO E nt df B ops r K ρ₁ J₁):TO E nt df B ops (o::r) K ρ J:=by
 intro ro n hn C w tm a ht st hB arr i QQ rest br hr hQ;obtain⟨hn1,hn2⟩:=L1 hn;obtain⟨tm',h1,h2⟩:=h tm ht
 have ho:arr[i]? =some o:=by have:=hr 0 (by simp);grind
 simp only[as_,cj_,ay_,wpOpsIn,ho];have h1':Yi E arr.toList o Rr ⟨tm,nt,df,J⟩=some ⟨tm',nt,df,J₁⟩:=gr;have:=Aa3 (K:=wpOpsIn (Cy ro) n E.P arr QQ (List.range' (i+1) r.length++rest)) (Q:=QQ) hR st h1' (ro:=ro) (n:=n) (hpl:=hn1) fun C' w' a' st' e'=>
  k ro n hn2 C' w' tm' a' h2 st' (ai_ hB e'.next) arr (i+1) QQ rest br (fun j hj=>by have:=hr (j+1) gr;grind)
   fun C2 w2 a2 tm2 ρ2 J2 q1 q2 q3 qB q4=>hQ C2 w2 a2 tm2 ρ2 J2 q1 q2 q3 qB ((e'.base hB).trans q4)
 rcases this with⟨h2,h3⟩|⟨h2,h3⟩
 ·grind
 ·rw[if_neg gr];exact⟨fun _ _=>trivial,h3⟩
def Dt:Option Nat->AV->Ad->Ad
 |none,_,ρ=>ρ
 |some d,v,ρ=>(d,v)::ρ
def B0(nt:Nat):Option Nat->Bool
 |none=>true
 |some d=>Nat.blt d nt
theorem C6{tm dst}(hd:B0 nt dst=true)(ht:Has tm ρ)(v):∃tm',Ka dst tm nt v=some tm'/\Has tm' (Dt dst v ρ):=by
 cases dst with
 |none=>exact⟨tm,rfl,ht⟩
 |some d=>
  refine⟨tm.put (d+1) d (some v),?_,ht.put d v⟩;have hd:Nat.blt d nt=true:=hd;simp only[Ka,hd,cond_true,Ef]
theorem Rk{ops o Rr s}(hg:Bn ops o s.tm=some true)(hn:Ga o.op=true):
  Yi E ops o Rr s=match opA E o.op Rr s.tm s.sto with
   |some (v,J)=>match Ka o.dst s.tm s.nt v with
    |some tm=>some ⟨tm,s.nt,s.df,J⟩
    |none=>none
   |none=>none:=by
 unfold Yi;rw[hg];simp only
 split
 ·rename_i c hc;rw[hc]at hn;simp[Ga]at hn
 ·rfl
theorem X4{ops r op dst}{ty:Nat}{pos after Rr v J₁}(hR:Bk E Rr)(hn:Ga op=true)(hd:B0 nt dst=true)(h:As E Rr op ρ J v J₁)
  (k:TO E nt df B ops r K (Dt dst v ρ) J₁):TO E nt df B ops ({ dst:=dst,op:=op,type:=ty,pos:=pos,after:=after,guard:=none }::r) K ρ J:=by
 refine Qg hR (fun tm ht=>?_) k
 obtain⟨tm',h1,h2⟩:=C6 (dst:=dst) hd ht v;refine⟨tm',?_,h2⟩;rw[Rk (s:=⟨tm,nt,df,J⟩) rfl hn];simp only[h tm ht,h1]
theorem Az{ops r f args}{tys:Array Nat}{dst}{ty:Nat}{pos after}{k:Nat}{first cap vs full Post}(hd:B0 nt dst=true)
  (hf:Ah E ρ f=some (.fn (.func k) first cap))(ha:Kc E ρ args.toList=some vs)(hl:first++vs++cap=full)(hc:Al E k full J Post)
  (kk:∀v J',Post v J'->TO E nt df B ops r K (Dt dst v ρ) J'):TO E nt df B ops ({ dst:=dst,op:=.call ⟨.value f,args,tys⟩,type:=ty,pos:=pos,after:=after,guard:=none }::r) K ρ J:=by
 intro ro n hn C w tm a ht st hB arr i QQ rest br hr hQ;obtain⟨hn1,hn2⟩:=L1 hn
 have ho:arr[i]? =some { dst:=dst,op:=.call ⟨.value f,args,tys⟩,type:=ty,pos:=pos,after:=after,guard:=none }:=by have:=hr 0 (by simp);grind
 simp only[as_,cj_,ay_,wpOpsIn,ho];have hw:Region.wanted { dst:=dst,op:=.call ⟨.value f,args,tys⟩,type:=ty,pos:=pos,after:=after,guard:=none } (yielded arr a.tmps)=true:=rfl;rw[if_pos hw];refine Ev hn1 ?_;have hV:=Be st.glob st.tmps f;rw[ht.opd hf]at hV;unfold R at hV;obtain⟨p,q,hV,hp,hq⟩:=hV;have bp:=Dm st.glob st.tmps args.toList;rw[ht.opds ha]at bp
 have bs:RL C (nx J) w full (p++args.map a.eval++q).toList:=by
  subst hl;simp only[cv_,c_];exact(hp.append bp).append hq
 obtain⟨⟨fn,g1,g2,g3⟩,b8⟩:=hc C w _ st.sim st.glob bs
 have bq:(execOp a.eval { dst:=dst,op:=.call ⟨.value f,args,tys⟩,type:=ty,pos:=pos,after:=after,guard:=none }).run E.P w=.ok (.enter k (p++args.map a.eval++q)) w:=by
  have g2':fn.name≠ "runtime.NumGoroutine" :=gr;have g3':fn.body≠none:=gr
  simp[execOp,resolve,hV,Deferred.ofValue,invoke,callFunc,g1,g2',g3']
 unfold Oper.wp;rw[bq,Oper.upon_enter];refine b8.mono fun e w' he=>?_
 cases e with
 |returned x=>
  obtain⟨v,J',C',k0,k1,k2,k3⟩:=he;obtain⟨tm',h1,h2⟩:=C6 (dst:=dst) hd ht v
  exact kk v J' k0 ro n hn2 C' w' tm' _ h2 (st.put k1 k2 k3 h1) (ai_ hB k2.next) arr (i+1) QQ rest br (fun j hj=>by have:=hr (j+1) gr;grind)
   fun C2 w2 a2 tm2 ρ2 J2 q1 q2 q3 qB q4=>hQ C2 w2 a2 tm2 ρ2 J2 q1 q2 q3 qB ((k2.base hB).trans q4)
 |panicked _=>exact he.elim
 |outgrown=>exact he.elim
theorem Hf{ops}{o oj:Oper}{j d:Nat}{b want tm}(ht:Has tm ρ)(hg:o.guard=some (j,want))(hj:ops[j]? =some oj)(hd:oj.dst=some d)(hb:Ad.at ρ d=some (.bool b)):Bn ops o tm=some (cond b want (!want)):=by
 simp only[Bn,hg,hj,hd,ht d _ hb]
theorem Bi{ops r}{o oj:Oper}{Rr v J₁}{j d:Nat}{b want}(hg:o.guard=some (j,want))(hj:ops[j]? =some oj)(hdj:oj.dst=some d)(hb:Ad.at ρ d=some (.bool b))(hw:cond b want (!want)=true)
  (hR:Bk E Rr)(hn:Ga o.op=true)(hd:B0 nt o.dst=true)(h:As E Rr o.op ρ J v J₁)(k:TO E nt df B ops r K (Dt o.dst v ρ) J₁):TO E nt df B ops (o::r) K ρ J:=by
 refine Qg hR (fun tm ht=>?_) k
 obtain⟨tm',h1,h2⟩:=C6 (dst:=o.dst) hd ht v;refine⟨tm',?_,h2⟩
 rw[Rk (s:=⟨tm,nt,df,J⟩) (by rw[Hf ht hg hj hdj hb,hw]) hn]
 simp only[h tm ht,h1]
theorem Co{ops r}{o oj:Oper}{j d:Nat}{b want}(hg:o.guard=some (j,want))(hj:ops[j]? =some oj)(hdj:oj.dst=some d)(hb:Ad.at ρ d=some (.bool b))(hw:cond b want (!want)=false)
  (hd:B0 nt o.dst=true)(k:TO E nt df B ops r K (Dt o.dst An ρ) J):TO E nt df B ops (o::r) K ρ J:=by
 refine Qg di_ (fun tm ht=>?_) k
 obtain⟨tm',h1,h2⟩:=C6 (dst:=o.dst) hd ht An;refine⟨tm',?_,h2⟩;unfold Yi;rw[Hf ht hg hj hdj hb,hw]
 grind
end
def Hg:List AV->Nat->Ad
 |[],_=>[]
 |v::r,i=>(i,v)::Hg r (i+1)
theorem L3:∀(l:List AV) (i j:Nat),Ad.at (Hg l i) j=if i<=j/\j<i+l.length then l[j-i]? else none
 |[],i,j=>by simp only[Hg,Ad.at];grind
 |x::r,i,j=>by
  simp only[Hg,Ad.at,as_]
  by_cases hj:i=j
  ·subst hj;simp[aw_]
  ·have hb:Nat.beq i j=false:=by cases hb:Nat.beq i j with|true=>exact absurd (ac_ hb) hj|false=>rfl
   rw[hb,cond_false,L3 r (i+1) j]
   grind
def Us(E:Env)(ρ:Ad)(J:Sto):List ResultVar->Option (List AV)
 |[]=>some []
 |.tmp t::r=>match Ad.at ρ t,Us E ρ J r with
  |some v,some l=>some (v::l)
  |_,_=>none
 |.cell a t::r=>match Ay E.P t with
  |some ti=>match Ad.at ρ a with
   |some (.pr b off)=>match J.cells b with
    |some vs=>match Cz ti.size ti.isAgg (vs.drop off),Us E ρ J r with
     |some v,some l=>some (v::l)
     |_,_=>none
    |none=>none
   |_=>none
  |none=>none
theorem S8{E tm ρ J}(ht:Has tm ρ):∀{rs:List ResultVar} {vs:List AV},Us E ρ J rs=some vs->Ahw E.P tm J rs=some vs
 |[],vs,h=>h
 |.tmp t::r,vs,h=>by
  simp only[Us]at h
  split at h
  ·rename_i v l hv hl
   cases h;simp only[Ahw,Aai,ht t v hv,S8 ht hl]
  grind
 |.cell a t::r,vs,h=>by
  simp only[Us]at h
  split at h
  ·rename_i ti hti
   split at h
   ·rename_i b off hb
    split at h
    ·rename_i cs hcs
     split at h
     ·rename_i v l hv hl
      cases h;simp only[Ahw,Aai,hti,ht a _ hb,hcs,Ml,hv,S8 ht hl]
     grind
    grind
   grind
  grind
def Agw(E:Env)(fn:Func)(N:Nat)(Post:AV->Sto->Prop)(ρ:Ad)(J:Sto):Prop:=
 ∃vs,Us E ρ J fn.results.toList=some vs/\∃v' J',Ds J J'/\N<=nx J'/\Fz J J' (Akq vs) v'/\Post v' J'
def Aox(K:Ad->Sto->Prop):Cc
 |.normal=>K
 |.ret=>K
 |.exit _=>fun _ _=>False
theorem Aw1{E f fn c args J Post}(hfn:E.P.funcs[f]? =some fn)(dz:(fn.name== "runtime.NumGoroutine")=false)(hc:fn.body=some c)(hle:Nat.ble args.length fn.ntmps=true)
  (h:WFS J->AV.unds (nx J) args=true->T E fn.ntmps [] (nx J) c (Aox (Agw E fn (nx J) Post)) (Hg args 0) J):Al E f args J Post:=by
 intro C w vs hs hg bp;refine⟨⟨fn,hfn,dz,gr⟩,?_⟩;refine calls_of_wp_defers hfn hc ((wpIn_wide (n:=0)).1 ?_);have hle:=al_ hle;have st:=Ur (E:=E) (fn:=fn) hs hg bp hle
 have ht:Has (Kz args 0 .e) (Hg args 0):=fun i v hv=>by
  rw[Ig];rw[L3]at hv
  grind
 refine wpIn_mono (h hs.wfs (RL.unds _ _ bp) none 0 (.inl rfl) C w _ _ ht st nl) fun e a' w' he=>?_
 obtain⟨x,tm',ρ',J₁,C',h1,h2,h3,h4,hB,h5⟩:=he;subst h1;have fin:Agw E fn (nx J) Post ρ' J₁->Leaves E.P fn a'.tmps (fun
   |.returned x,w'=>∃v J' C',Post v J'/\Sim E.P C' w' J'/\Ext C (nx J) w C' (nx J') w'/\R C' (nx J') w' v x
   |_,_=>False) a'.defers .returning w':=by
  intro hx;obtain⟨vs₁,r1,v',J',r2,r3,r4,r5⟩:=hx
  have hds:a'.defers=[]:=by
   have hd:=h4.dfs;cases hds:a'.defers with
   |nil=>rfl
   |cons d ds=>rw[hds]at hd;unfold DR at hd;exact hd.elim
  obtain⟨x,k1,k2⟩:=Hx (fn:=fn) h4.sim h4.tmps (S8 h2 r1);rw[hds];exact⟨x,k1,v',J',_,r5,h4.sim.frz r2,(h5.trans (en_ C' J' _ w')).top r3,r4.R h4.sim k2⟩
 cases x with
 |normal=>exact fin h3
 |ret=>exact fin h3
 |exit id=>exact h3.elim
class Se (E:Env):Prop where
 ok:∀g cs,E.gl g=some cs->AV.unds 0 cs=true
 lp:E.loops=[]
mutual
theorem AV.und_mono {N M:Nat} (h:N<=M):∀(x:AV),AV.und N x=true->AV.und M x=true
 |.any,_=>rfl
 |.bool _,_=>rfl
 |.int _ _,_=>rfl
 |.str _,_=>rfl
 |.nil _,_=>rfl
 |.flt _ _,_=>rfl
 |.pr a _,k=>Ce (ak_ (Gy k) h)
 |.sr a _ _ _ _,k=>Ce (ak_ (Gy k) h)
 |.mp a,k=>Ce (ak_ (Gy k) h)
 |.it a,k=>Ce (ak_ (Gy k) h)
 |.stp a,k=>Ce (ak_ (Gy k) h)
 |.yl a,k=>Ce (ak_ (Gy k) h)
 |.pv cs,k=>AV.unds_mono h cs k
 |.sv cs _ _ _,k=>AV.unds_mono h cs k
 |.fn _ p q,k=>by simp only[AV.und,ad_]at k⊢;exact⟨AV.unds_mono h p k.1,AV.unds_mono h q k.2⟩
 |.ifc _ x,k=>AV.und_mono h x k
 |.agg cs,k=>AV.unds_mono h cs k
 |.tup cs,k=>AV.unds_mono h cs k
theorem AV.unds_mono {N M:Nat} (h:N<=M):∀(l:List AV),AV.unds N l=true->AV.unds M l=true
 |[],_=>rfl
 |x::r,k=>by simp only[AV.unds,ad_]at k⊢;exact⟨AV.und_mono h x k.1,AV.unds_mono h r k.2⟩
end
theorem Iw.frz{E}[Se E]{C N w U}(h:Iw C N w E):Iw (C.keep U) (nx U) w E:=by
 refine⟨fun g cs hg=>R.cut (C.keep_sub U) _ _ (AV.unds_mono (aq_ _) cs (Se.ok g cs hg)) (h.1 g cs hg),fun c P hc=>?_,fun L hL=>by rw[Se.lp]at hL;cases hL⟩
 obtain⟨h1,h2⟩:=h.2.1 c P hc;refine⟨fun hh=>h1 ?_,h2⟩
 rcases hh with hh|⟨a,o,hh⟩
 ·exact .inl hh
 ·exact .inr ⟨a,o,(C.keep_sub U).loc _ _ hh⟩
def Mm(J U:Sto):Ad->Ad->Prop
 |[],_=>True
 |(i,v')::r,ρ=>(∃v,Ad.at ρ i=some v/\Fz J U v v')/\Mm J U r ρ
theorem Mm.at{J U}:∀{ρ' ρ:Ad},Mm J U ρ' ρ->∀i v',Ad.at ρ' i=some v'->∃v,Ad.at ρ i=some v/\Fz J U v v'
 |[],ρ,_,i,v,h=>by simp[Ad.at]at h
 |(j,u)::r,ρ,h,i,v,hv=>by
  obtain⟨h1,h2⟩:=h;simp only[Ad.at]at hv;cases hb:Nat.beq j i with
  |true=>rw[hb]at hv;cases hv;have:=ac_ hb;subst this;exact h1
  |false=>rw[hb]at hv;exact Mm.at h2 i v hv
theorem Mn:∀(l:Ad) (i:Nat),(Oj l).get i=Ad.at l i
 |[],i=>rfl
 |(j,v)::r,i=>by
  show(Tr.put (j+1) (Oj r) j (some v)).get i=_
  rw[dd_];simp only[Ad.at]
  by_cases h:i=j
  ·subst h;rw[if_pos rfl,aw_,cond_true]
  ·rw[if_neg h]
   have hb:Nat.beq j i=false:=by cases hb:Nat.beq j i with|true=>exact absurd (ac_ hb).symm h|false=>rfl
   rw[hb,cond_false,Mn r i]
theorem Kf(l):Has (Oj l) l:=fun i v h=>by rw[Mn];exact h
theorem SSt.frz{E}[Se E]{C w tm nt J U a ρ ρ'}(st:SSt E C w ⟨tm,nt,[],J⟩ a)(ht:Has tm ρ)(hf:Ds J U)(hs:∀i v',Ad.at ρ' i=some v'->∃v,Ad.at ρ i=some v/\Fz J U v v'):
  SSt E (C.keep U) w ⟨Oj ρ',nt,[],U⟩ a:=by
 refine⟨st.sim.frz hf,Iw.frz st.glob,fun i v hv=>?_,st.size,?_⟩
 ·have hv:(Oj ρ').get i=some v:=hv;rw[Mn]at hv;obtain⟨u,h1,h2⟩:=hs i v hv;exact h2.R st.sim (st.tmps i u (ht i u h1))
 ·have:=st.dfs;cases hds:a.defers with
  |nil=>unfold DR;trivial
  |cons d ds=>rw[hds]at this;unfold DR at this;exact this.elim
theorem Av2{E}[Se E]{nt B c Q ρ J}(U ρ')(hf:Ds J U)(hB:B<=nx U)(hs:Mm J U ρ' ρ)(k:T E nt [] B c Q ρ' U):T E nt [] B c Q ρ J:=
 fun ro n hn C w tm a ht st _=>wpIn_mono (k ro n hn (C.keep U) w _ a (Kf ρ') (st.frz ht hf hs.at) hB) fun e a' w' he=>he.from (en_ C U B w)
theorem Aq3{E}[Se E]{nt B ops r K ρ J}(U ρ')(hf:Ds J U)(hB:B<=nx U)(hs:∀i v',Ad.at ρ' i=some v'->∃v,Ad.at ρ i=some v/\Fz J U v v')(k:TO E nt [] B ops r K ρ' U):TO E nt [] B ops r K ρ J:=
 fun ro n hn C w tm a ht st _ arr i QQ rest h1 h2 hQ=>k ro n hn (C.keep U) w _ a (Kf ρ') (st.frz ht hf hs) hB arr i QQ rest h1 h2 fun C2 w2 a2 tm2 ρ2 J2 q1 q2 q3 qB q4=>hQ C2 w2 a2 tm2 ρ2 J2 q1 q2 q3 qB ((en_ C U B w).trans q4)
theorem noR{E}:Bk E (fun _ _ _=>none):=di_
section
variable {E:Env}{nt B:Nat}{df:List (Nat×List AV)}{ρ ρ':Ad}{J J':Sto}{K:Ad->Sto->Prop}
theorem Aii{ops r op dst}{ty:Nat}{pos after}{Pv:AV->Prop}(hd:B0 nt dst=true)
  (h:∀C w tm a,Has tm ρ->SSt E C w ⟨tm,nt,df,J⟩ a->∃v,Pv v/\S5 E.P C w J (execOp a.eval { dst:=dst,op:=op,type:=ty,pos:=pos,after:=after,guard:=none }) v J')
  (k:∀v,Pv v->TO E nt df B ops r K (Dt dst v ρ) J'):TO E nt df B ops ({ dst:=dst,op:=op,type:=ty,pos:=pos,after:=after,guard:=none }::r) K ρ J:=by
 intro ro n hn C w tm a ht st hB arr i QQ rest br hr hQ;obtain⟨hn1,hn2⟩:=L1 hn
 have ho:arr[i]? =some { dst:=dst,op:=op,type:=ty,pos:=pos,after:=after,guard:=none }:=by have:=hr 0 (by simp);grind
 simp only[as_,cj_,ay_,wpOpsIn,ho];have hw:Region.wanted { dst:=dst,op:=op,type:=ty,pos:=pos,after:=after,guard:=none } (yielded arr a.tmps)=true:=rfl;rw[if_pos hw];refine Ev hn1 ?_;obtain⟨v,hpv,x,w',C',h1,h2,h3,h4⟩:=h C w tm a ht st;obtain⟨tm',g1,g2⟩:=C6 (dst:=dst) hd ht v;have go:∀y,R C' (nx J') w' v y->wpOpsIn (Cy ro) n E.P arr QQ (List.range' (i+1) r.length++rest) (a.put dst y) w':=fun y hy=>
  k v hpv ro n hn2 C' w' tm' _ g2 (st.put h3 h4 hy g1) (ai_ hB h4.next) arr (i+1) QQ rest br (fun j hj=>by have:=hr (j+1) gr;grind)
   fun C2 w2 a2 tm2 ρ2 J2 q1 q2 q3 qB q4=>hQ C2 w2 a2 tm2 ρ2 J2 q1 q2 q3 qB ((h4.base hB).trans q4)
 unfold Oper.wp
 rcases h1 with h1|⟨h1,rfl⟩
 ·rw[h1,Oper.upon_value];grind
 ·rw[h1,Oper.upon_skip];grind
theorem Agx{ops r op dst}{ty:Nat}{pos after v}(hd:B0 nt dst=true)
  (h:∀C w tm a,Has tm ρ->SSt E C w ⟨tm,nt,df,J⟩ a->S5 E.P C w J (execOp a.eval { dst:=dst,op:=op,type:=ty,pos:=pos,after:=after,guard:=none }) v J')
  (k:TO E nt df B ops r K (Dt dst v ρ) J'):TO E nt df B ops ({ dst:=dst,op:=op,type:=ty,pos:=pos,after:=after,guard:=none }::r) K ρ J:=
 Aii (Pv:=fun u=>u=v) hd (fun C w tm a ht st=>⟨v,rfl,h C w tm a ht st⟩) gr
theorem Aq4{P C w}(hs:Sim P C w J){t n x X}(hx:R C (nx J) w x X){cs}(h:x.cellsN n=some cs):Iv P C w J (Instr.box t X) (.pv cs) J:=by
 obtain⟨q1,q2,q3,q4⟩:=Hc h hx;have p:=K3 w (.cells X.cells t (0,0));obtain⟨k1,k2⟩:=hs.push p;refine⟨_,.pointer (some ⟨w.heap.size,0,none⟩),_,C,?_,rfl,k1,k2,?_⟩
 ·unfold Instr.box
  simp[newVar,newRow]
 ·unfold R;refine⟨_,_,rfl,fun _ ho=>?_,fb_ p.here (q1.ext k2) q4 gr⟩
  have:=hs.own_lt ho;grind
theorem Jv{ops r t x dst}{ty:Nat}{pos after v sz agg cs}(hi:ldI E.P t=some (sz,agg))(hx:Ah E ρ x=some v)(hc:v.cellsN sz=some cs)(hd:B0 nt dst=true)
  (k:TO E nt df B ops r K (Dt dst (.pv cs) ρ) J):TO E nt df B ops ({ dst:=dst,op:=.box t x,type:=ty,pos:=pos,after:=after,guard:=none }::r) K ρ J:=by
 refine Agx hd (fun C w tm a ht st=>?_) k
 have hv:=Be st.glob st.tmps x;rw[ht.opd hx]at hv;exact .ofRuns (Aq4 st.sim hv hc)
theorem S9{ops}{t d ty:Nat}{pos after z tm}(hz:zI E.P t=some z)(hd:Nat.blt d nt=true):
  Yi E ops { dst:=some d,op:=.alloc t,type:=ty,pos:=pos,after:=after,guard:=none } (fun _ _ _=>none) ⟨tm,nt,df,J⟩=some ⟨tm.put (d+1) d (some (.pr (nx J) 0)),nt,df,J.new (.cells z)⟩:=by
 rw[Rk (s:=⟨tm,nt,df,J⟩) rfl rfl]
 have:opA E (.alloc t) (fun _ _ _=>none) tm J=some (.pr (nx J) 0,J.new (.cells z)):=by
  unfold zI at hz
  split at hz
  ·rename_i ti hti;simp only[opA,Aw,hti,hz,Aab]
  grind
 simp only[this,Ka,hd,cond_true,Ef]
theorem Eg{ob}:(J.new (.cells ob)).cells (nx J)=some ob:=by
 unfold Sto.cells;grind
theorem Hh:∀{z l:List AV},l.length=z.length->Et z 0 l=some l
 |[],[],_=>rfl
 |x::z,y::l,h=>by
  have:=Hh (z:=z) (l:=l) gr;simp only[Et,this]
 |[],_::_,h=>by simp at h
 |_::_,[],h=>by simp at h
theorem Ho{ops r t d sz agg x}{ty ty':Nat}{pos pos' after after' z cs v}(hz:zI E.P t=some z)(hi:ldI E.P t=some (sz,agg))(hl:Nat.beq z.length sz=true)
  (hx:∀u,Ah E ((d,u)::ρ) x=some v)(hv:Ah E ρ x=some v)(hc:v.cellsN sz=some cs)(hd:Nat.blt d nt=true)[Se E](hdf:df=[])
  (k:TO E nt df B ops r K ((d,.pv cs)::ρ) J):
  TO E nt df B ops ({ dst:=some d,op:=.alloc t,type:=ty,pos:=pos,after:=after,guard:=none }::{ dst:=none,op:=.store t (.tmp d) x,type:=ty',pos:=pos',after:=after',guard:=none }::r) K ρ J:=by
 subst hdf;intro ro n hn C w tm a ht st hB
 have hcs:cs.length=z.length:=by
  have hb:=ac_ hl;have hvR:=Be st.glob st.tmps x;rw[ht.opd hv]at hvR;obtain⟨q1,q2,_⟩:=Hc hc hvR
  grind
 have hwf:=st.sim.wfs;have em:∀i u,Ad.at ρ i=some u->AV.und (nx J) u=true:=fun i u hu=>R.und _ _ (st.tmps i u (ht i u hu))
 have hvu:AV.und (nx J) v=true:=by
  have hvR:=Be st.glob st.tmps x;rw[ht.opd hv]at hvR;exact R.und _ _ hvR
 have hcu:AV.unds (nx J) cs=true:=by
  unfold AV.cellsN at hc
  split at hc<;>try (cases hc;done)
  ·cases hb':Nat.beq ‹List AV›.length sz with
   |true=>rw[hb']at hc;cases hc;exact hvu
   |false=>rw[hb']at hc;cases hc
  ·cases hb':Nat.beq sz 1 with
   |true=>rw[hb']at hc;cases hc;simp only[AV.unds,hvu,be_]
   |false=>rw[hb']at hc;cases hc
 have key:TO E nt [] B ops ({ dst:=some d,op:=.alloc t,type:=ty,pos:=pos,after:=after,guard:=none }::{ dst:=none,op:=.store t (.tmp d) x,type:=ty',pos:=pos',after:=after',guard:=none }::r) K ρ J:=by
  refine Qg noR (J₁:=J.new (.cells z)) (ρ₁:=(d,.pr (nx J) 0)::ρ) (fun tm' ht'=>⟨_,S9 hz hd,ht'.put d _⟩) ?_
  refine X4 noR rfl rfl (By (vs:=z) (vs':=cs) (ad:=nx J) (off:=0) (v:=v) (cs:=cs) hi (by simp[Ah,Ad.at,aw_]) (hx _) hc Eg (Hh hcs)) ?_
  simp only[Dt];refine Aq3 J ((d,.pv cs)::ρ) ?_ hB ?_ k
  ·refine a_ hwf gr fun b hb=>?_
   grind
  ·intro i u hu;simp only[Ad.at]at hu⊢;cases hb:Nat.beq d i with
   |true=>
    rw[hb]at hu;simp only[cond_true,af_]at hu⊢;subst hu;refine⟨_,rfl,.pr (vs:=cs) gr ?_ (dj_ hcu)⟩;cases hg:J.get (nx J)with
    |none=>rfl
    |some O=>exact absurd (hwf _ _ hg).1 (Nat.lt_irrefl _)
   |false=>rw[hb]at hu;exact⟨u,hu,.same (em i u hu)⟩
 exact key ro n hn C w tm a ht st hB
def Hy(ρ ρ':Ad):Prop:=∀i v,Ad.at ρ i=some v->Ad.at ρ' i=some v
theorem Hy.refl:Hy ρ ρ:=fun _ _ h=>h
theorem Hy.cons{d v}(hd:Ad.at ρ d=none)(h:Hy ρ ρ'):Hy ρ ((d,v)::ρ'):=fun i u hu=>by
 simp only[Ad.at];cases hb:Nat.beq d i with
 |true=>have:=ac_ hb;subst this;rw[hd]at hu;cases hu
 |false=>exact h i u hu
theorem Zw{ops r}(h:TO E nt df B ops r K ρ J)(hs:Hy ρ ρ'):TO E nt df B ops r K ρ' J:=
 fun ro n hn C w tm a ht st=>h ro n hn C w tm a (fun i v hv=>ht i v (hs i v hv)) st
theorem Hy.put{d v}(h:Hy ρ ρ'):Hy ((d,v)::ρ) ((d,v)::ρ'):=fun i u hu=>by
 simp only[Ad.at]at hu⊢;cases hb:Nat.beq d i with
 |true=>rw[hb]at hu;exact hu
 |false=>rw[hb]at hu;exact h i u hu
theorem Eh{ops o}(hg:o.guard=none):∀ρ',Hy ρ ρ'->∀tm,Has tm ρ'->Bn ops o tm=some true:=fun _ _ _ _=>by simp only[Bn,hg]
theorem Ft{ops}{o oj:Oper}{j d:Nat}{b want}(hg:o.guard=some (j,want))(hj:ops[j]? =some oj)(hdj:oj.dst=some d)(hb:Ad.at ρ d=some (.bool b))(hw:cond b want (!want)=true):
  ∀ρ',Hy ρ ρ'->∀tm,Has tm ρ'->Bn ops o tm=some true:=fun ρ' hs tm ht=>by rw[Hf ht hg hj hdj (hs _ _ hb),hw]
theorem Zx{ops r o}{t:Nat}{c x y v}(hg:∀tm,Has tm ρ->Bn ops o tm=some true)(hop:o.op=.pick c x y)(ct:o.dst=some t)(ht:Nat.blt t nt=true)
  (h:As E (fun _ _ _=>none) (.pick c x y) ρ J v J)(k:TO E nt df B ops r K ((t,v)::ρ) J):TO E nt df B ops (o::r) K ρ J:=by
 refine Qg di_ (fun tm hh=>?_) k
 obtain⟨tm',h1,h2⟩:=C6 (dst:=o.dst) (by rw[ct];exact ht) hh v
 rw[ct]at h2;refine⟨tm',?_,h2⟩
 rw[Rk (s:=⟨tm,nt,df,J⟩) (hg tm hh) (by rw[hop];rfl),hop]
 simp only[h tm hh,h1]
theorem Hq(n b q){ops r r'}{o:Oper}{t:Nat}{c x}(h0:Ah E ρ c=some (.bool b))
  (hr:r.drop n=o::r')(hop:o.op=.pick c x (.const (.bool false)))(ct:o.dst=some t)(ht:Nat.blt t nt=true)(hg:∀ρ',Hy ρ ρ'->∀tm,Has tm ρ'->Bn ops o tm=some true)
  (hon:b=true->TO E nt df B ops (r.take n) (fun ρ' J'=>J'=J/\Hy ρ ρ'/\Ah E ρ' x=some (.bool q)) ρ J)
  (ep:b=false->TO E nt df B ops (r.take n) (fun ρ' J'=>J'=J/\Hy ρ ρ') ρ J)
  (k:TO E nt df B ops r' K ((t,.bool (b&&q))::ρ) J):TO E nt df B ops r K ρ J:=by
 refine Aq2 n ?_;rw[hr]
 have cc:∀ρ',Hy ρ ρ'->Ah E ρ' c=some (.bool b):=fun ρ' hs=>by
  cases c with
  |tmp j=>exact hs _ _ h0
  |_=>exact h0
 cases b with
 |true=>
  refine(hon rfl).mono fun ρ' J' ⟨h1,h2,h3⟩=>?_
  subst h1;exact Zx (hg ρ' h2) hop ct ht (A3 (cc ρ' h2) rfl h3) (Zw gr h2.put)
 |false=>
  refine(ep rfl).mono fun ρ' J' ⟨h1,h2⟩=>?_
  subst h1;exact Zx (hg ρ' h2) hop ct ht (Au (v:=.bool false) (cc ρ' h2) rfl rfl) (Zw gr h2.put)
theorem Qh(n b q){ops r r'}{o:Oper}{t:Nat}{c x}(h0:Ah E ρ c=some (.bool b))
  (hr:r.drop n=o::r')(hop:o.op=.pick c (.const (.bool true)) x)(ct:o.dst=some t)(ht:Nat.blt t nt=true)(hg:∀ρ',Hy ρ ρ'->∀tm,Has tm ρ'->Bn ops o tm=some true)
  (hon:b=false->TO E nt df B ops (r.take n) (fun ρ' J'=>J'=J/\Hy ρ ρ'/\Ah E ρ' x=some (.bool q)) ρ J)
  (ep:b=true->TO E nt df B ops (r.take n) (fun ρ' J'=>J'=J/\Hy ρ ρ') ρ J)
  (k:TO E nt df B ops r' K ((t,.bool (b||q))::ρ) J):TO E nt df B ops r K ρ J:=by
 refine Aq2 n ?_;rw[hr]
 have cc:∀ρ',Hy ρ ρ'->Ah E ρ' c=some (.bool b):=fun ρ' hs=>by
  cases c with
  |tmp j=>exact hs _ _ h0
  |_=>exact h0
 cases b with
 |false=>
  refine(hon rfl).mono fun ρ' J' ⟨h1,h2,h3⟩=>?_
  subst h1;exact Zx (hg ρ' h2) hop ct ht (Au (cc ρ' h2) rfl h3) (Zw gr h2.put)
 |true=>
  refine(ep rfl).mono fun ρ' J' ⟨h1,h2⟩=>?_
  subst h1;exact Zx (hg ρ' h2) hop ct ht (A3 (v:=.bool true) (cc ρ' h2) rfl rfl) (Zw gr h2.put)
theorem Auf{ops r}{o oj:Oper}{j d:Nat}{want}(hg:o.guard=some (j,want))(hj:ops[j]? =some oj)(hdj:oj.dst=some d)(hb:Ad.at ρ d=some An)
  (hd:B0 nt o.dst=true)(k:TO E nt df B ops r K (Dt o.dst An ρ) J):TO E nt df B ops (o::r) K ρ J:=by
 refine Qg di_ (fun tm ht=>?_) k
 obtain⟨tm',h1,h2⟩:=C6 (dst:=o.dst) hd ht An;refine⟨tm',?_,h2⟩
 have:Bn ops o tm=some false:=by simp only[Bn,hg,hj,hdj,ht d _ hb];rfl
 unfold Yi
 grind
theorem Aij{ops r}{oj:Oper}{j dj:Nat}{b want f args}{tys:Array Nat}{dst}{ty:Nat}{pos after}{k:Nat}{first cap vs full Post}
  (hj:ops[j]? =some oj)(hdj:oj.dst=some dj)(hb:Ad.at ρ dj=some (.bool b))(hw:cond b want (!want)=true)(hd:B0 nt dst=true)
  (hf:Ah E ρ f=some (.fn (.func k) first cap))(ha:Kc E ρ args.toList=some vs)(hl:first++vs++cap=full)(hc:Al E k full J Post)
  (kk:∀v J',Post v J'->TO E nt df B ops r K (Dt dst v ρ) J'):TO E nt df B ops ({ dst:=dst,op:=.call ⟨.value f,args,tys⟩,type:=ty,pos:=pos,after:=after,guard:=some (j,want) }::r) K ρ J:=by
 intro ro n hn C w tm a ht st hB arr i QQ rest br hr hQ;obtain⟨hn1,hn2⟩:=L1 hn
 have ho:arr[i]? =some { dst:=dst,op:=.call ⟨.value f,args,tys⟩,type:=ty,pos:=pos,after:=after,guard:=some (j,want) }:=by have:=hr 0 (by simp);grind
 simp only[as_,cj_,ay_,wpOpsIn,ho]
 have hw':Region.wanted { dst:=dst,op:=.call ⟨.value f,args,tys⟩,type:=ty,pos:=pos,after:=after,guard:=some (j,want) } (yielded arr a.tmps)=true:=by
  refine Dp (o:={ dst:=dst,op:=.call ⟨.value f,args,tys⟩,type:=ty,pos:=pos,after:=after,guard:=some (j,want) }) st.tmps ?_;rw[br,Hf (o:={ dst:=dst,op:=.call ⟨.value f,args,tys⟩,type:=ty,pos:=pos,after:=after,guard:=some (j,want) }) ht rfl hj hdj hb,hw]
 rw[if_pos hw'];refine Ev hn1 ?_;have hV:=Be st.glob st.tmps f;rw[ht.opd hf]at hV;unfold R at hV;obtain⟨p,q,hV,hp,hq⟩:=hV;have bp:=Dm st.glob st.tmps args.toList;rw[ht.opds ha]at bp
 have bs:RL C (nx J) w full (p++args.map a.eval++q).toList:=by
  subst hl;simp only[cv_,c_];exact(hp.append bp).append hq
 obtain⟨⟨fn,g1,g2,g3⟩,b8⟩:=hc C w _ st.sim st.glob bs
 have bq:(execOp a.eval { dst:=dst,op:=.call ⟨.value f,args,tys⟩,type:=ty,pos:=pos,after:=after,guard:=some (j,want) }).run E.P w=.ok (.enter k (p++args.map a.eval++q)) w:=by
  have g2':fn.name≠ "runtime.NumGoroutine" :=gr;have g3':fn.body≠none:=gr
  simp[execOp,resolve,hV,Deferred.ofValue,invoke,callFunc,g1,g2',g3']
 unfold Oper.wp;rw[bq,Oper.upon_enter];refine b8.mono fun e w' he=>?_
 cases e with
 |returned x=>
  obtain⟨v,J',C',k0,k1,k2,k3⟩:=he;obtain⟨tm',h1,h2⟩:=C6 (dst:=dst) hd ht v
  exact kk v J' k0 ro n hn2 C' w' tm' _ h2 (st.put k1 k2 k3 h1) (ai_ hB k2.next) arr (i+1) QQ rest br (fun j hj=>by have:=hr (j+1) gr;grind)
   fun C2 w2 a2 tm2 ρ2 J2 q1 q2 q3 qB q4=>hQ C2 w2 a2 tm2 ρ2 J2 q1 q2 q3 qB ((k2.base hB).trans q4)
 |panicked _=>exact he.elim
 |outgrown=>exact he.elim
end
abbrev Str:=List UInt8
def sV(s:Str):AV:=.str (s.map UInt8.toNat)
def slV{α:Type}(enc:α->List AV)(sz:Nat)(l:List α):AV:=.sv (l.flatMap enc) sz l.length none
def bV(b:Bool):AV:=.bool b
def iV(n:Int):AV:=.int .i64 n
theorem Fu{s t:Str}:(s.map UInt8.toNat=t.map UInt8.toNat)↔s=t:=List.map_inj_right (fun a b h=>UInt8.toNat_inj.1 h)
theorem Dl{α:Type}{enc:α->List AV}{sz}(he:∀a,(enc a).length=sz):∀l:List α,(l.flatMap enc).length=l.length*sz
 |[]=>by simp
 |a::r=>by simp only[bs_,bx_,he,Dl he r,as_,fw_];omega
theorem Ww{α:Type}{enc:α->List AV}{sz}(he:∀a,(enc a).length=sz):∀(l:List α) (i:Nat),(l.flatMap enc).drop (i*sz)=(l.drop i).flatMap enc
 |l,0=>by simp
 |[],i+1=>by simp
 |a::r,i+1=>by
  simp only[bs_,List.drop_succ_cons,fw_];rw[←Ww he r i,fz_,←eo_,List.drop_left' (he a)]
theorem Aml{α:Type}{enc:α->List AV}{sz}(he:∀a,(enc a).length=sz){l:List α}{i a}(h:l[i]? =some a):(l.flatMap enc).drop (i*sz)=enc a++(l.drop (i+1)).flatMap enc:=by
 rw[Ww he];obtain⟨hi,rfl⟩:=ae_.1 h;rw[bj_ hi,bs_]
section
variable {E:Env}{ρ:Ad}{J:Sto}{Rr:Rec}{t n:Nat}{x y:Operand}{α:Type}{enc:α->List AV}{sz:Nat}{l:List α}
theorem Jl{t₀}(hi:Mk E.P t₀=true)(hx:Ah E ρ x=some (slV enc sz l)):As E Rr (.call ⟨.builtin .len,#[x],#[t₀]⟩) ρ J (.int .i64 (.ofNat l.length)) J:=
 Bf hi hx rfl rfl
theorem Aug{t₀ s}(hi:Fs E.P t₀=true)(hx:Ah E ρ x=some (sV s)):As E Rr (.call ⟨.builtin .len,#[x],#[t₀]⟩) ρ J (.int .i64 (.ofNat s.length)) J:=by
 have:=Aou (Rr:=Rr) (J:=J) hi hx
 rwa[cx_]at this
theorem A1{by' i zz k a}(hi:elI E.P t=some (sz,by',zz))(he:∀a,(enc a).length=sz)(hx:Ah E ρ x=some (slV enc sz l))(hy:Ah E ρ y=some (.int k (.ofNat i)))(ha:l[i]? =some a):
  As E Rr (.indexAddr t x y) ρ J (.pv (enc a++(l.drop (i+1)).flatMap enc)) J:=by
 have h:=Aif (Rr:=Rr) (J:=J) hi hx hy (m:=l.length) rfl rfl (ae_.1 ha).1
 have e:Aie (slV enc sz l) (i*sz)=.pv (enc a++(l.drop (i+1)).flatMap enc):=by
  show AV.pv ((l.flatMap enc).drop (i*sz))=_
  rw[Aml he ha]
 rw[e]at h;exact h
theorem H5{p q}{ty:Nat}(hi:okI E.P t=true)(hx:Ah E ρ x=some (sV p))(hy:Ah E ρ y=some (sV q)):As E Rr (.binOp .eql t x y ty) ρ J (.bool (decide (p=q))) J:=by
 have:=Awy (Rr:=Rr) (J:=J) (ty:=ty) hi hx hy
 simpa only[Fu]using this
theorem Ko{p q}{ty:Nat}(hi:okI E.P t=true)(hx:Ah E ρ x=some (sV p))(hy:Ah E ρ y=some (sV q)):As E Rr (.binOp .neq t x y ty) ρ J (.bool (!decide (p=q))) J:=by
 have:=Awz (Rr:=Rr) (J:=J) (ty:=ty) hi hx hy
 simpa only[Fu]using this
end
theorem D0:∀{l r:List AV},Dr l.length (l++r)=some l
 |[],r=>rfl
 |x::l,r=>by simp only[as_,ay_,Dr,D0 (l:=l)]
theorem A6{l sz}(h:l.length=sz)(r):Cz sz true (l++r)=some (.agg l):=by
 subst h;simp only[Cz,D0]
theorem Wz{l sz}(h:l.length=sz):Cz sz true l=some (.agg l):=by
 have:=A6 h []
 rwa[bh_]at this
theorem A7{l sz}(h:l.length=sz):(AV.agg l).cellsN sz=some l:=by
 subst h;simp only[AV.cellsN,aw_,cond_true]
def A5{α:Type}(p:α->Bool):List α->Nat->Int
 |[],_=> -1
 |a::r,i=>cond (p a) (.ofNat i) (A5 p r (i+1))
theorem Aik{α p}:∀(l:List α) (i:Nat),(0:Int)<=A5 p l i↔l.any p=true
 |[],i=>by simp[A5]
 |a::r,i=>by
  rw[dh_];unfold A5
  by_cases hp:p a=true
  ·rw[hp];simp
  ·have hp:p a=false:=by simpa using hp
   rw[hp,cond_false,Bool.false_or];exact Aik r (i+1)
theorem Gf{α p}(l:List α):decide (Int.ofNat 0<=A5 p l 0)=l.any p:=by
 have:=Aik (p:=p) l 0
 by_cases h:l.any p=true
 ·rw[h];exact decide_eq_true (this.2 h)
 ·rw[Bool.not_eq_true]at h;rw[h];exact decide_eq_false (fun hh=>by rw[this.1 hh]at h;cases h)
def Wk(v v':AV):Prop:=∀C N w x,R C N w v x->R C N w v' x
theorem Wk.rfl'{v}:Wk v v:=fun _ _ _ _ h=>h
theorem Dv{cs sz len cap}:Wk (.sv cs sz len cap) (.sv cs sz len none):=fun C N w x h=>by
 unfold R at h⊢;obtain⟨ado,k,h1,h2,h3,h4⟩:=h
 exact⟨ado,k,h1,h2,fun q hq=>(by cases hq),h4⟩
theorem Agy{sz}:Wk (.nil (.slice none 0 0)) (.sv [] sz 0 none):=fun C N w x h=>by
 unfold R at h⊢;obtain⟨rfl,_⟩:=h
 exact⟨none,0,rfl,nl,fun q hq=>(by cases hq),by simp,fun _=>rfl,fun ad ha=>by cases ha⟩
inductive WkL:List AV->List AV->Prop
 |nil:WkL [] []
 |cons {a b:AV} {l m:List AV}:Wk a b->WkL l m->WkL (a::l) (b::m)
theorem WkL.RL{C N w}:∀{l m:List AV},WkL l m->∀{xs:List Value},RL C N w l xs->RL C N w m xs
 |_,_,.nil,xs,h=>h
 |_,_,.cons h1 h2,[],h=>by unfold AM.RL at h;exact h.elim
 |_,_,.cons h1 h2,x::xs,h=>by unfold AM.RL at h⊢;exact⟨h1 _ _ _ _ h.1,h2.RL h.2⟩
theorem WkL.refl:∀{l:List AV},WkL l l
 |[]=>.nil
 |_::_=>.cons .rfl' .refl
theorem Al.wk{E f args args' J Post}(h:Al E f args' J Post)(k:WkL args args'):Al E f args J Post:=
 fun C w vs hs hg ha=>h C w vs hs hg (k.RL ha)
section
variable {E:Env}{nt B:Nat}{df:List (Nat×List AV)}{ρ ρ':Ad}{J J':Sto}{K:Ad->Sto->Prop}{Rr:Rec}
theorem Av3{ops r d v v'}(h:Wk v v')(k:TO E nt df B ops r K ((d,v')::ρ) J):TO E nt df B ops r K ((d,v)::ρ) J:=by
 intro ro n hn C w tm a ht st hB
 have hd:=st.tmps d v (ht d v (by simp[Ad.at,aw_]))
 refine k ro n hn C w (tm.put (d+1) d (some v')) a (fun i u hu=>?_) ⟨st.sim,st.glob,fun i u hu=>?_,st.size,st.dfs⟩ hB
 ·rw[dd_];simp only[Ad.at]at hu;cases hb:Nat.beq d i with
  |true=>rw[hb]at hu;have:=ac_ hb;subst this;rw[if_pos rfl];exact hu
  |false=>
   rw[hb]at hu
   rw[if_neg (fun he=>by subst he;rw[aw_]at hb;cases hb)]
   exact ht i u (by simp only[Ad.at];rw[hb];exact hu)
 ·have hu:(tm.put (d+1) d (some v')).get i=some u:=hu;rw[dd_]at hu
  by_cases hi:i=d
  ·subst hi;rw[if_pos rfl]at hu;cases hu;exact h _ _ _ _ hd
  ·rw[if_neg hi]at hu;exact st.tmps i u hu
theorem Cx{ops r op d}{ty:Nat}{pos after v v' J₁}(h:As E (fun _ _ _=>none) op ρ J v J₁)(hw:Wk v v')(hn:Ga op=true)(hd:Nat.blt d nt=true)
  (k:TO E nt df B ops r K ((d,v')::ρ) J₁):TO E nt df B ops ({ dst:=some d,op:=op,type:=ty,pos:=pos,after:=after,guard:=none }::r) K ρ J:=
 X4 noR hn hd h (Av3 hw k)
theorem Nm{ops r f args}{tys:Array Nat}{dst}{ty:Nat}{pos after}{k:Nat}{first cap vs full v}(hd:B0 nt dst=true)
  (hf:Ah E ρ f=some (.fn (.func k) first cap))(ha:Kc E ρ args.toList=some vs)(hl:first++vs++cap=full)(hc:Al E k full J fun u U=>u=v/\U=J')
  (kk:TO E nt df B ops r K (Dt dst v ρ) J'):TO E nt df B ops ({ dst:=dst,op:=.call ⟨.value f,args,tys⟩,type:=ty,pos:=pos,after:=after,guard:=none }::r) K ρ J:=
 Az hd hf ha hl hc fun u U h=>by obtain⟨rfl,rfl⟩:=h;exact kk
theorem Bh{ops r}{oj:Oper}{j dj:Nat}{b want f args}{tys:Array Nat}{dst}{ty:Nat}{pos after}{k:Nat}{first cap vs full v}
  (hj:ops[j]? =some oj)(hdj:oj.dst=some dj)(hb:Ad.at ρ dj=some (.bool b))(hw:cond b want (!want)=true)(hd:B0 nt dst=true)
  (hf:Ah E ρ f=some (.fn (.func k) first cap))(ha:Kc E ρ args.toList=some vs)(hl:first++vs++cap=full)(hc:Al E k full J fun u U=>u=v/\U=J')
  (kk:TO E nt df B ops r K (Dt dst v ρ) J'):TO E nt df B ops ({ dst:=dst,op:=.call ⟨.value f,args,tys⟩,type:=ty,pos:=pos,after:=after,guard:=some (j,want) }::r) K ρ J:=
 Aij hj hdj hb hw hd hf ha hl hc fun u U h=>by obtain⟨rfl,rfl⟩:=h;exact kk
theorem Auh{t i x y s b k}(hi:Fs E.P t=true)(hx:Ah E ρ x=some (sV s))(hy:Ah E ρ y=some (.int k (.ofNat i)))(hb:s[i]? =some b):
  As E Rr (.index t x y) ρ J (.int .u8 (.ofNat b.toNat)) J:=Aig hi hx hy (by rw[br_,hb];rfl)
theorem Aex{n}(h1: -9223372036854775808<=n)(h2:n<9223372036854775808):Me .i64 n=.int .i64 n:=by
 cases n with
 |ofNat m=>
  have:Nat.ble m 9223372036854775807=true:=ar_ (by have:(m:Int)<9223372036854775808:=h2;omega)
  simp only[Me,Ak,M0,this,cond_true]
 |negSucc m=>
  have:Nat.ble m 9223372036854775807=true:=ar_ Om;simp only[Me,Ak,M0,this,cond_true]
theorem A0y{t ty:Nat}{x y:Operand}{p q:Int}(hi:okI E.P t=true)(hx:Ah E ρ x=some (.int .i64 p))(hy:Ah E ρ y=some (.int .i64 q))(h1: -9223372036854775808<=p+q)(h2:p+q<9223372036854775808):
  As E Rr (.binOp .add t x y ty) ρ J (iV (p+q)) J:=L0 hi hx hy (by simp only[Ic,Aok,Aex h1 h2];rfl)
theorem Agz{t ty:Nat}{x y p q}(hi:okI E.P t=true)(hx:Ah E ρ x=some (.int .i64 p))(hy:Ah E ρ y=some (.int .i64 q))(h1: -9223372036854775808<=p-q)(h2:p-q<9223372036854775808):
  As E Rr (.binOp .sub t x y ty) ρ J (iV (p-q)) J:=L0 hi hx hy (by simp only[Ic,Wh,Aex h1 h2];rfl)
theorem W2{t ty:Nat}{x y p q}(hi:okI E.P t=true)(hx:Ah E ρ x=some (.int .i64 (.ofNat p)))(hy:Ah E ρ y=some (.int .i64 (.ofNat q)))(h:q<=p)(hp:p<9223372036854775808):
  As E Rr (.binOp .sub t x y ty) ρ J (iV (.ofNat (p-q))) J:=by
 have:=Agz (Rr:=Rr) (J:=J) (ty:=ty) hi hx hy (by simp only[bu_];omega) (by simp only[bu_];omega)
 rwa[show(Int.ofNat p-Int.ofNat q)=Int.ofNat (p-q) by simp only[bu_];omega]at this
theorem Abi{ops r}{t ty0:Nat}{x}{d ty:Nat}{pos after cs sz len cap}(hsl:Mk E.P t=true)(hx:Ah E ρ x=some (.sv cs sz len cap))(hd:Nat.blt d nt=true)
  (k:∀b:Bool,(b=true->len=0)->TO E nt df B ops r K ((d,.bool b)::ρ) J):
  TO E nt df B ops ({ dst:=some d,op:=.binOp .eql t x (.const (.slice none 0 0)) ty0,type:=ty,pos:=pos,after:=after,guard:=none }::r) K ρ J:=by
 have hti:∃ti e,Ay E.P t=some ti/\ti.desc=.slice e:=by
  unfold Mk at hsl
  split at hsl
  ·rename_i ti hti
   split at hsl
   ·rename_i e he;exact⟨ti,e,hti,he⟩
   ·cases hsl
  ·cases hsl
 obtain⟨ti,e,hti,hde⟩:=hti
 have hu:E.P.underlying t=some (.slice e):=by
  obtain⟨_,dd,_,g2,g3,_⟩:=Ap hti
  exact g2.trans (by rw[←g3,hde])
 refine Aii (Pv:=fun v=>∃b:Bool,v=.bool b/\(b=true->len=0)) (dst:=some d) (J':=J) hd (fun C w tm a ht st=>?_) (fun v hv=>by obtain⟨b,rfl,hb⟩:=hv;exact k b hb)
 have hv:=Be st.glob st.tmps x;rw[ht.opd hx]at hv;unfold R at hv;obtain⟨ado,kk,h1,h2,h3,h4,h5,h6⟩:=hv;have fin:∀{X:Value} {b:Bool},a.eval x=X->(∀l,X≠.agg l)->X≠.nilIface->(binOp .eql t X (.slice none 0 0)).run E.P w=.ok (.bool b) w->
   (execOp a.eval { dst:=some d,op:=.binOp .eql t x (.const (.slice none 0 0)) ty0,type:=ty,pos:=pos,after:=after,guard:=none }).run E.P w=.ok (.value (.bool b)) w:=by
  intro X b hX hn1 hn2 hb;have hg:=E7 (P:=E.P) (w:=w) (op:=.eql) (t:=t) (x:=x) (y:=.const (.slice none 0 0)) (a:=X) (b:=.slice none 0 0) (fun l m hh=>hn1 l hh.1) (fun hh=>hn2 hh.1)
  have hY:a.eval (.const (.slice none 0 0))=.slice none 0 0:=rfl;simp only[execOp,hX,hY,Sem.run_bind,hg,Result.andThen_ok,hb,Sem.run_pure]
 cases ado with
 |some ad=>
  have:=(gh_ (w:=w) hu ⟨_,rfl⟩ ad len kk).1.eql
  exact⟨.bool false,⟨false,rfl,fun h=>by cases h⟩,.bool false,w,C,.inl (fin h1 (fun l h=>by cases h) (fun h=>by cases h) this),by unfold R;rfl,st.sim,cf_ _ _ _⟩
 |none=>
  have hk:=h5 rfl;subst hk
  have hl:len=0:=by omega
  subst hl;have:=(gh_ (w:=w) hu ⟨_,rfl⟩ ⟨0,0,none⟩ 0 0).2.2.eql
  exact⟨.bool true,⟨true,rfl,fun _=>rfl⟩,.bool true,w,C,.inl (fin h1 (fun l h=>by cases h) (fun h=>by cases h) this),by unfold R;rfl,st.sim,cf_ _ _ _⟩
end
def Abj(E:Env)(ρ:Ad)(fl:List (Nat×Nat)):List (Nat×Operand)->Option (List (Nat×Nat×AV))
 |[]=>some []
 |(i,x)::r=>match fl[i]?,Ah E ρ x,Abj E ρ fl r with
  |some (o,n),some v,some l=>some ((o,n,v)::l)
  |_,_,_=>none
def W3(E:Env)(ρ:Ad)(sz:Nat):List (Nat×Operand)->Option (List (Nat×Nat×AV))
 |[]=>some []
 |(i,x)::r=>match Ah E ρ x,W3 E ρ sz r with
  |some v,some l=>some ((i*sz,sz,v)::l)
  |_,_=>none
section
variable {E:Env}{ρ:Ad}{J J':Sto}{tm:Tr AV}{Rr:Rec}
theorem Amm{P}:∀{fs:List Field} {fl:List (Nat×Nat)},bdF P fs=some fl->∀(i:Nat) (p:Nat×Nat),fl[i]? =some p->∃(f:Field) (ti:TI),fs[i]? =some f/\Ay P f.type=some ti/\p=(f.offset,ti.size)
 |[],fl,h,i,p,hp=>by simp only[bdF,af_]at h;subst h;simp at hp
 |f::r,fl,h,i,p,hp=>by
  simp only[bdF]at h
  split at h
  ·rename_i ti l hti hl
   cases h;cases i with
   |zero=>simp at hp;exact⟨f,ti,rfl,hti,hp.symm⟩
   |succ i=>obtain⟨g,tj,h1,h2,h3⟩:=Amm hl i p (by simpa using hp);exact⟨g,tj,by simpa using h1,h2,h3⟩
  ·cases h
theorem Ail(h:Has tm ρ){fs fl}(hf:bdF E.P fs=some fl):∀{l:List (Nat×Operand)} {ps:List (Nat×Nat×AV)},Abj E ρ fl l=some ps->Js E.P E tm fs l=some ps
 |[],ps,hp=>by simp only[Abj,af_]at hp;subst hp;rfl
 |(i,x)::r,ps,hp=>by
  simp only[Abj]at hp
  split at hp
  ·rename_i o n v l h1 h2 h3
   cases hp;obtain⟨f,ti,k1,k2,k3⟩:=Amm hf i _ h1;cases k3;simp only[Js,k1,Ail h hf h3,k2,h.opd h2]
  ·cases hp
theorem Abk(h:Has tm ρ){sz}:∀{l:List (Nat×Operand)} {ps:List (Nat×Nat×AV)},W3 E ρ sz l=some ps->Is E tm sz l=ps
 |[],ps,hp=>by simp only[W3,af_]at hp;subst hp;rfl
 |(i,x)::r,ps,hp=>by
  simp only[W3]at hp
  split at hp
  ·rename_i v l h2 h3
   cases hp;simp only[Is,h.opd h2,Abk h h3]
  ·cases hp
theorem Ut{t parts z cs fl ps}(hi:bdI E.P t=some (z,fl))(hp:Abj E ρ fl parts.toList=some ps)(hf:Si z ps=some cs):
  As E Rr (.build t parts) ρ J (.agg cs) J:=fun tm h=>by
 unfold bdI at hi
 split at hi
 ·rename_i ti hti
  split at hi
  ·rename_i z' fs hz hd
   split at hi
   ·rename_i l h1 h2
    cases hi;simp only[opA,Aw,hti,hz,hd,h1,Ail h h2 hp,M2,hf]
   ·cases hi
  ·cases hi
 ·cases hi
theorem Ai{t len sz by' z cs parts ps}(hi:elI E.P t=some (sz,by',some z))(hby:∀e,E.byref e=false)(hl:(Nat.ble (len*sz) 16777216&&Nat.beq z.length sz)=true)
  (hp:W3 E ρ sz parts.toList=some ps)(hf:Si (rep z len) ps=some cs):As E Rr (.buildSlice t len parts) ρ J (.sv cs sz len (some len)) J:=fun tm h=>by
 obtain⟨ti,e,te,h1,h2,h3,h4,h5,h6⟩:=Qc hi;subst h4;simp only[opA,Aw,h1,h2,h3,h6,hl,hby,Abk h hp,Id,hf]
theorem Aq5{α:Type}{enc sz}(he:∀a,(enc a).length=sz)(l:List α){a b}(hab:a<=b)(hb:b<=l.length):
  Dr ((b-a)*sz) ((l.flatMap enc).drop (a*sz))=some (((l.take b).drop a).flatMap enc):=by
 rw[Ww he]
 have bl:((l.take b).drop a).length=b-a:=by simp;omega
 have e:l.drop a=(l.take b).drop a++l.drop b:=by
  have h1:l=l.take b++l.drop b:=(cc_ b l).symm
  calc l.drop a=(l.take b++l.drop b).drop a:=by rw[←h1]
   _=(l.take b).drop a++l.drop b:=by rw[fj_ (by simp;omega)]
 rw[e,da_];have:=D0 (l:=((l.take b).drop a).flatMap enc) (r:=(l.drop b).flatMap enc)
 rwa[Dl he,bl]at this
theorem Ag0{α enc t sz by' a b zz}{l:List α}{x lo hi mx alo ahi amx c}(hel:elI E.P t=some (sz,by',zz))(he:∀a,(enc a).length=sz)
  (hx:Ah E ρ x=some (slV enc sz l))(h1:Iz E ρ lo=some alo)(h2:Iz E ρ hi=some ahi)(h3:Iz E ρ mx=some amx)(hb:Do l.length none alo ahi amx=some (a,b,c))(hab:a<=b)(hbl:b<=l.length):
  As E Rr (.slice t x lo hi mx) ρ J (.sv (((l.take b).drop a).flatMap enc) sz (b-a) c) J:=fun tm h=>by
 obtain⟨ti,e,te,k1,k2,k3,k4,k5,k6⟩:=Qc hel;subst k4;simp only[opA,Aw,k1,k2,k3,h.opd hx,h.opdO h1,h.opdO h2,h.opdO h3,slV,Lj,aw_,hb,Aq5 he l hab hbl,Ak]
theorem Av{t t2 sz by' n z x y d s v new}(hi:elI E.P t=some (sz,by',some z))(hl:Nat.beq z.length sz=true)(hs:Mk E.P t2=true)(hx:Ah E ρ x=some d)(hy:Ah E ρ y=some s)
  (hn:lenA s=some n)(ef:F9 J sz s n=some new)(ha:B6 J sz by' d n new=some (v,J')):As E Rr (.call ⟨.builtin .append,#[x,y],#[t,t2]⟩) ρ J v J':=fun tm h=>by
 obtain⟨ti,e,te,h1,h2,h3,h4,h5,h6⟩:=Qc hi;subst h4 h5;unfold Mk at hs
 split at hs
 ·rename_i t2i ht2
  split at hs
  ·rename_i e2 hd2
   simp only[opA,Aw,h1,Ee,h2,h3,ht2,h6,hl,hd2,h.opd hx,h.opd hy,opds,T7,hn,ef,ha]
  ·cases hs
 ·cases hs
def Below(N:Nat)(J J':Sto):Prop:=nx J<=nx J'/\∀a,a<N->J'.get a=J.get a
theorem Below.rfl'{N}:Below N J J:=⟨nl,fun _ _=>rfl⟩
abbrev fn_:=@Below.rfl'
theorem Below.trans{N J''}(h:Below N J J')(k:Below N J' J''):Below N J J'':=⟨ai_ h.1 k.1,fun a ha=>(k.2 a ha).trans (h.2 a ha)⟩
end
theorem Below.new{N J J'}(h:Below N J J')(hN:N<=nx J)(o):Below N J (J'.new o):=
 ⟨by rw[Ao];have:=h.1;omega,fun a ha=>by rw[ag_,if_neg (by have:=h.1;omega)];exact h.2 a ha⟩
theorem Below.set{N a J J'}(h:Below N J J')(ha:N<=a)(o):Below N J (J'.set a o):=
 ⟨by rw[Aq];exact h.1,fun b hb=>by rw[aa_,if_neg Om];exact h.2 b hb⟩
theorem Ds.below{J J'}(hw:WFS J)(h:Below (nx J) J J'):Ds J' J:=a_ hw h.1 h.2
abbrev am_:=@Ds.below
theorem X5{N}:∀{l m:List AV},AV.unds N (l++m)=(AV.unds N l&&AV.unds N m)
 |[],m=>by simp[AV.unds]
 |x::l,m=>by simp only[ay_,AV.unds,X5 (l:=l),Bool.and_assoc]
theorem A2{N}{α:Type}{enc}(h:∀a,AV.unds N (enc a)=true):∀l:List α,AV.unds N (l.flatMap enc)=true
 |[]=>rfl
 |a::r=>by rw[bs_,X5,h a,A2 h r];rfl
theorem Fv{N α enc sz}(h:∀a,AV.unds N (enc a)=true)(l:List α):AV.und N (slV enc sz l)=true:=A2 h l
def Ku:List (Tr AV×AV)->List (Ad×AV)->Prop
 |[],[]=>True
 |(tm,v)::l,(ρ,u)::m=>Has tm ρ/\v=u/\Ku l m
 |_,_=>False
theorem Ku.append:∀{l l':List (Tr AV×AV)} {m m':List (Ad×AV)},Ku l m->Ku l' m'->Ku (l++l') (m++m')
 |[],l',[],m',_,h=>h
 |(tm,v)::l,l',(ρ,u)::m,m',h,k=>⟨h.1,h.2.1,Ku.append h.2.2 k⟩
 |[],_,_::_,_,h,_=>h.elim
 |_::_,_,[],_,h,_=>h.elim
theorem Ku.reverse:∀{l:List (Tr AV×AV)} {m:List (Ad×AV)},Ku l m->Ku l.reverse m.reverse
 |[],[],h=>h
 |(tm,v)::l,(ρ,u)::m,h=>by
  rw[d_,d_];exact Ku.append (Ku.reverse h.2.2) ⟨h.1,h.2.1,trivial⟩
 |[],_::_,h=>h.elim
 |_::_,[],h=>h.elim
theorem Ku.get:∀{l:List (Tr AV×AV)} {m:List (Ad×AV)},Ku l m->∀(j:Nat) (t:Tr AV) (v:AV),l[j]? =some (t,v)->∃ρ,m[j]? =some (ρ,v)/\Has t ρ
 |[],[],_,j,t,v,h=>by simp at h
 |(tm,v)::l,(ρ,u)::m,h,0,t,x,hj=>by simp at hj;obtain⟨rfl,rfl⟩:=hj;obtain⟨h1,rfl,_⟩:=h;exact⟨ρ,rfl,h1⟩
 |(tm,v)::l,(ρ,u)::m,h,j+1,t,x,hj=>by
  obtain⟨ρ',h1,h2⟩:=Ku.get h.2.2 j t x (by simpa using hj)
  exact⟨ρ',by simpa using h1,h2⟩
 |[],_::_,h,_,_,_,_=>h.elim
 |_::_,[],h,_,_,_,_=>h.elim
abbrev KD:=Ad->Sto->List Sto->List (Ad×AV)->Prop
def TD(E:Env)(nt:Nat)(Rr:Rec)(ops r:List Oper)(K:KD)(ρ:Ad)(J:Sto)(eps:List Sto)(log:List (Ad×AV)):Prop:=
 ∀(tm:Tr AV) (df:List (Nat×List AV)) (dl:List (Tr AV×AV)),Has tm ρ->Ku dl log->∃d',T9 E ops Rr r ⟨⟨tm,nt,df,J⟩,eps,dl⟩=some d'/\d'.s.nt=nt/\d'.s.df=df/\∃ρ' log',Has d'.s.tm ρ'/\Ku d'.log log'/\K ρ' d'.s.sto d'.eps log'
section
variable {E:Env}{nt B:Nat}{df:List (Nat×List AV)}{Q:Cc}{Rr:Rec}{ops r:List Oper}{K:KD}{ρ:Ad}{J:Sto}{eps:List Sto}{log:List (Ad×AV)}
theorem C1(h:K ρ J eps log):TD E nt Rr ops [] K ρ J eps log:=fun tm df dl ht hl=>⟨_,rfl,rfl,rfl,ρ,log,ht,hl,h⟩
theorem Aq6{o v J₁ b}(hg:∀tm,Has tm ρ->Bn ops o tm=some true)(he:B5 (Bc E o.op)=b)(hd:B0 nt o.dst=true)(h:As E Rr o.op ρ J v J₁)
  (k:TD E nt Rr ops r K (Dt o.dst v ρ) (cond b J₁ J) (cond b (J₁::eps) eps) ((ρ,v)::log)):TD E nt Rr ops (o::r) K ρ J eps log:=by
 intro tm df dl ht hl;obtain⟨tm',h1,h2⟩:=C6 (dst:=o.dst) hd ht v
 have:Rc E ops o Rr ⟨⟨tm,nt,df,J⟩,eps,dl⟩=some ⟨⟨tm',nt,df,cond b J₁ J⟩,cond b (J₁::eps) eps,(tm,v)::dl⟩:=by
  unfold Rc;simp only[hg tm ht,h tm ht,h1,he];cases b<;>rfl
 obtain⟨d',k1,k2⟩:=k tm' df ((tm,v)::dl) h2 ⟨ht,rfl,hl⟩
 exact⟨d',by simp only[T9,this];exact k1,k2⟩
theorem Amn{op dst}{ty:Nat}{pos after v J₁ b}(he:B5 (Bc E op)=b)(hd:B0 nt dst=true)(h:As E Rr op ρ J v J₁)
  (k:TD E nt Rr ops r K (Dt dst v ρ) (cond b J₁ J) (cond b (J₁::eps) eps) ((ρ,v)::log)):TD E nt Rr ops ({ dst:=dst,op:=op,type:=ty,pos:=pos,after:=after,guard:=none }::r) K ρ J eps log:=
 Aq6 (o:={ dst:=dst,op:=op,type:=ty,pos:=pos,after:=after,guard:=none }) (fun _ _=>rfl) he hd h k
theorem Qi{o oj v J₁}{j d:Nat}{b want e}(hg:o.guard=some (j,want))(hj:ops[j]? =some oj)(hdj:oj.dst=some d)(hb:Ad.at ρ d=some (.bool b))(hw:cond b want (!want)=true)
  (he:B5 (Bc E o.op)=e)(hd:B0 nt o.dst=true)(h:As E Rr o.op ρ J v J₁)
  (k:TD E nt Rr ops r K (Dt o.dst v ρ) (cond e J₁ J) (cond e (J₁::eps) eps) ((ρ,v)::log)):TD E nt Rr ops (o::r) K ρ J eps log:=
 Aq6 (fun tm ht=>by rw[Hf ht hg hj hdj hb,hw]) he hd h k
def Obl(E:Env)(eps:List Sto):List Ann->List Oper->List (Ad×AV)->Prop
 |a::az,o::os,(ρ,v)::l=>(match a.cls with
  |.read=>∀J∈(eps.drop a.lo).take (a.hi+1-a.lo),∃J',As E (fun _ _ _=>none) o.op ρ J v J'
  |_=>True)/\Obl E eps az os l
 |_,_,_=>True
theorem Obl.get{E eps}:∀{az:List Ann} {os:List Oper} {l:List (Ad×AV)},Obl E eps az os l->∀(j:Nat) (a:Ann) (o:Oper) (ρ:Ad) (v:AV),az[j]? =some a->os[j]? =some o->l[j]? =some (ρ,v)->a.cls=.read->
  ∀J∈(eps.drop a.lo).take (a.hi+1-a.lo),∃J',As E (fun _ _ _=>none) o.op ρ J v J'
 |a::az,o::os,(ρ,v)::l,h,0,a',o',ρ',v',ha,ho,hl,hc=>by
  simp at ha ho hl;obtain⟨rfl,rfl⟩:=hl;subst ha ho
  have:=h.1;rw[hc]at this;exact this
 |a::az,o::os,(ρ,v)::l,h,j+1,a',o',ρ',v',ha,ho,hl,hc=>Obl.get h.2 j a' o' ρ' v' (by simpa using ha) (by simpa using ho) (by simpa using hl) hc
 |[],_,_,_,_,_,_,_,_,h,_,_,_=>by simp at h
 |_::_,[],_,_,_,_,_,_,_,_,h,_,_=>by simp at h
 |_::_,_::_,[],_,_,_,_,_,_,_,_,h,_=>by simp at h
theorem Jm{ops anns}(h:Lo E ops=some anns):Eu ops (Region.before ops).toList=true/\Fo ops=true/\Mg (Region.before ops).toList (A8 E ops.toList 0)=true/\
  anns=Kb E (Region.before ops).toList (A8 E ops.toList 0) ops.toList 0:=by
 unfold Lo at h;simp only at h
 split at h
 ·rename_i dw
  cases h;simp only[ad_]at dw;obtain⟨⟨⟨c1,c2⟩,c3⟩,_⟩:=dw;exact⟨c1,c2,c3,rfl⟩
 ·cases h
theorem L4{id ops anns}(hm:E.P.follows .mixedOrders=true)(hR:Bk E Rr)(ha:Lo E ops=some anns)
  (h:TD E nt Rr ops.toList ops.toList (fun ρ' J' eps log=>Obl E eps.reverse anns ops.toList log.reverse/\Q .normal ρ' J') ρ J [J] []):T E nt df B (.region id ops true) Q ρ J:=by
 intro ro n hn C w tm a ht st hB;obtain⟨c1,c2,c3,c4⟩:=Jm ha;obtain⟨d,k1,k2,k3,ρ',log',k4,k5,k6,k7⟩:=h tm df [] ht trivial;refine wpIn_mono (Aic hm hR st c1 c2 c3 k1 fun j o t v ho hl hc hg σk hσ=>?_) fun e a' w' he=>?_
 ·obtain⟨ρj,q1,q2⟩:=k5.reverse.get j t v hl
  have cv:=Ix (E:=E) (b:=(Region.before ops).toList) (effs:=A8 E ops.toList 0) ops.toList 0 j o (by simpa using ho)
  rw[←c4]at cv;simp only[bn_]at cv
  obtain⟨J',hto⟩:=k6.get j _ o ρj v cv (by simpa using ho) q1 hc σk (by simp only[Gc];exact hσ)
  have:=hto t q2;refine⟨J',?_⟩
  have hne:B5 (Bc E o.op)=false:=by rw[hc];rfl
  rw[←Iy (Rr:=fun _ _ _=>none) hc];exact this
 ·obtain⟨y,hy,C',h1,h2,h3⟩:=he;rw[ao_]at hy;subst hy;obtain⟨⟨tm',nt',df',J'⟩,eps',dl'⟩:=d;simp only at k2 k3;subst k2 k3;exact⟨.normal,tm',ρ',J',C',h1,k4,k7,h2,ai_ hB h3.next,h3.base hB⟩
def Amo(E:Env)(ops:List Oper):Bool:=ops.all fun o=> !B5 (Bc E o.op)
def KD0(Q:Cc)(J:Sto):KD:=fun ρ' J' eps _=>J'=J/\eps=[J]/\Q .normal ρ' J
theorem Aui{id ops anns}(hm:E.P.follows .mixedOrders=true)(ha:Lo E ops=some anns)(hc:Amo E ops.toList=true)
  (h:TD E nt (fun _ _ _=>none) ops.toList ops.toList (KD0 Q J) ρ J [J] []):T E nt df B (.region id ops true) Q ρ J:=by
 intro ro n hn C w tm a ht st hB;obtain⟨c1,c2,c3,c4⟩:=Jm ha;obtain⟨d,k1,k2,k3,ρ',log',k4,k5,k6,k7,k8⟩:=h tm df [] ht trivial;refine wpIn_mono (Aic hm di_ st c1 c2 c3 k1 fun j o t v ho hl hcl hg σk hσ=>?_) fun e a' w' he=>?_
 ·rw[k7]at hσ
  have hσ':σk=J:=by
   have:=fl_ (cm_ hσ)
   simpa using this
  subst hσ';obtain⟨log,eps,lex,g2,g3,g4,g5⟩:=Lz k1;simp only[dy_,bd_,d_]at g2 g3;obtain⟨x1,x2,x3,x4,x5⟩:=Wq lex
  obtain⟨t',v',t₁,J₀,J₁,y1,y2,y3,y4,y5,y6⟩:=x5 j o (by simpa using ho)
  rw[g2]at hl;rw[hl]at y1;cases y1
  have px:eps=[]:=by
   rw[k7]at g3
   simpa using g3.symm
  rw[px]at y3
  have hσ0:J₀=σk:=by
   have:=(ae_.1 y3).1;simp only[fh_]at this
   have h0:cnt E ops.toList j=0:=by omega
   rw[h0]at y3;simpa using y3.symm
  subst hσ0
  have hne:B5 (Bc E o.op)=false:=by rw[hcl];rfl
  rcases y5 with⟨z1,z2⟩|⟨z1,z2⟩
  ·exact⟨J₁,by rw[←Iy (Rr:=fun _ _ _=>none) hcl];exact z2⟩
  ·rw[z1]at hg;cases hg
 ·obtain⟨y,hy,C',h1,h2,h3⟩:=he;rw[ao_]at hy;subst hy;obtain⟨⟨tm',nt',df',J'⟩,eps',dl'⟩:=d;simp only at k2 k3 k6;subst k2 k3 k6;exact⟨.normal,tm',ρ',J',C',h1,k4,k8,h2,ai_ hB h3.next,h3.base hB⟩
def Rm(E:Env):List Ann->List Oper->Nat->Bool
 |a::az,o::os,c=>(match a.cls with
  |.read=>Nat.beq a.lo c&&Nat.beq a.hi c
  |_=>true)&&Rm E az os (cond (B5 (Bc E o.op)) (c+1) c)
 |_,_,_=>true
theorem X6{E}:∀{az:List Ann} {os:List Oper} {c:Nat},Rm E az os c=true->∀(j:Nat) (a:Ann) (o:Oper),az[j]? =some a->os[j]? =some o->a.cls=.read->a.lo=c+cnt E os j/\a.hi=c+cnt E os j
 |a::az,o::os,c,h,0,a',o',ha,ho,hc=>by
  simp at ha ho;subst ha ho
  simp only[Rm,hc,ad_]at h
  exact⟨by simp only[cnt];exact ac_ h.1.1,by simp only[cnt];exact ac_ h.1.2⟩
 |a::az,o::os,c,h,j+1,a',o',ha,ho,hc=>by
  simp only[Rm,ad_]at h
  have:=X6 h.2 j a' o' (by simpa using ha) (by simpa using ho) hc
  simp only[cnt];cases he:B5 (Bc E o.op)with
  |true=>rw[he]at this;simp only[cond_true]at this;rw[if_pos rfl];omega
  |false=>rw[he]at this;simp only[cond_false]at this;rw[if_neg (by simp)];omega
 |[],_,_,_,_,_,_,h,_,_=>by simp at h
 |_::_,[],_,_,_,_,_,_,h,_=>by simp at h
def KDS(Q:Cc):KD:=fun ρ' J' _ _=>Q .normal ρ' J'
theorem Auj{id ops anns}(hm:E.P.follows .mixedOrders=true)(hR:Bk E Rr)(ha:Lo E ops=some anns)(hp:Rm E anns ops.toList 0=true)
  (h:TD E nt Rr ops.toList ops.toList (KDS Q) ρ J [J] []):T E nt df B (.region id ops true) Q ρ J:=by
 intro ro n hn C w tm a ht st hB;obtain⟨c1,c2,c3,c4⟩:=Jm ha;obtain⟨d,k1,k2,k3,ρ',log',k4,k5,k6⟩:=h tm df [] ht trivial;refine wpIn_mono (Aic hm hR st c1 c2 c3 k1 fun j o t v ho hl hcl hg σk hσ=>?_) fun e a' w' he=>?_
 ·have cv:=Ix (E:=E) (b:=(Region.before ops).toList) (effs:=A8 E ops.toList 0) ops.toList 0 j o (by simpa using ho)
  rw[←c4]at cv;simp only[bn_]at cv
  obtain⟨q1,q2⟩:=X6 hp j _ o cv (by simpa using ho) hcl
  simp only[bn_,Gc]at q1 q2
  rw[q1,q2,show cnt E ops.toList j+1-cnt E ops.toList j=1 by omega]at hσ
  obtain⟨log,eps,lex,g2,g3,g4,g5⟩:=Lz k1;simp only[dy_,bd_,d_]at g2 g3;obtain⟨x1,x2,x3,x4,x5⟩:=Wq lex
  obtain⟨t',v',t₁,J₀,J₁,y1,y2,y3,y4,y5,y6⟩:=x5 j o (by simpa using ho)
  rw[g2]at hl;rw[hl]at y1;cases y1
  have fg:σk=J₀:=by
   rw[g3]at hσ;obtain⟨i,hi⟩:=au_.1 hσ;rw[ea_]at hi
   split at hi
   ·rename_i hlt
    have h0:i=0:=by omega
    subst h0;rw[g_,fd_]at hi;have e1:([J]++eps)[cnt E ops.toList j]? =some J₀:=y3;rw[e1]at hi;cases hi;rfl
   ·cases hi
  subst fg
  have hne:B5 (Bc E o.op)=false:=by rw[hcl];rfl
  rcases y5 with⟨z1,z2⟩|⟨z1,z2⟩
  ·rw[Iy hcl]at z2;exact⟨J₁,z2⟩
  ·rw[z1]at hg;cases hg
 ·obtain⟨y,hy,C',h1,h2,h3⟩:=he;rw[ao_]at hy;subst hy;obtain⟨⟨tm',nt',df',J'⟩,eps',dl'⟩:=d;simp only at k2 k3;subst k2 k3;exact⟨.normal,tm',ρ',J',C',h1,k4,k6,h2,ai_ hB h3.next,h3.base hB⟩
theorem Bq{l f args}{tys:Array Nat}{k:Nat}{first cap vs v J'}(hf:Ah E ρ f=some (.fn (.func k) first cap))(ha:Kc E ρ args.toList=some vs)
  (hr:Dk l (.fn k) (first++vs++cap) J=some (v,J')):As E (Dk l) (.call ⟨.value f,args,tys⟩) ρ J v J':=Ami hf ha rfl hr
theorem Bv{f a s v s' r}:Dk ((f,a,s,v,s')::r) (.fn f) a s=some (v,s'):=by
 simp only[Dk,and_self,if_true]
end
section
variable {E:Env}{nt B:Nat}{df:List (Nat×List AV)}{ρ ρ':Ad}{J J':Sto}{K:Ad->Sto->Prop}
theorem Ak4{v:AV}{sz cs}(hc:v.cellsN sz=some cs):cs.length=sz:=by
 unfold AV.cellsN at hc
 split at hc<;>try (cases hc;done)
 ·cases hb':Nat.beq ‹List AV›.length sz with
  |true=>rw[hb']at hc;cases hc;exact ac_ hb'
  |false=>rw[hb']at hc;cases hc
 ·cases hb':Nat.beq sz 1 with
  |true=>rw[hb']at hc;cases hc;exact(ac_ hb').symm
  |false=>rw[hb']at hc;cases hc
theorem Ak5{v sz N cs}(hc:v.cellsN sz=some cs)(hv:AV.und N v=true):AV.unds N cs=true:=by
 unfold AV.cellsN at hc
 split at hc<;>try (cases hc;done)
 ·cases hb':Nat.beq ‹List AV›.length sz with
  |true=>rw[hb']at hc;cases hc;exact hv
  |false=>rw[hb']at hc;cases hc
 ·cases hb':Nat.beq sz 1 with
  |true=>rw[hb']at hc;cases hc;simp only[AV.unds,hv,be_]
  |false=>rw[hb']at hc;cases hc
theorem Rn{ops r t d e sz agg x y}{ty ty' ty'':Nat}{pos pos' pos'' after after' after'' z cs v u}(hz:zI E.P t=some z)(hi:ldI E.P t=some (sz,agg))(hl:Nat.beq z.length sz=true)
  (hy:Ah E ρ y=some u)(hy':∀p,Ah E ((d,p)::ρ) y=some u)(hv:Ah E ρ x=some v)(hx:∀p,Ah E ((e,u)::(d,p)::ρ) x=some v)(hde:Nat.beq e d=false)(hc:v.cellsN sz=some cs)(hd:Nat.blt d nt=true)(he:Nat.blt e nt=true)[Se E](hdf:df=[])
  (k:TO E nt df B ops r K ((e,u)::(d,.pv cs)::ρ) J):
  TO E nt df B ops ({ dst:=some d,op:=.alloc t,type:=ty,pos:=pos,after:=after,guard:=none }::{ dst:=some e,op:=.assign y,type:=ty'',pos:=pos'',after:=after'',guard:=none }::
   { dst:=none,op:=.store t (.tmp d) x,type:=ty',pos:=pos',after:=after',guard:=none }::r) K ρ J:=by
 subst hdf;intro ro n hn C w tm a ht st hB;have hwf:=st.sim.wfs;have em:∀i u,Ad.at ρ i=some u->AV.und (nx J) u=true:=fun i u hu=>R.und _ _ (st.tmps i u (ht i u hu))
 have hou:∀(o:Operand) v,Ah E ρ o=some v->AV.und (nx J) v=true:=fun o v ho=>by
  have hvR:=Be st.glob st.tmps o;rw[ht.opd ho]at hvR;exact R.und _ _ hvR
 have hcu:=Ak5 hc (hou x v hv)
 have hcs:cs.length=z.length:=by rw[Ak4 hc];exact(ac_ hl).symm
 have key:TO E nt [] B ops ({ dst:=some d,op:=.alloc t,type:=ty,pos:=pos,after:=after,guard:=none }::{ dst:=some e,op:=.assign y,type:=ty'',pos:=pos'',after:=after'',guard:=none }::
   { dst:=none,op:=.store t (.tmp d) x,type:=ty',pos:=pos',after:=after',guard:=none }::r) K ρ J:=by
  refine Qg noR (J₁:=J.new (.cells z)) (ρ₁:=(d,.pr (nx J) 0)::ρ) (fun tm' ht'=>⟨_,S9 hz hd,ht'.put d _⟩) ?_
  refine X4 noR rfl he (Gd (hy' _)) ?_
  refine X4 noR rfl rfl (By (vs:=z) (vs':=cs) (ad:=nx J) (off:=0) (v:=v) (cs:=cs) hi (by simp[Ah,Dt,Ad.at,aw_,hde]) (hx _) hc Eg (Hh hcs)) ?_
  simp only[Dt];refine Aq3 J ((e,u)::(d,.pv cs)::ρ) ?_ hB ?_ k
  ·refine a_ hwf (by rw[Aq,Ao];exact dm_ _) fun b hb=>?_
   rw[aa_,if_neg Om,ag_,if_neg Om]
  ·intro i u' hu;simp only[Ad.at]at hu⊢;cases hb:Nat.beq e i with
   |true=>
    rw[hb]at hu;simp only[cond_true,af_]at hu⊢;subst hu;exact⟨_,rfl,.same (hou y _ hy)⟩
   |false=>
    rw[hb]at hu;simp only[cond_false]at hu⊢;cases hb2:Nat.beq d i with
    |true=>
     rw[hb2]at hu;simp only[cond_true,af_]at hu⊢;subst hu
     refine⟨_,rfl,.pr (vs:=cs) (by rw[aa_,if_pos rfl]) ?_ (dj_ hcu)⟩
     cases hg:J.get (nx J)with
     |none=>rfl
     |some O=>exact absurd (hwf _ _ hg).1 (Nat.lt_irrefl _)
    |false=>rw[hb2]at hu;exact⟨u',hu,.same (em i u' hu)⟩
 exact key ro n hn C w tm a ht st hB
def KDI(Q:Cc)(J:Sto):KD:=fun ρ' J' eps _=>J'=J/\(∀e∈eps,e=J)/\Q .normal ρ' J
theorem Auk{Q Rr id ops anns}(hm:E.P.follows .mixedOrders=true)(hR:Bk E Rr)(ha:Lo E ops=some anns)
  (h:TD E nt Rr ops.toList ops.toList (KDI Q J) ρ J [J] []):T E nt df B (.region id ops true) Q ρ J:=by
 intro ro n hn C w tm a ht st hB;obtain⟨c1,c2,c3,c4⟩:=Jm ha;obtain⟨d,k1,k2,k3,ρ',log',k4,k5,k6,k7,k8⟩:=h tm df [] ht trivial;refine wpIn_mono (Aic hm hR st c1 c2 c3 k1 fun j o t v ho hl hcl hg σk hσ=>?_) fun e a' w' he=>?_
 ·have hσ':σk=J:=k7 σk (by simpa using fl_ (cm_ hσ))
  subst hσ';obtain⟨log,eps,lex,g2,g3,g4,g5⟩:=Lz k1;simp only[dy_,bd_,d_]at g2 g3;obtain⟨x1,x2,x3,x4,x5⟩:=Wq lex
  obtain⟨t',v',t₁,J₀,J₁,y1,y2,y3,y4,y5,y6⟩:=x5 j o (by simpa using ho)
  rw[g2]at hl;rw[hl]at y1;cases y1
  have hσ0:J₀=σk:=by
   refine k7 J₀ ?_
   have:J₀∈d.eps.reverse:=by rw[g3];exact ab_ y3
   simpa using this
  subst hσ0
  have hne:B5 (Bc E o.op)=false:=by rw[hcl];rfl
  rcases y5 with⟨z1,z2⟩|⟨z1,z2⟩
  ·rw[Iy hcl]at z2;exact⟨J₁,z2⟩
  ·rw[z1]at hg;cases hg
 ·obtain⟨y,hy,C',h1,h2,h3⟩:=he;rw[ao_]at hy;subst hy;obtain⟨⟨tm',nt',df',J'⟩,eps',dl'⟩:=d;simp only at k2 k3 k6;subst k2 k3 k6;exact⟨.normal,tm',ρ',J',C',h1,k4,k8,h2,ai_ hB h3.next,h3.base hB⟩
theorem Dw{f f' a a' s s' t v r}{o:Option (AV×Sto)}(h:f'≠f)(k:Dk r (.fn f') a' t=o):Dk ((f,a,s,v,s')::r) (.fn f') a' t=o:=by
 simp only[Dk];rw[if_neg (fun hh=>h hh.1)];exact k
theorem Am{a t b off sz agg vs v r l}(hi:ldI E.P t=some (sz,agg))(ha:Ad.at ρ a=some (.pr b off))(hc:J.cells b=some vs)(hv:Cz sz agg (vs.drop off)=some v)(hr:Us E ρ J r=some l):
  Us E ρ J (.cell a t::r)=some (v::l):=by
 obtain⟨ti,h1,h2,h3⟩:=Rj hi;subst h2 h3;simp only[Us,h1,ha,hc,hv,hr]
theorem Ba{t v r l}(hv:Ad.at ρ t=some v)(hr:Us E ρ J r=some l):Us E ρ J (.tmp t::r)=some (v::l):=by
 simp only[Us,hv,hr]
theorem Ex{J U sz}:Fz J U (.nil (.slice none 0 0)) (.sv [] sz 0 none):=.nils (fun q hq=>by cases hq)
end
end Go.AM
