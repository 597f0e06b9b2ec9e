/- A part. -/
import Derived.KernelRfl
import Derived.Test.YtmkaboegdoadhaaGreatDoorChecked
import Derived.Shelf.Small.Strs
import Derived.Shelf.Sort.Plain
import Derived.Shelf.Slices.In.SortNone
import Derived.Test.YtmkaboegdoadhaaGreatDoorProg
import Derived.Shelf.Small.Utf8
import Derived.Shelf.Strings.Runes
import Derived.Shelf.GgClosure.StringsRunes
import Derived.Test.YtmkaboegdoadhaaGreatDoorW05
set_option maxRecDepth 100000
set_option maxHeartbeats 4000000
set_option linter.unusedSimpArgs false
set_option linter.unusedVariables false
namespace Go.AM
open Go
section
variable {E:Env}{ops:List Oper}{Rr:Rec}{T:Nat->Tr AV}{V:Nat->AV}
theorem Up{o:Oper}{tm:Tr AV}{J J':Sto}{v:AV}(h:Ahv E ops Rr o tm J=some (v,J')):Bn ops o tm=some true/\opA E o.op Rr tm J=some (v,J'):=by
 unfold Ahv at h
 split at h
 ·rename_i hg;exact⟨hg,h⟩
 ·cases h
def Oe(E:Env)(ops:List Oper)(Rr:Rec)(T:Nat->Tr AV)(V:Nat->AV)(P:Nd->Prop)(c:Nd)(next:List Nat):Prop:=∀e∈next,∃o v J' c',ops[e]? =some o/\Aia E ops Rr o (T e) c.J v J'/\P c'/\
 (∀x,x∈c'.D↔x∈c.D∨x=e)/\Conv E (fun i=>if i=e then v else ovr c.aC V i) J' (ovr c'.aC V) c'.J
theorem Oe.mono{P P':Nd->Prop}{c:Nd}{next:List Nat}(h:Oe E ops Rr T V P c next)(hp:∀c,P c->P' c):Oe E ops Rr T V P' c next:=fun e he=>by
 obtain⟨o,v,J',c',h1,h2,h3,h4⟩:=h e he;exact⟨o,v,J',c',h1,h2,hp _ h3,h4⟩
theorem Aid{e:Nat}{J J':Sto}{D:List Nat}(h:Ps E ops Rr T V e J=some J'){P:Nd->Prop}(hp:P ⟨e::D,J',[]⟩):Oe E ops Rr T V P ⟨D,J,[]⟩ [e]:=by
 unfold Ps at h
 split at h
 ·rename_i o ho
  split at h
  ·rename_i v U hv
   cases hb:AV.beq (V e) v with
   |false=>rw[hb]at h;cases h
   |true=>
    rw[hb]at h;cases h;have:=AV.beq_eq _ _ hb;obtain⟨g1,g2⟩:=Up hv;intro x hx;rw[ao_]at hx;subst hx
    refine⟨o,v,J',_,ho,.inl ⟨g1,g2⟩,hp,fun y=>by simp[or_comm],ff_ fun i=>?_⟩
    by_cases hi:i=x
    ·rw[if_pos hi,←this,hi];rfl
    ·rw[if_neg hi]
  ·cases h
 ·cases h
theorem At4{i j:Nat}{J J':Sto}{D:List Nat}{l:NL}(h:N2 E ops Rr T V i j D J=some (l,J')){P:Nd->Prop}(hp:P ⟨j::i::D,J',[]⟩)(hq:∀x∈l,P x.1):
  (⟨D,J,[]⟩:Nd)∈l.map (·.1)/\(∀x∈l,Oe E ops Rr T V P x.1 x.2)/\∀x∈l,(∀k∈x.1.D,k∈D∨k=i∨k=j)/\(x.1.aC=[]∨∃p v,x.1.aC=[(p,v)]/\p∈x.1.D):=by
 unfold N2 at h
 split at h
 ·rename_i oi oj hoi hoj
  split at h
  ·rename_i v1 σi v3 σj h1 h3
   obtain⟨gi,h1⟩:=Up h1;obtain⟨gj,h3⟩:=Up h3
   split at h
   ·rename_i ti xi yi tj xj yj ei ej
    rw[ei]at h1;rw[ej]at h3;obtain⟨s1,l1,c1,A,rfl,rfl,k1⟩:=Qb h1;obtain⟨s2,l2,c2,B,rfl,rfl,k2⟩:=Qb h3;simp only at h;rw[ag_,if_pos rfl,ag_,if_pos rfl]at h;simp only at h;cases hb:(!Nat.beq i j&&AV.beq (V i) (.sr (nx J+2) 0 s1 l1 c1)&&AV.beq (V j) (.sr (nx J+3) 0 s2 l2 c2))with
    |false=>rw[hb]at h;cases h
    |true=>
     rw[hb]at h;cases h;simp only[ad_,bi_]at hb;obtain⟨⟨b0,b1⟩,b2⟩:=hb
     have hij:i≠j:=fun hh=>by rw[hh,aw_]at b0;cases b0
     have b1:=AV.beq_eq _ _ b1;have b2:=AV.beq_eq _ _ b2
     have g1:∀(A B:List AV) x,((J.new (.cells A)).new (.cells B)).get x=if x=nx J+1 then some (.cells B)else if x=nx J then some (.cells A)else J.get x:=fun A B x=>by rw[ag_,ag_,Ao]
     have hge:∀x,((((((J.new (.cells A)).new (.cells B)).kill (nx J)).kill (nx J+1)).new (.cells A)).new (.cells B)).get x=if x=nx J+3 then some (.cells B)else if x=nx J+2 then some (.cells A)else if x=nx J∨x=nx J+1 then none else J.get x:=fun x=>by
      rw[ag_,ag_,bf_,bf_,g1];simp only[Ao,B3]
      by_cases q1:x=nx J+3
      ·rw[if_pos Om,if_pos q1]
      ·rw[if_neg Om,if_neg q1]
       by_cases q2:x=nx J+2
       ·rw[if_pos Om,if_pos q2]
       ·rw[if_neg Om,if_neg q2]
        by_cases q3:x=nx J+1
        ·rw[if_pos q3,if_pos (.inr q3)]
        ·rw[if_neg q3,if_neg q3]
         by_cases q4:x=nx J
         ·rw[if_pos q4,if_pos (.inl q4)]
         ·rw[if_neg q4,if_neg q4,if_neg (by omega:¬(x=nx J∨x=nx J+1))]
     have hnr:nx ((((((J.new (.cells A)).new (.cells B)).kill (nx J)).kill (nx J+1)).new (.cells A)).new (.cells B))=nx J+4:=by simp only[Ao,B3]
     refine⟨by simp,fun x hx=>?_,fun x hx=>?_⟩
     ·simp only[an_,cl_,or_false]at hx
      rcases hx with rfl|rfl|rfl
      ·intro e he;simp only[an_,cl_,or_false]at he
       rcases he with rfl|rfl
       ·exact⟨oi,_,_,⟨e::D,J.new (.cells A),[(e,.sr (nx J) 0 s1 l1 c1)]⟩,hoi,.inl ⟨gi,by rw[ei];exact h1⟩,hq (⟨e::D,J.new (.cells A),[(e,.sr (nx J) 0 s1 l1 c1)]⟩,[j]) (by simp),fun y=>by simp[or_comm],ff_ fun _=>rfl⟩
       ·exact⟨oj,_,_,⟨e::D,J.new (.cells B),[(e,.sr (nx J) 0 s2 l2 c2)]⟩,hoj,.inl ⟨gj,by rw[ej];exact h3⟩,hq (⟨e::D,J.new (.cells B),[(e,.sr (nx J) 0 s2 l2 c2)]⟩,[i]) (by simp),fun y=>by simp[or_comm],ff_ fun _=>rfl⟩
      ·intro e he;rw[ao_]at he;subst he
       refine⟨oj,_,_,_,hoj,.inl ⟨gj,by rw[ej];exact k2 _⟩,hp,fun y=>by simp[or_comm],Conv.rename (J:=J) (A:=A) (B:=B) (a:=nx J) (b:=nx J+1) (.inl ⟨rfl,rfl⟩) (by simp only[Ao]) hnr (by rw[g1,if_neg Om,if_pos rfl]) (by rw[g1,if_pos rfl]) (fun x=>?_) fun x=>?_⟩
       ·rw[hge]
        by_cases q:x=nx J∨x=nx J+1
        ·rw[if_pos q,if_pos q]
        ·rw[if_neg q,if_neg q,show((J.new (.cells A)).new (.cells B)).get x=J.get x from by rw[g1,if_neg Om,if_neg Om]]
       ·show(if x=e then _ else ovr [(i,_)] V x)=V x∨_
        by_cases q1:x=e
        ·rw[if_pos q1];refine .inr (.inr ⟨some (s2,l2,c2),by rw[Ao]<;>rfl,?_⟩);rw[q1];exact b2
        ·rw[if_neg q1]
         by_cases q2:x=i
         ·refine .inr (.inl ⟨some (s1,l1,c1),?_,?_⟩)
          ·show(if x=i then _ else _)=_;rw[if_pos q2]<;>rfl
          ·rw[q2];exact b1
         ·left;show(if x=i then _ else _)=_;rw[if_neg q2]
      ·intro e he;rw[ao_]at he;subst he
       refine⟨oi,_,_,_,hoi,.inl ⟨gi,by rw[ei];exact k1 _⟩,hp,fun y=>by simp[or_left_comm,or_comm],Conv.rename (J:=J) (A:=A) (B:=B) (a:=nx J+1) (b:=nx J) (.inr ⟨rfl,rfl⟩) (by simp only[Ao]) hnr (by rw[g1,if_pos rfl]) (by rw[g1,if_neg Om,if_pos rfl]) (fun x=>?_) fun x=>?_⟩
       ·rw[hge]
        by_cases q:x=nx J∨x=nx J+1
        ·rw[if_pos q,if_pos q]
        ·rw[if_neg q,if_neg q,show((J.new (.cells B)).new (.cells A)).get x=J.get x from by rw[g1,if_neg Om,if_neg Om]]
       ·show(if x=e then _ else ovr [(j,_)] V x)=V x∨_
        by_cases q1:x=e
        ·rw[if_pos q1];refine .inr (.inl ⟨some (s1,l1,c1),by rw[Ao]<;>rfl,?_⟩);rw[q1];exact b1
        ·rw[if_neg q1]
         by_cases q2:x=j
         ·refine .inr (.inr ⟨some (s2,l2,c2),?_,?_⟩)
          ·show(if x=j then _ else _)=_;rw[if_pos q2]<;>rfl
          ·rw[q2];exact b2
         ·left;show(if x=j then _ else _)=_;rw[if_neg q2]
     ·simp only[an_,cl_,or_false]at hx
      rcases hx with rfl|rfl|rfl
      ·exact⟨fun k hk=>.inl hk,.inl rfl⟩
      ·exact⟨fun k hk=>by rcases an_.1 hk with h|h;exact .inr (.inl h);exact .inl h,.inr ⟨i,_,rfl,by simp⟩⟩
      ·exact⟨fun k hk=>by rcases an_.1 hk with h|h;exact .inr (.inr h);exact .inl h,.inr ⟨j,_,rfl,by simp⟩⟩
   ·rename_i ti xi yi tj xj yj ei ej
    rw[ei]at h1;rw[ej]at h3
    split at h
    ·rename_i a oa b ob ha hb'
     cases hb:(!Nat.beq i j&& !Nat.beq a b&&AV.beq (V i) An&&AV.beq (V j) An)with
     |false=>rw[hb]at h;cases h
     |true=>
      rw[hb]at h;simp only[cond_true]at h;simp only[ad_,bi_]at hb;obtain⟨⟨⟨b0,b3⟩,b1⟩,b2⟩:=hb
      have hab:a≠b:=fun hh=>by rw[hh,aw_]at b3;cases b3
      have b1:=AV.beq_eq _ _ b1;have b2:=AV.beq_eq _ _ b2
      split at h
      ·rename_i v2 σij h2
       cases h;obtain⟨_,h2⟩:=Up h2;rw[ej]at h2;obtain⟨rfl,vs,X,p1,rfl,p2⟩:=Abc ha h1;obtain⟨rfl,us,Y,r1,rfl,r2⟩:=Abc hb' h3
       have h2':=r2 (J.set a (.cells X)) (by rw[aa_,if_neg (gx_ hab)];exact r1)
       rw[h2']at h2;cases h2
       have hcv:∀(k:Nat) (hk:V k=An),Conv E (fun x=>if x=k then An else ovr [] V x) ((J.set a (.cells X)).set b (.cells Y)) (ovr [] V) ((J.set a (.cells X)).set b (.cells Y)):=fun k hk=>ff_ fun x=>by
        by_cases q:x=k
        ·rw[if_pos q,q];exact hk.symm
        ·rw[if_neg q]
       have iu:∀(k:Nat) (hk:V k=An) (U:Sto),Conv E (fun x=>if x=k then An else ovr [] V x) U (ovr [] V) U:=fun k hk U=>ff_ fun x=>by
        by_cases q:x=k
        ·rw[if_pos q,q];exact hk.symm
        ·rw[if_neg q]
       refine⟨by simp,fun x hx=>?_,fun x hx=>?_⟩
       ·simp only[an_,cl_,or_false]at hx
        rcases hx with rfl|rfl|rfl
        ·intro e he;simp only[an_,cl_,or_false]at he
         rcases he with rfl|rfl
         ·exact⟨oi,_,_,⟨e::D,J.set a (.cells X),[]⟩,hoi,.inl ⟨gi,by rw[ei];exact h1⟩,hq (⟨e::D,J.set a (.cells X),[]⟩,[j]) (by simp),fun y=>by simp[or_comm],iu _ b1 _⟩
         ·exact⟨oj,_,_,⟨e::D,J.set b (.cells Y),[]⟩,hoj,.inl ⟨gj,by rw[ej];exact h3⟩,hq (⟨e::D,J.set b (.cells Y),[]⟩,[i]) (by simp),fun y=>by simp[or_comm],iu _ b2 _⟩
        ·intro e he;rw[ao_]at he;subst he
         exact⟨oj,_,_,_,hoj,.inl ⟨gj,by rw[ej];exact h2'⟩,hp,fun y=>by simp[or_comm],iu _ b2 _⟩
        ·intro e he;rw[ao_]at he;subst he
         refine⟨oi,An,_,_,hoi,.inl ⟨gi,by rw[ei];exact p2 (J.set b (.cells Y)) (by rw[aa_,if_neg hab];exact p1)⟩,hp,fun y=>by simp[or_left_comm,or_comm],?_⟩
         rw[←Sto.set_comm hab];exact iu _ b1 _
       ·simp only[an_,cl_,or_false]at hx
        rcases hx with rfl|rfl|rfl
        ·exact⟨fun k hk=>.inl hk,.inl rfl⟩
        ·exact⟨fun k hk=>by rcases an_.1 hk with h|h;exact .inr (.inl h);exact .inl h,.inl rfl⟩
        ·exact⟨fun k hk=>by rcases an_.1 hk with h|h;exact .inr (.inr h);exact .inl h,.inl rfl⟩
      ·cases h
    ·cases h
   ·cases h
  ·cases h
 ·cases h
end
section
variable {E:Env}{ops:List Oper}{Rr:Rec}{T:Nat->Tr AV}{V:Nat->AV}{b:List Nat}
structure Ago (E:Env)(ops:List Oper)(Rr:Rec)(T:Nat->Tr AV)(V:Nat->AV)(es D:List Nat)(J:Sto)(nl:NL)(nf:Nd):Prop where
 hd:(⟨D,J,[]⟩:Nd)∈nl.map (·.1)++[nf]
 ok:∀x∈nl,Oe E ops Rr T V (·∈nl.map (·.1)++[nf]) x.1 x.2
 sub:∀c∈nl.map (·.1)++[nf],(∀k∈c.D,k∈D∨k∈es)/\(c.aC=[]∨∃p v,c.aC=[(p,v)]/\p∈c.D)
 fin:nf.aC=[]
theorem Uq:∀(es D:List Nat) (J:Sto) (nl:NL) (nf:Nd),Ne E ops Rr T V b es D J=some (nl,nf)->Ago E ops Rr T V es D J nl nf
 |[],D,J,nl,nf,h=>by
  simp only[Ne,af_,ba_]at h;obtain⟨rfl,rfl⟩:=h
  exact⟨by simp,fun x hx=>(by cases hx),gr,rfl⟩
 |[e],D,J,nl,nf,h=>by
  simp only[Ne]at h
  split at h
  ·rename_i J' hc
   simp only[af_,ba_]at h;obtain⟨rfl,rfl⟩:=h
   refine⟨by simp,fun x hx=>?_,fun c hc=>?_,rfl⟩
   ·rw[ao_]at hx;subst hx
    exact Aid hc (by simp)
   grind
  grind
 |e::j::r,D,J,nl,nf,h=>by
  rw[Ne]at h
  split at h
  ·split at h
   ·rename_i J' hc
    split at h
    ·rename_i m nf' hm
     simp only[af_,ba_]at h;obtain⟨rfl,rfl⟩:=h;have w:=Uq (j::r) (e::D) J' m nf' hm
     refine⟨by simp,fun x hx=>?_,fun c hc=>?_,w.fin⟩
     ·rcases an_.1 hx with rfl|hx
      ·exact Aid hc (by simp only[cn_,ay_];exact aj_ _ w.hd)
      ·exact(w.ok x hx).mono gr
     ·simp only[cn_,ay_]at hc
      rcases an_.1 hc with rfl|hc
      ·grind
      ·obtain⟨h1,h2⟩:=w.sub c hc
       grind
    grind
   grind
  ·split at h
   ·rename_i l J' hp
    split at h
    ·rename_i m nf' hm
     simp only[af_,ba_]at h;obtain⟨rfl,rfl⟩:=h;have w:=Uq r (j::e::D) J' m nf' hm
     obtain⟨p1,p2,p3⟩:=At4 (P:=(·∈(l++m).map (·.1)++[nf'])) hp (by rw[co_,ca_];exact fg_ _ w.hd) gr
     refine⟨gr,fun x hx=>?_,fun c hc=>?_,w.fin⟩
     ·rcases bb_.1 hx with hx|hx
      ·grind
      ·exact(w.ok x hx).mono gr
     ·rw[co_,ca_]at hc
      rcases bb_.1 hc with hc|hc
      ·obtain⟨x,hx,rfl⟩:=bt_.1 hc
       grind
      ·obtain⟨h1,h2⟩:=w.sub c hc
       grind
    grind
   grind
end
theorem Wu{nt:Nat}:∀{ops:List Oper} {vl:List AV} {tm:Tr AV} {tl:List (Tr AV)},Adi nt ops vl tm=some tl->tl.getD 0 .e=tm/\
  ∀k o,ops[k]? =some o->Ka o.dst (tl.getD k .e) nt (vl.getD k .any)=some (tl.getD (k+1) .e)
 |[],[],tm,tl,h=>by simp only[Adi,af_]at h;grind
 |o::r,v::vs,tm,tl,h=>by
  simp only[Adi]at h
  split at h
  ·rename_i tm' hp
   split at h
   ·rename_i l hl
    cases h;obtain⟨h1,h2⟩:=Wu hl
    grind
   grind
  grind
 |[],_::_,_,_,h=>by simp[Adi]at h
 |_::_,[],_,_,h=>by simp[Adi]at h
section
variable {E:Env}{ops:Array Oper}{Rr:Rec}
theorem Og{k:Nat}{o:Oper}(ho:ops[k]? =some o):B5 (Bc E o.op)=true↔k∈A8 E ops.toList 0:=by
 have hol:ops.toList[k]? =some o:=gr;obtain⟨e1,e2⟩:=Ie (E:=E) ops.toList 0
 constructor
 ·grind
 ·intro h;obtain⟨m,hm⟩:=au_.1 h
  grind
theorem Aj7(hm:E.P.follows .mixedOrders=true)(hR:Bk E Rr){s:St}{vl:List AV}{tl:List (Tr AV)}{nl:NL}{nf:Nd}{C:Ctx}{w:World}{a:Act}(st:SSt E C w s a)(htl:Adi s.nt ops.toList vl s.tm=some tl)(hse:Eu ops (Region.before ops).toList=true/\Fo ops=true)
  (W:Ago E ops.toList Rr (fun k=>tl.getD k .e) (fun k=>vl.getD k .any) (A8 E ops.toList 0) [] s.sto nl nf)
  (ia:(nl++[(nf,[])]).all (Hm E ops.toList Rr (fun k=>tl.getD k .e) (fun k=>vl.getD k .any) (Region.before ops).toList (A8 E ops.toList 0))=true)(pp:(nl.all fun x=>(A8 E ops.toList 0).any fun e=> !x.1.D.contains e)=true){id:Nat}{ro:Option Nat}{n:Nat}:
  (Code.region id ops true).wpIn (Cy ro) n E.P (Aej E C (nx s.sto) w [(.normal,⟨tl.getD ops.size .e,s.nt,s.df,nf.J⟩)]) a w:=by
 obtain⟨t0,tk⟩:=Wu htl
 have bs:∀c∈nl.map (·.1)++[nf],∃nx,(c,nx)∈nl++[(nf,[])]/\Oe E ops.toList Rr (fun k=>tl.getD k .e) (fun k=>vl.getD k .any) (·∈nl.map (·.1)++[nf]) c nx:=fun c hc=>by
  rcases bb_.1 hc with hc|hc
  ·obtain⟨x,hx,rfl⟩:=bt_.1 hc;exact⟨x.2,dg_ _ hx,W.ok x hx⟩
  ·rw[ao_]at hc;subst hc
   exact⟨[],by simp,fun e he=>by cases he⟩
 have dw:∀c nx,(c,nx)∈nl++[(nf,[])]->Hm E ops.toList Rr (fun k=>tl.getD k .e) (fun k=>vl.getD k .any) (Region.before ops).toList (A8 E ops.toList 0) (c,nx)=true:=fun c nx hc=>b_.1 ia _ hc
 have bl:ops.toList.length=ops.size:=by simp
 have fo:∀c∈nl.map (·.1)++[nf],∀k,k<ops.size->k∉c.D->Sz (Region.before ops).toList (A8 E ops.toList 0) c.D k=true->
   Aeb (Region.before ops).toList c.aC k=true/\(k∈A8 E ops.toList 0∨Lp E ops.toList Rr (fun k=>tl.getD k .e) (fun k=>vl.getD k .any) c.J k=true):=fun c hc k hk hD hok=>by
  obtain⟨nx,h1,_⟩:=bs c hc;have h2:=dw c nx h1;unfold Hm at h2
  grind
 refine Xy (s':=⟨tl.getD ops.size .e,s.nt,s.df,nf.J⟩) (es:=A8 E ops.toList 0) (V:=fun k=>vl.getD k .any) (T:=fun k=>tl.getD k .e) (nds:=nl.map (·.1)++[nf]) hm hR st ⟨hse.1,hse.2,fun k o ho=>Og ho,fun k hk t=>?_,fun k o ho d hd=>?_,fun c hc k hk=>?_,fun c hc k hk=>?_,fun c hc k hk hD hok i hi=>?_,fun c hc k o ho he hok=>?_,fun c hc k o ho he hD hok=>?_⟩ W.hd (fun c hc hD=>?_) rfl rfl rfl (fun e he=>?_)
 ·exact Ni (n:=ops.size) (T:=fun k=>tl.getD k .e) (V:=fun k=>vl.getD k .any) t0 (fun k hk=>⟨ops[k],by simp[hk],tk k _ (by simp[hk])⟩) k hk t
 ·have:=tk k o gr;rw[hd]at this;simp only[Ka]at this;cases hb:Nat.blt d s.nt
  ·grind
  ·exact al_ hb
 ·rcases(W.sub c hc).1 k hk with h|h
  ·cases h
  ·exact h
 ·rcases(W.sub c hc).2 with h|⟨p,v,h,hp⟩
  ·rw[h];rfl
  ·rw[h];show(if k=p then _ else _)=_;grind
 ·have h1:=(fo c hc k hk hD hok).1
  rcases(W.sub c hc).2 with h|⟨p,v,h,hp⟩
  ·rw[h];rfl
  ·rw[h]at h1⊢
   show(if i=p then _ else _)=_
   rw[if_neg];intro hh;subst hh;unfold Aeb at h1;simp only[Gc]at h1
   grind
 ·have hk:=(bc_.1 ho).1
  have hD:k∉c.D:=fun hh=>by
   rcases(W.sub c hc).1 k hh with h|h
   ·cases h
   ·exact he h
  rcases(fo c hc k hk hD hok).2 with h1|h1
  ·grind
  ·have hne:B5 (Bc E o.op)=false:=by
    cases hh:B5 (Bc E o.op)with
    |false=>rfl
    |true=>exact absurd ((Og ho).1 hh) he
   unfold Lp at h1
   rw[show ops.toList[k]? =some o by simpa using ho]at h1
   simp only at h1
   split at h1
   ·rename_i hg
    split at h1
    ·rename_i v U hv
     have:=AV.beq_eq _ _ h1;subst this;refine .inl ⟨hg,?_⟩
     have hτ:U=c.J:=by
      cases hcl:Bc E o.op with
      |eff=>rw[hcl]at hne;cases hne
      |pure=>exact(Aa9 hR hcl _ _ _ _ hv).1
      |read=>rw[Iy hcl]at hv;exact S6 hcl hv
     grind
    ·cases h1
   ·rename_i hg
    exact .inr ⟨hg,AV.beq_eq _ _ h1,rfl⟩
   ·cases h1
 ·obtain⟨nx,h1,h2⟩:=bs c hc;have h3:=dw c nx h1;unfold Hm at h3;simp only[ad_]at h3;have h4:=b_.1 h3.1 k he;have hD':c.D.contains k=false:=gr;rw[hD',hok]at h4;simp only[Bool.not_true,Bool.false_or]at h4;obtain⟨o',v,J',c',q1,q2,q3,q4,q5⟩:=h2 k (List.contains_iff_mem.1 h4)
  grind
 ·rcases bb_.1 hc with hc|hc
  ·grind
  ·rw[ao_]at hc;subst hc
   exact⟨fun k=>by rw[W.fin];rfl,rfl⟩
 ·obtain⟨m,hm'⟩:=au_.1 he;obtain⟨k',o',q1,q2,_⟩:=(Ie (E:=E) ops.toList 0).2 m e hm'
  grind
theorem Ss(hm:E.P.follows .mixedOrders=true)(hR:Bk E Rr){s s':St}{vl:List AV}{C:Ctx}{w:World}{a:Act}(st:SSt E C w s a)(h:Rd E ops Rr s vl=some s'){id:Nat}{ro:Option Nat}{n:Nat}:
  (Code.region id ops true).wpIn (Cy ro) n E.P (Aej E C (nx s.sto) w [(.normal,s')]) a w:=by
 unfold Rd at h
 split at h
 ·cases h
 ·rename_i tl htl
  obtain⟨t0,tk⟩:=Wu htl
  split at h
  ·cases h
  ·rename_i hse
   simp only[ad_]at hse
   split at h
   ·cases h
   ·rename_i nl nf hst
    have W:=Uq _ _ _ _ _ hst;cases hck:((nl++[(nf,[])]).all (Hm E ops.toList Rr (fun k=>tl.getD k .e) (fun k=>vl.getD k .any) (Region.before ops).toList (A8 E ops.toList 0))&&nl.all fun x=>(A8 E ops.toList 0).any fun e=> !x.1.D.contains e)with
    |false=>rw[hck]at h;cases h
    |true=>
     rw[hck]at h;cases h;simp only[ad_]at hck;obtain⟨ia,pp⟩:=hck;exact Aj7 hm hR st htl hse W ia pp
end
abbrev Ad:=List (Nat×AV)
def Ad.at:Ad->Nat->Option AV
 |[],_=>none
 |(j,v)::r,i=>cond (Nat.beq j i) (some v) (Ad.at r i)
def Has(tm:Tr AV)(ρ:Ad):Prop:=∀i v,Ad.at ρ i=some v->tm.get i=some v
def hdV:AV->Option AV
 |.any=>none
 |.bool b=>some (.bool b)
 |.int k n=>some (.int k n)
 |.str l=>some (.str l)
 |.nil v=>some (.nil v)
 |.agg l=>some (.agg l)
 |.fn f a b=>some (.fn f a b)
 |.tup l=>some (.tup l)
 |_=>none
theorem Awx{v u}(h:hdV v=some u):v=u:=by cases v<;>simp_all [hdV]
section
variable {E:Env}{ρ:Ad}{tm:Tr AV}{J J' J'':Sto}{Rr:Rec}{lf nt:Nat}{df:List (Nat×List AV)}
def Ah(E:Env)(ρ:Ad):Operand->Option AV
 |.tmp t=>Ad.at ρ t
 |.const v=>hdV (ofV v)
 |.global g=>match E.gl g with|some cs=>some (.pv cs)|none=>none
 |.func f=>some (.fn (.func f) [] [])
def Kc(E:Env)(ρ:Ad):List Operand->Option (List AV)
 |[]=>some []
 |x::r=>match Ah E ρ x,Kc E ρ r with
  |some v,some l=>some (v::l)
  |_,_=>none
def Iz(E:Env)(ρ:Ad):Option Operand->Option (Option AV)
 |none=>some none
 |some x=>match Ah E ρ x with|some v=>some (some v)|none=>none
theorem Has.opd(h:Has tm ρ){x v}(hx:Ah E ρ x=some v):opd E tm x=v:=by
 cases x with
 |tmp t=>simp only[Ah]at hx;simp only[Go.AM.opd,h t v hx]
 |const c=>exact Awx hx
 |global g=>
  simp only[Ah]at hx;simp only[Go.AM.opd]
  split at hx
  ·grind
  ·cases hx
 |func f=>simp only[Ah,af_]at hx;exact hx
theorem Has.opds(h:Has tm ρ):∀{l:List Operand} {vs:List AV},Kc E ρ l=some vs->opds E tm l=vs
 |[],vs,hl=>by simp only[Kc,af_]at hl;subst hl;rfl
 |x::r,vs,hl=>by
  simp only[Kc]at hl
  split at hl
  ·rename_i v l hv hr
   cases hl;simp only[Go.AM.opds,h.opd hv,Has.opds h hr]
  grind
theorem Has.opdO(h:Has tm ρ){x v}(hx:Iz E ρ x=some v):opdO E tm x=v:=by
 cases x with
 |none=>simp only[Iz,af_]at hx;subst hx;rfl
 |some x=>
  simp only[Iz]at hx
  split at hx
  ·rename_i u hu;cases hx;simp only[Go.AM.opdO,h.opd hu]
  ·cases hx
theorem Has.put(h:Has tm ρ)(d v):Has (tm.put (d+1) d (some v)) ((d,v)::ρ):=by
 intro i u hu;rw[dd_];simp only[Ad.at]at hu;cases hb:Nat.beq d i with
 |true=>rw[hb]at hu;have:=ac_ hb;subst this;rw[if_pos rfl];exact hu
 |false=>
  rw[hb]at hu
  rw[if_neg (fun he=>by subst he;rw[aw_]at hb;cases hb)]
  exact h i u hu
def As(E:Env)(Rr:Rec)(op:Op)(ρ:Ad)(J:Sto)(v:AV)(J':Sto):Prop:=∀tm,Has tm ρ->opA E op Rr tm J=some (v,J')
variable {x y c a b:Operand}{v u u' z:AV}{l l':List AV}{t:Nat}{n:Nat}
theorem Ag(hx:Ah E ρ x=some v):As E Rr (.move x) ρ J v J:=fun tm h=>by simp only[opA,Aw,Aad,h.opd hx]
theorem Gd(hx:Ah E ρ x=some v):As E Rr (.assign x) ρ J v J:=fun tm h=>by simp only[opA,Aw,Aad,h.opd hx]
theorem A3{bb}(hc:Ah E ρ c=some (.bool bb))(hb:bb=true)(hx:Ah E ρ a=some v):As E Rr (.pick c a b) ρ J v J:=fun tm h=>by
 subst hb;simp only[opA,Aw,Ad8,h.opd hc,h.opd hx]
theorem Au{bb}(hc:Ah E ρ c=some (.bool bb))(hb:bb=false)(hx:Ah E ρ b=some v):As E Rr (.pick c a b) ρ J v J:=fun tm h=>by
 subst hb;simp only[opA,Aw,Ad8,h.opd hc,h.opd hx]
theorem Ge{ad off}(hx:Ah E ρ x=some (.pr ad off)):As E Rr (.nilCheck x) ρ J (.pr ad off) J:=fun tm h=>by simp only[opA,Aw,Jf,h.opd hx]
theorem Eq(hx:Ah E ρ x=some (.pv l)):As E Rr (.nilCheck x) ρ J (.pv l) J:=fun tm h=>by simp only[opA,Aw,Jf,h.opd hx]
def zI(P:Program)(t:Nat):Option (List AV):=match Ay P t with|some ti=>ti.zero|none=>none
def ldI(P:Program)(t:Nat):Option (Nat×Bool):=match Ay P t with|some ti=>some (ti.size,ti.isAgg)|none=>none
def okI(P:Program)(t:Nat):Bool:=match Ay P t with|some _=>true|none=>false
def fdI(P:Program)(t i:Nat):Option (Nat×Nat×Bool):=match Ay P t with
 |some ti=>match ti.desc with
  |.struct fs=>match fs.toList[i]? with
   |some f=>match Ay P f.type with
    |some tf=>some (f.offset,tf.size,tf.isAgg)
    |none=>none
   |none=>none
  |_=>none
 |none=>none
def elI(P:Program)(t:Nat):Option (Nat×Nat×Option (List AV)):=match Ay P t with
 |some ti=>match ti.desc with
  |.slice e=>match Ay P e with
   |some te=>some (te.size,te.bytes,te.zero)
   |none=>none
  |_=>none
 |none=>none
def arI(P:Program)(t:Nat):Option (Nat×Nat×Bool):=match Ay P t with
 |some ti=>match ti.desc with
  |.array n e=>match Ay P e with
   |some te=>some (n,te.size,te.isAgg)
   |none=>none
  |_=>none
 |none=>none
def bdF(P:Program):List Field->Option (List (Nat×Nat))
 |[]=>some []
 |f::r=>match Ay P f.type,bdF P r with
  |some ti,some l=>some ((f.offset,ti.size)::l)
  |_,_=>none
def bdI(P:Program)(t:Nat):Option (List AV×List (Nat×Nat)):=match Ay P t with
 |some ti=>match ti.zero,ti.desc with
  |some z,.struct fs=>match Q7 P fs.toList,bdF P fs.toList with
   |true,some l=>some (z,l)
   |_,_=>none
  |_,_=>none
 |none=>none
def mpI(P:Program)(t:Nat):Option (Nat×AV×Nat×Bool):=match Ay P t with
 |some ti=>match ti.desc with
  |.map kt et=>match Ay P et with
   |some te=>match Lh te with
    |some z=>some (kt,z,te.size,te.isAgg)
    |none=>none
   |none=>none
  |_=>none
 |none=>none
def Fs(P:Program)(t:Nat):Bool:=match Ay P t with|some ti=>(match ti.desc with|.string=>true|_=>false)|none=>false
def Zv(P:Program)(t:Nat):Bool:=match Ay P t with|some ti=>(match ti.desc with|.bool=>true|_=>false)|none=>false
def Mk(P:Program)(t:Nat):Bool:=match Ay P t with|some ti=>(match ti.desc with|.slice _=>true|_=>false)|none=>false
def Cz(sz:Nat)(agg:Bool)(l:List AV):Option AV:=
 match agg with
 |true=>match Dr sz l with|some cs=>some (.agg cs)|none=>none
 |false=>match l with|v::_=>some v|[]=>none
def Em(J:Sto):AV->Option (List AV)
 |.pr a off=>match J.cells a with|some vs=>some (vs.drop off)|none=>none
 |.pv cs=>some cs
 |_=>none
theorem Rj{P sz agg}(h:ldI P t=some (sz,agg)):∃ti,Ay P t=some ti/\ti.size=sz/\ti.isAgg=agg:=by
 unfold ldI at h
 grind
theorem Ml(ti l):Ff ti l=Cz ti.size ti.isAgg l:=by
 unfold Ff Cz
 grind
theorem Ac{sz agg cs}(hi:ldI E.P t=some (sz,agg))(hx:Ah E ρ x=some u)(hc:Em J u=some cs)(hv:Cz sz agg cs=some v):
  As E Rr (.load t x) ρ J v J:=fun tm h=>by
 obtain⟨ti,h1,h2,h3⟩:=Rj hi;subst h2 h3;simp only[opA,Aw,h1,h.opd hx];cases u<;>simp only[Em]at hc<;>try (cases hc)
 ·rename_i a off
  split at hc
  ·rename_i vs hvs
   cases hc;simp only[Na,hvs,Ml,hv]
  grind
 ·simp only[Na,Ml,hv]
theorem By{sz agg ad off vs vs' cs}(hi:ldI E.P t=some (sz,agg))(hx:Ah E ρ x=some (.pr ad off))(hy:Ah E ρ y=some v)
  (hc:v.cellsN sz=some cs)(hv:J.cells ad=some vs)(hs:Et vs off cs=some vs'):As E Rr (.store t x y) ρ J An (J.set ad (.cells vs')):=fun tm h=>by
 obtain⟨ti,h1,h2,h3⟩:=Rj hi;subst h2 h3;simp only[opA,Aw,h1,h.opd hx,h.opd hy,Wc,hc,hv,hs]
theorem Bu{z}(hi:zI E.P t=some z):As E Rr (.alloc t) ρ J (.pr (nx J) 0) (J.new (.cells z)):=fun tm h=>by
 unfold zI at hi
 split at hi
 ·rename_i ti hti
  simp only[opA,Aw,hti,hi,Aab]
 grind
theorem Aqy{sz agg cs}(hi:ldI E.P t=some (sz,agg))(hx:Ah E ρ x=some v)(hc:v.cellsN sz=some cs):
  As E Rr (.box t x) ρ J (.pr (nx J) 0) (J.new (.cells cs)):=fun tm h=>by
 obtain⟨ti,h1,h2,h3⟩:=Rj hi;subst h2 h3;simp only[opA,Aw,h1,h.opd hx,sBox,hc]
def addP:AV->Nat->Option AV
 |.pr a off,n=>some (.pr a (off+n))
 |.pv cs,n=>some (.pv (cs.drop n))
 |_,_=>none
theorem Amf(x n):Po x n=addP x n:=by cases x<;>simp only[Po,addP,Ak]
theorem Ae{i off sz agg}(hi:fdI E.P t i=some (off,sz+1,agg))(hx:Ah E ρ x=some u)(hp:addP u off=some v):
  As E Rr (.fieldAddr t x i) ρ J v J:=fun tm h=>by
 unfold fdI at hi
 split at hi
 ·rename_i ti hti
  split at hi
  ·rename_i fs hfs
   split at hi
   ·rename_i f hf
    split at hi
    ·rename_i tf htf
     simp only[af_,ba_]at hi;obtain⟨k1,k2,k3⟩:=hi;subst k1;simp only[opA,Aw,hti,hfs,hf,htf,k2,h.opd hx,Aqj,Amf,hp]
    grind
   grind
  grind
 grind
theorem Qc{sz by' zz}(h:elI E.P t=some (sz,by',zz)):∃ti e te,Ay E.P t=some ti/\ti.desc=.slice e/\Ay E.P e=some te/\te.size=sz/\te.bytes=by'/\te.zero=zz:=by
 unfold elI at h
 grind
theorem Abd{u n}(h:lenA u=some n)(hs:Ad9 u=true):(∃a off sz cap,u=.sr a off sz n cap)∨(∃cs sz cap,u=.sv cs sz n cap)∨(u=.nil (.slice none 0 0)/\n=0):=by
 unfold lenA at h
 split at h
 ·grind
 ·grind
 ·grind
 ·simp[Ad9]at hs
 grind
def Aie:AV->Nat->AV
 |.sr a off sz _ _,n=>.pr a (off+n)
 |.sv cs _ _ _,n=>.pv (cs.drop n)
 |_,_=>.any
theorem Aif{sz by' m zz k}(hi:elI E.P t=some (sz,by',zz))(hx:Ah E ρ x=some u)(hy:Ah E ρ y=some (.int k (.ofNat n)))
  (hl:lenA u=some m)(hs:Ad9 u=true)(hn:n<m):As E Rr (.indexAddr t x y) ρ J (Aie u (n*sz)) J:=fun tm h=>by
 obtain⟨ti,e,te,h1,h2,h3,h4,h5,h6⟩:=Qc hi;subst h4;simp only[opA,Aw,h1,h2,h3,h.opd hx,h.opd hy]
 have hb:∀m,n<m->Nat.blt n m=true:=fun m hm=>by simpa using hm
 rcases Abd hl hs with⟨a,off,sz',cap,rfl⟩|⟨cs,sz',cap,rfl⟩|⟨rfl,rfl⟩
 ·simp only[Gt,hb _ hn,cond_true,Ak,Aie]
 ·simp only[Gt,hb _ hn,cond_true,Aie]
 ·omega
theorem Bp{sz m agg k}(hi:arI E.P t=some (m,sz,agg))(hx:Ah E ρ x=some u)(hy:Ah E ρ y=some (.int k (.ofNat n)))
  (hn:n<m)(hp:addP u (n*sz)=some v):As E Rr (.indexAddr t x y) ρ J v J:=fun tm h=>by
 unfold arI at hi
 split at hi
 ·rename_i ti hti
  split at hi
  ·rename_i nn e he
   split at hi
   ·rename_i te hte
    simp only[af_,ba_]at hi;obtain⟨k1,k2,k3⟩:=hi;subst k1 k2
    have hb:Nat.blt n nn=true:=by simpa using hn
    simp only[opA,Aw,hti,he,hte,h.opd hx,h.opd hy,E6,hb,cond_true,Amf,hp]
   grind
  grind
 grind
theorem Aig{s k w}(hi:Fs E.P t=true)(hx:Ah E ρ x=some (.str s))(hy:Ah E ρ y=some (.int k (.ofNat n)))(hn:s[n]? =some w):
  As E Rr (.index t x y) ρ J (.int .u8 (.ofNat w)) J:=fun tm h=>by
 unfold Fs at hi
 split at hi
 ·rename_i ti hti
  split at hi
  ·rename_i hd
   simp only[opA,Aw,hti,hd,h.opd hx,h.opd hy,Lc,hn]
  grind
 grind
theorem Nl{P}(h:okI P t=true):∃ti,Ay P t=some ti:=by
 unfold okI at h
 grind
theorem Qd(k):Ed k k=true:=by cases k<;>rfl
theorem L0{k op p q}{ty:Nat}(hi:okI E.P t=true)(hx:Ah E ρ x=some (.int k p))(hy:Ah E ρ y=some (.int k q))(hv:Ic op k p q=some v):
  As E Rr (.binOp op t x y ty) ρ J v J:=fun tm h=>by
 obtain⟨ti,hti⟩:=Nl hi;simp only[opA,Aw,h.opd hx,h.opd hy,Wb,hti,Qd,cond_true,hv,Sx]
theorem Agp{op p q}{ty:Nat}(hi:okI E.P t=true)(hx:Ah E ρ x=some (.str p))(hy:Ah E ρ y=some (.str q))(hv:T3 op p q=some v):
  As E Rr (.binOp op t x y ty) ρ J v J:=fun tm h=>by
 obtain⟨ti,hti⟩:=Nl hi;simp only[opA,Aw,h.opd hx,h.opd hy,Wb,hti,hv,Sx]
theorem At5{k p q}:Ic .lss k p q=some (.bool (decide (p<q))):=by
 simp only[Ic,Ec];congr 2;grind
theorem At6{k p q}:Ic .leq k p q=some (.bool (decide (p<=q))):=by simp only[Ic,Ec]
theorem At7{k p q}:Ic .gtr k p q=some (.bool (decide (q<p))):=by
 simp only[Ic,Ec];congr 2;grind
theorem At8{k p q}:Ic .geq k p q=some (.bool (decide (q<=p))):=by simp only[Ic,Ec]
theorem At9{k p q}:Ic .eql k p q=some (.bool (decide (p=q))):=by simp only[Ic,Jg];congr 2
theorem Aua{k p q}:Ic .neq k p q=some (.bool (!decide (p=q))):=by simp only[Ic,Jg];congr 2
theorem Aub{p q}(h:p+q<9223372036854775808):Ic .add .i64 (.ofNat p) (.ofNat q)=some (.int .i64 (.ofNat (p+q))):=by
 have:Nat.ble (p+q) 9223372036854775807=true:=ar_ Om;simp only[Ic,Ako,Me,Ak,M0,this,cond_true]
theorem Amg{p q}:T3 .eql p q=some (.bool (decide (p=q))):=by
 simp only[T3];congr 2;by_cases h:p=q
 ·rw[(Gu p q).2 h];simp[h]
 ·cases hb:Fm p q
  ·simp[h]
  ·exact absurd ((Gu p q).1 hb) h
theorem Auc{p q}:T3 .neq p q=some (.bool (!decide (p=q))):=by
 have:=@Amg p q;simp only[T3,af_,AV.bool.injEq]at this⊢
 grind
theorem Qe{k p q}{ty:Nat}(hi:okI E.P t=true)(hx:Ah E ρ x=some (.int k p))(hy:Ah E ρ y=some (.int k q)):As E Rr (.binOp .lss t x y ty) ρ J (.bool (decide (p<q))) J:=L0 hi hx hy At5
theorem Hn{k p q}{ty:Nat}(hi:okI E.P t=true)(hx:Ah E ρ x=some (.int k p))(hy:Ah E ρ y=some (.int k q)):As E Rr (.binOp .leq t x y ty) ρ J (.bool (decide (p<=q))) J:=L0 hi hx hy At6
theorem Wv{k p q}{ty:Nat}(hi:okI E.P t=true)(hx:Ah E ρ x=some (.int k p))(hy:Ah E ρ y=some (.int k q)):As E Rr (.binOp .gtr t x y ty) ρ J (.bool (decide (q<p))) J:=L0 hi hx hy At7
theorem Agq{k p q}{ty:Nat}(hi:okI E.P t=true)(hx:Ah E ρ x=some (.int k p))(hy:Ah E ρ y=some (.int k q)):As E Rr (.binOp .geq t x y ty) ρ J (.bool (decide (q<=p))) J:=L0 hi hx hy At8
theorem H4{k p q}{ty:Nat}(hi:okI E.P t=true)(hx:Ah E ρ x=some (.int k p))(hy:Ah E ρ y=some (.int k q)):As E Rr (.binOp .eql t x y ty) ρ J (.bool (decide (p=q))) J:=L0 hi hx hy At9
theorem Aqz{k p q}{ty:Nat}(hi:okI E.P t=true)(hx:Ah E ρ x=some (.int k p))(hy:Ah E ρ y=some (.int k q)):As E Rr (.binOp .neq t x y ty) ρ J (.bool (!decide (p=q))) J:=L0 hi hx hy Aua
theorem D3{p q}{ty:Nat}(hi:okI E.P t=true)(hx:Ah E ρ x=some (.int .i64 (.ofNat p)))(hy:Ah E ρ y=some (.int .i64 (.ofNat q)))(hb:p+q<9223372036854775808):
  As E Rr (.binOp .add t x y ty) ρ J (.int .i64 (.ofNat (p+q))) J:=L0 hi hx hy (Aub hb)
theorem Awy{p q}{ty:Nat}(hi:okI E.P t=true)(hx:Ah E ρ x=some (.str p))(hy:Ah E ρ y=some (.str q)):As E Rr (.binOp .eql t x y ty) ρ J (.bool (decide (p=q))) J:=Agp hi hx hy Amg
theorem Awz{p q}{ty:Nat}(hi:okI E.P t=true)(hx:Ah E ρ x=some (.str p))(hy:Ah E ρ y=some (.str q)):As E Rr (.binOp .neq t x y ty) ρ J (.bool (!decide (p=q))) J:=Agp hi hx hy Auc
theorem Dc{bb}(hx:Ah E ρ x=some (.bool bb)):As E Rr (.unOp .not t x) ρ J (.bool (!bb)) J:=fun tm h=>by
 simp only[opA,Aw,h.opd hx,unA,Sx]
theorem S7{vs i}(hx:Ah E ρ x=some (.tup vs))(hv:vs[i]? =some v):As E Rr (.extract x i) ρ J v J:=fun tm h=>by
 simp only[opA,Aw,h.opd hx,Nc,hv]
theorem Amh{f p q}(hp:Kc E ρ p.toList=some l)(hq:Kc E ρ q.toList=some l'):As E Rr (.makeFunc f p q) ρ J (.fn f l l') J:=fun tm h=>by
 simp only[opA,Aw,h.opds hp,h.opds hq,Al4]
theorem Ami{f args}{tys:Array Nat}{k:Nat}{vs first cap full}(hf:Ah E ρ f=some (.fn (.func k) first cap))(ha:Kc E ρ args.toList=some vs)
  (hl:first++vs++cap=full)(hr:Rr (.fn k) full J=some (v,J')):As E Rr (.call ⟨.value f,args,tys⟩) ρ J v J':=fun tm h=>by
 subst hl;simp only[opA,h.opd hf,h.opds ha,Rb,hr]
theorem Abe{kt sz agg}(h:mpI E.P t=some (kt,z,sz,agg)):∃ti et te,Ay E.P t=some ti/\ti.desc=.map kt et/\Ay E.P et=some te/\Lh te=some z/\te.size=sz/\te.isAgg=agg:=by
 unfold mpI at h
 grind
def Xz(J:Sto)(kt:Nat)(es:List (Key×AV)):AV->Prop
 |.mp r=>∃ver,J.get r=some (.map kt es ver)
 |.nil (.map none)=>es=[]
 |_=>False
theorem X3{kt es u}(h:Xz J kt es u):(∃r ver,u=.mp r/\J.get r=some (.map kt es ver))∨(u=.nil (.map none)/\es=[]):=by
 unfold Xz at h
 grind
theorem Aet{kt sz agg key es}(hi:mpI E.P t=some (kt,z,sz,agg))(hx:Ah E ρ x=some u)(hm:Xz J kt es u)
  (hy:Ah E ρ y=some u')(hk:D4 E.P kt u'=some key):As E Rr (.lookup t x y false) ρ J ((D5 key es).getD z) J:=fun tm h=>by
 obtain⟨ti,et,te,h1,h2,h3,h4,h5,h6⟩:=Abe hi;simp only[opA,Aw,h1,h2,h3,h4,h.opd hx,h.opd hy,hk,Ky]
 rcases X3 hm with⟨r,ver,rfl,hm'⟩|⟨rfl,rfl⟩
 ·simp only[hm',aw_];cases D5 key es<;>rfl
 ·simp[D5,Aae]
theorem Abf{kt sz agg key es}(hi:mpI E.P t=some (kt,z,sz,agg))(hx:Ah E ρ x=some u)(hm:Xz J kt es u)
  (hy:Ah E ρ y=some u')(hk:D4 E.P kt u'=some key):As E Rr (.lookup t x y true) ρ J (.tup [(D5 key es).getD z,.bool (D5 key es).isSome]) J:=fun tm h=>by
 obtain⟨ti,et,te,h1,h2,h3,h4,h5,h6⟩:=Abe hi;simp only[opA,Aw,h1,h2,h3,h4,h.opd hx,h.opd hy,hk,Ky]
 rcases X3 hm with⟨r,ver,rfl,hm'⟩|⟨rfl,rfl⟩
 ·simp only[hm',aw_];cases D5 key es<;>rfl
 ·simp[D5,Aae]
def Aot(k:Key)(v:AV)(es:List (Key×AV)):List (Key×AV):=match D5 k es with|some _=>Ph k v es|none=>Nx k v es
theorem Aeu{kt sz ver r agg key es w}(hi:mpI E.P t=some (kt,z,sz,agg))(hx:Ah E ρ x=some (.mp r))(hm:J.get r=some (.map kt es ver))
  (hy:Ah E ρ y=some u')(hk:D4 E.P kt u'=some key)(hw:Ah E ρ w=some v)(hf:∀te:TI,te.size=sz->te.isAgg=agg->Je te v=true):
  As E Rr (.mapUpdate t x y w) ρ J An (J.set r (.map kt (Aot key v es) (ver+1))):=fun tm h=>by
 obtain⟨ti,et,te,h1,h2,h3,h4,h5,h6⟩:=Abe hi;simp only[opA,Aw,h1,h2,h3,h.opd hx,h.opd hy,h.opd hw,hk,N1,hm,aw_,hf te h5 h6,be_,Ak,Aot]
 grind
theorem Gx{kt sz agg}(hi:mpI E.P t=some (kt,z,sz,agg)):As E Rr (.makeMap t none) ρ J (.mp (nx J)) (J.new (.map kt [] 0)):=fun tm h=>by
 obtain⟨ti,et,te,h1,h2,h3,h4,h5,h6⟩:=Abe hi;simp only[opA,Aw,h1,h2,T5]
theorem Bf{t₀}(hi:Mk E.P t₀=true)(hx:Ah E ρ x=some u)(hl:lenA u=some n)(hs:Ad9 u=true):As E Rr (.call ⟨.builtin .len,#[x],#[t₀]⟩) ρ J (.int .i64 (.ofNat n)) J:=fun tm h=>by
 unfold Mk at hi
 split at hi
 ·rename_i ti hti
  split at hi
  ·rename_i e hd
   simp only[opA,Aw,hti,Ee,hd,h.opd hx,opds,sLen]
   rcases Abd hl hs with⟨a,off,sz',cap,rfl⟩|⟨cs,sz',cap,rfl⟩|⟨rfl,rfl⟩<;>rfl
  grind
 grind
theorem Aou{t₀ s}(hi:Fs E.P t₀=true)(hx:Ah E ρ x=some (.str s)):As E Rr (.call ⟨.builtin .len,#[x],#[t₀]⟩) ρ J (.int .i64 (.ofNat s.length)) J:=fun tm h=>by
 unfold Fs at hi
 split at hi
 ·rename_i ti hti
  split at hi
  ·rename_i hd
   simp only[opA,Aw,hti,Ee,hd,h.opd hx,opds,Zt,Ak]
  grind
 grind
end
section
open Go Go.Proofs
def Ak1:List AV:=[.str [],.bool false,.int .i64 0,.int .i64 0,.str [36,99],.bool false,.int .i64 1,.int .i64 200,.str [36,118],.bool false,.int .i64 1,.int .i64 200,.str [36,102],.bool true,.int .i64 2,.int .i64 2,
 .str [36,101],.bool true,.int .i64 1,.int .i64 200,.str [36,100],.bool false,.int .i64 1,.int .i64 200,.str [36,97],.bool true,.int .i64 1,.int .i64 200,.str [36,112],.bool true,.int .i64 1,.int .i64 200,
 .str [36,123],.bool false,.int .i64 0,.int .i64 0,.str [36,125],.bool false,.int .i64 0,.int .i64 0]
def glW(g:Nat):Option (List AV):=match Nat.beq g 0 with|true=>some Ak1|false=>none
noncomputable def Ew:Env:={ P:=Tryz.prog,gl:=glW,sum:=fun _=>none,dsum:=fun _=>none,byref:=fun _=>false }
theorem Di:Tryz.prog.follows .mixedOrders=true:=by kernel_rfl
def Abg(fn:Func):Bool:= !(fn.name== "runtime.NumGoroutine")
theorem Agr:Tryz.prog.funcs.toList.all Abg=true:=by kernel_rfl
theorem Ke(f:Nat)(fn)(h:Tryz.prog.funcs[f]? =some fn):(fn.name== "runtime.NumGoroutine")=false:=by
 have h1:fn∈Tryz.prog.funcs.toList:=gr;have:=b_.1 Agr fn h1
 simpa[Abg]using this
end
section
variable {E:Env}{C C':Ctx}{N N':Nat}{w w':World}{Rr:Rec}
theorem Ig:∀(l:List AV) (i:Nat) (t:Tr AV) (j:Nat),(Kz l i t).get j=if i<=j/\j<i+l.length then l[j-i]? else t.get j
 |[],i,t,j=>by simp only[Kz];rw[if_neg (by simp)]
 |x::r,i,t,j=>by
  simp only[Kz];rw[Ig r (i+1),dd_];simp only[as_]
  by_cases h1:i+1<=j/\j<i+1+r.length
  ·rw[if_pos h1,if_pos Om,show j-i=(j-(i+1))+1 by omega];rfl
  ·rw[if_neg h1]
   by_cases h2:j=i
   ·subst h2;rw[if_pos rfl,if_pos Om];simp
   ·rw[if_neg h2,if_neg Om]
theorem Ags{P J}(hs:Sim P C w J){tm tmps}(ht:TR C (nx J) w tm tmps){r v}(h:Aai P tm J r=some v):
  ∃x,((match r with
   |.tmp t=>pure (tmps.getD t undef)
   |.cell a t=>do loadVar t (←asAddr (tmps.getD a undef)):Sem Value)).run P w=.ok x w/\R C (nx J) w v x:=by
 cases r with
 |tmp t=>exact⟨_,rfl,ht t v h⟩
 |cell a t=>
  simp only[Aai]at h
  split at h
  ·rename_i ti hti
   split at h
   ·rename_i b off cr
    split at h
    ·rename_i vs hvs
     have hX:=ht a _ cr
     have hl:Na ti (.pr b off) J=some (v,J):=by simp[Na,hvs,h]
     obtain⟨_,x,q1,q2⟩:=P1 hs hti hX hl;unfold R at hX;obtain⟨ad,hX,_⟩:=hX;refine⟨x,?_,q2⟩
     show((do loadVar t (←asAddr (tmps.getD a undef)):Sem Value)).run P w=_
     rw[hX]at q1⊢
     simpa[Instr.loadAt,Instr.sureAddr,asAddr]using q1
    ·cases h
   ·cases h
  ·cases h
theorem Abh{P J}(hs:Sim P C w J){tm tmps}(ht:TR C (nx J) w tm tmps){f:ResultVar->Sem Value}
  (hf:∀r,f r=match r with
   |.tmp t=>pure (tmps.getD t undef)
   |.cell a t=>do loadVar t (←asAddr (tmps.getD a undef))):∀{rs:List ResultVar} {vs:List AV},Ahw P tm J rs=some vs->∃xs,(rs.mapM f).run P w=.ok xs w/\RL C (nx J) w vs xs
 |[],vs,h=>by simp only[Ahw,af_]at h;subst h;exact⟨[],by simp,by unfold RL;trivial⟩
 |r::rs,vs,h=>by
  simp only[Ahw]at h
  split at h
  ·rename_i v l hv hl
   cases h;obtain⟨x,h1,h2⟩:=Ags hs ht hv;obtain⟨xs,h3,h4⟩:=Abh hs ht hf hl
   refine⟨x::xs,?_,by unfold RL;exact⟨h2,h4⟩⟩
   have h1':(f r).run P w=.ok x w:=by rw[hf r];exact h1
   simp[h_,h1',h3]
  ·cases h
theorem Hx{P J}(hs:Sim P C w J){tm fn tmps}(ht:TR C (nx J) w tm tmps){vs}(h:Ahw P tm J fn.results.toList=some vs):
  ∃x,(results fn tmps).run P w=.ok x w/\R C (nx J) w (Akq vs) x:=by
 obtain⟨f,hf,he⟩:∃f:ResultVar->Sem Value,(∀r,f r=match r with
   |.tmp t=>pure (tmps.getD t undef)
   |.cell a t=>do loadVar t (←asAddr (tmps.getD a undef)))/\results fn tmps=(do let vs←fn.results.mapM f;pure (if h:vs.size=1 then vs[0]else .tuple vs)):=
  ⟨_,fun r=>by cases r<;>rfl,rfl⟩
 obtain⟨xs,h1,h2⟩:=Abh hs ht hf h
 have hr:(results fn tmps).run P w=.ok (if h:xs.toArray.size=1 then xs.toArray[0]else .tuple xs.toArray) w:=by
  rw[he];simp only[Array.mapM_eq_mapM_toList,Sem.run_bind,Sem.run_map];rw[h1]
  simp
 refine⟨_,hr,?_⟩
 match vs,xs,h2 with
 |[],[],_=>unfold Akq R;exact⟨#[],rfl,by unfold RL;trivial⟩
 |[v],[x],h2=>unfold RL at h2;exact h2.1
 |v::v'::r,x::x'::s,h2=>
  have:¬(x::x'::s).toArray.size=1:=by simp
  rw[dif_neg this];simp only[Akq];unfold R;exact⟨_,rfl,h2⟩
 |[],_::_,h2=>unfold RL at h2;exact h2.elim
 |[_],[],h2=>unfold RL at h2;exact h2.elim
 |[_],_::_::_,h2=>unfold RL at h2;have:=h2.2;unfold RL at this;exact this.elim
 |_::_::_,[],h2=>unfold RL at h2;exact h2.elim
 |_::_::_,[_],h2=>unfold RL at h2;have:=h2.2;unfold RL at this;exact this.elim
theorem Ur{C w J args vs}{fn:Func}(hs:Sim E.P C w J)(hg:Iw C (nx J) w E)(bp:RL C (nx J) w args vs.toList)(hle:args.length<=fn.ntmps):
  SSt E C w ⟨Kz args 0 .e,fn.ntmps,[],J⟩ { tmps:=vs++Array.replicate (fn.ntmps-vs.size) undef,defers:=[] }:=by
 have bl:=bp.length;simp only[cd_]at bl
 refine⟨hs,hg,fun i y hy=>?_,by simp;omega,by unfold DR;trivial⟩
 simp only at hy;rw[Ig]at hy
 split at hy
 ·rename_i hi
  rw[es_]at hy;obtain⟨x,k1,k2⟩:=bp.get i y hy
  have:(vs++Array.replicate (fn.ntmps-vs.size) undef).getD i undef=x:=by
   rw[bo_,ek_ Om,←bw_,k1];rfl
  rw[this];exact k2
 ·simp[Tr.get]at hy
end
def Oh:Obj->Bool
 |.cells .. =>false
 |_=>true
structure Jb (w w':World)(l:Nat):Prop where
 size:w'.heap.size=w.heap.size
 other:∀b,b≠l->w'.heap[b]? =w.heap[b]?
 was:∃o,w.heap[l]? =some o/\Oh o=true
 is:∃o,w'.heap[l]? =some o/\Oh o=true
 os:w'.os=w.os/\w'.output=w.output
theorem Jb.put{w l o o'}(h:w.heap[l]? =some o)(h1:Oh o=true)(h2:Oh o'=true):Jb w (w.putObj l o') l:=
 ⟨World.putObj_size,fun b hb=>World.putObj_heap_other hb,⟨o,h,h1⟩,⟨o',World.putObj_heap_same (bc_.1 h).1,h2⟩,rfl,rfl⟩
abbrev gy_:=@Jb.put
section
variable {C:Ctx}{N:Nat}{w w':World}{l:Nat}
theorem Jb.cell(t:Jb w w' l){a v}(h:w.cell? a=some v):w'.cell? a=some v:=by
 by_cases hb:a.block=l
 ·obtain⟨o,h1,h2⟩:=t.was;unfold World.cell? at h;rw[hb,h1]at h;cases o<;>simp[Oh]at h2<;>simp at h
 ·unfold World.cell? at *;rw[t.other _ hb];exact h
theorem Jb.csize(t:Jb w w' l)(c):csize w' c=csize w c:=by
 unfold AM.csize
 by_cases hb:c=l
 ·subst hb;obtain⟨o,h1,h2⟩:=t.was;obtain⟨o',k1,k2⟩:=t.is;rw[h1,k1];cases o<;>simp[Oh]at h2<;>cases o'<;>simp[Oh]at k2<;>rfl
 ·rw[t.other _ hb]
mutual
theorem R.turn (t:Jb w w' l):∀(x:AV) (v:Value),R C N w x v->R C N w' x v
 |.pr _ _,v,hr=>by unfold R at *;exact hr
 |.sr a off sz len cap,v,hr=>by
  unfold R at *;obtain⟨ad,k,h1,h2,h3,h4,h5⟩:=hr
  exact⟨ad,k,h1,h2,h3,h4,fun c o hc=>by rw[t.csize];exact h5 c o hc⟩
 |.mp _,v,hr=>by unfold R at *;exact hr
 |.it _,v,hr=>by unfold R at *;exact hr
 |.stp _,v,hr=>by unfold R at *;exact hr
 |.yl _,v,hr=>by unfold R at *;exact hr
 |.flt _ _,v,hr=>by unfold R at *;exact hr
 |.pv cs,v,hr=>by
  unfold R at *;obtain⟨c,o,h1,h2,h3⟩:=hr;exact⟨c,o,h1,h2,RC.turn t cs c o h3⟩
 |.sv cs sz len cap,v,hr=>by
  unfold R at *;obtain⟨ado,q,h1,h2,h3,h4,h0,hh⟩:=hr;refine⟨ado,q,h1,h2,h3,h4,h0,fun ad ha=>?_⟩
  obtain⟨h5,h6,h7⟩:=hh ad ha;exact⟨h5,h6,RC.turn t cs ad.block ad.off h7⟩
 |.fn f p q,v,hr=>by
  unfold R at *;obtain⟨a,c,h1,h2,h3⟩:=hr;exact⟨a,c,h1,RL.turn t p _ h2,RL.turn t q _ h3⟩
 |.ifc ty x,v,hr=>by
  unfold R at *;obtain⟨y,h1,h2⟩:=hr;exact⟨y,h1,R.turn t x y h2⟩
 |.agg cs,v,hr=>by
  unfold R at *;obtain⟨a,h1,h2,h3⟩:=hr;exact⟨a,h1,RL.turn t cs _ h2,h3⟩
 |.tup vs,v,hr=>by
  unfold R at *;obtain⟨a,h1,h2⟩:=hr;exact⟨a,h1,RL.turn t vs _ h2⟩
 |.any,v,hr=>by unfold R;trivial
 |.bool x,v,hr=>by unfold R at *;exact hr
 |.int k' n,v,hr=>by unfold R at *;exact hr
 |.str l,v,hr=>by unfold R at *;exact hr
 |.nil y,v,hr=>by unfold R at *;exact hr
theorem RC.turn (t:Jb w w' l):∀(cs:List AV) (c o:Nat),RC C N w c cs o->RC C N w' c cs o
 |[],c,o,_=>by unfold RC;trivial
 |x::r,c,o,hr=>by
  unfold RC at *;obtain⟨⟨v,h1,h2,h3⟩,h4⟩:=hr;exact⟨⟨v,t.cell h1,h2,R.turn t x v h3⟩,RC.turn t r c (o+1) h4⟩
theorem RL.turn (t:Jb w w' l):∀(l:List AV) (vs:List Value),RL C N w l vs->RL C N w' l vs
 |[],[],_=>by unfold RL;trivial
 |x::r,v::s,hr=>by
  unfold RL at *;exact⟨R.turn t x v hr.1,RL.turn t r s hr.2⟩
 |[],_::_,hr=>by unfold RL at hr;exact hr.elim
 |_::_,[],hr=>by unfold RL at hr;exact hr.elim
end
theorem ER.turn(t:Jb w w' l):∀{l:List (Key×AV)} {L:List MapEntry},ER C N w l L->ER C N w' l L
 |[],[],_=>by unfold ER;trivial
 |x::r,f::s,h=>by unfold ER at *;exact⟨⟨h.1.1,R.turn t _ _ h.1.2⟩,ER.turn t h.2⟩
 |[],_::_,h=>by unfold ER at h;exact h.elim
 |_::_,[],h=>by unfold ER at h;exact h.elim
theorem OR.turn{P J a O}(h:OR P C w J a O)(t:Jb w w' l)(hl:¬C.own l):OR P C w' J a O:=by
 have hh:∀{a c o},C.loc a=some (c,o)->w'.heap[c]? =w.heap[c]? :=fun{a c o} hc=>t.other c (fun e=>hl (.inr ⟨a,o,e▸hc⟩))
 cases O with
 |cells vs=>
  obtain⟨c,o,cs,T,h1,h2,h3⟩:=h;exact⟨c,o,cs,T,h1,(hh h1).trans h2,RC.turn t _ _ _ h3⟩
 |map kt es ver=>
  obtain⟨c,E,clock,h1,h2,h3⟩:=h;obtain⟨L,k1,k2⟩:=h3.perm;exact⟨c,E,clock,h1,(hh h1).trans h2,h3.typed,⟨L,k1,ER.turn t k2⟩,h3.keys,h3.born,h3.apart⟩
 |iter m ver left cur=>
  cases m with
  |none=>
   obtain⟨c,since,seen,last,h1,h2,h3⟩:=h;exact⟨c,since,seen,last,h1,(hh h1).trans h2,h3⟩
  |some m=>
   obtain⟨h0,c,cm,since,seen,last,h1,h2,h3⟩:=h;refine⟨h0,c,cm,since,seen,last,h1,(hh h1).trans h2,fun kt es' v' hg=>?_⟩
   obtain⟨k1,k2⟩:=h3 kt es' v' hg;refine⟨k1,fun hv=>?_⟩
   obtain⟨E,q1,q2,q3,⟨L,q4,q5⟩,q6⟩:=k2 hv;exact⟨E,q1,(hh q1).trans q2,q3,⟨L,q4,ER.turn t q5⟩,fun k x hk=>let⟨f,f1,f2,f3,f4⟩:=q6 k x hk;⟨f,f1,f2,f3,R.turn t _ _ f4⟩⟩
 |stamp m ver k=>
  obtain⟨h0,h3⟩:=h;refine⟨h0,fun kt es' v' hg=>?_⟩
  obtain⟨k1,k2⟩:=h3 kt es' v' hg;refine⟨k1,fun hv=>?_⟩
  obtain⟨cm,E,clock,q1,q2,f⟩:=k2 hv;exact⟨cm,E,clock,q1,(hh q1).trans q2,f⟩
 |loop st=>
  obtain⟨c,r,h1,h2,h3⟩:=h;exact⟨c,r,h1,h2,(hh h1).trans h3⟩
theorem Sim.turn{P J}(h:Sim P C w J)(t:Jb w w' l)(hl:¬C.own l):Sim P C w' J:=
 ⟨fun a O hg=>(h.obj a O hg).turn t hl,h.bound,h.dom,h.inj,fun a c o hc=>by rw[t.size];exact h.lt a c o hc,fun b hb=>by rw[t.size];exact h.rlt b hb,h.rdis⟩
theorem Bm(J):nx J.bump=nx J+1:=by cases J;simp only[Sto.bump,Ak,nx]
theorem Fh(J:Sto)(a):J.bump.get a=J.get a:=by cases J;simp only[Sto.bump,Ak,Sto.get]
theorem Sim.bump{P J}(h:Sim P C w J)(n):
  Sim P (C.addStm (nx J) n) w J.bump/\Ext C (nx J) w (C.addStm (nx J) n) (nx J+1) w:=by
 have hne:∀{a},a<nx J->¬a=nx J:=fun h=>by omega
 have e:Ext C (nx J) w (C.addStm (nx J) n) (nx J+1) w:=⟨by omega,nl,fun b _ ho=>⟨ho,rfl⟩,fun _ _ _ h=>h,
  fun a ha=>by simp[Ctx.addStm,hne ha],fun _ _=>rfl,fun _ _ _ _ _=>rfl,⟨rfl,fun _ _=>rfl⟩,rfl,rfl⟩
 refine⟨⟨fun a X hg=>?_,fun a X hg=>?_,fun a q hq=>?_,h.inj,h.lt,h.rlt,h.rdis⟩,e⟩
 ·rw[Fh]at hg
  refine(h.obj a X hg).ext (by rw[Bm];exact e) (h.bound a X hg) rfl (fun _ _ _=>rfl) fun x hx kt es' v' hg'=>?_
  rw[Fh]at hg';exact⟨kt,es',v',hg',nl,fun _=>⟨rfl,fun _ _ _=>rfl⟩⟩
 ·rw[Bm];rw[Fh]at hg;have:=h.bound a X hg;omega
 ·rw[Fh];exact h.dom a q hq
end
attribute [grind=] Bm Fh
section
variable {E:Env}{C C' C₁ C₂:Ctx}{N N' N₁ N₂:Nat}{w w' w₁ w₂ w₃ w₄:World}{l:Nat}
theorem Ext.turnNew(e:Ext C N w C₁ N₁ w₁)(t:Jb w₁ w₂ l)(hl:¬C₁.own l)(hge:w.heap.size<=l):Ext C N w C₁ N₁ w₂ where
 next:=e.next
 size:=by rw[t.size];exact e.size
 keep b hb ho:=by
  obtain⟨k1,k2⟩:=e.keep b hb ho
  exact⟨k1,by rw[t.other b Om,k2]⟩
 loc:=e.loc
 stm:=e.stm
 lr:=e.lr
 bsz a ha c o hc:=by rw[t.csize];exact e.bsz a ha c o hc
 res:=⟨e.res.1,fun b hb=>by rw[t.other b (fun he=>hl (.inl (by rw[e.res.1];grind))),e.res.2 b hb]⟩
 os:=⟨t.os.1.trans e.os.1,t.os.2.trans e.os.2⟩
end
def Ctx.setLoop(C:Ctx)(a:Nat)(n:Int)(r:Loop):Ctx:={ C with stm:=fun b=>if b=a then n else C.stm b,lr:=fun b=>if b=a then some r else C.lr b }
section
variable {P:Program}{C:Ctx}{w w':World}{J:Sto}
theorem Sim.setLoop(h:Sim P C w J)(n r):Sim P (C.setLoop (nx J) n r) w J/\Ext C (nx J) w (C.setLoop (nx J) n r) (nx J) w:=by
 have hne:∀{a},a<nx J->¬a=nx J:=gr;have e:Ext C (nx J) w (C.setLoop (nx J) n r) (nx J) w:=⟨nl,nl,fun b _ ho=>⟨ho,rfl⟩,fun _ _ _ h=>h,
  fun a ha=>by simp[Ctx.setLoop,hne ha],fun a ha=>by simp[Ctx.setLoop,hne ha],fun _ _ _ _ _=>rfl,⟨rfl,fun _ _=>rfl⟩,rfl,rfl⟩
 exact⟨⟨fun a X hg=>(h.obj a X hg).ext e (h.bound a X hg) rfl (fun _ _ _=>rfl) fun x _ kt es' v' hg'=>⟨kt,es',v',hg',nl,fun _=>⟨rfl,fun _ _ _=>rfl⟩⟩,
  h.bound,h.dom,h.inj,h.lt,h.rlt,h.rdis⟩,e⟩
theorem Sim.newLoop(h:Sim P C w J){r}(hr:C9 r .ready=r)(p:Pu w w' (.loop r)):
  Sim P ((C.setLoop (nx J) (w.heap.size:Int) r).add (nx J) w.heap.size 0) w' (J.new (.loop .ready))/\
  Ext C (nx J) w ((C.setLoop (nx J) (w.heap.size:Int) r).add (nx J) w.heap.size 0) (nx J+1) w':=by
 obtain⟨h1,e1⟩:=h.setLoop (w.heap.size:Int) r
 obtain⟨h2,e2⟩:=h1.new p (.loop .ready) rfl fun _=>⟨w.heap.size,r,by simp[Ctx.add],by simp[Ctx.add,Ctx.setLoop],by rw[hr];exact p.here⟩
 exact⟨h2,e1.trans e2⟩
theorem Sim.turnLoop(h:Sim P C w J){a st}(hg:J.get a=some (.loop st))(st'):
  ∃c r,C.loc a=some (c,0)/\C.lr a=some r/\w.heap[c]? =some (.loop (C9 r st))/\
   Sim P C (w.putObj c (.loop (C9 r st'))) (J.set a (.loop st'))/\Ext C (nx J) w C (nx J) (w.putObj c (.loop (C9 r st'))):=by
 obtain⟨c,r,h1,h2,h3⟩:=h.obj a _ hg;have hlt:=(bc_.1 h3).1;have p:Wr w (w.putObj c (.loop (C9 r st'))) c (.loop (C9 r st')):=⟨World.putObj_size,World.putObj_heap_same hlt,fun b hb=>World.putObj_heap_other hb,rfl,rfl⟩
 have hsz:csize (w.putObj c (.loop (C9 r st'))) c=csize w c:=by unfold csize;rw[p.here,h3]
 obtain⟨k1,k2⟩:=h.upd h1 p hsz hg (.loop st') rfl gr fun _=>⟨c,r,h1,h2,p.here⟩
 grind
end
section
variable {E:Env}{Rr:Rec}
theorem Aq0{C N w x vs}(h:RL C N w [x] vs.toList):∃v,vs=#[v]/\R C N w x v:=by
 obtain⟨l⟩:=vs
 match l,h with
 |[],h=>unfold RL at h;exact h.elim
 |[v],h=>unfold RL at h;exact⟨v,rfl,h.1⟩
 |_::_::_,h=>unfold RL at h;have:=h.2;unfold RL at this;exact this.elim
def Gl(b B:Nat)(C:Ctx)(N:Nat)(w:World):Prop:=b<N/\(C.stm b).toNat=B/\B<=w.heap.size
theorem Gl.ext{b B C N w C' N' w'}(h:Gl b B C N w)(e:Ext C N w C' N' w'):Gl b B C' N' w':=
 ⟨ak_ h.1 e.next,by rw[e.stm b h.1];exact h.2.1,ai_ h.2.2 e.size⟩
theorem MB.of_DR{C N w}:∀{r:List (Nat×List AV)} {ds:List Deferred},DR C N w r ds->MB C N r w.heap.size
 |[],_,_=>fun x hx=>by cases hx
 |y::r,[],h=>by unfold DR at h;grind
 |y::r,d::ds,h=>by
  unfold DR at h;intro x hx hk a b hab
  rcases an_.1 hx with rfl|hx
  ·grind
  ·exact MB.of_DR h.2 x hx hk a b hab
end
section
mutual
def AV.und (N:Nat):AV->Bool
 |.pr a _=>Nat.blt a N
 |.sr a _ _ _ _=>Nat.blt a N
 |.mp a=>Nat.blt a N
 |.it a=>Nat.blt a N
 |.stp a=>Nat.blt a N
 |.yl a=>Nat.blt a N
 |.pv cs=>AV.unds N cs
 |.sv cs _ _ _=>AV.unds N cs
 |.fn _ p q=>AV.unds N p&&AV.unds N q
 |.ifc _ x=>AV.und N x
 |.agg cs=>AV.unds N cs
 |.tup vs=>AV.unds N vs
 |_=>true
def AV.unds (N:Nat):List AV->Bool
 |[]=>true
 |x::r=>AV.und N x&&AV.unds N r
end
structure Ak2 (C' C:Ctx):Prop where
 loc:∀a p,C'.loc a=some p->C.loc a=some p
 stm:C'.stm=C.stm
 lr:C'.lr=C.lr
 res:C'.res=C.res
section
variable {C:Ctx}{N M:Nat}{w:World}
theorem Ce{a N}(h:a<N):Nat.blt a N=true:=by simpa using h
theorem Gy{a N}(h:Nat.blt a N=true):a<N:=by simpa using h
mutual
theorem R.und:∀(x:AV) (v:Value),R C N w x v->AV.und N x=true
 |.any,_,_=>rfl
 |.bool _,_,_=>rfl
 |.int _ _,_,_=>rfl
 |.str _,_,_=>rfl
 |.nil _,_,_=>rfl
 |.flt _ _,_,_=>rfl
 |.pr a _,v,h=>by unfold R at h;obtain⟨_,_,h,_⟩:=h;exact Ce h
 |.sr a _ _ _ _,v,h=>by unfold R at h;obtain⟨_,_,_,h,_⟩:=h;exact Ce h
 |.mp a,v,h=>by unfold R at h;obtain⟨_,_,h,_⟩:=h;exact Ce h
 |.it a,v,h=>by unfold R at h;obtain⟨_,_,h,_⟩:=h;exact Ce h
 |.stp a,v,h=>by unfold R at h;exact Ce h.2
 |.yl a,v,h=>by unfold R at h;exact Ce h.2
 |.pv cs,v,h=>by unfold R at h;obtain⟨c,o,_,_,h⟩:=h;exact RC.unds cs c o h
 |.sv cs sz len cap,v,h=>by
  unfold R at h;obtain⟨ado,k,_,h1,_,h2,h3,h4⟩:=h;cases ado with
  |none=>
   have hk:=h3 rfl
   have hl:len=0:=by omega
   rw[hl,dw_]at h2;have:=ce_ h2;subst this;rfl
  |some ad=>exact RC.unds cs _ _ (h4 ad rfl).2.2
 |.fn _ p q,v,h=>by
  unfold R at h;obtain⟨a,b,_,h1,h2⟩:=h;simp only[AV.und,ad_];exact⟨RL.unds p _ h1,RL.unds q _ h2⟩
 |.ifc _ x,v,h=>by unfold R at h;obtain⟨y,_,h⟩:=h;exact R.und x y h
 |.agg cs,v,h=>by unfold R at h;obtain⟨a,_,h,_⟩:=h;exact RL.unds cs _ h
 |.tup vs,v,h=>by unfold R at h;obtain⟨a,_,h⟩:=h;exact RL.unds vs _ h
theorem RC.unds:∀(cs:List AV) (c o:Nat),RC C N w c cs o->AV.unds N cs=true
 |[],_,_,_=>rfl
 |x::r,c,o,h=>by
  unfold RC at h;obtain⟨⟨v,_,_,h1⟩,h2⟩:=h;simp only[AV.unds,ad_];exact⟨R.und x v h1,RC.unds r c (o+1) h2⟩
theorem RL.unds:∀(l:List AV) (vs:List Value),RL C N w l vs->AV.unds N l=true
 |[],[],_=>rfl
 |x::r,v::s,h=>by
  unfold RL at h;simp only[AV.unds,ad_];exact⟨R.und x v h.1,RL.unds r s h.2⟩
 |[],_::_,h=>by unfold RL at h;grind
 |_::_,[],h=>by unfold RL at h;grind
end
theorem Ak2.own{C'}(k:Ak2 C' C){c}(h:C'.own c):C.own c:=by
 rcases h with h|⟨a,o,h⟩
 ·exact .inl (by rw[←k.res];exact h)
 ·exact .inr ⟨a,o,k.loc a _ h⟩
variable {C':Ctx}
mutual
theorem R.cut (k:Ak2 C' C):∀(x:AV) (v:Value),AV.und M x=true->R C N w x v->R C' M w x v
 |.any,_,_,_=>by unfold R;trivial
 |.bool _,_,_,h=>by unfold R at *;exact h
 |.int _ _,_,_,h=>by unfold R at *;exact h
 |.str _,_,_,h=>by unfold R at *;exact h
 |.nil _,_,_,h=>by unfold R at *;exact h
 |.flt _ _,_,_,h=>by unfold R at *;exact h
 |.pr a _,v,b,h=>by
  unfold R at *;obtain⟨ad,h1,h2,h3⟩:=h;exact⟨ad,h1,Gy b,fun c o hc=>h3 c o (k.loc _ _ hc)⟩
 |.sr a _ _ _ _,v,b,h=>by
  unfold R at *;obtain⟨ad,kk,h1,h2,h3,h4,h5⟩:=h;exact⟨ad,kk,h1,Gy b,h3,h4,fun c o hc=>h5 c o (k.loc _ _ hc)⟩
 |.mp a,v,b,h=>by
  unfold R at *;obtain⟨c,h1,h2,h3⟩:=h;exact⟨c,h1,Gy b,fun c' o hc=>h3 c' o (k.loc _ _ hc)⟩
 |.it a,v,b,h=>by
  unfold R at *;obtain⟨c,h1,h2,h3⟩:=h;exact⟨c,h1,Gy b,fun c' o hc=>h3 c' o (k.loc _ _ hc)⟩
 |.stp a,v,b,h=>by unfold R at *;rw[k.stm];exact⟨h.1,Gy b⟩
 |.yl a,v,b,h=>by unfold R at *;rw[k.stm];exact⟨h.1,Gy b⟩
 |.pv cs,v,b,h=>by
  unfold R at *;obtain⟨c,o,h1,h2,h3⟩:=h;exact⟨c,o,h1,fun hne ho=>h2 hne (k.own ho),RC.cut k cs c o b h3⟩
 |.sv cs sz len cap,v,b,h=>by
  unfold R at *;obtain⟨ado,kk,h1,h2,h3,h4,h0,hh⟩:=h;refine⟨ado,kk,h1,h2,h3,h4,h0,fun ad ha=>?_⟩
  obtain⟨h5,h6,h7⟩:=hh ad ha;exact⟨h5,fun hne ho=>h6 hne (k.own ho),RC.cut k cs _ _ b h7⟩
 |.fn _ p q,v,b,h=>by
  simp only[AV.und,ad_]at b;unfold R at *;obtain⟨a,c,h1,h2,h3⟩:=h;exact⟨a,c,h1,RL.cut k p _ b.1 h2,RL.cut k q _ b.2 h3⟩
 |.ifc _ x,v,b,h=>by unfold R at *;obtain⟨y,h1,h2⟩:=h;exact⟨y,h1,R.cut k x y b h2⟩
 |.agg cs,v,b,h=>by unfold R at *;obtain⟨a,h1,h2,h3⟩:=h;exact⟨a,h1,RL.cut k cs _ b h2,h3⟩
 |.tup vs,v,b,h=>by unfold R at *;obtain⟨a,h1,h2⟩:=h;exact⟨a,h1,RL.cut k vs _ b h2⟩
theorem RC.cut (k:Ak2 C' C):∀(cs:List AV) (c o:Nat),AV.unds M cs=true->RC C N w c cs o->RC C' M w c cs o
 |[],_,_,_,_=>by unfold RC;trivial
 |x::r,c,o,b,h=>by
  simp only[AV.unds,ad_]at b;unfold RC at *;obtain⟨⟨v,h1,h2,h3⟩,h4⟩:=h;exact⟨⟨v,h1,h2,R.cut k x v b.1 h3⟩,RC.cut k r c (o+1) b.2 h4⟩
theorem RL.cut (k:Ak2 C' C):∀(l:List AV) (vs:List Value),AV.unds M l=true->RL C N w l vs->RL C' M w l vs
 |[],[],_,_=>by unfold RL;trivial
 |x::r,v::s,b,h=>by
  simp only[AV.unds,ad_]at b;unfold RL at *;exact⟨R.cut k x v b.1 h.1,RL.cut k r s b.2 h.2⟩
 |[],_::_,_,h=>by unfold RL at h;grind
 |_::_,[],_,h=>by unfold RL at h;grind
end
def Jc(N:Nat)(es:List (Key×AV)):Bool:=es.all fun x=>AV.und N x.2
theorem ER.und:∀{es:List (Key×AV)} {L:List MapEntry},ER C N w es L->Jc N es=true
 |[],[],_=>rfl
 |x::r,f::s,h=>by
  unfold ER at h;simp only[Jc,cs_,ad_];exact⟨R.und _ _ h.1.2,ER.und h.2⟩
 |[],_::_,h=>by unfold ER at h;grind
 |_::_,[],h=>by unfold ER at h;grind
theorem ER.cut(k:Ak2 C' C):∀{es:List (Key×AV)} {L:List MapEntry},Jc M es=true->ER C N w es L->ER C' M w es L
 |[],[],_,_=>by unfold ER;trivial
 |x::r,f::s,b,h=>by
  simp only[Jc,cs_,ad_]at b;unfold ER at *;exact⟨⟨h.1.1,R.cut k _ _ b.1 h.1.2⟩,ER.cut k b.2 h.2⟩
 |[],_::_,_,h=>by unfold ER at h;grind
 |_::_,[],_,h=>by unfold ER at h;grind
end
mutual
inductive Fz (J U:Sto):AV->AV->Prop
 |same {v:AV}:AV.und (nx U) v=true->Fz J U v v
 |any {v:AV}:Fz J U v .any
 |pr {a off:Nat} {vs l:List AV}:J.get a=some (.cells vs)->U.get a=none->FzL J U (vs.drop off) l->Fz J U (.pr a off) (.pv l)
 |sr {a off sz len:Nat} {cap:Option Nat} {vs cs l:List AV}:J.get a=some (.cells vs)->U.get a=none->Dr (len*sz) (vs.drop off)=some cs->FzL J U cs l->Fz J U (.sr a off sz len cap) (.sv l sz len none)
 |nils {sz:Nat} {cap:Option Nat}:(∀q,cap=some q->q=0)->Fz J U (.nil (.slice none 0 0)) (.sv [] sz 0 cap)
 |agg {a b:List AV}:FzL J U a b->Fz J U (.agg a) (.agg b)
 |tup {a b:List AV}:FzL J U a b->Fz J U (.tup a) (.tup b)
 |sv {a b:List AV} {sz len:Nat} {cap cap':Option Nat}:(∀q,cap'=some q->cap=some q)->FzL J U a b->Fz J U (.sv a sz len cap) (.sv b sz len cap')
inductive FzL (J U:Sto):List AV->List AV->Prop
 |nil:FzL J U [] []
 |cons {x y:AV} {r s:List AV}:Fz J U x y->FzL J U r s->FzL J U (x::r) (y::s)
end
theorem FzL.length{J U}:∀{a b:List AV},FzL J U a b->a.length=b.length
 |_,_,.nil=>rfl
 |_,_,.cons _ h=>by simp[FzL.length h]
theorem FzL.same{J U}:∀{a:List AV},AV.unds (nx U) a=true->FzL J U a a
 |[],_=>.nil
 |x::r,h=>by simp only[AV.unds,ad_]at h;exact .cons (.same h.1) (FzL.same h.2)
abbrev dj_:=@FzL.same
section
variable {P:Program}{C:Ctx}{w:World}{J U:Sto}
theorem Ctx.keep_sub(C U):Ak2 (C.keep U) C:=by
 refine⟨fun a p h=>?_,rfl,rfl,rfl⟩
 simp only[Ctx.keep]at h
 grind
theorem Sim.freed(h:Sim P C w J){a c o}(hl:C.loc a=some (c,o))(ht:U.get a=none):¬(C.keep U).own c:=by
 rintro(hr|⟨b,o',hb⟩)
 ·exact h.rdis a c o hl hr
 ·simp only[Ctx.keep]at hb
  split at hb
  ·rename_i hs
   have:=h.inj a b c o o' hl hb
   grind
  grind
mutual
theorem Fz.R (h:Sim P C w J):∀{v v':AV} {x:Value},Fz J U v v'->R C (nx J) w v x->R (C.keep U) (nx U) w v' x
 |v,_,x,.same hu,hr=>R.cut (C.keep_sub U) v x hu hr
 |v,_,x,.any,hr=>by unfold AM.R;trivial
 |.pr a off,_,x,.pr (vs:=vs) (l:=l) hg ht hl,hr=>by
  obtain⟨c,o,cs,T,k1,k2,k3⟩:=h.obj a _ hg;unfold AM.R at hr⊢;obtain⟨ad,rfl,_,h3⟩:=hr;have:=h3 c o k1;subst this;exact⟨c,o+off,rfl,fun _=>h.freed k1 ht,FzL.RC h hl (k3.drop off)⟩
 |.sr a off sz len cap,_,x,.sr (vs:=vs) (cs:=cs) (l:=l) hg ht hk hl,hr=>by
  obtain⟨c,o,cs₀,T,k1,k2,k3⟩:=h.obj a _ hg;unfold AM.R at hr⊢;obtain⟨ad,k,rfl,_,h4,h5,h6⟩:=hr;obtain⟨q1,q2⟩:=h6 c o k1;obtain⟨t1,t2⟩:=Hu hk
  have bl:l.length=len*sz:=by rw[←hl.length];exact t2
  refine⟨some ad,k,rfl,h4,fun q hq=>(by cases hq),bl,fun hh=>(by cases hh),fun ad' ha=>?_⟩
  cases ha
  have ec:l≠[]->0<k:=fun hne=>by
   rcases de_ len with h0|h0
   ·rw[h0,dw_]at bl;grind
   ·omega
  refine⟨gr,fun hne=>by rw[q1 (ec hne)];exact h.freed k1 ht,?_⟩
  by_cases hne:l=[]
  ·subst hne;unfold AM.RC;trivial
  ·rw[q1 (ec hne)];exact FzL.RC h hl ((k3.drop off).take _ hk)
 |_,_,x,.nils (sz:=sz) hc,hr=>by
  unfold AM.R at hr⊢
  grind
 |_,_,x,.agg hl,hr=>by
  unfold AM.R at hr⊢;obtain⟨a,h1,h2,h3⟩:=hr;exact⟨a,h1,FzL.RL h hl h2,h3⟩
 |_,_,x,.tup hl,hr=>by
  unfold AM.R at hr⊢;obtain⟨a,h1,h2⟩:=hr;exact⟨a,h1,FzL.RL h hl h2⟩
 |_,_,x,.sv (a:=a) (b:=b) hc hl,hr=>by
  unfold AM.R at hr⊢;obtain⟨ado,k,h1,h2,h3,h4,h5,h6⟩:=hr
  refine⟨ado,k,h1,h2,fun q hq=>h3 q (hc q hq),by rw[←hl.length];exact h4,h5,fun ad ha=>?_⟩
  obtain⟨q1,q2,q3⟩:=h6 ad ha;refine⟨q1,fun hne ho=>q2 (fun h0=>?_) ((C.keep_sub U).own ho),FzL.RC h hl q3⟩
  have:=hl.length
  grind
theorem FzL.RL (h:Sim P C w J):∀{l l':List AV} {xs:List Value},FzL J U l l'->RL C (nx J) w l xs->RL (C.keep U) (nx U) w l' xs
 |_,_,[],.nil,hr=>by unfold AM.RL;trivial
 |_,_,_::_,.nil,hr=>by unfold AM.RL at hr;grind
 |_,_,[],.cons _ _,hr=>by unfold AM.RL at hr;grind
 |_,_,x::xs,.cons h1 h2,hr=>by unfold AM.RL at hr⊢;exact⟨Fz.R h h1 hr.1,FzL.RL h h2 hr.2⟩
theorem FzL.RC (h:Sim P C w J):∀{l l':List AV} {c o:Nat},FzL J U l l'->RC C (nx J) w c l o->RC (C.keep U) (nx U) w c l' o
 |_,_,_,_,.nil,hr=>by unfold AM.RC;trivial
 |_,_,c,o,.cons h1 h2,hr=>by
  unfold AM.RC at hr⊢;obtain⟨⟨v,k1,k2,k3⟩,k4⟩:=hr;exact⟨⟨v,k1,k2,Fz.R h h1 k3⟩,FzL.RC h h2 k4⟩
end
def Aov(J U:Sto):List (Key×AV)->List (Key×AV)->Prop
 |[],[]=>True
 |x::r,y::s=>x.1=y.1/\Fz J U x.2 y.2/\Aov J U r s
 |_,_=>False
theorem Aov.ER(h:Sim P C w J):∀{l l':List (Key×AV)} {L:List MapEntry},Aov J U l l'->ER C (nx J) w l L->ER (C.keep U) (nx U) w l' L
 |[],[],[],_,_=>by unfold AM.ER;trivial
 |[],[],_::_,_,hr=>by unfold AM.ER at hr;grind
 |_::_,_::_,[],_,hr=>by unfold AM.ER at hr;grind
 |x::r,y::s,f::L,hf,hr=>by
  obtain⟨h1,h2,h3⟩:=hf;unfold AM.ER at hr⊢;exact⟨⟨gr,h2.R h hr.1.2⟩,Aov.ER h h3 hr.2⟩
 |[],_::_,_,hf,_=>hf.elim
 |_::_,[],_,hf,_=>hf.elim
def AO.und(N:Nat):AO->Bool
 |.cells vs=>AV.unds N vs
 |.map _ es _=>Jc N es
 |.iter m _ _ _=>match m with|none=>true|some r=>Nat.blt r N
 |.stamp m _ _=>Nat.blt m N
 |.loop _=>true
def Ak3(N:Nat):Option (Key×AV)->Bool
 |none=>true
 |some x=>AV.und N x.2
def Agt(U:Sto):AO->Prop
 |.iter (some r) ver left cur=>∀kt es,U.get r=some (.map kt es ver)->Jc (nx U) left=true/\Ak3 (nx U) cur=true
 |_=>True
inductive FzO (J U:Sto):AO->AO->Prop
 |iter {m:Option Nat} {ver:Nat} {left:List (Key×AV)} {cur:Option (Key×AV)}:AO.und (nx U) (.iter m ver left cur)=true->Agt U (.iter m ver left cur)->FzO J U (.iter m ver left cur) (.iter m ver left cur)
 |stamp {m ver:Nat} {k:Key}:AO.und (nx U) (.stamp m ver k)=true->FzO J U (.stamp m ver k) (.stamp m ver k)
 |cells {a b:List AV}:FzL J U a b->FzO J U (.cells a) (.cells b)
 |map {kt ver:Nat} {a b:List (Key×AV)}:Aov J U a b->FzO J U (.map kt a ver) (.map kt b ver)
 |loop {st:LS}:FzO J U (.loop st) (.loop st)
def Ds(J U:Sto):Prop:=nx U<=nx J/\∀a O,U.get a=some O->a<nx U/\∃O₀,J.get a=some O₀/\FzO J U O₀ O
theorem Sim.frz(h:Sim P C w J)(hf:Ds J U):Sim P (C.keep U) w U:=by
 have k:=C.keep_sub U;refine⟨fun a O ha=>?_,fun a O ha=>(hf.2 a O ha).1,fun a p hp=>?_,fun a b c o o' ha hb=>h.inj a b c o o' (k.loc _ _ ha) (k.loc _ _ hb),
  fun a c o ha=>h.lt a c o (k.loc _ _ ha),h.rlt,fun a c o ha=>h.rdis a c o (k.loc _ _ ha)⟩
 ·obtain⟨h1,O₀,h2,h3⟩:=hf.2 a O ha;have ho:=h.obj a O₀ h2
  have hk:(C.keep U).loc a=C.loc a:=by simp[Ctx.keep,ha]
  cases h3 with
  |cells hl=>
   obtain⟨c,o,cs,T,k1,k2,k3⟩:=ho;exact⟨c,o,cs,T,hk.trans k1,k2,hl.RC h k3⟩
  |map hl=>
   obtain⟨c,E,clock,k1,k2,k3⟩:=ho;exact⟨c,E,clock,hk.trans k1,k2,k3.typed,let⟨L,q1,q2⟩:=k3.perm;⟨L,q1,hl.ER h q2⟩,k3.keys,k3.born,k3.apart⟩
  |loop=>
   obtain⟨c,r,k1,k2,k3⟩:=ho;exact⟨c,r,hk.trans k1,k2,k3⟩
  |stamp hu=>
   obtain⟨k0,k1⟩:=ho
   rename_i m ver ky
   refine⟨Gy hu,fun kt es ver' hg=>?_⟩
   obtain⟨_,O₁,g1,g2⟩:=hf.2 m _ hg;cases g2 with
   |map hl=>
    obtain⟨q1,q2⟩:=k1 _ _ _ g1;refine⟨q1,fun hv=>?_⟩
    obtain⟨cm,E,clock,p1,p2,p3⟩:=q2 hv
    exact⟨cm,E,clock,by simp[Ctx.keep,hg,p1],p2,p3⟩
  |iter u1 hu=>
   rename_i m ver left cur
   cases m with
   |none=>
    obtain⟨c,since,seen,last,k1,k2,k3⟩:=ho;exact⟨c,since,seen,last,hk.trans k1,k2,k3⟩
   |some m=>
    obtain⟨k0,c,cm,since,seen,last,k1,k2,k3⟩:=ho;refine⟨Gy u1,c,cm,since,seen,last,hk.trans k1,k2,fun kt es ver' hg=>?_⟩
    obtain⟨_,O₁,g1,g2⟩:=hf.2 m _ hg;cases g2 with
    |map hl=>
     obtain⟨q1,q2⟩:=k3 _ _ _ g1;refine⟨q1,fun hv=>?_⟩
     subst hv;obtain⟨u2,u3⟩:=hu _ _ hg;obtain⟨E,p1,p2,p3,⟨L,p4,p5⟩,p6⟩:=q2 rfl
     refine⟨E,by simp[Ctx.keep,hg,p1],p2,p3,⟨L,p4,ER.cut k u2 p5⟩,fun ky x hx=>?_⟩
     obtain⟨f,f1,f2,f3,f4⟩:=p6 ky x hx;subst hx;exact⟨f,f1,f2,f3,R.cut k _ _ u3 f4⟩
 ·have hs:(U.get a).isSome=true:=by
   simp only[Ctx.keep]at hp
   grind
  obtain⟨O,hO⟩:=bg_.1 hs;obtain⟨_,O₀,h2,h3⟩:=hf.2 a O hO;obtain⟨O₁,h4,h5⟩:=h.dom a p (k.loc a p hp);rw[h2]at h4;cases h4;refine⟨O,hO,?_⟩
  cases h3<;>first|rfl|exact h5
def WFS(J:Sto):Prop:=∀a O,J.get a=some O->a<nx J/\AO.und (nx J) O=true/\Agt J O
theorem Sim.wfs(h:Sim P C w J):WFS J:=by
 intro a O hg;refine⟨h.bound a O hg,?_⟩;have ho:=h.obj a O hg;cases O with
 |cells vs=>obtain⟨c,o,cs,T,_,_,k⟩:=ho;exact⟨RC.unds _ _ _ k,trivial⟩
 |map kt es ver=>obtain⟨c,E,clock,_,_,k⟩:=ho;obtain⟨L,_,q⟩:=k.perm;exact⟨ER.und q,trivial⟩
 |stamp m ver k=>exact⟨Ce ho.1,trivial⟩
 |loop st=>exact⟨rfl,trivial⟩
 |iter m ver left cur=>
  cases m with
  |none=>exact⟨rfl,trivial⟩
  |some r=>
   obtain⟨k0,c,cm,since,seen,last,k1,k2,k3⟩:=ho;refine⟨Ce k0,fun kt es hr=>?_⟩
   obtain⟨_,q2⟩:=k3 _ _ _ hr;obtain⟨E,p1,p2,p3,⟨L,p4,p5⟩,p6⟩:=q2 rfl;refine⟨ER.und p5,?_⟩;cases cur with
   |none=>rfl
   |some x=>obtain⟨f,f1,f2,f3,f4⟩:=p6 x.1 x.2 rfl;exact R.und _ _ f4
theorem Oi(h:∀{v:AV},AV.und (nx U) v=true->Fz J U v v):∀{es:List (Key×AV)},Jc (nx U) es=true->Aov J U es es
 |[],_=>trivial
 |x::r,k=>by
  simp only[Jc,cs_,ad_]at k;exact⟨rfl,h k.1,Oi h k.2⟩
theorem Ds.of_same(h:WFS U)(hn:nx U<=nx J)(hg:∀a,a<nx U->J.get a=U.get a):Ds J U:=by
 refine⟨hn,fun a O ha=>?_⟩
 obtain⟨h1,h2,h3⟩:=h a O ha;refine⟨h1,O,(hg a h1).trans ha,?_⟩;cases O with
 |cells vs=>exact .cells (dj_ h2)
 |map kt es ver=>exact .map (Oi .same h2)
 |iter m ver left cur=>exact .iter h2 h3
 |stamp m ver k=>exact .stamp h2
 |loop st=>exact .loop
abbrev a_:=@Ds.of_same
theorem Ext.base{C' N N' B w'}(h:Ext C N w C' N' w')(hB:B<=N):Ext C B w C' B w':=
 ⟨nl,h.size,h.keep,fun a ha=>h.loc a Om,fun a ha=>h.stm a Om,fun a ha=>h.lr a Om,fun a ha=>h.bsz a Om,h.res,h.os⟩
theorem Ext.top{C' B N' w'}(h:Ext C B w C' B w')(hB:B<=N'):Ext C B w C' N' w':=
 ⟨hB,h.size,h.keep,h.loc,h.stm,h.lr,h.bsz,h.res,h.os⟩
theorem Ext.keepB(C U B w):Ext C B w (C.keep U) B w:=
 ⟨nl,nl,fun b _ ho=>⟨fun hh=>ho ((C.keep_sub U).own hh),rfl⟩,fun a _ p hp=>(C.keep_sub U).loc a p hp,fun _ _=>rfl,fun _ _=>rfl,fun _ _ _ _ _=>rfl,⟨rfl,fun _ _=>rfl⟩,rfl,rfl⟩
abbrev en_:=@Ext.keepB
end
end
def Oj(l:Ad):Tr AV:=l.foldr (fun p t=>t.put (p.1+1) p.1 (some p.2)) .e
def Km:Ad->Ad->Prop
 |[],_=>True
 |(i,v)::r,ρ=>Ad.at ρ i=some v/\Km r ρ
theorem Km.at:∀{ρ' ρ:Ad},Km ρ' ρ->∀i v,Ad.at ρ' i=some v->Ad.at ρ i=some v
 |[],ρ,_,i,v,h=>by simp[Ad.at]at h
 |(j,u)::r,ρ,h,i,v,hv=>by
  obtain⟨h1,h2⟩:=h;simp only[Ad.at]at hv;cases hb:Nat.beq j i with
  |true=>rw[hb]at hv;cases hv;have:=ac_ hb;subst this;exact h1
  |false=>rw[hb]at hv;exact Km.at h2 i v hv
theorem Has.subL{tm ρ ρ'}(h:Has tm ρ)(k:Km ρ' ρ):Has tm ρ':=fun i v hv=>h i v (k.at i v hv)
def Al(E:Env)(f:Nat)(args:List AV)(J:Sto)(Post:AV->Sto->Prop):Prop:=
 ∀(C:Ctx) (w:World) (vs:Array Value),Sim E.P C w J->Iw C (nx J) w E->RL C (nx J) w args vs.toList->
  Aa2 E.P f/\Calls E.P f vs w fun
   |.returned x,w'=>∃v J' C',Post v J'/\Sim E.P C' w' J'/\Ext C (nx J) w C' (nx J') w'/\R C' (nx J') w' v x
   |_,_=>False
theorem Al.mono{E f args J Post Post'}(h:Al E f args J Post)(k:∀v J',Post v J'->Post' v J'):Al E f args J Post':=by
 intro C w vs hs hg ha;obtain⟨h1,h2⟩:=h C w vs hs hg ha;refine⟨h1,h2.mono fun e w' he=>?_⟩
 grind
open Classical in
noncomputable def Dk:List (Nat×List AV×Sto×AV×Sto)->Rec
 |[],_,_,_=>none
 |(f,a,s,v,s')::r,.fn f',a',J=>if f'=f/\a'=a/\J=s then some (v,s')else Dk r (.fn f') a' J
 |_::_,.yl _,_,_=>none
def Aev(E:Env):List (Nat×List AV×Sto×AV×Sto)->Prop
 |[]=>True
 |(f,a,s,v,s')::r=>Al E f a s (fun u U=>u=v/\U=s')/\Aev E r
theorem Aq1{a}:∀(l:List (Nat×List AV×Sto×AV×Sto)) (x:List AV) (J:Sto),Dk l (.yl a) x J=none
 |[],_,_=>rfl
 |_::_,_,_=>rfl
theorem Aih{E f'}:∀{l:List (Nat×List AV×Sto×AV×Sto)},Aev E l->Akz E f' (Dk l (.fn f'))
 |[],_=>fun C w J args vs v J' hs hg ha h=>by cases h
 |(f,a,s,v,s')::r,hk=>fun C w J args vs u J' hs hg ha h=>by
  simp only[Dk]at h
  split at h
  ·rename_i he
   obtain⟨rfl,rfl,rfl⟩:=he;cases h;obtain⟨h1,h2⟩:=hk.1 C w vs hs hg ha;refine⟨h1,h2.mono fun e w' he=>?_⟩
   cases e with
   |returned x=>obtain⟨v,J',C',⟨rfl,rfl⟩,k1,k2,k3⟩:=he;exact⟨C',k1,k2,k3⟩
   |panicked _=>exact he.elim
   |outgrown=>exact he.elim
  ·exact Aih hk.2 C w J args vs u J' hs hg ha h
theorem Bw{E l}(hk:Aev E l)(hp:∀f,E.pu f=true->False:=by intro f h;exact absurd (show false=true from h) (by decide)):Bk E (Dk l):=
 ⟨fun _=>Aih hk,fun a C w J args vs v J' hs hg ha h=>(by rw[Aq1]at h;cases h),fun f h=>(hp f h).elim⟩
abbrev Cc:=XE->Ad->Sto->Prop
def Sd(E:Env)(nt:Nat)(df:List (Nat×List AV))(B:Nat)(Q:Cc)(C:Ctx)(w:World):Exit->Act->World->Prop:=fun e a' w'=>
 ∃x tm' ρ' J' C',Jj x=e/\Has tm' ρ'/\Q x ρ' J'/\SSt E C' w' ⟨tm',nt,df,J'⟩ a'/\B<=nx J'/\Ext C B w C' B w'
def T(E:Env)(nt:Nat)(df:List (Nat×List AV))(B:Nat)(c:Code)(Q:Cc)(ρ:Ad)(J:Sto):Prop:=
 ∀(ro:Option Nat) (n:Nat),(ro=none∨Ln c=true)->∀(C:Ctx) (w:World) (tm:Tr AV) (a:Act),Has tm ρ->SSt E C w ⟨tm,nt,df,J⟩ a->B<=nx J->c.wpIn (Cy ro) n E.P (Sd E nt df B Q C w) a w
def TO(E:Env)(nt:Nat)(df:List (Nat×List AV))(B:Nat)(ops r:List Oper)(K:Ad->Sto->Prop)(ρ:Ad)(J:Sto):Prop:=
 ∀(ro:Option Nat) (n:Nat),(ro=none∨D6 r=true)->∀(C:Ctx) (w:World) (tm:Tr AV) (a:Act),Has tm ρ->SSt E C w ⟨tm,nt,df,J⟩ a->B<=nx J->∀(arr:Array Oper) (i:Nat) (QQ:Exit->Act->World->Prop) (rest:List Nat),arr.toList=ops->(∀j,j<r.length->r[j]? =arr[i+j]?)->
  (∀C' w' a' tm' ρ' J',Has tm' ρ'->K ρ' J'->SSt E C' w' ⟨tm',nt,df,J'⟩ a'->B<=nx J'->Ext C B w C' B w'->wpOpsIn (Cy ro) n E.P arr QQ rest a' w')->wpOpsIn (Cy ro) n E.P arr QQ (List.range' i r.length++rest) a w
section
variable {E:Env}{nt B:Nat}{df:List (Nat×List AV)}{Q Q':Cc}{ρ ρ':Ad}{J J':Sto}{K:Ad->Sto->Prop}
theorem Sd.mono{C w e a w'}(h:Sd E nt df B Q C w e a w')(hQ:∀x ρ J,Q x ρ J->Q' x ρ J):Sd E nt df B Q' C w e a w':=by
 obtain⟨x,tm',ρ',J',C',h1,h2,h3,h4⟩:=h;exact⟨x,tm',ρ',J',C',h1,h2,hQ _ _ _ h3,h4⟩
theorem Sd.from{C C₀ w w₀ e a w'}(h:Sd E nt df B Q C w e a w')(hx:Ext C₀ B w₀ C B w):Sd E nt df B Q C₀ w₀ e a w':=by
 obtain⟨x,tm',ρ',J',C',h1,h2,h3,h4,hB,h5⟩:=h;exact⟨x,tm',ρ',J',C',h1,h2,h3,h4,hB,hx.trans h5⟩
theorem T.mono{c}(h:T E nt df B c Q ρ J)(hQ:∀x ρ J,Q x ρ J->Q' x ρ J):T E nt df B c Q' ρ J:=
 fun ro n hn C w tm a ht st hB=>wpIn_mono (h ro n hn C w tm a ht st hB) fun e a' w' he=>he.mono hQ
theorem T.sub{c}(h:T E nt df B c Q ρ' J)(hs:Km ρ' ρ):T E nt df B c Q ρ J:=
 fun ro n hn C w tm a ht st=>h ro n hn C w tm a (ht.subL hs) st
theorem T.wp{c}(h:T E nt df B c Q ρ J)(C w tm a)(ht:Has tm ρ)(st:SSt E C w ⟨tm,nt,df,J⟩ a)(hB:B<=nx J):c.wp E.P (Sd E nt df B Q C w) a w:=(wpIn_wide (n:=0)).1 (h none 0 (.inl rfl) C w tm a ht st hB)
theorem Agu(h:Q .normal ρ J):T E nt df B .skip Q ρ J:=fun _ _ _ C w tm a ht st hB=>wpIn_skip ⟨.normal,tm,ρ,J,C,rfl,ht,h,st,hB,cf_ _ _ _⟩
theorem Aud{n}(h:Q .normal ρ J):T E nt df B (.label n) Q ρ J:=fun _ _ _ C w tm a ht st hB=>wpIn_label ⟨.normal,tm,ρ,J,C,rfl,ht,h,st,hB,cf_ _ _ _⟩
theorem Agv{n}(h:Q (.exit n) ρ J):T E nt df B (.exit n) Q ρ J:=fun _ _ _ C w tm a ht st hB=>wpIn_exit ⟨.exit n,tm,ρ,J,C,rfl,ht,h,st,hB,cf_ _ _ _⟩
theorem Amj(h:Q .ret ρ J):T E nt df B .ret Q ρ J:=fun _ _ _ C w tm a ht st hB=>wpIn_ret ⟨.ret,tm,ρ,J,C,rfl,ht,h,st,hB,cf_ _ _ _⟩
def Pa(k:Ad->Sto->Prop)(Q:Cc):Cc
 |.normal=>k
 |x=>Q x
theorem Aew{x y}(h:T E nt df B x (Pa (T E nt df B y Q) Q) ρ J):T E nt df B (.seq x y) Q ρ J:=by
 intro ro n hn C w tm a ht st hB;simp only[Ln,ad_]at hn;refine wpIn_seq (wpIn_mono (h ro n (hn.imp (fun h=>h) (·.1)) C w tm a ht st hB) fun e a' w' he=>?_)
 obtain⟨x',tm',ρ',J',C',h1,h2,h3,h4,hB',h5⟩:=he;subst h1;cases x' with
 |normal=>exact wpIn_mono (h3 ro n (hn.imp (fun h=>h) (·.2)) C' w' tm' a' h2 h4 hB') fun e a'' w'' he=>he.from h5
 |exit id=>exact⟨.exit id,tm',ρ',J',C',rfl,h2,h3,h4,hB',h5⟩
 |ret=>exact⟨.ret,tm',ρ',J',C',rfl,h2,h3,h4,hB',h5⟩
theorem Ab{c x y b}(hc:Ah E ρ c=some (.bool b))(h1:b=true->T E nt df B x Q ρ J)(h2:b=false->T E nt df B y Q ρ J):T E nt df B (.cond c x y) Q ρ J:=by
 intro ro n hn C w tm a ht st hB;simp only[Ln,ad_]at hn;have hv:=Be st.glob st.tmps c;rw[ht.opd hc]at hv;unfold R at hv;cases b with
 |true=>exact wpIn_cond_true hv (h1 rfl ro n (hn.imp (fun h=>h) (·.1)) C w tm a ht st hB)
 |false=>exact wpIn_cond_false hv (h2 rfl ro n (hn.imp (fun h=>h) (·.2)) C w tm a ht st hB)
def Qf(id:Nat)(Q:Cc):Cc
 |.exit j=>cond (Nat.beq j id) (Q .normal) (Q (.exit j))
 |x=>Q x
theorem Amk{id c}(h:T E nt df B c (Qf id Q) ρ J):T E nt df B (.block id c) Q ρ J:=by
 intro ro n hn C w tm a ht st hB;refine wpIn_block (wpIn_mono (h ro n hn C w tm a ht st hB) fun e a' w' he=>?_)
 obtain⟨x',tm',ρ',J',C',h1,h2,h3,h4,hB',h5⟩:=he;subst h1;cases x' with
 |normal=>exact⟨.normal,tm',ρ',J',C',rfl,h2,h3,h4,hB',h5⟩
 |ret=>exact⟨.ret,tm',ρ',J',C',rfl,h2,h3,h4,hB',h5⟩
 |exit j=>
  simp only[Qf]at h3
  by_cases hj:j=id
  ·subst hj;rw[aw_]at h3;simp only[Jj,Exit.inBlock,if_true];exact⟨.normal,tm',ρ',J',C',rfl,h2,h3,h4,hB',h5⟩
  ·have hb:Nat.beq j id=false:=by cases hb:Nat.beq j id with|true=>exact absurd (ac_ hb) hj|false=>rfl
   rw[hb]at h3;simp only[Jj,Exit.inBlock,if_neg hj];exact⟨.exit j,tm',ρ',J',C',rfl,h2,h3,h4,hB',h5⟩
theorem Aue{c}(h:T E nt df B c Q ρ J):T E nt df B (.scope c) Q ρ J:=by
 intro ro n hn C w tm a ht st hB;refine Sc (wpIn_mono (h ro n hn C w tm a ht st hB) fun e a' w' he=>?_)
 obtain⟨x',tm',ρ',J',C',h1,h2,h3,h4,hB',h5⟩:=he;subst h1;cases x'<;>exact⟨_,tm',ρ',J',C',rfl,h2,h3,h4,hB',h5⟩
theorem Aw0{c}(I:Nat->Ad->Sto->Prop)(n)(h0:∃ρ',Km ρ' ρ/\I n ρ' J)
  (hs:∀n ρ J,I n ρ J->T E nt df B c (Pa (fun ρ' J'=>∃m ρ'',m<n/\Km ρ'' ρ'/\I m ρ'' J') Q) ρ J):T E nt df B (.loop c) Q ρ J:=by
 intro ro m hn;have key:∀(n:Nat) (ρ:Ad) (J:Sto),I n ρ J->∀(C:Ctx) (w:World) (tm:Tr AV) (a:Act),Has tm ρ->SSt E C w ⟨tm,nt,df,J⟩ a->B<=nx J->∀(b:Frame) (k:List Item) (cs:List Frame),b.roundOf=(Cy ro).round->(Cy ro).fn b.fn->(Cy ro).room (cs.length+1+m)->
   ∃e a' w',Sd E nt df B Q C w e a' w'/\ArrivesIn (Machine.fenced E.P (Cy ro)) E.P (lone (b.atR a (.code c::.inLoop c::k)) cs w) b k cs e a' w':=by
  intro n
  induction n using Nat.strongRecOn with
  |_ n ih=>
   intro ρ J hI C w tm a ht st hB b k cs hro hb hr;obtain⟨e,a₁,w₁,hq,br⟩:=hs n ρ J hI ro m hn C w tm a ht st hB b (.inLoop c::k) cs hro hb hr;obtain⟨x',tm',ρ',J',C',h1,h2,h3,h4,hB',h5⟩:=hq;subst h1;cases x' with
   |normal=>
    obtain⟨m,ρ'',hm,cc,hI'⟩:=h3;obtain⟨e₂,a₂,w₂,hq₂,harr₂⟩:=ih m hm ρ'' J' hI' C' w₁ tm' a₁ (h2.subL cc) h4 hB' b k cs hro hb hr;exact⟨e₂,a₂,w₂,hq₂.from h5,.of_steps (StepsIn.trans br (.one (fenced_calm hb hr rfl) stepR_inLoop)) harr₂⟩
   |exit id=>exact⟨.exit id,a₁,w₁,⟨_,tm',ρ',J',C',rfl,h2,h3,h4,hB',h5⟩,.pass (x:=.inLoop c) rfl (fun _ _=>.inl (by simp)) br⟩
   |ret=>exact⟨.ret,a₁,w₁,⟨_,tm',ρ',J',C',rfl,h2,h3,h4,hB',h5⟩,.pass (x:=.inLoop c) rfl (fun _ _=>.inl (by simp)) br⟩
 intro C w tm a ht st hB b k cs hro hb hr;obtain⟨ρ',cc,hI⟩:=h0;obtain⟨e,a',w',hq,br⟩:=key n ρ' J hI C w tm a (ht.subL cc) st hB b k cs hro hb hr;exact⟨e,a',w',hq,.of_steps (.one (fenced_calm hb hr rfl) stepR_loop) br⟩
theorem Ci{α:Type}{c}(ρI:α->Ad)(P:α->Sto->Prop)(μ:α->Nat)(a₀)(h0:Km (ρI a₀) ρ)(h1:P a₀ J)
  (hs:∀a J,P a J->T E nt df B c (Pa (fun ρ' J'=>∃a',μ a'<μ a/\Km (ρI a') ρ'/\P a' J') Q) (ρI a) J):T E nt df B (.loop c) Q ρ J:=by
 refine Aw0 (fun n ρ J=>∃a,n=μ a/\ρ=ρI a/\P a J) (μ a₀) ⟨ρI a₀,h0,a₀,rfl,rfl,h1⟩ ?_
 grind
theorem Bz{c}(len)(ρI:Nat->Ad)(P:Nat->Sto->Prop)(h0:Km (ρI 0) ρ)(h1:P 0 J)
  (hs:∀i J,i<=len->P i J->T E nt df B c (Pa (fun ρ' J'=>i<len/\Km (ρI (i+1)) ρ'/\P (i+1) J') Q) (ρI i) J):T E nt df B (.loop c) Q ρ J:=by
 refine Ci ρI (fun i J=>i<=len/\P i J) (fun i=>len-i) 0 h0 ⟨aq_ _,h1⟩ ?_
 rintro i J ⟨hi,hp⟩;refine(hs i J hi hp).mono fun x ρ' J' hq=>?_
 cases x with
 |normal=>obtain⟨g1,g2,g3⟩:=hq;exact⟨i+1,by omega,g2,by omega,g3⟩
 |exit id=>exact hq
 |ret=>exact hq
theorem B7{id ops}(h:TO E nt df B ops.toList ops.toList (fun ρ J=>Q .normal ρ J) ρ J):T E nt df B (.region id ops false) Q ρ J:=by
 intro ro n hn C w tm a ht st hB;refine wpIn_region ?_;rw[dr_,←cd_];have:=h ro n hn C w tm a ht st hB ops 0 (Sd E nt df B Q C w) [] rfl gr fun C' w' a' tm' ρ' J' h1 h2 h3 h4 h5=>⟨.normal,tm',ρ',J',C',rfl,h1,h2,h3,h4,h5⟩
 grind
theorem Dd{ops}(h:K ρ J):TO E nt df B ops [] K ρ J:=by
 intro _ _ _ C w tm a ht st hB arr i QQ rest _ _ hQ;simp only[cu_,gr_,bd_];exact hQ C w a tm ρ J ht h st hB (cf_ _ _ _)
theorem Aow{ops g r}(h:TO E nt df B ops g (fun ρ' J'=>TO E nt df B ops r K ρ' J') ρ J):TO E nt df B ops (g++r) K ρ J:=by
 intro ro n hn C w tm a ht st hB arr i QQ rest br hr hQ;rw[bx_,←List.range'_append_1,ca_];simp only[D6,List.all_append,ad_]at hn;refine h ro n (hn.imp (fun h=>h) (·.1)) C w tm a ht st hB arr i QQ _ br (fun j hj=>?_) fun C' w' a' tm' ρ' J' h1 h2 h3 h4 h5=>?_
 ·grind
 ·refine h2 ro n (hn.imp (fun h=>h) (·.2)) C' w' tm' a' h1 h3 h4 arr (i+g.length) QQ rest br (fun j hj=>?_) fun C2 w2 a2 tm2 ρ2 J2 q1 q2 q3 qB q4=>hQ C2 w2 a2 tm2 ρ2 J2 q1 q2 q3 qB (h5.trans q4)
  have:=hr (g.length+j) gr
  grind
theorem Aq2(n){ops r}(h:TO E nt df B ops (r.take n) (fun ρ' J'=>TO E nt df B ops (r.drop n) K ρ' J') ρ J):TO E nt df B ops r K ρ J:=by
 have:=Aow h
 rwa[cc_]at this
theorem TO.mono{ops r K'}(h:TO E nt df B ops r K ρ J)(k:∀ρ J,K ρ J->K' ρ J):TO E nt df B ops r K' ρ J:=
 fun ro n hn C w tm a ht st hB arr i QQ rest h1 h2 hQ=>h ro n hn C w tm a ht st hB arr i QQ rest h1 h2 fun C' w' a' tm' ρ' J' q1 q2=>hQ C' w' a' tm' ρ' J' q1 (k _ _ q2)
def Ga:Op->Bool
 |.defer _=>false
 |_=>true
theorem L1{ro o r}(h:ro=none∨D6 (o::r)=true):Aqr ro o.op/\(ro=none∨D6 r=true):=by
 rcases h with h|h
 ·exact⟨.inl h,.inl h⟩
 ·simp only[D6,cs_,ad_]at h;exact⟨.inr gr,.inr h.2⟩
theorem Qg{ops r o Rr}(hR:Bk E Rr){ρ₁ J₁}
  (h:∀tm,Has tm ρ->∃tm',Yi E ops o Rr ⟨tm,nt,df,J⟩=some ⟨tm',nt,df,J₁⟩/\Has tm' ρ₁)(k:TO E nt df B ops r K ρ₁ J₁):TO E nt df B ops (o::r) K ρ J:=by
 intro ro n hn C w tm a ht st hB arr i QQ rest br hr hQ;obtain⟨hn1,hn2⟩:=L1 hn;obtain⟨tm',h1,h2⟩:=h tm ht
 have ho:arr[i]? =some o:=by have:=hr 0 (by simp);grind
 simp only[as_,cj_,ay_,wpOpsIn,ho];have h1':Yi E arr.toList o Rr ⟨tm,nt,df,J⟩=some ⟨tm',nt,df,J₁⟩:=gr;have:=Aa3 (K:=wpOpsIn (Cy ro) n E.P arr QQ (List.range' (i+1) r.length++rest)) (Q:=QQ) hR st h1' (ro:=ro) (n:=n) (hpl:=hn1) fun C' w' a' st' e'=>
  k ro n hn2 C' w' tm' a' h2 st' (ai_ hB e'.next) arr (i+1) QQ rest br (fun j hj=>by have:=hr (j+1) gr;grind)
   fun C2 w2 a2 tm2 ρ2 J2 q1 q2 q3 qB q4=>hQ C2 w2 a2 tm2 ρ2 J2 q1 q2 q3 qB ((e'.base hB).trans q4)
 rcases this with⟨h2,h3⟩|⟨h2,h3⟩
 ·grind
 ·rw[if_neg gr];exact⟨fun _ _=>trivial,h3⟩
def Dt:Option Nat->AV->Ad->Ad
 |none,_,ρ=>ρ
 |some d,v,ρ=>(d,v)::ρ
def B0(nt:Nat):Option Nat->Bool
 |none=>true
 |some d=>Nat.blt d nt
theorem C6{tm dst}(hd:B0 nt dst=true)(ht:Has tm ρ)(v):∃tm',Ka dst tm nt v=some tm'/\Has tm' (Dt dst v ρ):=by
 cases dst with
 |none=>exact⟨tm,rfl,ht⟩
 |some d=>
  refine⟨tm.put (d+1) d (some v),?_,ht.put d v⟩;have hd:Nat.blt d nt=true:=hd;simp only[Ka,hd,cond_true,Ef]
theorem Rk{ops o Rr s}(hg:Bn ops o s.tm=some true)(hn:Ga o.op=true):
  Yi E ops o Rr s=match opA E o.op Rr s.tm s.sto with
   |some (v,J)=>match Ka o.dst s.tm s.nt v with
    |some tm=>some ⟨tm,s.nt,s.df,J⟩
    |none=>none
   |none=>none:=by
 unfold Yi;rw[hg];simp only
 split
 ·rename_i c hc;rw[hc]at hn;simp[Ga]at hn
 ·rfl
theorem X4{ops r op dst}{ty:Nat}{pos after Rr v J₁}(hR:Bk E Rr)(hn:Ga op=true)(hd:B0 nt dst=true)(h:As E Rr op ρ J v J₁)
  (k:TO E nt df B ops r K (Dt dst v ρ) J₁):TO E nt df B ops ({ dst:=dst,op:=op,type:=ty,pos:=pos,after:=after,guard:=none }::r) K ρ J:=by
 refine Qg hR (fun tm ht=>?_) k
 obtain⟨tm',h1,h2⟩:=C6 (dst:=dst) hd ht v;refine⟨tm',?_,h2⟩;rw[Rk (s:=⟨tm,nt,df,J⟩) rfl hn];simp only[h tm ht,h1]
theorem Az{ops r f args}{tys:Array Nat}{dst}{ty:Nat}{pos after}{k:Nat}{first cap vs full Post}(hd:B0 nt dst=true)
  (hf:Ah E ρ f=some (.fn (.func k) first cap))(ha:Kc E ρ args.toList=some vs)(hl:first++vs++cap=full)(hc:Al E k full J Post)
  (kk:∀v J',Post v J'->TO E nt df B ops r K (Dt dst v ρ) J'):TO E nt df B ops ({ dst:=dst,op:=.call ⟨.value f,args,tys⟩,type:=ty,pos:=pos,after:=after,guard:=none }::r) K ρ J:=by
 intro ro n hn C w tm a ht st hB arr i QQ rest br hr hQ;obtain⟨hn1,hn2⟩:=L1 hn
 have ho:arr[i]? =some { dst:=dst,op:=.call ⟨.value f,args,tys⟩,type:=ty,pos:=pos,after:=after,guard:=none }:=by have:=hr 0 (by simp);grind
 simp only[as_,cj_,ay_,wpOpsIn,ho];have hw:Region.wanted { dst:=dst,op:=.call ⟨.value f,args,tys⟩,type:=ty,pos:=pos,after:=after,guard:=none } (yielded arr a.tmps)=true:=rfl;rw[if_pos hw];refine Ev hn1 ?_;have hV:=Be st.glob st.tmps f;rw[ht.opd hf]at hV;unfold R at hV;obtain⟨p,q,hV,hp,hq⟩:=hV;have bp:=Dm st.glob st.tmps args.toList;rw[ht.opds ha]at bp
 have bs:RL C (nx J) w full (p++args.map a.eval++q).toList:=by
  subst hl;simp only[cv_,c_];exact(hp.append bp).append hq
 obtain⟨⟨fn,g1,g2,g3⟩,b8⟩:=hc C w _ st.sim st.glob bs
 have bq:(execOp a.eval { dst:=dst,op:=.call ⟨.value f,args,tys⟩,type:=ty,pos:=pos,after:=after,guard:=none }).run E.P w=.ok (.enter k (p++args.map a.eval++q)) w:=by
  have g2':fn.name≠ "runtime.NumGoroutine" :=gr;have g3':fn.body≠none:=gr
  simp[execOp,resolve,hV,Deferred.ofValue,invoke,callFunc,g1,g2',g3']
 unfold Oper.wp;rw[bq,Oper.upon_enter];refine b8.mono fun e w' he=>?_
 cases e with
 |returned x=>
  obtain⟨v,J',C',k0,k1,k2,k3⟩:=he;obtain⟨tm',h1,h2⟩:=C6 (dst:=dst) hd ht v
  exact kk v J' k0 ro n hn2 C' w' tm' _ h2 (st.put k1 k2 k3 h1) (ai_ hB k2.next) arr (i+1) QQ rest br (fun j hj=>by have:=hr (j+1) gr;grind)
   fun C2 w2 a2 tm2 ρ2 J2 q1 q2 q3 qB q4=>hQ C2 w2 a2 tm2 ρ2 J2 q1 q2 q3 qB ((k2.base hB).trans q4)
 |panicked _=>exact he.elim
 |outgrown=>exact he.elim
theorem Hf{ops}{o oj:Oper}{j d:Nat}{b want tm}(ht:Has tm ρ)(hg:o.guard=some (j,want))(hj:ops[j]? =some oj)(hd:oj.dst=some d)(hb:Ad.at ρ d=some (.bool b)):Bn ops o tm=some (cond b want (!want)):=by
 simp only[Bn,hg,hj,hd,ht d _ hb]
theorem Bi{ops r}{o oj:Oper}{Rr v J₁}{j d:Nat}{b want}(hg:o.guard=some (j,want))(hj:ops[j]? =some oj)(hdj:oj.dst=some d)(hb:Ad.at ρ d=some (.bool b))(hw:cond b want (!want)=true)
  (hR:Bk E Rr)(hn:Ga o.op=true)(hd:B0 nt o.dst=true)(h:As E Rr o.op ρ J v J₁)(k:TO E nt df B ops r K (Dt o.dst v ρ) J₁):TO E nt df B ops (o::r) K ρ J:=by
 refine Qg hR (fun tm ht=>?_) k
 obtain⟨tm',h1,h2⟩:=C6 (dst:=o.dst) hd ht v;refine⟨tm',?_,h2⟩
 rw[Rk (s:=⟨tm,nt,df,J⟩) (by rw[Hf ht hg hj hdj hb,hw]) hn]
 simp only[h tm ht,h1]
theorem Co{ops r}{o oj:Oper}{j d:Nat}{b want}(hg:o.guard=some (j,want))(hj:ops[j]? =some oj)(hdj:oj.dst=some d)(hb:Ad.at ρ d=some (.bool b))(hw:cond b want (!want)=false)
  (hd:B0 nt o.dst=true)(k:TO E nt df B ops r K (Dt o.dst An ρ) J):TO E nt df B ops (o::r) K ρ J:=by
 refine Qg di_ (fun tm ht=>?_) k
 obtain⟨tm',h1,h2⟩:=C6 (dst:=o.dst) hd ht An;refine⟨tm',?_,h2⟩;unfold Yi;rw[Hf ht hg hj hdj hb,hw]
 grind
end
def Hg:List AV->Nat->Ad
 |[],_=>[]
 |v::r,i=>(i,v)::Hg r (i+1)
theorem L3:∀(l:List AV) (i j:Nat),Ad.at (Hg l i) j=if i<=j/\j<i+l.length then l[j-i]? else none
 |[],i,j=>by simp only[Hg,Ad.at];grind
 |x::r,i,j=>by
  simp only[Hg,Ad.at,as_]
  by_cases hj:i=j
  ·subst hj;simp[aw_]
  ·have hb:Nat.beq i j=false:=by cases hb:Nat.beq i j with|true=>exact absurd (ac_ hb) hj|false=>rfl
   rw[hb,cond_false,L3 r (i+1) j]
   grind
def Us(E:Env)(ρ:Ad)(J:Sto):List ResultVar->Option (List AV)
 |[]=>some []
 |.tmp t::r=>match Ad.at ρ t,Us E ρ J r with
  |some v,some l=>some (v::l)
  |_,_=>none
 |.cell a t::r=>match Ay E.P t with
  |some ti=>match Ad.at ρ a with
   |some (.pr b off)=>match J.cells b with
    |some vs=>match Cz ti.size ti.isAgg (vs.drop off),Us E ρ J r with
     |some v,some l=>some (v::l)
     |_,_=>none
    |none=>none
   |_=>none
  |none=>none
theorem S8{E tm ρ J}(ht:Has tm ρ):∀{rs:List ResultVar} {vs:List AV},Us E ρ J rs=some vs->Ahw E.P tm J rs=some vs
 |[],vs,h=>h
 |.tmp t::r,vs,h=>by
  simp only[Us]at h
  split at h
  ·rename_i v l hv hl
   cases h;simp only[Ahw,Aai,ht t v hv,S8 ht hl]
  grind
 |.cell a t::r,vs,h=>by
  simp only[Us]at h
  split at h
  ·rename_i ti hti
   split at h
   ·rename_i b off hb
    split at h
    ·rename_i cs hcs
     split at h
     ·rename_i v l hv hl
      cases h;simp only[Ahw,Aai,hti,ht a _ hb,hcs,Ml,hv,S8 ht hl]
     grind
    grind
   grind
  grind
def Agw(E:Env)(fn:Func)(N:Nat)(Post:AV->Sto->Prop)(ρ:Ad)(J:Sto):Prop:=
 ∃vs,Us E ρ J fn.results.toList=some vs/\∃v' J',Ds J J'/\N<=nx J'/\Fz J J' (Akq vs) v'/\Post v' J'
def Aox(K:Ad->Sto->Prop):Cc
 |.normal=>K
 |.ret=>K
 |.exit _=>fun _ _=>False
theorem Aw1{E f fn c args J Post}(hfn:E.P.funcs[f]? =some fn)(dz:(fn.name== "runtime.NumGoroutine")=false)(hc:fn.body=some c)(hle:Nat.ble args.length fn.ntmps=true)
  (h:WFS J->AV.unds (nx J) args=true->T E fn.ntmps [] (nx J) c (Aox (Agw E fn (nx J) Post)) (Hg args 0) J):Al E f args J Post:=by
 intro C w vs hs hg bp;refine⟨⟨fn,hfn,dz,gr⟩,?_⟩;refine calls_of_wp_defers hfn hc ((wpIn_wide (n:=0)).1 ?_);have hle:=al_ hle;have st:=Ur (E:=E) (fn:=fn) hs hg bp hle
 have ht:Has (Kz args 0 .e) (Hg args 0):=fun i v hv=>by
  rw[Ig];rw[L3]at hv
  grind
 refine wpIn_mono (h hs.wfs (RL.unds _ _ bp) none 0 (.inl rfl) C w _ _ ht st nl) fun e a' w' he=>?_
 obtain⟨x,tm',ρ',J₁,C',h1,h2,h3,h4,hB,h5⟩:=he;subst h1;have fin:Agw E fn (nx J) Post ρ' J₁->Leaves E.P fn a'.tmps (fun
   |.returned x,w'=>∃v J' C',Post v J'/\Sim E.P C' w' J'/\Ext C (nx J) w C' (nx J') w'/\R C' (nx J') w' v x
   |_,_=>False) a'.defers .returning w':=by
  intro hx;obtain⟨vs₁,r1,v',J',r2,r3,r4,r5⟩:=hx
  have hds:a'.defers=[]:=by
   have hd:=h4.dfs;cases hds:a'.defers with
   |nil=>rfl
   |cons d ds=>rw[hds]at hd;unfold DR at hd;exact hd.elim
  obtain⟨x,k1,k2⟩:=Hx (fn:=fn) h4.sim h4.tmps (S8 h2 r1);rw[hds];exact⟨x,k1,v',J',_,r5,h4.sim.frz r2,(h5.trans (en_ C' J' _ w')).top r3,r4.R h4.sim k2⟩
 cases x with
 |normal=>exact fin h3
 |ret=>exact fin h3
 |exit id=>exact h3.elim
class Se (E:Env):Prop where
 ok:∀g cs,E.gl g=some cs->AV.unds 0 cs=true
 lp:E.loops=[]
mutual
theorem AV.und_mono {N M:Nat} (h:N<=M):∀(x:AV),AV.und N x=true->AV.und M x=true
 |.any,_=>rfl
 |.bool _,_=>rfl
 |.int _ _,_=>rfl
 |.str _,_=>rfl
 |.nil _,_=>rfl
 |.flt _ _,_=>rfl
 |.pr a _,k=>Ce (ak_ (Gy k) h)
 |.sr a _ _ _ _,k=>Ce (ak_ (Gy k) h)
 |.mp a,k=>Ce (ak_ (Gy k) h)
 |.it a,k=>Ce (ak_ (Gy k) h)
 |.stp a,k=>Ce (ak_ (Gy k) h)
 |.yl a,k=>Ce (ak_ (Gy k) h)
 |.pv cs,k=>AV.unds_mono h cs k
 |.sv cs _ _ _,k=>AV.unds_mono h cs k
 |.fn _ p q,k=>by simp only[AV.und,ad_]at k⊢;exact⟨AV.unds_mono h p k.1,AV.unds_mono h q k.2⟩
 |.ifc _ x,k=>AV.und_mono h x k
 |.agg cs,k=>AV.unds_mono h cs k
 |.tup cs,k=>AV.unds_mono h cs k
theorem AV.unds_mono {N M:Nat} (h:N<=M):∀(l:List AV),AV.unds N l=true->AV.unds M l=true
 |[],_=>rfl
 |x::r,k=>by simp only[AV.unds,ad_]at k⊢;exact⟨AV.und_mono h x k.1,AV.unds_mono h r k.2⟩
end
theorem Iw.frz{E}[Se E]{C N w U}(h:Iw C N w E):Iw (C.keep U) (nx U) w E:=by
 refine⟨fun g cs hg=>R.cut (C.keep_sub U) _ _ (AV.unds_mono (aq_ _) cs (Se.ok g cs hg)) (h.1 g cs hg),fun c P hc=>?_,fun L hL=>by rw[Se.lp]at hL;cases hL⟩
 obtain⟨h1,h2⟩:=h.2.1 c P hc;refine⟨fun hh=>h1 ?_,h2⟩
 rcases hh with hh|⟨a,o,hh⟩
 ·exact .inl hh
 ·exact .inr ⟨a,o,(C.keep_sub U).loc _ _ hh⟩
def Mm(J U:Sto):Ad->Ad->Prop
 |[],_=>True
 |(i,v')::r,ρ=>(∃v,Ad.at ρ i=some v/\Fz J U v v')/\Mm J U r ρ
theorem Mm.at{J U}:∀{ρ' ρ:Ad},Mm J U ρ' ρ->∀i v',Ad.at ρ' i=some v'->∃v,Ad.at ρ i=some v/\Fz J U v v'
 |[],ρ,_,i,v,h=>by simp[Ad.at]at h
 |(j,u)::r,ρ,h,i,v,hv=>by
  obtain⟨h1,h2⟩:=h;simp only[Ad.at]at hv;cases hb:Nat.beq j i with
  |true=>rw[hb]at hv;cases hv;have:=ac_ hb;subst this;exact h1
  |false=>rw[hb]at hv;exact Mm.at h2 i v hv
theorem Mn:∀(l:Ad) (i:Nat),(Oj l).get i=Ad.at l i
 |[],i=>rfl
 |(j,v)::r,i=>by
  show(Tr.put (j+1) (Oj r) j (some v)).get i=_
  rw[dd_];simp only[Ad.at]
  by_cases h:i=j
  ·subst h;rw[if_pos rfl,aw_,cond_true]
  ·rw[if_neg h]
   have hb:Nat.beq j i=false:=by cases hb:Nat.beq j i with|true=>exact absurd (ac_ hb).symm h|false=>rfl
   rw[hb,cond_false,Mn r i]
theorem Kf(l):Has (Oj l) l:=fun i v h=>by rw[Mn];exact h
theorem SSt.frz{E}[Se E]{C w tm nt J U a ρ ρ'}(st:SSt E C w ⟨tm,nt,[],J⟩ a)(ht:Has tm ρ)(hf:Ds J U)(hs:∀i v',Ad.at ρ' i=some v'->∃v,Ad.at ρ i=some v/\Fz J U v v'):
  SSt E (C.keep U) w ⟨Oj ρ',nt,[],U⟩ a:=by
 refine⟨st.sim.frz hf,Iw.frz st.glob,fun i v hv=>?_,st.size,?_⟩
 ·have hv:(Oj ρ').get i=some v:=hv;rw[Mn]at hv;obtain⟨u,h1,h2⟩:=hs i v hv;exact h2.R st.sim (st.tmps i u (ht i u h1))
 ·have:=st.dfs;cases hds:a.defers with
  |nil=>unfold DR;trivial
  |cons d ds=>rw[hds]at this;unfold DR at this;exact this.elim
theorem Av2{E}[Se E]{nt B c Q ρ J}(U ρ')(hf:Ds J U)(hB:B<=nx U)(hs:Mm J U ρ' ρ)(k:T E nt [] B c Q ρ' U):T E nt [] B c Q ρ J:=
 fun ro n hn C w tm a ht st _=>wpIn_mono (k ro n hn (C.keep U) w _ a (Kf ρ') (st.frz ht hf hs.at) hB) fun e a' w' he=>he.from (en_ C U B w)
theorem Aq3{E}[Se E]{nt B ops r K ρ J}(U ρ')(hf:Ds J U)(hB:B<=nx U)(hs:∀i v',Ad.at ρ' i=some v'->∃v,Ad.at ρ i=some v/\Fz J U v v')(k:TO E nt [] B ops r K ρ' U):TO E nt [] B ops r K ρ J:=
 fun ro n hn C w tm a ht st _ arr i QQ rest h1 h2 hQ=>k ro n hn (C.keep U) w _ a (Kf ρ') (st.frz ht hf hs) hB arr i QQ rest h1 h2 fun C2 w2 a2 tm2 ρ2 J2 q1 q2 q3 qB q4=>hQ C2 w2 a2 tm2 ρ2 J2 q1 q2 q3 qB ((en_ C U B w).trans q4)
theorem noR{E}:Bk E (fun _ _ _=>none):=di_
section
variable {E:Env}{nt B:Nat}{df:List (Nat×List AV)}{ρ ρ':Ad}{J J':Sto}{K:Ad->Sto->Prop}
theorem Aii{ops r op dst}{ty:Nat}{pos after}{Pv:AV->Prop}(hd:B0 nt dst=true)
  (h:∀C w tm a,Has tm ρ->SSt E C w ⟨tm,nt,df,J⟩ a->∃v,Pv v/\S5 E.P C w J (execOp a.eval { dst:=dst,op:=op,type:=ty,pos:=pos,after:=after,guard:=none }) v J')
  (k:∀v,Pv v->TO E nt df B ops r K (Dt dst v ρ) J'):TO E nt df B ops ({ dst:=dst,op:=op,type:=ty,pos:=pos,after:=after,guard:=none }::r) K ρ J:=by
 intro ro n hn C w tm a ht st hB arr i QQ rest br hr hQ;obtain⟨hn1,hn2⟩:=L1 hn
 have ho:arr[i]? =some { dst:=dst,op:=op,type:=ty,pos:=pos,after:=after,guard:=none }:=by have:=hr 0 (by simp);grind
 simp only[as_,cj_,ay_,wpOpsIn,ho];have hw:Region.wanted { dst:=dst,op:=op,type:=ty,pos:=pos,after:=after,guard:=none } (yielded arr a.tmps)=true:=rfl;rw[if_pos hw];refine Ev hn1 ?_;obtain⟨v,hpv,x,w',C',h1,h2,h3,h4⟩:=h C w tm a ht st;obtain⟨tm',g1,g2⟩:=C6 (dst:=dst) hd ht v;have go:∀y,R C' (nx J') w' v y->wpOpsIn (Cy ro) n E.P arr QQ (List.range' (i+1) r.length++rest) (a.put dst y) w':=fun y hy=>
  k v hpv ro n hn2 C' w' tm' _ g2 (st.put h3 h4 hy g1) (ai_ hB h4.next) arr (i+1) QQ rest br (fun j hj=>by have:=hr (j+1) gr;grind)
   fun C2 w2 a2 tm2 ρ2 J2 q1 q2 q3 qB q4=>hQ C2 w2 a2 tm2 ρ2 J2 q1 q2 q3 qB ((h4.base hB).trans q4)
 unfold Oper.wp
 rcases h1 with h1|⟨h1,rfl⟩
 ·rw[h1,Oper.upon_value];grind
 ·rw[h1,Oper.upon_skip];grind
theorem Agx{ops r op dst}{ty:Nat}{pos after v}(hd:B0 nt dst=true)
  (h:∀C w tm a,Has tm ρ->SSt E C w ⟨tm,nt,df,J⟩ a->S5 E.P C w J (execOp a.eval { dst:=dst,op:=op,type:=ty,pos:=pos,after:=after,guard:=none }) v J')
  (k:TO E nt df B ops r K (Dt dst v ρ) J'):TO E nt df B ops ({ dst:=dst,op:=op,type:=ty,pos:=pos,after:=after,guard:=none }::r) K ρ J:=
 Aii (Pv:=fun u=>u=v) hd (fun C w tm a ht st=>⟨v,rfl,h C w tm a ht st⟩) gr
theorem Aq4{P C w}(hs:Sim P C w J){t n x X}(hx:R C (nx J) w x X){cs}(h:x.cellsN n=some cs):Iv P C w J (Instr.box t X) (.pv cs) J:=by
 obtain⟨q1,q2,q3,q4⟩:=Hc h hx;have p:=K3 w (.cells X.cells t (0,0));obtain⟨k1,k2⟩:=hs.push p;refine⟨_,.pointer (some ⟨w.heap.size,0,none⟩),_,C,?_,rfl,k1,k2,?_⟩
 ·unfold Instr.box
  simp[newVar,newRow]
 ·unfold R;refine⟨_,_,rfl,fun _ ho=>?_,fb_ p.here (q1.ext k2) q4 gr⟩
  have:=hs.own_lt ho;grind
theorem Jv{ops r t x dst}{ty:Nat}{pos after v sz agg cs}(hi:ldI E.P t=some (sz,agg))(hx:Ah E ρ x=some v)(hc:v.cellsN sz=some cs)(hd:B0 nt dst=true)
  (k:TO E nt df B ops r K (Dt dst (.pv cs) ρ) J):TO E nt df B ops ({ dst:=dst,op:=.box t x,type:=ty,pos:=pos,after:=after,guard:=none }::r) K ρ J:=by
 refine Agx hd (fun C w tm a ht st=>?_) k
 have hv:=Be st.glob st.tmps x;rw[ht.opd hx]at hv;exact .ofRuns (Aq4 st.sim hv hc)
theorem S9{ops}{t d ty:Nat}{pos after z tm}(hz:zI E.P t=some z)(hd:Nat.blt d nt=true):
  Yi E ops { dst:=some d,op:=.alloc t,type:=ty,pos:=pos,after:=after,guard:=none } (fun _ _ _=>none) ⟨tm,nt,df,J⟩=some ⟨tm.put (d+1) d (some (.pr (nx J) 0)),nt,df,J.new (.cells z)⟩:=by
 rw[Rk (s:=⟨tm,nt,df,J⟩) rfl rfl]
 have:opA E (.alloc t) (fun _ _ _=>none) tm J=some (.pr (nx J) 0,J.new (.cells z)):=by
  unfold zI at hz
  split at hz
  ·rename_i ti hti;simp only[opA,Aw,hti,hz,Aab]
  grind
 simp only[this,Ka,hd,cond_true,Ef]
theorem Eg{ob}:(J.new (.cells ob)).cells (nx J)=some ob:=by
 unfold Sto.cells;grind
theorem Hh:∀{z l:List AV},l.length=z.length->Et z 0 l=some l
 |[],[],_=>rfl
 |x::z,y::l,h=>by
  have:=Hh (z:=z) (l:=l) gr;simp only[Et,this]
 |[],_::_,h=>by simp at h
 |_::_,[],h=>by simp at h
theorem Ho{ops r t d sz agg x}{ty ty':Nat}{pos pos' after after' z cs v}(hz:zI E.P t=some z)(hi:ldI E.P t=some (sz,agg))(hl:Nat.beq z.length sz=true)
  (hx:∀u,Ah E ((d,u)::ρ) x=some v)(hv:Ah E ρ x=some v)(hc:v.cellsN sz=some cs)(hd:Nat.blt d nt=true)[Se E](hdf:df=[])
  (k:TO E nt df B ops r K ((d,.pv cs)::ρ) J):
  TO E nt df B ops ({ dst:=some d,op:=.alloc t,type:=ty,pos:=pos,after:=after,guard:=none }::{ dst:=none,op:=.store t (.tmp d) x,type:=ty',pos:=pos',after:=after',guard:=none }::r) K ρ J:=by
 subst hdf;intro ro n hn C w tm a ht st hB
 have hcs:cs.length=z.length:=by
  have hb:=ac_ hl;have hvR:=Be st.glob st.tmps x;rw[ht.opd hv]at hvR;obtain⟨q1,q2,_⟩:=Hc hc hvR
  grind
 have hwf:=st.sim.wfs;have em:∀i u,Ad.at ρ i=some u->AV.und (nx J) u=true:=fun i u hu=>R.und _ _ (st.tmps i u (ht i u hu))
 have hvu:AV.und (nx J) v=true:=by
  have hvR:=Be st.glob st.tmps x;rw[ht.opd hv]at hvR;exact R.und _ _ hvR
 have hcu:AV.unds (nx J) cs=true:=by
  unfold AV.cellsN at hc
  split at hc<;>try (cases hc;done)
  ·cases hb':Nat.beq ‹List AV›.length sz with
   |true=>rw[hb']at hc;cases hc;exact hvu
   |false=>rw[hb']at hc;cases hc
  ·cases hb':Nat.beq sz 1 with
   |true=>rw[hb']at hc;cases hc;simp only[AV.unds,hvu,be_]
   |false=>rw[hb']at hc;cases hc
 have key:TO E nt [] B ops ({ dst:=some d,op:=.alloc t,type:=ty,pos:=pos,after:=after,guard:=none }::{ dst:=none,op:=.store t (.tmp d) x,type:=ty',pos:=pos',after:=after',guard:=none }::r) K ρ J:=by
  refine Qg noR (J₁:=J.new (.cells z)) (ρ₁:=(d,.pr (nx J) 0)::ρ) (fun tm' ht'=>⟨_,S9 hz hd,ht'.put d _⟩) ?_
  refine X4 noR rfl rfl (By (vs:=z) (vs':=cs) (ad:=nx J) (off:=0) (v:=v) (cs:=cs) hi (by simp[Ah,Ad.at,aw_]) (hx _) hc Eg (Hh hcs)) ?_
  simp only[Dt];refine Aq3 J ((d,.pv cs)::ρ) ?_ hB ?_ k
  ·refine a_ hwf gr fun b hb=>?_
   grind
  ·intro i u hu;simp only[Ad.at]at hu⊢;cases hb:Nat.beq d i with
   |true=>
    rw[hb]at hu;simp only[cond_true,af_]at hu⊢;subst hu;refine⟨_,rfl,.pr (vs:=cs) gr ?_ (dj_ hcu)⟩;cases hg:J.get (nx J)with
    |none=>rfl
    |some O=>exact absurd (hwf _ _ hg).1 (Nat.lt_irrefl _)
   |false=>rw[hb]at hu;exact⟨u,hu,.same (em i u hu)⟩
 exact key ro n hn C w tm a ht st hB
def Hy(ρ ρ':Ad):Prop:=∀i v,Ad.at ρ i=some v->Ad.at ρ' i=some v
theorem Hy.refl:Hy ρ ρ:=fun _ _ h=>h
theorem Hy.cons{d v}(hd:Ad.at ρ d=none)(h:Hy ρ ρ'):Hy ρ ((d,v)::ρ'):=fun i u hu=>by
 simp only[Ad.at];cases hb:Nat.beq d i with
 |true=>have:=ac_ hb;subst this;rw[hd]at hu;cases hu
 |false=>exact h i u hu
theorem Zw{ops r}(h:TO E nt df B ops r K ρ J)(hs:Hy ρ ρ'):TO E nt df B ops r K ρ' J:=
 fun ro n hn C w tm a ht st=>h ro n hn C w tm a (fun i v hv=>ht i v (hs i v hv)) st
theorem Hy.put{d v}(h:Hy ρ ρ'):Hy ((d,v)::ρ) ((d,v)::ρ'):=fun i u hu=>by
 simp only[Ad.at]at hu⊢;cases hb:Nat.beq d i with
 |true=>rw[hb]at hu;exact hu
 |false=>rw[hb]at hu;exact h i u hu
theorem Eh{ops o}(hg:o.guard=none):∀ρ',Hy ρ ρ'->∀tm,Has tm ρ'->Bn ops o tm=some true:=fun _ _ _ _=>by simp only[Bn,hg]
theorem Ft{ops}{o oj:Oper}{j d:Nat}{b want}(hg:o.guard=some (j,want))(hj:ops[j]? =some oj)(hdj:oj.dst=some d)(hb:Ad.at ρ d=some (.bool b))(hw:cond b want (!want)=true):
  ∀ρ',Hy ρ ρ'->∀tm,Has tm ρ'->Bn ops o tm=some true:=fun ρ' hs tm ht=>by rw[Hf ht hg hj hdj (hs _ _ hb),hw]
theorem Zx{ops r o}{t:Nat}{c x y v}(hg:∀tm,Has tm ρ->Bn ops o tm=some true)(hop:o.op=.pick c x y)(ct:o.dst=some t)(ht:Nat.blt t nt=true)
  (h:As E (fun _ _ _=>none) (.pick c x y) ρ J v J)(k:TO E nt df B ops r K ((t,v)::ρ) J):TO E nt df B ops (o::r) K ρ J:=by
 refine Qg di_ (fun tm hh=>?_) k
 obtain⟨tm',h1,h2⟩:=C6 (dst:=o.dst) (by rw[ct];exact ht) hh v
 rw[ct]at h2;refine⟨tm',?_,h2⟩
 rw[Rk (s:=⟨tm,nt,df,J⟩) (hg tm hh) (by rw[hop];rfl),hop]
 simp only[h tm hh,h1]
theorem Hq(n b q){ops r r'}{o:Oper}{t:Nat}{c x}(h0:Ah E ρ c=some (.bool b))
  (hr:r.drop n=o::r')(hop:o.op=.pick c x (.const (.bool false)))(ct:o.dst=some t)(ht:Nat.blt t nt=true)(hg:∀ρ',Hy ρ ρ'->∀tm,Has tm ρ'->Bn ops o tm=some true)
  (hon:b=true->TO E nt df B ops (r.take n) (fun ρ' J'=>J'=J/\Hy ρ ρ'/\Ah E ρ' x=some (.bool q)) ρ J)
  (ep:b=false->TO E nt df B ops (r.take n) (fun ρ' J'=>J'=J/\Hy ρ ρ') ρ J)
  (k:TO E nt df B ops r' K ((t,.bool (b&&q))::ρ) J):TO E nt df B ops r K ρ J:=by
 refine Aq2 n ?_;rw[hr]
 have cc:∀ρ',Hy ρ ρ'->Ah E ρ' c=some (.bool b):=fun ρ' hs=>by
  cases c with
  |tmp j=>exact hs _ _ h0
  |_=>exact h0
 cases b with
 |true=>
  refine(hon rfl).mono fun ρ' J' ⟨h1,h2,h3⟩=>?_
  subst h1;exact Zx (hg ρ' h2) hop ct ht (A3 (cc ρ' h2) rfl h3) (Zw gr h2.put)
 |false=>
  refine(ep rfl).mono fun ρ' J' ⟨h1,h2⟩=>?_
  subst h1;exact Zx (hg ρ' h2) hop ct ht (Au (v:=.bool false) (cc ρ' h2) rfl rfl) (Zw gr h2.put)
theorem Qh(n b q){ops r r'}{o:Oper}{t:Nat}{c x}(h0:Ah E ρ c=some (.bool b))
  (hr:r.drop n=o::r')(hop:o.op=.pick c (.const (.bool true)) x)(ct:o.dst=some t)(ht:Nat.blt t nt=true)(hg:∀ρ',Hy ρ ρ'->∀tm,Has tm ρ'->Bn ops o tm=some true)
  (hon:b=false->TO E nt df B ops (r.take n) (fun ρ' J'=>J'=J/\Hy ρ ρ'/\Ah E ρ' x=some (.bool q)) ρ J)
  (ep:b=true->TO E nt df B ops (r.take n) (fun ρ' J'=>J'=J/\Hy ρ ρ') ρ J)
  (k:TO E nt df B ops r' K ((t,.bool (b||q))::ρ) J):TO E nt df B ops r K ρ J:=by
 refine Aq2 n ?_;rw[hr]
 have cc:∀ρ',Hy ρ ρ'->Ah E ρ' c=some (.bool b):=fun ρ' hs=>by
  cases c with
  |tmp j=>exact hs _ _ h0
  |_=>exact h0
 cases b with
 |false=>
  refine(hon rfl).mono fun ρ' J' ⟨h1,h2,h3⟩=>?_
  subst h1;exact Zx (hg ρ' h2) hop ct ht (Au (cc ρ' h2) rfl h3) (Zw gr h2.put)
 |true=>
  refine(ep rfl).mono fun ρ' J' ⟨h1,h2⟩=>?_
  subst h1;exact Zx (hg ρ' h2) hop ct ht (A3 (v:=.bool true) (cc ρ' h2) rfl rfl) (Zw gr h2.put)
theorem Auf{ops r}{o oj:Oper}{j d:Nat}{want}(hg:o.guard=some (j,want))(hj:ops[j]? =some oj)(hdj:oj.dst=some d)(hb:Ad.at ρ d=some An)
  (hd:B0 nt o.dst=true)(k:TO E nt df B ops r K (Dt o.dst An ρ) J):TO E nt df B ops (o::r) K ρ J:=by
 refine Qg di_ (fun tm ht=>?_) k
 obtain⟨tm',h1,h2⟩:=C6 (dst:=o.dst) hd ht An;refine⟨tm',?_,h2⟩
 have:Bn ops o tm=some false:=by simp only[Bn,hg,hj,hdj,ht d _ hb];rfl
 unfold Yi
 grind
theorem Aij{ops r}{oj:Oper}{j dj:Nat}{b want f args}{tys:Array Nat}{dst}{ty:Nat}{pos after}{k:Nat}{first cap vs full Post}
  (hj:ops[j]? =some oj)(hdj:oj.dst=some dj)(hb:Ad.at ρ dj=some (.bool b))(hw:cond b want (!want)=true)(hd:B0 nt dst=true)
  (hf:Ah E ρ f=some (.fn (.func k) first cap))(ha:Kc E ρ args.toList=some vs)(hl:first++vs++cap=full)(hc:Al E k full J Post)
  (kk:∀v J',Post v J'->TO E nt df B ops r K (Dt dst v ρ) J'):TO E nt df B ops ({ dst:=dst,op:=.call ⟨.value f,args,tys⟩,type:=ty,pos:=pos,after:=after,guard:=some (j,want) }::r) K ρ J:=by
 intro ro n hn C w tm a ht st hB arr i QQ rest br hr hQ;obtain⟨hn1,hn2⟩:=L1 hn
 have ho:arr[i]? =some { dst:=dst,op:=.call ⟨.value f,args,tys⟩,type:=ty,pos:=pos,after:=after,guard:=some (j,want) }:=by have:=hr 0 (by simp);grind
 simp only[as_,cj_,ay_,wpOpsIn,ho]
 have hw':Region.wanted { dst:=dst,op:=.call ⟨.value f,args,tys⟩,type:=ty,pos:=pos,after:=after,guard:=some (j,want) } (yielded arr a.tmps)=true:=by
  refine Dp (o:={ dst:=dst,op:=.call ⟨.value f,args,tys⟩,type:=ty,pos:=pos,after:=after,guard:=some (j,want) }) st.tmps ?_;rw[br,Hf (o:={ dst:=dst,op:=.call ⟨.value f,args,tys⟩,type:=ty,pos:=pos,after:=after,guard:=some (j,want) }) ht rfl hj hdj hb,hw]
 rw[if_pos hw'];refine Ev hn1 ?_;have hV:=Be st.glob st.tmps f;rw[ht.opd hf]at hV;unfold R at hV;obtain⟨p,q,hV,hp,hq⟩:=hV;have bp:=Dm st.glob st.tmps args.toList;rw[ht.opds ha]at bp
 have bs:RL C (nx J) w full (p++args.map a.eval++q).toList:=by
  subst hl;simp only[cv_,c_];exact(hp.append bp).append hq
 obtain⟨⟨fn,g1,g2,g3⟩,b8⟩:=hc C w _ st.sim st.glob bs
 have bq:(execOp a.eval { dst:=dst,op:=.call ⟨.value f,args,tys⟩,type:=ty,pos:=pos,after:=after,guard:=some (j,want) }).run E.P w=.ok (.enter k (p++args.map a.eval++q)) w:=by
  have g2':fn.name≠ "runtime.NumGoroutine" :=gr;have g3':fn.body≠none:=gr
  simp[execOp,resolve,hV,Deferred.ofValue,invoke,callFunc,g1,g2',g3']
 unfold Oper.wp;rw[bq,Oper.upon_enter];refine b8.mono fun e w' he=>?_
 cases e with
 |returned x=>
  obtain⟨v,J',C',k0,k1,k2,k3⟩:=he;obtain⟨tm',h1,h2⟩:=C6 (dst:=dst) hd ht v
  exact kk v J' k0 ro n hn2 C' w' tm' _ h2 (st.put k1 k2 k3 h1) (ai_ hB k2.next) arr (i+1) QQ rest br (fun j hj=>by have:=hr (j+1) gr;grind)
   fun C2 w2 a2 tm2 ρ2 J2 q1 q2 q3 qB q4=>hQ C2 w2 a2 tm2 ρ2 J2 q1 q2 q3 qB ((k2.base hB).trans q4)
 |panicked _=>exact he.elim
 |outgrown=>exact he.elim
end
abbrev Str:=List UInt8
def sV(s:Str):AV:=.str (s.map UInt8.toNat)
def slV{α:Type}(enc:α->List AV)(sz:Nat)(l:List α):AV:=.sv (l.flatMap enc) sz l.length none
def bV(b:Bool):AV:=.bool b
def iV(n:Int):AV:=.int .i64 n
theorem Fu{s t:Str}:(s.map UInt8.toNat=t.map UInt8.toNat)↔s=t:=List.map_inj_right (fun a b h=>UInt8.toNat_inj.1 h)
theorem Dl{α:Type}{enc:α->List AV}{sz}(he:∀a,(enc a).length=sz):∀l:List α,(l.flatMap enc).length=l.length*sz
 |[]=>by simp
 |a::r=>by simp only[bs_,bx_,he,Dl he r,as_,fw_];omega
theorem Ww{α:Type}{enc:α->List AV}{sz}(he:∀a,(enc a).length=sz):∀(l:List α) (i:Nat),(l.flatMap enc).drop (i*sz)=(l.drop i).flatMap enc
 |l,0=>by simp
 |[],i+1=>by simp
 |a::r,i+1=>by
  simp only[bs_,List.drop_succ_cons,fw_];rw[←Ww he r i,fz_,←eo_,List.drop_left' (he a)]
theorem Aml{α:Type}{enc:α->List AV}{sz}(he:∀a,(enc a).length=sz){l:List α}{i a}(h:l[i]? =some a):(l.flatMap enc).drop (i*sz)=enc a++(l.drop (i+1)).flatMap enc:=by
 rw[Ww he];obtain⟨hi,rfl⟩:=ae_.1 h;rw[bj_ hi,bs_]
section
variable {E:Env}{ρ:Ad}{J:Sto}{Rr:Rec}{t n:Nat}{x y:Operand}{α:Type}{enc:α->List AV}{sz:Nat}{l:List α}
theorem Jl{t₀}(hi:Mk E.P t₀=true)(hx:Ah E ρ x=some (slV enc sz l)):As E Rr (.call ⟨.builtin .len,#[x],#[t₀]⟩) ρ J (.int .i64 (.ofNat l.length)) J:=
 Bf hi hx rfl rfl
theorem Aug{t₀ s}(hi:Fs E.P t₀=true)(hx:Ah E ρ x=some (sV s)):As E Rr (.call ⟨.builtin .len,#[x],#[t₀]⟩) ρ J (.int .i64 (.ofNat s.length)) J:=by
 have:=Aou (Rr:=Rr) (J:=J) hi hx
 rwa[cx_]at this
theorem A1{by' i zz k a}(hi:elI E.P t=some (sz,by',zz))(he:∀a,(enc a).length=sz)(hx:Ah E ρ x=some (slV enc sz l))(hy:Ah E ρ y=some (.int k (.ofNat i)))(ha:l[i]? =some a):
  As E Rr (.indexAddr t x y) ρ J (.pv (enc a++(l.drop (i+1)).flatMap enc)) J:=by
 have h:=Aif (Rr:=Rr) (J:=J) hi hx hy (m:=l.length) rfl rfl (ae_.1 ha).1
 have e:Aie (slV enc sz l) (i*sz)=.pv (enc a++(l.drop (i+1)).flatMap enc):=by
  show AV.pv ((l.flatMap enc).drop (i*sz))=_
  rw[Aml he ha]
 rw[e]at h;exact h
theorem H5{p q}{ty:Nat}(hi:okI E.P t=true)(hx:Ah E ρ x=some (sV p))(hy:Ah E ρ y=some (sV q)):As E Rr (.binOp .eql t x y ty) ρ J (.bool (decide (p=q))) J:=by
 have:=Awy (Rr:=Rr) (J:=J) (ty:=ty) hi hx hy
 simpa only[Fu]using this
theorem Ko{p q}{ty:Nat}(hi:okI E.P t=true)(hx:Ah E ρ x=some (sV p))(hy:Ah E ρ y=some (sV q)):As E Rr (.binOp .neq t x y ty) ρ J (.bool (!decide (p=q))) J:=by
 have:=Awz (Rr:=Rr) (J:=J) (ty:=ty) hi hx hy
 simpa only[Fu]using this
end
theorem D0:∀{l r:List AV},Dr l.length (l++r)=some l
 |[],r=>rfl
 |x::l,r=>by simp only[as_,ay_,Dr,D0 (l:=l)]
theorem A6{l sz}(h:l.length=sz)(r):Cz sz true (l++r)=some (.agg l):=by
 subst h;simp only[Cz,D0]
theorem Wz{l sz}(h:l.length=sz):Cz sz true l=some (.agg l):=by
 have:=A6 h []
 rwa[bh_]at this
theorem A7{l sz}(h:l.length=sz):(AV.agg l).cellsN sz=some l:=by
 subst h;simp only[AV.cellsN,aw_,cond_true]
def A5{α:Type}(p:α->Bool):List α->Nat->Int
 |[],_=> -1
 |a::r,i=>cond (p a) (.ofNat i) (A5 p r (i+1))
theorem Aik{α p}:∀(l:List α) (i:Nat),(0:Int)<=A5 p l i↔l.any p=true
 |[],i=>by simp[A5]
 |a::r,i=>by
  rw[dh_];unfold A5
  by_cases hp:p a=true
  ·rw[hp];simp
  ·have hp:p a=false:=by simpa using hp
   rw[hp,cond_false,Bool.false_or];exact Aik r (i+1)
theorem Gf{α p}(l:List α):decide (Int.ofNat 0<=A5 p l 0)=l.any p:=by
 have:=Aik (p:=p) l 0
 by_cases h:l.any p=true
 ·rw[h];exact decide_eq_true (this.2 h)
 ·rw[Bool.not_eq_true]at h;rw[h];exact decide_eq_false (fun hh=>by rw[this.1 hh]at h;cases h)
def Wk(v v':AV):Prop:=∀C N w x,R C N w v x->R C N w v' x
theorem Wk.rfl'{v}:Wk v v:=fun _ _ _ _ h=>h
theorem Dv{cs sz len cap}:Wk (.sv cs sz len cap) (.sv cs sz len none):=fun C N w x h=>by
 unfold R at h⊢;obtain⟨ado,k,h1,h2,h3,h4⟩:=h
 exact⟨ado,k,h1,h2,fun q hq=>(by cases hq),h4⟩
theorem Agy{sz}:Wk (.nil (.slice none 0 0)) (.sv [] sz 0 none):=fun C N w x h=>by
 unfold R at h⊢;obtain⟨rfl,_⟩:=h
 exact⟨none,0,rfl,nl,fun q hq=>(by cases hq),by simp,fun _=>rfl,fun ad ha=>by cases ha⟩
inductive WkL:List AV->List AV->Prop
 |nil:WkL [] []
 |cons {a b:AV} {l m:List AV}:Wk a b->WkL l m->WkL (a::l) (b::m)
theorem WkL.RL{C N w}:∀{l m:List AV},WkL l m->∀{xs:List Value},RL C N w l xs->RL C N w m xs
 |_,_,.nil,xs,h=>h
 |_,_,.cons h1 h2,[],h=>by unfold AM.RL at h;exact h.elim
 |_,_,.cons h1 h2,x::xs,h=>by unfold AM.RL at h⊢;exact⟨h1 _ _ _ _ h.1,h2.RL h.2⟩
theorem WkL.refl:∀{l:List AV},WkL l l
 |[]=>.nil
 |_::_=>.cons .rfl' .refl
theorem Al.wk{E f args args' J Post}(h:Al E f args' J Post)(k:WkL args args'):Al E f args J Post:=
 fun C w vs hs hg ha=>h C w vs hs hg (k.RL ha)
section
variable {E:Env}{nt B:Nat}{df:List (Nat×List AV)}{ρ ρ':Ad}{J J':Sto}{K:Ad->Sto->Prop}{Rr:Rec}
theorem Av3{ops r d v v'}(h:Wk v v')(k:TO E nt df B ops r K ((d,v')::ρ) J):TO E nt df B ops r K ((d,v)::ρ) J:=by
 intro ro n hn C w tm a ht st hB
 have hd:=st.tmps d v (ht d v (by simp[Ad.at,aw_]))
 refine k ro n hn C w (tm.put (d+1) d (some v')) a (fun i u hu=>?_) ⟨st.sim,st.glob,fun i u hu=>?_,st.size,st.dfs⟩ hB
 ·rw[dd_];simp only[Ad.at]at hu;cases hb:Nat.beq d i with
  |true=>rw[hb]at hu;have:=ac_ hb;subst this;rw[if_pos rfl];exact hu
  |false=>
   rw[hb]at hu
   rw[if_neg (fun he=>by subst he;rw[aw_]at hb;cases hb)]
   exact ht i u (by simp only[Ad.at];rw[hb];exact hu)
 ·have hu:(tm.put (d+1) d (some v')).get i=some u:=hu;rw[dd_]at hu
  by_cases hi:i=d
  ·subst hi;rw[if_pos rfl]at hu;cases hu;exact h _ _ _ _ hd
  ·rw[if_neg hi]at hu;exact st.tmps i u hu
theorem Cx{ops r op d}{ty:Nat}{pos after v v' J₁}(h:As E (fun _ _ _=>none) op ρ J v J₁)(hw:Wk v v')(hn:Ga op=true)(hd:Nat.blt d nt=true)
  (k:TO E nt df B ops r K ((d,v')::ρ) J₁):TO E nt df B ops ({ dst:=some d,op:=op,type:=ty,pos:=pos,after:=after,guard:=none }::r) K ρ J:=
 X4 noR hn hd h (Av3 hw k)
theorem Nm{ops r f args}{tys:Array Nat}{dst}{ty:Nat}{pos after}{k:Nat}{first cap vs full v}(hd:B0 nt dst=true)
  (hf:Ah E ρ f=some (.fn (.func k) first cap))(ha:Kc E ρ args.toList=some vs)(hl:first++vs++cap=full)(hc:Al E k full J fun u U=>u=v/\U=J')
  (kk:TO E nt df B ops r K (Dt dst v ρ) J'):TO E nt df B ops ({ dst:=dst,op:=.call ⟨.value f,args,tys⟩,type:=ty,pos:=pos,after:=after,guard:=none }::r) K ρ J:=
 Az hd hf ha hl hc fun u U h=>by obtain⟨rfl,rfl⟩:=h;exact kk
theorem Bh{ops r}{oj:Oper}{j dj:Nat}{b want f args}{tys:Array Nat}{dst}{ty:Nat}{pos after}{k:Nat}{first cap vs full v}
  (hj:ops[j]? =some oj)(hdj:oj.dst=some dj)(hb:Ad.at ρ dj=some (.bool b))(hw:cond b want (!want)=true)(hd:B0 nt dst=true)
  (hf:Ah E ρ f=some (.fn (.func k) first cap))(ha:Kc E ρ args.toList=some vs)(hl:first++vs++cap=full)(hc:Al E k full J fun u U=>u=v/\U=J')
  (kk:TO E nt df B ops r K (Dt dst v ρ) J'):TO E nt df B ops ({ dst:=dst,op:=.call ⟨.value f,args,tys⟩,type:=ty,pos:=pos,after:=after,guard:=some (j,want) }::r) K ρ J:=
 Aij hj hdj hb hw hd hf ha hl hc fun u U h=>by obtain⟨rfl,rfl⟩:=h;exact kk
theorem Auh{t i x y s b k}(hi:Fs E.P t=true)(hx:Ah E ρ x=some (sV s))(hy:Ah E ρ y=some (.int k (.ofNat i)))(hb:s[i]? =some b):
  As E Rr (.index t x y) ρ J (.int .u8 (.ofNat b.toNat)) J:=Aig hi hx hy (by rw[br_,hb];rfl)
theorem Aex{n}(h1: -9223372036854775808<=n)(h2:n<9223372036854775808):Me .i64 n=.int .i64 n:=by
 cases n with
 |ofNat m=>
  have:Nat.ble m 9223372036854775807=true:=ar_ (by have:(m:Int)<9223372036854775808:=h2;omega)
  simp only[Me,Ak,M0,this,cond_true]
 |negSucc m=>
  have:Nat.ble m 9223372036854775807=true:=ar_ Om;simp only[Me,Ak,M0,this,cond_true]
theorem A0y{t ty:Nat}{x y:Operand}{p q:Int}(hi:okI E.P t=true)(hx:Ah E ρ x=some (.int .i64 p))(hy:Ah E ρ y=some (.int .i64 q))(h1: -9223372036854775808<=p+q)(h2:p+q<9223372036854775808):
  As E Rr (.binOp .add t x y ty) ρ J (iV (p+q)) J:=L0 hi hx hy (by simp only[Ic,Aok,Aex h1 h2];rfl)
theorem Agz{t ty:Nat}{x y p q}(hi:okI E.P t=true)(hx:Ah E ρ x=some (.int .i64 p))(hy:Ah E ρ y=some (.int .i64 q))(h1: -9223372036854775808<=p-q)(h2:p-q<9223372036854775808):
  As E Rr (.binOp .sub t x y ty) ρ J (iV (p-q)) J:=L0 hi hx hy (by simp only[Ic,Wh,Aex h1 h2];rfl)
theorem W2{t ty:Nat}{x y p q}(hi:okI E.P t=true)(hx:Ah E ρ x=some (.int .i64 (.ofNat p)))(hy:Ah E ρ y=some (.int .i64 (.ofNat q)))(h:q<=p)(hp:p<9223372036854775808):
  As E Rr (.binOp .sub t x y ty) ρ J (iV (.ofNat (p-q))) J:=by
 have:=Agz (Rr:=Rr) (J:=J) (ty:=ty) hi hx hy (by simp only[bu_];omega) (by simp only[bu_];omega)
 rwa[show(Int.ofNat p-Int.ofNat q)=Int.ofNat (p-q) by simp only[bu_];omega]at this
theorem Abi{ops r}{t ty0:Nat}{x}{d ty:Nat}{pos after cs sz len cap}(hsl:Mk E.P t=true)(hx:Ah E ρ x=some (.sv cs sz len cap))(hd:Nat.blt d nt=true)
  (k:∀b:Bool,(b=true->len=0)->TO E nt df B ops r K ((d,.bool b)::ρ) J):
  TO E nt df B ops ({ dst:=some d,op:=.binOp .eql t x (.const (.slice none 0 0)) ty0,type:=ty,pos:=pos,after:=after,guard:=none }::r) K ρ J:=by
 have hti:∃ti e,Ay E.P t=some ti/\ti.desc=.slice e:=by
  unfold Mk at hsl
  split at hsl
  ·rename_i ti hti
   split at hsl
   ·rename_i e he;exact⟨ti,e,hti,he⟩
   ·cases hsl
  ·cases hsl
 obtain⟨ti,e,hti,hde⟩:=hti
 have hu:E.P.underlying t=some (.slice e):=by
  obtain⟨_,dd,_,g2,g3,_⟩:=Ap hti
  exact g2.trans (by rw[←g3,hde])
 refine Aii (Pv:=fun v=>∃b:Bool,v=.bool b/\(b=true->len=0)) (dst:=some d) (J':=J) hd (fun C w tm a ht st=>?_) (fun v hv=>by obtain⟨b,rfl,hb⟩:=hv;exact k b hb)
 have hv:=Be st.glob st.tmps x;rw[ht.opd hx]at hv;unfold R at hv;obtain⟨ado,kk,h1,h2,h3,h4,h5,h6⟩:=hv;have fin:∀{X:Value} {b:Bool},a.eval x=X->(∀l,X≠.agg l)->X≠.nilIface->(binOp .eql t X (.slice none 0 0)).run E.P w=.ok (.bool b) w->
   (execOp a.eval { dst:=some d,op:=.binOp .eql t x (.const (.slice none 0 0)) ty0,type:=ty,pos:=pos,after:=after,guard:=none }).run E.P w=.ok (.value (.bool b)) w:=by
  intro X b hX hn1 hn2 hb;have hg:=E7 (P:=E.P) (w:=w) (op:=.eql) (t:=t) (x:=x) (y:=.const (.slice none 0 0)) (a:=X) (b:=.slice none 0 0) (fun l m hh=>hn1 l hh.1) (fun hh=>hn2 hh.1)
  have hY:a.eval (.const (.slice none 0 0))=.slice none 0 0:=rfl;simp only[execOp,hX,hY,Sem.run_bind,hg,Result.andThen_ok,hb,Sem.run_pure]
 cases ado with
 |some ad=>
  have:=(gh_ (w:=w) hu ⟨_,rfl⟩ ad len kk).1.eql
  exact⟨.bool false,⟨false,rfl,fun h=>by cases h⟩,.bool false,w,C,.inl (fin h1 (fun l h=>by cases h) (fun h=>by cases h) this),by unfold R;rfl,st.sim,cf_ _ _ _⟩
 |none=>
  have hk:=h5 rfl;subst hk
  have hl:len=0:=by omega
  subst hl;have:=(gh_ (w:=w) hu ⟨_,rfl⟩ ⟨0,0,none⟩ 0 0).2.2.eql
  exact⟨.bool true,⟨true,rfl,fun _=>rfl⟩,.bool true,w,C,.inl (fin h1 (fun l h=>by cases h) (fun h=>by cases h) this),by unfold R;rfl,st.sim,cf_ _ _ _⟩
end
def Abj(E:Env)(ρ:Ad)(fl:List (Nat×Nat)):List (Nat×Operand)->Option (List (Nat×Nat×AV))
 |[]=>some []
 |(i,x)::r=>match fl[i]?,Ah E ρ x,Abj E ρ fl r with
  |some (o,n),some v,some l=>some ((o,n,v)::l)
  |_,_,_=>none
def W3(E:Env)(ρ:Ad)(sz:Nat):List (Nat×Operand)->Option (List (Nat×Nat×AV))
 |[]=>some []
 |(i,x)::r=>match Ah E ρ x,W3 E ρ sz r with
  |some v,some l=>some ((i*sz,sz,v)::l)
  |_,_=>none
section
variable {E:Env}{ρ:Ad}{J J':Sto}{tm:Tr AV}{Rr:Rec}
theorem Amm{P}:∀{fs:List Field} {fl:List (Nat×Nat)},bdF P fs=some fl->∀(i:Nat) (p:Nat×Nat),fl[i]? =some p->∃(f:Field) (ti:TI),fs[i]? =some f/\Ay P f.type=some ti/\p=(f.offset,ti.size)
 |[],fl,h,i,p,hp=>by simp only[bdF,af_]at h;subst h;simp at hp
 |f::r,fl,h,i,p,hp=>by
  simp only[bdF]at h
  split at h
  ·rename_i ti l hti hl
   cases h;cases i with
   |zero=>simp at hp;exact⟨f,ti,rfl,hti,hp.symm⟩
   |succ i=>obtain⟨g,tj,h1,h2,h3⟩:=Amm hl i p (by simpa using hp);exact⟨g,tj,by simpa using h1,h2,h3⟩
  ·cases h
theorem Ail(h:Has tm ρ){fs fl}(hf:bdF E.P fs=some fl):∀{l:List (Nat×Operand)} {ps:List (Nat×Nat×AV)},Abj E ρ fl l=some ps->Js E.P E tm fs l=some ps
 |[],ps,hp=>by simp only[Abj,af_]at hp;subst hp;rfl
 |(i,x)::r,ps,hp=>by
  simp only[Abj]at hp
  split at hp
  ·rename_i o n v l h1 h2 h3
   cases hp;obtain⟨f,ti,k1,k2,k3⟩:=Amm hf i _ h1;cases k3;simp only[Js,k1,Ail h hf h3,k2,h.opd h2]
  ·cases hp
theorem Abk(h:Has tm ρ){sz}:∀{l:List (Nat×Operand)} {ps:List (Nat×Nat×AV)},W3 E ρ sz l=some ps->Is E tm sz l=ps
 |[],ps,hp=>by simp only[W3,af_]at hp;subst hp;rfl
 |(i,x)::r,ps,hp=>by
  simp only[W3]at hp
  split at hp
  ·rename_i v l h2 h3
   cases hp;simp only[Is,h.opd h2,Abk h h3]
  ·cases hp
theorem Ut{t parts z cs fl ps}(hi:bdI E.P t=some (z,fl))(hp:Abj E ρ fl parts.toList=some ps)(hf:Si z ps=some cs):
  As E Rr (.build t parts) ρ J (.agg cs) J:=fun tm h=>by
 unfold bdI at hi
 split at hi
 ·rename_i ti hti
  split at hi
  ·rename_i z' fs hz hd
   split at hi
   ·rename_i l h1 h2
    cases hi;simp only[opA,Aw,hti,hz,hd,h1,Ail h h2 hp,M2,hf]
   ·cases hi
  ·cases hi
 ·cases hi
theorem Ai{t len sz by' z cs parts ps}(hi:elI E.P t=some (sz,by',some z))(hby:∀e,E.byref e=false)(hl:(Nat.ble (len*sz) 16777216&&Nat.beq z.length sz)=true)
  (hp:W3 E ρ sz parts.toList=some ps)(hf:Si (rep z len) ps=some cs):As E Rr (.buildSlice t len parts) ρ J (.sv cs sz len (some len)) J:=fun tm h=>by
 obtain⟨ti,e,te,h1,h2,h3,h4,h5,h6⟩:=Qc hi;subst h4;simp only[opA,Aw,h1,h2,h3,h6,hl,hby,Abk h hp,Id,hf]
theorem Aq5{α:Type}{enc sz}(he:∀a,(enc a).length=sz)(l:List α){a b}(hab:a<=b)(hb:b<=l.length):
  Dr ((b-a)*sz) ((l.flatMap enc).drop (a*sz))=some (((l.take b).drop a).flatMap enc):=by
 rw[Ww he]
 have bl:((l.take b).drop a).length=b-a:=by simp;omega
 have e:l.drop a=(l.take b).drop a++l.drop b:=by
  have h1:l=l.take b++l.drop b:=(cc_ b l).symm
  calc l.drop a=(l.take b++l.drop b).drop a:=by rw[←h1]
   _=(l.take b).drop a++l.drop b:=by rw[fj_ (by simp;omega)]
 rw[e,da_];have:=D0 (l:=((l.take b).drop a).flatMap enc) (r:=(l.drop b).flatMap enc)
 rwa[Dl he,bl]at this
theorem Ag0{α enc t sz by' a b zz}{l:List α}{x lo hi mx alo ahi amx c}(hel:elI E.P t=some (sz,by',zz))(he:∀a,(enc a).length=sz)
  (hx:Ah E ρ x=some (slV enc sz l))(h1:Iz E ρ lo=some alo)(h2:Iz E ρ hi=some ahi)(h3:Iz E ρ mx=some amx)(hb:Do l.length none alo ahi amx=some (a,b,c))(hab:a<=b)(hbl:b<=l.length):
  As E Rr (.slice t x lo hi mx) ρ J (.sv (((l.take b).drop a).flatMap enc) sz (b-a) c) J:=fun tm h=>by
 obtain⟨ti,e,te,k1,k2,k3,k4,k5,k6⟩:=Qc hel;subst k4;simp only[opA,Aw,k1,k2,k3,h.opd hx,h.opdO h1,h.opdO h2,h.opdO h3,slV,Lj,aw_,hb,Aq5 he l hab hbl,Ak]
theorem Av{t t2 sz by' n z x y d s v new}(hi:elI E.P t=some (sz,by',some z))(hl:Nat.beq z.length sz=true)(hs:Mk E.P t2=true)(hx:Ah E ρ x=some d)(hy:Ah E ρ y=some s)
  (hn:lenA s=some n)(ef:F9 J sz s n=some new)(ha:B6 J sz by' d n new=some (v,J')):As E Rr (.call ⟨.builtin .append,#[x,y],#[t,t2]⟩) ρ J v J':=fun tm h=>by
 obtain⟨ti,e,te,h1,h2,h3,h4,h5,h6⟩:=Qc hi;subst h4 h5;unfold Mk at hs
 split at hs
 ·rename_i t2i ht2
  split at hs
  ·rename_i e2 hd2
   simp only[opA,Aw,h1,Ee,h2,h3,ht2,h6,hl,hd2,h.opd hx,h.opd hy,opds,T7,hn,ef,ha]
  ·cases hs
 ·cases hs
def Below(N:Nat)(J J':Sto):Prop:=nx J<=nx J'/\∀a,a<N->J'.get a=J.get a
theorem Below.rfl'{N}:Below N J J:=⟨nl,fun _ _=>rfl⟩
abbrev fn_:=@Below.rfl'
theorem Below.trans{N J''}(h:Below N J J')(k:Below N J' J''):Below N J J'':=⟨ai_ h.1 k.1,fun a ha=>(k.2 a ha).trans (h.2 a ha)⟩
end
theorem Below.new{N J J'}(h:Below N J J')(hN:N<=nx J)(o):Below N J (J'.new o):=
 ⟨by rw[Ao];have:=h.1;omega,fun a ha=>by rw[ag_,if_neg (by have:=h.1;omega)];exact h.2 a ha⟩
theorem Below.set{N a J J'}(h:Below N J J')(ha:N<=a)(o):Below N J (J'.set a o):=
 ⟨by rw[Aq];exact h.1,fun b hb=>by rw[aa_,if_neg Om];exact h.2 b hb⟩
theorem Ds.below{J J'}(hw:WFS J)(h:Below (nx J) J J'):Ds J' J:=a_ hw h.1 h.2
abbrev am_:=@Ds.below
theorem X5{N}:∀{l m:List AV},AV.unds N (l++m)=(AV.unds N l&&AV.unds N m)
 |[],m=>by simp[AV.unds]
 |x::l,m=>by simp only[ay_,AV.unds,X5 (l:=l),Bool.and_assoc]
theorem A2{N}{α:Type}{enc}(h:∀a,AV.unds N (enc a)=true):∀l:List α,AV.unds N (l.flatMap enc)=true
 |[]=>rfl
 |a::r=>by rw[bs_,X5,h a,A2 h r];rfl
theorem Fv{N α enc sz}(h:∀a,AV.unds N (enc a)=true)(l:List α):AV.und N (slV enc sz l)=true:=A2 h l
def Ku:List (Tr AV×AV)->List (Ad×AV)->Prop
 |[],[]=>True
 |(tm,v)::l,(ρ,u)::m=>Has tm ρ/\v=u/\Ku l m
 |_,_=>False
theorem Ku.append:∀{l l':List (Tr AV×AV)} {m m':List (Ad×AV)},Ku l m->Ku l' m'->Ku (l++l') (m++m')
 |[],l',[],m',_,h=>h
 |(tm,v)::l,l',(ρ,u)::m,m',h,k=>⟨h.1,h.2.1,Ku.append h.2.2 k⟩
 |[],_,_::_,_,h,_=>h.elim
 |_::_,_,[],_,h,_=>h.elim
theorem Ku.reverse:∀{l:List (Tr AV×AV)} {m:List (Ad×AV)},Ku l m->Ku l.reverse m.reverse
 |[],[],h=>h
 |(tm,v)::l,(ρ,u)::m,h=>by
  rw[d_,d_];exact Ku.append (Ku.reverse h.2.2) ⟨h.1,h.2.1,trivial⟩
 |[],_::_,h=>h.elim
 |_::_,[],h=>h.elim
theorem Ku.get:∀{l:List (Tr AV×AV)} {m:List (Ad×AV)},Ku l m->∀(j:Nat) (t:Tr AV) (v:AV),l[j]? =some (t,v)->∃ρ,m[j]? =some (ρ,v)/\Has t ρ
 |[],[],_,j,t,v,h=>by simp at h
 |(tm,v)::l,(ρ,u)::m,h,0,t,x,hj=>by simp at hj;obtain⟨rfl,rfl⟩:=hj;obtain⟨h1,rfl,_⟩:=h;exact⟨ρ,rfl,h1⟩
 |(tm,v)::l,(ρ,u)::m,h,j+1,t,x,hj=>by
  obtain⟨ρ',h1,h2⟩:=Ku.get h.2.2 j t x (by simpa using hj)
  exact⟨ρ',by simpa using h1,h2⟩
 |[],_::_,h,_,_,_,_=>h.elim
 |_::_,[],h,_,_,_,_=>h.elim
abbrev KD:=Ad->Sto->List Sto->List (Ad×AV)->Prop
def TD(E:Env)(nt:Nat)(Rr:Rec)(ops r:List Oper)(K:KD)(ρ:Ad)(J:Sto)(eps:List Sto)(log:List (Ad×AV)):Prop:=
 ∀(tm:Tr AV) (df:List (Nat×List AV)) (dl:List (Tr AV×AV)),Has tm ρ->Ku dl log->∃d',T9 E ops Rr r ⟨⟨tm,nt,df,J⟩,eps,dl⟩=some d'/\d'.s.nt=nt/\d'.s.df=df/\∃ρ' log',Has d'.s.tm ρ'/\Ku d'.log log'/\K ρ' d'.s.sto d'.eps log'
section
variable {E:Env}{nt B:Nat}{df:List (Nat×List AV)}{Q:Cc}{Rr:Rec}{ops r:List Oper}{K:KD}{ρ:Ad}{J:Sto}{eps:List Sto}{log:List (Ad×AV)}
theorem C1(h:K ρ J eps log):TD E nt Rr ops [] K ρ J eps log:=fun tm df dl ht hl=>⟨_,rfl,rfl,rfl,ρ,log,ht,hl,h⟩
theorem Aq6{o v J₁ b}(hg:∀tm,Has tm ρ->Bn ops o tm=some true)(he:B5 (Bc E o.op)=b)(hd:B0 nt o.dst=true)(h:As E Rr o.op ρ J v J₁)
  (k:TD E nt Rr ops r K (Dt o.dst v ρ) (cond b J₁ J) (cond b (J₁::eps) eps) ((ρ,v)::log)):TD E nt Rr ops (o::r) K ρ J eps log:=by
 intro tm df dl ht hl;obtain⟨tm',h1,h2⟩:=C6 (dst:=o.dst) hd ht v
 have:Rc E ops o Rr ⟨⟨tm,nt,df,J⟩,eps,dl⟩=some ⟨⟨tm',nt,df,cond b J₁ J⟩,cond b (J₁::eps) eps,(tm,v)::dl⟩:=by
  unfold Rc;simp only[hg tm ht,h tm ht,h1,he];cases b<;>rfl
 obtain⟨d',k1,k2⟩:=k tm' df ((tm,v)::dl) h2 ⟨ht,rfl,hl⟩
 exact⟨d',by simp only[T9,this];exact k1,k2⟩
theorem Amn{op dst}{ty:Nat}{pos after v J₁ b}(he:B5 (Bc E op)=b)(hd:B0 nt dst=true)(h:As E Rr op ρ J v J₁)
  (k:TD E nt Rr ops r K (Dt dst v ρ) (cond b J₁ J) (cond b (J₁::eps) eps) ((ρ,v)::log)):TD E nt Rr ops ({ dst:=dst,op:=op,type:=ty,pos:=pos,after:=after,guard:=none }::r) K ρ J eps log:=
 Aq6 (o:={ dst:=dst,op:=op,type:=ty,pos:=pos,after:=after,guard:=none }) (fun _ _=>rfl) he hd h k
theorem Qi{o oj v J₁}{j d:Nat}{b want e}(hg:o.guard=some (j,want))(hj:ops[j]? =some oj)(hdj:oj.dst=some d)(hb:Ad.at ρ d=some (.bool b))(hw:cond b want (!want)=true)
  (he:B5 (Bc E o.op)=e)(hd:B0 nt o.dst=true)(h:As E Rr o.op ρ J v J₁)
  (k:TD E nt Rr ops r K (Dt o.dst v ρ) (cond e J₁ J) (cond e (J₁::eps) eps) ((ρ,v)::log)):TD E nt Rr ops (o::r) K ρ J eps log:=
 Aq6 (fun tm ht=>by rw[Hf ht hg hj hdj hb,hw]) he hd h k
def Obl(E:Env)(eps:List Sto):List Ann->List Oper->List (Ad×AV)->Prop
 |a::az,o::os,(ρ,v)::l=>(match a.cls with
  |.read=>∀J∈(eps.drop a.lo).take (a.hi+1-a.lo),∃J',As E (fun _ _ _=>none) o.op ρ J v J'
  |_=>True)/\Obl E eps az os l
 |_,_,_=>True
theorem Obl.get{E eps}:∀{az:List Ann} {os:List Oper} {l:List (Ad×AV)},Obl E eps az os l->∀(j:Nat) (a:Ann) (o:Oper) (ρ:Ad) (v:AV),az[j]? =some a->os[j]? =some o->l[j]? =some (ρ,v)->a.cls=.read->
  ∀J∈(eps.drop a.lo).take (a.hi+1-a.lo),∃J',As E (fun _ _ _=>none) o.op ρ J v J'
 |a::az,o::os,(ρ,v)::l,h,0,a',o',ρ',v',ha,ho,hl,hc=>by
  simp at ha ho hl;obtain⟨rfl,rfl⟩:=hl;subst ha ho
  have:=h.1;rw[hc]at this;exact this
 |a::az,o::os,(ρ,v)::l,h,j+1,a',o',ρ',v',ha,ho,hl,hc=>Obl.get h.2 j a' o' ρ' v' (by simpa using ha) (by simpa using ho) (by simpa using hl) hc
 |[],_,_,_,_,_,_,_,_,h,_,_,_=>by simp at h
 |_::_,[],_,_,_,_,_,_,_,_,h,_,_=>by simp at h
 |_::_,_::_,[],_,_,_,_,_,_,_,_,h,_=>by simp at h
theorem Jm{ops anns}(h:Lo E ops=some anns):Eu ops (Region.before ops).toList=true/\Fo ops=true/\Mg (Region.before ops).toList (A8 E ops.toList 0)=true/\
  anns=Kb E (Region.before ops).toList (A8 E ops.toList 0) ops.toList 0:=by
 unfold Lo at h;simp only at h
 split at h
 ·rename_i dw
  cases h;simp only[ad_]at dw;obtain⟨⟨⟨c1,c2⟩,c3⟩,_⟩:=dw;exact⟨c1,c2,c3,rfl⟩
 ·cases h
theorem L4{id ops anns}(hm:E.P.follows .mixedOrders=true)(hR:Bk E Rr)(ha:Lo E ops=some anns)
  (h:TD E nt Rr ops.toList ops.toList (fun ρ' J' eps log=>Obl E eps.reverse anns ops.toList log.reverse/\Q .normal ρ' J') ρ J [J] []):T E nt df B (.region id ops true) Q ρ J:=by
 intro ro n hn C w tm a ht st hB;obtain⟨c1,c2,c3,c4⟩:=Jm ha;obtain⟨d,k1,k2,k3,ρ',log',k4,k5,k6,k7⟩:=h tm df [] ht trivial;refine wpIn_mono (Aic hm hR st c1 c2 c3 k1 fun j o t v ho hl hc hg σk hσ=>?_) fun e a' w' he=>?_
 ·obtain⟨ρj,q1,q2⟩:=k5.reverse.get j t v hl
  have cv:=Ix (E:=E) (b:=(Region.before ops).toList) (effs:=A8 E ops.toList 0) ops.toList 0 j o (by simpa using ho)
  rw[←c4]at cv;simp only[bn_]at cv
  obtain⟨J',hto⟩:=k6.get j _ o ρj v cv (by simpa using ho) q1 hc σk (by simp only[Gc];exact hσ)
  have:=hto t q2;refine⟨J',?_⟩
  have hne:B5 (Bc E o.op)=false:=by rw[hc];rfl
  rw[←Iy (Rr:=fun _ _ _=>none) hc];exact this
 ·obtain⟨y,hy,C',h1,h2,h3⟩:=he;rw[ao_]at hy;subst hy;obtain⟨⟨tm',nt',df',J'⟩,eps',dl'⟩:=d;simp only at k2 k3;subst k2 k3;exact⟨.normal,tm',ρ',J',C',h1,k4,k7,h2,ai_ hB h3.next,h3.base hB⟩
def Amo(E:Env)(ops:List Oper):Bool:=ops.all fun o=> !B5 (Bc E o.op)
def KD0(Q:Cc)(J:Sto):KD:=fun ρ' J' eps _=>J'=J/\eps=[J]/\Q .normal ρ' J
theorem Aui{id ops anns}(hm:E.P.follows .mixedOrders=true)(ha:Lo E ops=some anns)(hc:Amo E ops.toList=true)
  (h:TD E nt (fun _ _ _=>none) ops.toList ops.toList (KD0 Q J) ρ J [J] []):T E nt df B (.region id ops true) Q ρ J:=by
 intro ro n hn C w tm a ht st hB;obtain⟨c1,c2,c3,c4⟩:=Jm ha;obtain⟨d,k1,k2,k3,ρ',log',k4,k5,k6,k7,k8⟩:=h tm df [] ht trivial;refine wpIn_mono (Aic hm di_ st c1 c2 c3 k1 fun j o t v ho hl hcl hg σk hσ=>?_) fun e a' w' he=>?_
 ·rw[k7]at hσ
  have hσ':σk=J:=by
   have:=fl_ (cm_ hσ)
   simpa using this
  subst hσ';obtain⟨log,eps,lex,g2,g3,g4,g5⟩:=Lz k1;simp only[dy_,bd_,d_]at g2 g3;obtain⟨x1,x2,x3,x4,x5⟩:=Wq lex
  obtain⟨t',v',t₁,J₀,J₁,y1,y2,y3,y4,y5,y6⟩:=x5 j o (by simpa using ho)
  rw[g2]at hl;rw[hl]at y1;cases y1
  have px:eps=[]:=by
   rw[k7]at g3
   simpa using g3.symm
  rw[px]at y3
  have hσ0:J₀=σk:=by
   have:=(ae_.1 y3).1;simp only[fh_]at this
   have h0:cnt E ops.toList j=0:=by omega
   rw[h0]at y3;simpa using y3.symm
  subst hσ0
  have hne:B5 (Bc E o.op)=false:=by rw[hcl];rfl
  rcases y5 with⟨z1,z2⟩|⟨z1,z2⟩
  ·exact⟨J₁,by rw[←Iy (Rr:=fun _ _ _=>none) hcl];exact z2⟩
  ·rw[z1]at hg;cases hg
 ·obtain⟨y,hy,C',h1,h2,h3⟩:=he;rw[ao_]at hy;subst hy;obtain⟨⟨tm',nt',df',J'⟩,eps',dl'⟩:=d;simp only at k2 k3 k6;subst k2 k3 k6;exact⟨.normal,tm',ρ',J',C',h1,k4,k8,h2,ai_ hB h3.next,h3.base hB⟩
def Rm(E:Env):List Ann->List Oper->Nat->Bool
 |a::az,o::os,c=>(match a.cls with
  |.read=>Nat.beq a.lo c&&Nat.beq a.hi c
  |_=>true)&&Rm E az os (cond (B5 (Bc E o.op)) (c+1) c)
 |_,_,_=>true
theorem X6{E}:∀{az:List Ann} {os:List Oper} {c:Nat},Rm E az os c=true->∀(j:Nat) (a:Ann) (o:Oper),az[j]? =some a->os[j]? =some o->a.cls=.read->a.lo=c+cnt E os j/\a.hi=c+cnt E os j
 |a::az,o::os,c,h,0,a',o',ha,ho,hc=>by
  simp at ha ho;subst ha ho
  simp only[Rm,hc,ad_]at h
  exact⟨by simp only[cnt];exact ac_ h.1.1,by simp only[cnt];exact ac_ h.1.2⟩
 |a::az,o::os,c,h,j+1,a',o',ha,ho,hc=>by
  simp only[Rm,ad_]at h
  have:=X6 h.2 j a' o' (by simpa using ha) (by simpa using ho) hc
  simp only[cnt];cases he:B5 (Bc E o.op)with
  |true=>rw[he]at this;simp only[cond_true]at this;rw[if_pos rfl];omega
  |false=>rw[he]at this;simp only[cond_false]at this;rw[if_neg (by simp)];omega
 |[],_,_,_,_,_,_,h,_,_=>by simp at h
 |_::_,[],_,_,_,_,_,_,h,_=>by simp at h
def KDS(Q:Cc):KD:=fun ρ' J' _ _=>Q .normal ρ' J'
theorem Auj{id ops anns}(hm:E.P.follows .mixedOrders=true)(hR:Bk E Rr)(ha:Lo E ops=some anns)(hp:Rm E anns ops.toList 0=true)
  (h:TD E nt Rr ops.toList ops.toList (KDS Q) ρ J [J] []):T E nt df B (.region id ops true) Q ρ J:=by
 intro ro n hn C w tm a ht st hB;obtain⟨c1,c2,c3,c4⟩:=Jm ha;obtain⟨d,k1,k2,k3,ρ',log',k4,k5,k6⟩:=h tm df [] ht trivial;refine wpIn_mono (Aic hm hR st c1 c2 c3 k1 fun j o t v ho hl hcl hg σk hσ=>?_) fun e a' w' he=>?_
 ·have cv:=Ix (E:=E) (b:=(Region.before ops).toList) (effs:=A8 E ops.toList 0) ops.toList 0 j o (by simpa using ho)
  rw[←c4]at cv;simp only[bn_]at cv
  obtain⟨q1,q2⟩:=X6 hp j _ o cv (by simpa using ho) hcl
  simp only[bn_,Gc]at q1 q2
  rw[q1,q2,show cnt E ops.toList j+1-cnt E ops.toList j=1 by omega]at hσ
  obtain⟨log,eps,lex,g2,g3,g4,g5⟩:=Lz k1;simp only[dy_,bd_,d_]at g2 g3;obtain⟨x1,x2,x3,x4,x5⟩:=Wq lex
  obtain⟨t',v',t₁,J₀,J₁,y1,y2,y3,y4,y5,y6⟩:=x5 j o (by simpa using ho)
  rw[g2]at hl;rw[hl]at y1;cases y1
  have fg:σk=J₀:=by
   rw[g3]at hσ;obtain⟨i,hi⟩:=au_.1 hσ;rw[ea_]at hi
   split at hi
   ·rename_i hlt
    have h0:i=0:=by omega
    subst h0;rw[g_,fd_]at hi;have e1:([J]++eps)[cnt E ops.toList j]? =some J₀:=y3;rw[e1]at hi;cases hi;rfl
   ·cases hi
  subst fg
  have hne:B5 (Bc E o.op)=false:=by rw[hcl];rfl
  rcases y5 with⟨z1,z2⟩|⟨z1,z2⟩
  ·rw[Iy hcl]at z2;exact⟨J₁,z2⟩
  ·rw[z1]at hg;cases hg
 ·obtain⟨y,hy,C',h1,h2,h3⟩:=he;rw[ao_]at hy;subst hy;obtain⟨⟨tm',nt',df',J'⟩,eps',dl'⟩:=d;simp only at k2 k3;subst k2 k3;exact⟨.normal,tm',ρ',J',C',h1,k4,k6,h2,ai_ hB h3.next,h3.base hB⟩
theorem Bq{l f args}{tys:Array Nat}{k:Nat}{first cap vs v J'}(hf:Ah E ρ f=some (.fn (.func k) first cap))(ha:Kc E ρ args.toList=some vs)
  (hr:Dk l (.fn k) (first++vs++cap) J=some (v,J')):As E (Dk l) (.call ⟨.value f,args,tys⟩) ρ J v J':=Ami hf ha rfl hr
theorem Bv{f a s v s' r}:Dk ((f,a,s,v,s')::r) (.fn f) a s=some (v,s'):=by
 simp only[Dk,and_self,if_true]
end
section
variable {E:Env}{nt B:Nat}{df:List (Nat×List AV)}{ρ ρ':Ad}{J J':Sto}{K:Ad->Sto->Prop}
theorem Ak4{v:AV}{sz cs}(hc:v.cellsN sz=some cs):cs.length=sz:=by
 unfold AV.cellsN at hc
 split at hc<;>try (cases hc;done)
 ·cases hb':Nat.beq ‹List AV›.length sz with
  |true=>rw[hb']at hc;cases hc;exact ac_ hb'
  |false=>rw[hb']at hc;cases hc
 ·cases hb':Nat.beq sz 1 with
  |true=>rw[hb']at hc;cases hc;exact(ac_ hb').symm
  |false=>rw[hb']at hc;cases hc
theorem Ak5{v sz N cs}(hc:v.cellsN sz=some cs)(hv:AV.und N v=true):AV.unds N cs=true:=by
 unfold AV.cellsN at hc
 split at hc<;>try (cases hc;done)
 ·cases hb':Nat.beq ‹List AV›.length sz with
  |true=>rw[hb']at hc;cases hc;exact hv
  |false=>rw[hb']at hc;cases hc
 ·cases hb':Nat.beq sz 1 with
  |true=>rw[hb']at hc;cases hc;simp only[AV.unds,hv,be_]
  |false=>rw[hb']at hc;cases hc
theorem Rn{ops r t d e sz agg x y}{ty ty' ty'':Nat}{pos pos' pos'' after after' after'' z cs v u}(hz:zI E.P t=some z)(hi:ldI E.P t=some (sz,agg))(hl:Nat.beq z.length sz=true)
  (hy:Ah E ρ y=some u)(hy':∀p,Ah E ((d,p)::ρ) y=some u)(hv:Ah E ρ x=some v)(hx:∀p,Ah E ((e,u)::(d,p)::ρ) x=some v)(hde:Nat.beq e d=false)(hc:v.cellsN sz=some cs)(hd:Nat.blt d nt=true)(he:Nat.blt e nt=true)[Se E](hdf:df=[])
  (k:TO E nt df B ops r K ((e,u)::(d,.pv cs)::ρ) J):
  TO E nt df B ops ({ dst:=some d,op:=.alloc t,type:=ty,pos:=pos,after:=after,guard:=none }::{ dst:=some e,op:=.assign y,type:=ty'',pos:=pos'',after:=after'',guard:=none }::
   { dst:=none,op:=.store t (.tmp d) x,type:=ty',pos:=pos',after:=after',guard:=none }::r) K ρ J:=by
 subst hdf;intro ro n hn C w tm a ht st hB;have hwf:=st.sim.wfs;have em:∀i u,Ad.at ρ i=some u->AV.und (nx J) u=true:=fun i u hu=>R.und _ _ (st.tmps i u (ht i u hu))
 have hou:∀(o:Operand) v,Ah E ρ o=some v->AV.und (nx J) v=true:=fun o v ho=>by
  have hvR:=Be st.glob st.tmps o;rw[ht.opd ho]at hvR;exact R.und _ _ hvR
 have hcu:=Ak5 hc (hou x v hv)
 have hcs:cs.length=z.length:=by rw[Ak4 hc];exact(ac_ hl).symm
 have key:TO E nt [] B ops ({ dst:=some d,op:=.alloc t,type:=ty,pos:=pos,after:=after,guard:=none }::{ dst:=some e,op:=.assign y,type:=ty'',pos:=pos'',after:=after'',guard:=none }::
   { dst:=none,op:=.store t (.tmp d) x,type:=ty',pos:=pos',after:=after',guard:=none }::r) K ρ J:=by
  refine Qg noR (J₁:=J.new (.cells z)) (ρ₁:=(d,.pr (nx J) 0)::ρ) (fun tm' ht'=>⟨_,S9 hz hd,ht'.put d _⟩) ?_
  refine X4 noR rfl he (Gd (hy' _)) ?_
  refine X4 noR rfl rfl (By (vs:=z) (vs':=cs) (ad:=nx J) (off:=0) (v:=v) (cs:=cs) hi (by simp[Ah,Dt,Ad.at,aw_,hde]) (hx _) hc Eg (Hh hcs)) ?_
  simp only[Dt];refine Aq3 J ((e,u)::(d,.pv cs)::ρ) ?_ hB ?_ k
  ·refine a_ hwf (by rw[Aq,Ao];exact dm_ _) fun b hb=>?_
   rw[aa_,if_neg Om,ag_,if_neg Om]
  ·intro i u' hu;simp only[Ad.at]at hu⊢;cases hb:Nat.beq e i with
   |true=>
    rw[hb]at hu;simp only[cond_true,af_]at hu⊢;subst hu;exact⟨_,rfl,.same (hou y _ hy)⟩
   |false=>
    rw[hb]at hu;simp only[cond_false]at hu⊢;cases hb2:Nat.beq d i with
    |true=>
     rw[hb2]at hu;simp only[cond_true,af_]at hu⊢;subst hu
     refine⟨_,rfl,.pr (vs:=cs) (by rw[aa_,if_pos rfl]) ?_ (dj_ hcu)⟩
     cases hg:J.get (nx J)with
     |none=>rfl
     |some O=>exact absurd (hwf _ _ hg).1 (Nat.lt_irrefl _)
    |false=>rw[hb2]at hu;exact⟨u',hu,.same (em i u' hu)⟩
 exact key ro n hn C w tm a ht st hB
def KDI(Q:Cc)(J:Sto):KD:=fun ρ' J' eps _=>J'=J/\(∀e∈eps,e=J)/\Q .normal ρ' J
theorem Auk{Q Rr id ops anns}(hm:E.P.follows .mixedOrders=true)(hR:Bk E Rr)(ha:Lo E ops=some anns)
  (h:TD E nt Rr ops.toList ops.toList (KDI Q J) ρ J [J] []):T E nt df B (.region id ops true) Q ρ J:=by
 intro ro n hn C w tm a ht st hB;obtain⟨c1,c2,c3,c4⟩:=Jm ha;obtain⟨d,k1,k2,k3,ρ',log',k4,k5,k6,k7,k8⟩:=h tm df [] ht trivial;refine wpIn_mono (Aic hm hR st c1 c2 c3 k1 fun j o t v ho hl hcl hg σk hσ=>?_) fun e a' w' he=>?_
 ·have hσ':σk=J:=k7 σk (by simpa using fl_ (cm_ hσ))
  subst hσ';obtain⟨log,eps,lex,g2,g3,g4,g5⟩:=Lz k1;simp only[dy_,bd_,d_]at g2 g3;obtain⟨x1,x2,x3,x4,x5⟩:=Wq lex
  obtain⟨t',v',t₁,J₀,J₁,y1,y2,y3,y4,y5,y6⟩:=x5 j o (by simpa using ho)
  rw[g2]at hl;rw[hl]at y1;cases y1
  have hσ0:J₀=σk:=by
   refine k7 J₀ ?_
   have:J₀∈d.eps.reverse:=by rw[g3];exact ab_ y3
   simpa using this
  subst hσ0
  have hne:B5 (Bc E o.op)=false:=by rw[hcl];rfl
  rcases y5 with⟨z1,z2⟩|⟨z1,z2⟩
  ·rw[Iy hcl]at z2;exact⟨J₁,z2⟩
  ·rw[z1]at hg;cases hg
 ·obtain⟨y,hy,C',h1,h2,h3⟩:=he;rw[ao_]at hy;subst hy;obtain⟨⟨tm',nt',df',J'⟩,eps',dl'⟩:=d;simp only at k2 k3 k6;subst k2 k3 k6;exact⟨.normal,tm',ρ',J',C',h1,k4,k8,h2,ai_ hB h3.next,h3.base hB⟩
theorem Dw{f f' a a' s s' t v r}{o:Option (AV×Sto)}(h:f'≠f)(k:Dk r (.fn f') a' t=o):Dk ((f,a,s,v,s')::r) (.fn f') a' t=o:=by
 simp only[Dk];rw[if_neg (fun hh=>h hh.1)];exact k
theorem Am{a t b off sz agg vs v r l}(hi:ldI E.P t=some (sz,agg))(ha:Ad.at ρ a=some (.pr b off))(hc:J.cells b=some vs)(hv:Cz sz agg (vs.drop off)=some v)(hr:Us E ρ J r=some l):
  Us E ρ J (.cell a t::r)=some (v::l):=by
 obtain⟨ti,h1,h2,h3⟩:=Rj hi;subst h2 h3;simp only[Us,h1,ha,hc,hv,hr]
theorem Ba{t v r l}(hv:Ad.at ρ t=some v)(hr:Us E ρ J r=some l):Us E ρ J (.tmp t::r)=some (v::l):=by
 simp only[Us,hv,hr]
theorem Ex{J U sz}:Fz J U (.nil (.slice none 0 0)) (.sv [] sz 0 none):=.nils (fun q hq=>by cases hq)
end
abbrev SM(α:Type):=List (Str×α)
def kS(s:Str):Key:=.str (s.map UInt8.toNat)
def Cn{α:Type}(enc:α->AV)(m:SM α):List (Key×AV):=m.map fun p=>(kS p.1,enc p.2)
def SM.get{α:Type}:SM α->Str->Option α
 |[],_=>none
 |(k,v)::r,s=>if s=k then some v else SM.get r s
def SM.set{α:Type}:SM α->Str->α->SM α
 |[],_,_=>[]
 |(k,v)::r,s,x=>if s=k then(k,x)::r else(k,v)::SM.set r s x
def SM.ins{α:Type}:SM α->Str->α->SM α
 |[],s,x=>[(s,x)]
 |(k,v)::r,s,x=>if Key.lt (kS s) (kS k)then(s,x)::(k,v)::r else(k,v)::SM.ins r s x
def SM.put{α:Type}(m:SM α)(s:Str)(x:α):SM α:=match m.get s with|some _=>m.set s x|none=>m.ins s x
def SM.has(m:SM Bool)(s:Str):Bool:=(m.get s).getD false
theorem Abl(a b):Key.eq (kS a) (kS b)=decide (a=b):=by
 show Fm _ _=_
 by_cases h:a=b
 ·rw[decide_eq_true h];subst h;exact(Gu _ _).2 rfl
 ·rw[decide_eq_false h];cases hb:Fm (a.map UInt8.toNat) (b.map UInt8.toNat)with
  |true=>exact absurd (Fu.1 ((Gu _ _).1 hb)) h
  |false=>rfl
section
variable {α:Type}{enc:α->AV}{m:SM α}{s t:Str}{x:α}
theorem Ih:∀{m:SM α},D5 (kS s) (Cn enc m)=(m.get s).map enc
 |[]=>rfl
 |(k,v)::r=>by
  show cond (Key.eq (kS s) (kS k)) (some (enc v)) (D5 (kS s) (Cn enc r))=_
  rw[Abl,SM.get]
  by_cases h:s=k
  ·rw[decide_eq_true h,cond_true,if_pos h];rfl
  ·rw[decide_eq_false h,cond_false,if_neg h];exact Ih
theorem Abm:∀{m:SM α},Ph (kS s) (enc x) (Cn enc m)=Cn enc (m.set s x)
 |[]=>rfl
 |(k,v)::r=>by
  show cond (Key.eq (kS s) (kS k)) ((kS k,enc x)::Cn enc r) ((kS k,enc v)::Ph (kS s) (enc x) (Cn enc r))=_
  rw[Abl,SM.set]
  by_cases h:s=k
  ·rw[decide_eq_true h,cond_true,if_pos h];rfl
  ·rw[decide_eq_false h,cond_false,if_neg h,Abm];rfl
theorem Abn:∀{m:SM α},Nx (kS s) (enc x) (Cn enc m)=Cn enc (m.ins s x)
 |[]=>rfl
 |(k,v)::r=>by
  show cond (Key.lt (kS s) (kS k)) ((kS s,enc x)::(kS k,enc v)::Cn enc r) ((kS k,enc v)::Nx (kS s) (enc x) (Cn enc r))=_
  rw[SM.ins];cases h:Key.lt (kS s) (kS k)
  ·rw[cond_false,if_neg (by simp),Abn];rfl
  ·rw[cond_true,if_pos rfl];rfl
theorem Aq7:Aot (kS s) (enc x) (Cn enc m)=Cn enc (m.put s x):=by
 unfold Aot SM.put;rw[Ih];cases m.get s with
 |none=>exact Abn
 |some y=>exact Abm
theorem SM.get_set:∀{m:SM α},(m.set s x).get t=if t=s/\(m.get s).isSome then some x else m.get t
 |[]=>by simp[SM.set,SM.get]
 |(k,v)::r=>by
  unfold SM.set
  by_cases h:s=k
  ·subst h;rw[if_pos rfl];simp only[SM.get,if_true,ew_,and_true]
   by_cases ht:t=s
   ·simp[ht]
   ·simp[ht]
  ·rw[if_neg h];simp only[SM.get,if_neg h]
   by_cases ht:t=k
   ·subst ht;rw[if_pos rfl,if_pos rfl,if_neg (fun hh=>h hh.1.symm)]
   ·rw[if_neg ht,if_neg ht];exact SM.get_set
theorem SM.get_ins:∀{m:SM α},m.get s=none->(m.ins s x).get t=if t=s then some x else m.get t
 |[],_=>by simp[SM.ins,SM.get]
 |(k,v)::r,hn=>by
  have hk:s≠k:=fun h=>by simp[SM.get,h]at hn
  have hr:SM.get r s=none:=by simpa[SM.get,hk]using hn
  unfold SM.ins
  split
  ·simp only[SM.get]
  ·simp only[SM.get]
   by_cases ht:t=k
   ·subst ht;rw[if_pos rfl,if_neg (fun h=>hk h.symm),if_pos rfl]
   ·rw[if_neg ht,if_neg ht];exact SM.get_ins hr
theorem SM.get_put:(m.put s x).get t=if t=s then some x else m.get t:=by
 unfold SM.put;cases h:m.get s with
 |none=>exact SM.get_ins h
 |some y=>simp only[SM.get_set,h,ew_,and_true]
abbrev ch_:=@SM.get_put
theorem SM.len_set:∀{m:SM α},(m.set s x).length=m.length
 |[]=>rfl
 |(k,v)::r=>by unfold SM.set;split<;>simp[SM.len_set]
theorem SM.len_ins:∀{m:SM α},(m.ins s x).length=m.length+1
 |[]=>rfl
 |(k,v)::r=>by unfold SM.ins;split<;>simp[SM.len_ins]
theorem SM.len_put:(m.put s x).length=if(m.get s).isSome then m.length else m.length+1:=by
 unfold SM.put;cases h:m.get s with
 |none=>exact SM.len_ins
 |some y=>exact SM.len_set
theorem SM.has_put{m:SM Bool}:(m.put s true).has t=(decide (t=s)||m.has t):=by
 unfold SM.has;rw[ch_]
 by_cases h:t=s
 ·rw[if_pos h,decide_eq_true h];rfl
 ·rw[if_neg h,decide_eq_false h];rfl
abbrev fo_:=@SM.has_put
theorem Aey{N}(h:∀a,AV.und N (enc a)=true)(m):Jc N (Cn enc m)=true:=by
 unfold Jc Cn;rw[List.all_map,b_];intro p _;exact h p.2
end
def B8{α:Type}(enc:α->AV)(J:Sto)(r:Nat)(m:SM α):Prop:=∃ver,J.get r=some (.map 9 (Cn enc m) ver)
abbrev Fi(J:Sto)(r:Nat)(m:SM Bool):Prop:=B8 bV J r m
section
variable {E:Env}{ρ:Ad}{J J':Sto}{Rr:Rec}{t:Nat}{x y w:Operand}{α:Type}{enc:α->AV}{m:SM α}{s:Str}{r:Nat}
theorem keyS(h:Fs E.P 9=true):D4 E.P 9 (sV s)=some (kS s):=by
 unfold Fs at h
 split at h
 ·rename_i ti hti
  split at h
  ·rename_i hd
   unfold D4;simp only[hti,hd]
   rfl
  ·cases h
 ·cases h
theorem W4{z sz agg}(h9:Fs E.P 9=true)(hi:mpI E.P t=some (9,z,sz,agg))(hx:Ah E ρ x=some (.mp r))(hm:B8 enc J r m)(hy:Ah E ρ y=some (sV s)):
  As E Rr (.lookup t x y false) ρ J (((m.get s).map enc).getD z) J:=by
 have:=Aet (Rr:=Rr) hi hx (show Xz J 9 (Cn enc m) (.mp r)from hm) hy (keyS h9)
 rwa[Ih]at this
theorem Ag1{z sz agg}(h9:Fs E.P 9=true)(hi:mpI E.P t=some (9,z,sz,agg))(hx:Ah E ρ x=some (.mp r))(hm:B8 enc J r m)(hy:Ah E ρ y=some (sV s)):
  As E Rr (.lookup t x y true) ρ J (.tup [((m.get s).map enc).getD z,.bool (m.get s).isSome]) J:=by
 have:=Abf (Rr:=Rr) hi hx (show Xz J 9 (Cn enc m) (.mp r)from hm) hy (keyS h9)
 rwa[Ih,Option.isSome_map]at this
theorem De{sz agg m}(h9:Fs E.P 9=true)(hi:mpI E.P t=some (9,.bool false,sz,agg))(hx:Ah E ρ x=some (.mp r))(hm:Fi J r m)(hy:Ah E ρ y=some (sV s)):
  As E Rr (.lookup t x y false) ρ J (.bool (m.has s)) J:=by
 have:=W4 (Rr:=Rr) h9 hi hx hm hy
 have e:((m.get s).map bV).getD (.bool false)=.bool (m.has s):=by unfold SM.has;cases m.get s<;>rfl
 rwa[e]at this
theorem Gh{z sz ver agg v}(h9:Fs E.P 9=true)(hi:mpI E.P t=some (9,z,sz,agg))(hx:Ah E ρ x=some (.mp r))(hm:J.get r=some (.map 9 (Cn enc m) ver))
  (hy:Ah E ρ y=some (sV s))(hw:Ah E ρ w=some (enc v))(hf:∀te:TI,te.size=sz->te.isAgg=agg->Je te (enc v)=true):
  As E Rr (.mapUpdate t x y w) ρ J An (J.set r (.map 9 (Cn enc (m.put s v)) (ver+1))):=by
 have:=Aeu (Rr:=Rr) hi hx hm hy (keyS h9) hw hf
 rwa[Aq7]at this
end
theorem I0{te n b}(_:te.size=n)(h:te.isAgg=false):Je te (bV b)=true:=by unfold bV Je;rw[h];rfl
theorem I1{te n s}(_:te.size=n)(h:te.isAgg=false):Je te (sV s)=true:=by unfold sV Je;rw[h];rfl
theorem I2{te n k i}(_:te.size=n)(h:te.isAgg=false):Je te (.int k i)=true:=by unfold Je;rw[h];rfl
theorem Jn{te n r}(_:te.size=n)(h:te.isAgg=false):Je te (.mp r)=true:=by unfold Je;rw[h];rfl
theorem H6{te n cs}(hn:te.size=n)(h:te.isAgg=true)(hc:cs.length=n):Je te (.agg cs)=true:=by
 show(te.isAgg&&Nat.beq cs.length te.size)=true
 rw[h,hn,hc,aw_];rfl
section
variable {J J':Sto}{α:Type}{enc:α->AV}{m:SM α}{r a:Nat}
theorem B8.lt(hw:WFS J)(h:B8 enc J r m):r<nx J:=by obtain⟨v,h⟩:=h;exact(hw _ _ h).1
theorem B8.of_get(h:B8 enc J r m)(hg:J'.get r=J.get r):B8 enc J' r m:=by obtain⟨v,h⟩:=h;exact⟨v,hg.trans h⟩
theorem B8.new(h:B8 enc J r m)(hw:r<nx J){o}:B8 enc (J.new o) r m:=h.of_get (by rw[ag_,if_neg Om])
theorem B8.set(h:B8 enc J r m){o}(hne:r≠a):B8 enc (J.set a o) r m:=h.of_get (by rw[aa_,if_neg Om])
theorem B8.put{ver}:B8 enc (J.set r (.map 9 (Cn enc m) ver)) r m:=⟨ver,by rw[aa_,if_pos rfl]⟩
abbrev dz_:=@B8.put
theorem B8.fresh{ver}:B8 enc (J.new (.map 9 (Cn enc m) ver)) (nx J) m:=⟨ver,by rw[ag_,if_pos rfl]⟩
end
section
variable {E:Env}{nt B:Nat}{df:List (Nat×List AV)}{Q:Cc}{Rr:Rec}{ops r:List Oper}{K:KD}{ρ:Ad}{J U:Sto}{eps:List Sto}{log:List (Ad×AV)}
theorem Amp{o b}(hg:∀tm,Has tm ρ->Bn ops o tm=some false)(he:B5 (Bc E o.op)=b)(hd:B0 nt o.dst=true)
  (k:TD E nt Rr ops r K (Dt o.dst An ρ) J (cond b (J::eps) eps) ((ρ,An)::log)):TD E nt Rr ops (o::r) K ρ J eps log:=by
 intro tm df dl ht hl;obtain⟨tm',h1,h2⟩:=C6 (dst:=o.dst) hd ht An
 have:Rc E ops o Rr ⟨⟨tm,nt,df,J⟩,eps,dl⟩=some ⟨⟨tm',nt,df,J⟩,cond b (J::eps) eps,(tm,An)::dl⟩:=by
  unfold Rc;simp only[hg tm ht,h1,he];cases b<;>rfl
 obtain⟨d',k1,k2⟩:=k tm' df ((tm,An)::dl) h2 ⟨ht,rfl,hl⟩
 exact⟨d',by simp only[T9,this];exact k1,k2⟩
theorem Ta{o oj}{j d:Nat}{b want e}(hg:o.guard=some (j,want))(hj:ops[j]? =some oj)(hdj:oj.dst=some d)(hb:Ad.at ρ d=some (.bool b))(hw:cond b want (!want)=false)
  (he:B5 (Bc E o.op)=e)(hd:B0 nt o.dst=true)
  (k:TD E nt Rr ops r K (Dt o.dst An ρ) J (cond e (J::eps) eps) ((ρ,An)::log)):TD E nt Rr ops (o::r) K ρ J eps log:=
 Amp (fun tm ht=>by rw[Hf ht hg hj hdj hb,hw]) he hd k
theorem Zy{o oj}{j d:Nat}{want e}(hg:o.guard=some (j,want))(hj:ops[j]? =some oj)(hdj:oj.dst=some d)(hb:Ad.at ρ d=some An)
  (he:B5 (Bc E o.op)=e)(hd:B0 nt o.dst=true)
  (k:TD E nt Rr ops r K (Dt o.dst An ρ) J (cond e (J::eps) eps) ((ρ,An)::log)):TD E nt Rr ops (o::r) K ρ J eps log:=
 Amp (fun tm ht=>by simp only[Bn,hg,hj,hdj,ht d _ hb];rfl) he hd k
theorem Uu{α enc t sz by' a zz}{l:List α}{x lo k}(hel:elI E.P t=some (sz,by',zz))(he:∀a,(enc a).length=sz)
  (hx:Ah E ρ x=some (slV enc sz l))(h1:Iz E ρ lo=some (some (.int k (.ofNat a))))(ha:a<=l.length):As E Rr (.slice t x lo none none) ρ J (slV enc sz (l.drop a)) J:=by
 have hb:Do l.length none (some (.int k (.ofNat a))) none none=some (a,l.length,none):=by
  have h2:Nat.ble a l.length=true:=ar_ ha;have h3:Nat.ble l.length l.length=true:=ar_ nl;simp only[Do,My,h2,Li,h3,cond_true,be_,Mz]
 have:=Ag0 (Rr:=Rr) (J:=J) (lo:=lo) (hi:=none) (mx:=none) hel he hx h1 rfl rfl hb ha nl;rw[List.take_length]at this
 rwa[show slV enc sz (l.drop a)=.sv ((l.drop a).flatMap enc) sz (l.length-a) none by rw[←dp_];rfl]
theorem Bo{c}(h:WFS J->T E nt df B c Q ρ J):T E nt df B c Q ρ J:=fun ro n hn C w tm a ht st hB=>h st.sim.wfs ro n hn C w tm a ht st hB
theorem Av4{c i v}(hi:Ad.at ρ i=some v)(h:AV.und (nx J) v=true->T E nt df B c Q ρ J):T E nt df B c Q ρ J:=fun ro n hn C w tm a ht st hB=>h (R.und _ _ (st.tmps i v (ht i v hi))) ro n hn C w tm a ht st hB
def cutQ(L:Ad)(U:Sto):Cc
 |.normal=>fun ρ J=>Km L ρ/\J=U
 |_=>fun _ _=>False
theorem Aoy{x y}(L U)(h:T E nt df B x (cutQ L U) ρ J)(k:T E nt df B y Q L U):T E nt df B (.seq x y) Q ρ J:=by
 refine Aew (h.mono fun e ρ' J' hq=>?_)
 cases e with
 |normal=>obtain⟨h1,rfl⟩:=hq;exact k.sub h1
 |exit _=>exact hq.elim
 |ret=>exact hq.elim
theorem Ad.at_app:∀(L ρ:Ad) (i:Nat),Ad.at (L++ρ) i=(Ad.at L i).or (Ad.at ρ i)
 |[],ρ,i=>rfl
 |(j,v)::r,ρ,i=>by
  show cond (Nat.beq j i) (some v) (Ad.at (r++ρ) i)=(cond (Nat.beq j i) (some v) (Ad.at r i)).or _
  cases Nat.beq j i with
  |true=>rfl
  |false=>exact Ad.at_app r ρ i
abbrev ga_:=@Ad.at_app
def addQ(L ρ:Ad)(U:Sto):Cc
 |.normal=>fun ρ' J=>Km L ρ'/\Hy ρ ρ'/\J=U
 |_=>fun _ _=>False
theorem Gg{x y}(L)(h:T E nt df B x (addQ L ρ J) ρ J)(k:T E nt df B y Q (L++ρ) J):T E nt df B (.seq x y) Q ρ J:=by
 refine Aew (h.mono fun e ρ' J' hq=>?_)
 cases e with
 |normal=>
  obtain⟨h1,h2,rfl⟩:=hq;refine fun ro n hn C w tm a ht st hB=>k ro n hn C w tm a (fun i v hv=>?_) st hB
  rw[ga_]at hv;cases hL:Ad.at L i with
  |some u=>rw[hL]at hv;cases hv;exact ht i _ (h1.at i _ hL)
  |none=>rw[hL]at hv;exact ht i v (h2 i v hv)
 |exit _=>exact hq.elim
 |ret=>exact hq.elim
def cutP(P:Ad->Sto->Prop):Cc
 |.normal=>fun ρ J=>∃L,Km L ρ/\P L J
 |_=>fun _ _=>False
theorem Ak6{x y}(P)(h:T E nt df B x (cutP P) ρ J)(k:∀L U,P L U->T E nt df B y Q L U):T E nt df B (.seq x y) Q ρ J:=by
 refine Aew (h.mono fun e ρ' J' hq=>?_)
 cases e with
 |normal=>obtain⟨L,h1,h2⟩:=hq;exact(k L J' h2).sub h1
 |exit _=>exact hq.elim
 |ret=>exact hq.elim
end
def ltS(a b:Str):Bool:=C8 (a.map UInt8.toNat) (b.map UInt8.toNat)
section
variable {E:Env}{ρ:Ad}{J J':Sto}{Rr:Rec}{t ty n:Nat}{x y:Operand}
theorem boolI{P}(h:Zv P t=true):∃ti,Ay P t=some ti/\ti.desc=.bool:=by
 unfold Zv at h
 split at h
 ·rename_i ti hti
  split at h
  ·rename_i hd;exact⟨ti,hti,hd⟩
  ·cases h
 ·cases h
theorem Aw2{a b}(hi:Zv E.P t=true)(hx:Ah E ρ x=some (.bool a))(hy:Ah E ρ y=some (.bool b)):As E Rr (.binOp .eql t x y ty) ρ J (.bool (a==b)) J:=fun tm h=>by
 obtain⟨ti,h1,h2⟩:=boolI hi;simp only[opA,Aw,h.opd hx,h.opd hy,Wb,h1,h2,Sx];cases a<;>cases b<;>rfl
theorem Abo{a b}(hi:okI E.P t=true)(hx:Ah E ρ x=some (sV a))(hy:Ah E ρ y=some (sV b)):As E Rr (.binOp .geq t x y ty) ρ J (.bool (!ltS a b)) J:=Agp hi hx hy rfl
theorem Aw3{l m a b}(hi:okI E.P t=true)(hx:Ah E ρ x=some (.agg l))(hy:Ah E ρ y=some (.agg m))(hcx:Cm x=false)(hcy:Cm y=false)(h1:D4 E.P t (.agg l)=some a)(h2:D4 E.P t (.agg m)=some b):
  As E Rr (.binOp .neq t x y ty) ρ J (.bool (!Key.eq a b)) J:=fun tm h=>by
 obtain⟨ti,hti⟩:=Nl hi;simp only[opA,Aw,h.opd hx,h.opd hy,hcx,hcy,Wb,hti,Ir,Bool.or_self,cond_false,Pn,h1,h2,Sx]
theorem Aq8{kt sz agg z}(hi:mpI E.P t=some (kt,z,sz,agg)):∃ti et,Ay E.P t=some ti/\ti.desc=.map kt et:=by
 obtain⟨ti,et,te,h1,h2,_⟩:=Abe hi;exact⟨ti,et,h1,h2⟩
theorem Aul{α enc}{m:SM α}{r kt sz agg z}(hi:mpI E.P t=some (kt,z,sz,agg))(hx:Ah E ρ x=some (.mp r))(hm:B8 enc J r m):
  As E Rr (.call ⟨.builtin .len,#[x],#[t]⟩) ρ J (.int .i64 (.ofNat m.length)) J:=fun tm h=>by
 obtain⟨ti,et,h1,h2⟩:=Aq8 hi;obtain⟨ver,hv⟩:=hm;simp only[opA,Aw,h1,Ee,h2,h.opd hx,opds,T6,hv,Ak,Cn,cx_]
theorem Aq9{r kt sz agg z}(hi:mpI E.P t=some (kt,z,sz,agg))(hx:Ah E ρ x=some (.mp r)):As E Rr (.binOp .eql t x (.const (.map none)) ty) ρ J (.bool false) J:=fun tm h=>by
 obtain⟨ti,et,h1,h2⟩:=Aq8 hi;simp only[opA,Aw,h.opd hx,Cm,Wb,h1,Bool.or_true,Ir,cond_true];simp only[h2]
 rfl
theorem Ara{kt sz agg z}(hi:mpI E.P t=some (kt,z,sz,agg))(hx:Ah E ρ x=some (.nil (.map none))):As E Rr (.binOp .eql t x (.const (.map none)) ty) ρ J (.bool true) J:=fun tm h=>by
 obtain⟨ti,et,h1,h2⟩:=Aq8 hi;simp only[opA,Aw,h.opd hx,Cm,Wb,h1,Bool.or_true,Ir,cond_true];simp only[h2]
 rfl
theorem Aoz{α enc}{m:SM α}{r kt sz ver agg z}(hi:mpI E.P t=some (kt,z,sz,agg))(hx:Ah E ρ x=some (.mp r))(hm:J.get r=some (.map 9 (Cn enc m) ver)):
  As E Rr (.call ⟨.builtin .clear,#[x],#[t]⟩) ρ J An (J.set r (.map 9 [] (ver+1))):=fun tm h=>by
 obtain⟨ti,et,h1,h2⟩:=Aq8 hi;simp only[opA,Aw,h1,Ee,h2,h.opd hx,opds,Q9,hm,Ak]
theorem Ao0(a b):Aag a b=min a b:=by
 unfold Aag;have:=Ec (a:=a) (b:=b);rw[this]
 by_cases h:a<=b
 ·rw[decide_eq_true h,cond_true];omega
 ·rw[decide_eq_false h,cond_false];omega
theorem Ao1(a b):Ll a b=max a b:=by
 unfold Ll;have:=Ec (a:=b) (b:=a);rw[this]
 by_cases h:b<=a
 ·rw[decide_eq_true h,cond_true];omega
 ·rw[decide_eq_false h,cond_false];omega
theorem Aw4{k p q}(hi:okI E.P t=true){tys:Nat}(hx:Ah E ρ x=some (.int k p))(hy:Ah E ρ y=some (.int k q)):As E Rr (.call ⟨.builtin .max,#[x,y],#[t,tys]⟩) ρ J (.int k (max p q)) J:=fun tm h=>by
 obtain⟨ti,hti⟩:=Nl hi;simp only[opA,Aw,hti,Ee,h.opd hx,h.opd hy,opds,Xm,Qd,cond_true,Ao1]
theorem Ak7{k p q}(hi:okI E.P t=true){tys:Nat}(hx:Ah E ρ x=some (.int k p))(hy:Ah E ρ y=some (.int k q)):As E Rr (.call ⟨.builtin .min,#[x,y],#[t,tys]⟩) ρ J (.int k (min p q)) J:=fun tm h=>by
 obtain⟨ti,hti⟩:=Nl hi;simp only[opA,Aw,hti,Ee,h.opd hx,h.opd hy,opds,Xm,Qd,cond_true,Ao0]
end
section
variable {E:Env}{ρ:Ad}{J J':Sto}{Rr:Rec}{t ty n a i:Nat}{x y:Operand}{α:Type}{enc:α->List AV}{sz by':Nat}{l:List α}
theorem Ro:∀{p q u v:List AV},u.length=q.length->Et (p++q++v) p.length u=some (p++u++v)
 |[],q,u,v,h=>by
  simp only[bd_,cu_];exact go h
 |x::p,q,u,v,h=>by
  simp only[ay_,as_,Et,Ro h]
 where
 go:∀{q u v:List AV},u.length=q.length->Et (q++v) 0 u=some (u++v)
  |[],[],v,_=>by cases v<;>rfl
  |y::q,z::u,v,h=>by
   have:=go (q:=q) (u:=u) (v:=v) (by simpa using h)
   simp only[ay_,Et,this]
  |[],_::_,_,h=>by simp at h
  |_::_,[],_,h=>by simp at h
theorem Arb(he:∀a,(enc a).length=sz){b}(hi:i<l.length)(tl):Et (l.flatMap enc++tl) (i*sz) (enc b)=some ((l.set i b).flatMap enc++tl):=by
 have h1:l=l.take i++l[i]::l.drop (i+1):=by rw[←bj_ hi,cc_]
 have h2:l.set i b=l.take i++b::l.drop (i+1):=List.set_eq_take_append_cons_drop▸by rw[if_pos hi]
 have h3:((l.take i).flatMap enc).length=i*sz:=by rw[Dl he,cb_,du_ (gb_ hi)]
 have h4:l.flatMap enc++tl=(l.take i).flatMap enc++enc l[i]++((l.drop (i+1)).flatMap enc++tl):=by
  refine(congrArg (fun k=>List.flatMap enc k++tl) h1).trans ?_
  simp only[da_,bs_,ca_]
 rw[h4,h2,←h3,Ro (by rw[he,he])]
 simp only[da_,bs_,ca_]
theorem Br{zz k m cap}(hi:elI E.P t=some (sz,by',zz))(hx:Ah E ρ x=some (.sr a 0 sz m cap))(hy:Ah E ρ y=some (.int k (.ofNat i)))(hm:i<m):
  As E Rr (.indexAddr t x y) ρ J (.pr a (i*sz)) J:=by
 have h:=Aif (Rr:=Rr) (J:=J) hi hx hy (m:=m) rfl rfl hm
 have e:Aie (.sr a 0 sz m cap) (i*sz)=.pr a (i*sz):=by show AV.pr a (0+i*sz)=_;rw[bn_]
 rwa[e]at h
theorem Dg{u v agg tl}(he:∀a,(enc a).length=sz)(hi:ldI E.P t=some (sz,agg))(hx:Ah E ρ x=some (.pr a (i*sz)))(hg:J.get a=some (.cells (l.flatMap enc++tl)))(hu:l[i]? =some u)(hv:∀r,Cz sz agg (enc u++r)=some v):
  As E Rr (.load t x) ρ J v J:=by
 refine Ac (cs:=(l.flatMap enc++tl).drop (i*sz)) hi hx (by simp only[Em,Sto.cells,hg]) ?_
 have hi:=(ae_.1 hu).1
 have h0:i*sz<=(l.flatMap enc).length:=by rw[Dl he];exact el_ _ (gb_ hi)
 rw[fj_ h0,Aml he hu,ca_];exact hv _
theorem Tb{u v agg tl}(he:∀a,(enc a).length=sz)(hi:ldI E.P t=some (sz,agg))(hx:Ah E ρ x=some (.pr a (i*sz)))(hy:Ah E ρ y=some v)(hc:v.cellsN sz=some (enc u))(hg:J.get a=some (.cells (l.flatMap enc++tl)))(hl:i<l.length):
  As E Rr (.store t x y) ρ J An (J.set a (.cells ((l.set i u).flatMap enc++tl))):=
 By hi hx hy hc (by simp only[Sto.cells,hg]) (Arb he hl tl)
theorem Aim{zz k m b lo}(hel:elI E.P t=some (sz,by',zz))(hx:Ah E ρ x=some (.sr a 0 sz m none))(h1:Iz E ρ lo=some (some (.int k (.ofNat b))))(hb:b<=m):
  As E Rr (.slice t x lo none none) ρ J (.sr a (b*sz) sz (m-b) none) J:=fun tm h=>by
 obtain⟨ti,e,te,k1,k2,k3,k4,k5,k6⟩:=Qc hel;subst k4
 have hbd:Do m none (some (.int k (.ofNat b))) none none=some (b,m,none):=by
  have h2:Nat.ble b m=true:=ar_ hb;have h3:Nat.ble m m=true:=ar_ nl;simp only[Do,My,h2,Li,h3,cond_true,be_,Mz]
 have e0:opdO E tm none=none:=rfl;simp only[opA,Aw,k1,k2,k3,h.opd hx,h.opdO h1,e0,Lj,aw_,hbd,Ak,bn_]
theorem Uv{zz k m b hi cap}(hel:elI E.P t=some (sz,by',zz))(hx:Ah E ρ x=some (.sr a 0 sz m cap))(h1:Iz E ρ hi=some (some (.int k (.ofNat b))))(hb:b<=m):
  As E Rr (.slice t x none hi none) ρ J (.sr a 0 sz b (Mz cap 0)) J:=fun tm h=>by
 obtain⟨ti,e,te,k1,k2,k3,k4,k5,k6⟩:=Qc hel;subst k4
 have hbd:Do m cap none (some (.int k (.ofNat b))) none=some (0,b,Mz cap 0):=by
  have h2:Nat.ble b m=true:=ar_ hb;have h3:Nat.ble 0 b=true:=ar_ (aq_ _);simp only[Do,My,h3,Li,h2,cond_true,be_]
 have e0:opdO E tm none=none:=rfl;simp only[opA,Aw,k1,k2,k3,h.opd hx,h.opdO h1,e0,Lj,aw_,hbd,Ak,dw_,fd_,es_]
theorem Amr{z}:∀n,(rep z n).length=n*z.length
 |0=>by simp[rep]
 |n+1=>by simp only[rep,bx_,Amr n,fw_];omega
theorem Aez{z tl m b cap}(he:∀a,(enc a).length=sz)(hel:elI E.P t=some (sz,by',some z))(hz:Nat.beq z.length sz=true)(hx:Ah E ρ x=some (.sr a (b*sz) sz m cap))(hg:J.get a=some (.cells (l.flatMap enc++tl)))(hl:b+m=l.length):
  As E Rr (.call ⟨.builtin .clear,#[x],#[t]⟩) ρ J An (J.set a (.cells ((l.take b).flatMap enc++(rep z m++tl)))):=fun tm h=>by
 obtain⟨ti,e,te,k1,k2,k3,k4,k5,k6⟩:=Qc hel;subst k4
 have h2:l.flatMap enc++tl=(l.take b).flatMap enc++(l.drop b).flatMap enc++tl:=by rw[←da_,cc_]
 have h3:((l.take b).flatMap enc).length=b*te.size:=by rw[Dl he,cb_];congr 1;omega
 have h4:(rep z m).length=((l.drop b).flatMap enc).length:=by rw[Amr,Dl he,dp_,ac_ hz];congr 1;omega
 have h5:=Ro (p:=(l.take b).flatMap enc) (v:=tl) h4;rw[h3,←h2,ca_]at h5;simp only[opA,Aw,k1,Ee,k2,k3,k6,hz,h.opd hx,opds,Af6,aw_,Sto.cells,hg,h5]
end
def Own(J:Sto)(N:Nat){α:Type}(enc:α->List AV)(sz:Nat)(l:List α)(v:AV):Prop:=
 (l=[]/\(v=.nil (.slice none 0 0)∨v=.sv [] sz 0 (some 0)))∨∃a tl,N<=a/\a<nx J/\v=.sr a 0 sz l.length none/\J.get a=some (.cells (l.flatMap enc++tl))
section
variable {E:Env}{ρ:Ad}{J J' U:Sto}{Rr:Rec}{t ty n a i N:Nat}{x y:Operand}{α:Type}{enc:α->List AV}{sz by':Nat}{l m:List α}{v:AV}
theorem Own.nil:Own J N enc sz ([]:List α) (.nil (.slice none 0 0)):=.inl ⟨rfl,.inl rfl⟩
theorem Own.emp:Own J N enc sz ([]:List α) (.sv [] sz 0 (some 0)):=.inl ⟨rfl,.inr rfl⟩
theorem Own.lenA(h:Own J N enc sz l v):lenA v=some l.length/\Ad9 v=true:=by
 rcases h with⟨rfl,rfl|rfl⟩|⟨a,tl,_,_,rfl,_⟩<;>exact⟨rfl,rfl⟩
theorem Own.mono(h:Own J N enc sz l v)(hn:nx J<=nx J')(hg:∀a tl,v=.sr a 0 sz l.length none->N<=a->a<nx J->J.get a=some (.cells (l.flatMap enc++tl))->J'.get a=J.get a):Own J' N enc sz l v:=by
 rcases h with h|⟨a,tl,h1,h2,h3,h4⟩
 ·exact .inl h
 ·exact .inr ⟨a,tl,h1,by omega,h3,(hg a tl h3 h1 h2 h4).trans h4⟩
theorem Own.app(he:∀a,(enc a).length=sz)(hN:N<=nx J)(h:Own J N enc sz l v)(m)(bn:(l.length+m.length)*(by'+1)<=sizeLim):
  ∃v' J',B6 J sz by' v m.length (m.flatMap enc)=some (v',J')/\Own J' N enc sz (l++m) v'/\Below N J J'/\
   (∀b,b<nx J->(∀c,v=.sr c 0 sz l.length none->b≠c)->J'.get b=J.get b):=by
 cases m with
 |nil=>
  refine⟨v,J,?_,by simpa using h,fn_,fun _ _ _=>rfl⟩
  simp only[cu_,B6]
  rcases h with⟨_,rfl|rfl⟩|⟨a,tl,_,_,rfl,_⟩<;>rfl
 |cons b m=>
  have hb:Nat.ble ((l.length+(b::m).length)*(by'+1)) sizeLim=true:=ar_ bn
  have fresh:∀(c:List α) (U:Sto),N<=nx U->Own (U.new (.cells (c.flatMap enc))) N enc sz c (.sr (nx U) 0 sz c.length none):=fun c U hτ=>
   .inr ⟨nx U,[],hτ,by rw[Ao];omega,rfl,by rw[ag_,if_pos rfl,bh_]⟩
  rcases h with⟨rfl,rfl|rfl⟩|⟨a,tl,h1,h2,rfl,h3⟩
  ·have hb':Nat.ble ((m.length+1)*(by'+1)) sizeLim=true:=ar_ (by simpa using bn)
   refine⟨.sr (nx J) 0 sz (b::m).length none,J.new (.cells ((b::m).flatMap enc)),?_,fresh _ _ hN,⟨by rw[Ao];omega,fun c hc=>by rw[ag_,if_neg Om]⟩,fun c hc _=>by rw[ag_,if_neg Om]⟩
   simp only[as_,B6,Ja,bn_,hb',cond_true,Ak,bd_]
  ·have hb':Nat.ble ((m.length+1)*(by'+1)) sizeLim=true:=ar_ (by simpa using bn)
   have h0:Nat.ble (m.length+1) 0=false:=rfl
   refine⟨.sr (nx J) 0 sz (b::m).length none,J.new (.cells ((b::m).flatMap enc)),?_,fresh _ _ hN,⟨by rw[Ao];omega,fun c hc=>by rw[ag_,if_neg Om]⟩,fun c hc _=>by rw[ag_,if_neg Om]⟩
   simp only[as_,B6,aw_,h0,fc_,be_,cond_true,Ja,bn_,hb',Ak,bd_]
  ·have ev:J.cells a=some (l.flatMap enc++tl):=by unfold Sto.cells;rw[h3]
   have b9:Dr (l.length*sz) ((l.flatMap enc++tl).drop 0)=some (l.flatMap enc):=by
    have:=D0 (l:=l.flatMap enc) (r:=tl)
    rwa[Dl he]at this
   simp only[as_]at hb
   refine⟨.sr (nx J) 0 sz (l++b::m).length none,(J.kill a).new (.cells (l.flatMap enc++(b::m).flatMap enc)),?_,?_,⟨by rw[Ao,B3];omega,fun c hc=>?_⟩,fun c hc hne=>?_⟩
   ·simp only[as_,B6,aw_,cond_true,ev,b9,Ja,hb,Ak,B3,bx_]
   ·rw[←da_]
    have:=fresh (l++b::m) (J.kill a) (by rw[B3];exact hN)
    rwa[B3]at this
   ·rw[ag_,B3,if_neg Om,bf_,if_neg Om]
   ·rw[ag_,B3,if_neg Om,bf_,if_neg (hne a rfl)]
abbrev ex_:=@Own.app
theorem Own.fz(he:∀a,(enc a).length=sz)(h:Own J N enc sz l v)(hτ:∀a,N<=a->U.get a=none)(hu:AV.unds (nx U) (l.flatMap enc)=true):Fz J U v (slV enc sz l):=by
 rcases h with⟨rfl,rfl|rfl⟩|⟨a,tl,h1,_,rfl,h3⟩
 ·exact .nils (fun q hq=>by cases hq)
 ·exact .sv (fun q hq=>by cases hq) .nil
 ·have b9:Dr (l.length*sz) ((l.flatMap enc++tl).drop 0)=some (l.flatMap enc):=by
   have:=D0 (l:=l.flatMap enc) (r:=tl)
   rwa[Dl he]at this
  exact .sr h3 (hτ a h1) b9 (dj_ hu)
def Ad0(J:Sto)(N:Nat){α:Type}(enc:α->List AV)(sz:Nat)(l:List α)(v:AV):Prop:=v=.sv (l.flatMap enc) sz l.length (some l.length)∨Own J N enc sz l v
theorem Ad0.app(he:∀a,(enc a).length=sz)(hN:N<=nx J)(h:Ad0 J N enc sz l v)(m)(bn:(l.length+m.length)*(by'+1)<=sizeLim):
  ∃v' J',B6 J sz by' v m.length (m.flatMap enc)=some (v',J')/\Ad0 J' N enc sz (l++m) v'/\Below N J J'/\
   (∀b,b<nx J->(∀c,v=.sr c 0 sz l.length none->b≠c)->J'.get b=J.get b):=by
 rcases h with rfl|h
 ·cases m with
  |nil=>exact⟨_,J,rfl,.inl (by rw[bh_]),fn_,fun _ _ _=>rfl⟩
  |cons b m=>
   have hb:Nat.ble ((l.length+(m.length+1))*(by'+1)) sizeLim=true:=ar_ bn
   have h0:Nat.ble (l.length+(m.length+1)) l.length=false:=by
    cases hh:Nat.ble (l.length+(m.length+1)) l.length with
    |true=>exact absurd (al_ hh) Om
    |false=>rfl
   refine⟨.sr (nx J) 0 sz (l++b::m).length none,J.new (.cells ((l++b::m).flatMap enc)),?_,.inr (.inr ⟨nx J,[],hN,by rw[Ao];omega,rfl,by rw[ag_,if_pos rfl,bh_]⟩),⟨by rw[Ao];omega,fun c hc=>by rw[ag_,if_neg Om]⟩,fun c hc _=>by rw[ag_,if_neg Om]⟩
   simp only[as_,B6,aw_,h0,fc_,be_,cond_true,Ja,hb,Ak,bx_,da_]
 ·obtain⟨v',J',h1,h2,h3,h4⟩:=h.app he hN m bn;exact⟨v',J',h1,.inr h2,h3,h4⟩
theorem Ad0.fz(he:∀a,(enc a).length=sz)(h:Ad0 J N enc sz l v)(hτ:∀a,N<=a->U.get a=none)(hu:AV.unds (nx U) (l.flatMap enc)=true):Fz J U v (slV enc sz l):=by
 rcases h with rfl|h
 ·exact .sv (fun q hq=>by cases hq) (dj_ hu)
 ·exact h.fz he hτ hu
theorem WFS.none(hw:WFS J){a}(h:nx J<=a):J.get a=none:=by
 cases hg:J.get a with
 |none=>rfl
 |some O=>exact absurd (hw a O hg).1 Om
theorem X7(he:∀a,(enc a).length=sz)(J l):F9 J sz (slV enc sz l) l.length=some (l.flatMap enc):=by
 have:=D0 (l:=l.flatMap enc) (r:=[]);rw[Dl he,bh_]at this;exact this
end
def Ak8(P:Program)(t:Nat):Bool:=match Ay P t with|some ti=>(match ti.desc with|.int _=>true|_=>false)|none=>false
section
variable {E:Env}{ρ:Ad}{J J' U:Sto}{Rr:Rec}{t t2 ty n a i N:Nat}{x y:Operand}{sz by':Nat}{v:AV}{A B:AO}
theorem Zz(hi:Mk E.P t=true)(hx:Ah E ρ x=some (.nil (.slice none 0 0))):As E Rr (.call ⟨.builtin .cap,#[x],#[t]⟩) ρ J (.int .i64 (.ofNat 0)) J:=fun tm h=>by
 unfold Mk at hi
 split at hi
 ·rename_i ti hti
  split at hi
  ·rename_i e hd
   simp only[opA,Aw,hti,Ee,hd,h.opd hx,opds,Kj]
   rfl
  ·cases hi
 ·cases hi
theorem Ams{zz hi k}(hel:elI E.P t=some (sz,by',zz))(hx:Ah E ρ x=some (.nil (.slice none 0 0)))(h1:Iz E ρ hi=some (some (.int k (.ofNat 0)))):
  As E Rr (.slice t x none hi none) ρ J (.nil (.slice none 0 0)) J:=fun tm h=>by
 obtain⟨ti,e,te,k1,k2,k3,k4,k5,k6⟩:=Qc hel;have e0:opdO E tm none=none:=rfl;have hb:Do 0 (some 0) none (some (.int k (.ofNat 0))) none=some (0,0,some 0):=rfl;simp only[opA,Aw,k1,k2,k3,h.opd hx,h.opdO h1,e0,Lj,hb]
theorem Ain{z}(hi:elI E.P t=some (sz,by',some z))(hl:Nat.beq z.length sz=true)(h2:Ak8 E.P t2=true)(hx:Ah E ρ x=some (.nil (.slice none 0 0)))(hy:Ah E ρ y=some (.int .i64 (.ofNat (n+1))))(hn:(n+1)*(by'+1)<=sizeLim):
  As E Rr (.call ⟨.builtin .append,#[x,y],#[t,t2]⟩) ρ J (.sr (nx J) 0 sz (n+1) none) (J.new (.cells (rep z (n+1)))):=fun tm h=>by
 obtain⟨ti,e,te,h1,hd,h3,h4,h5,h6⟩:=Qc hi;subst h4 h5;have hb:Nat.ble ((n+1)*(te.bytes+1)) sizeLim=true:=ar_ hn;unfold Ak8 at h2
 split at h2
 ·rename_i t2i ht2
  split at h2
  ·rename_i k hd2
   simp only[opA,Aw,h1,Ee,hd,h3,ht2,h6,hl,hd2,h.opd hx,h.opd hy,opds,T8,hb,cond_true,B6,Ja,bn_,Ak,bd_]
  ·cases h2
 ·cases h2
theorem Av5:((J.new A).new B).get (nx J)=some A:=gr
theorem Aio{cs}(h:J.get a=some (.cells cs)):J.cells a=some cs:=by unfold Sto.cells;rw[h]
end
def Yv(J U:Sto):Prop:=∀a O,J.get a=some O->U.get a=some O
theorem Yv.refl{J}:Yv J J:=fun _ _ h=>h
theorem Yv.below{J U}(hw:WFS J)(h:Below (nx J) J U):Yv J U:=fun a O ha=>(h.2 a (hw a O ha).1).trans ha
def rdOk:Op->Bool
 |.load .. =>true
 |.lookup .. =>true
 |_=>false
theorem Ao2{J U}(h:Yv J U){a vs}(hc:J.cells a=some vs):U.cells a=some vs:=by
 unfold Sto.cells at hc⊢
 split at hc
 ·rename_i us hg;rw[h _ _ hg];exact hc
 ·cases hc
theorem Ao3{J U J₁ ti x v}(h:Yv J U)(hs:Na ti x J=some (v,J₁)):Na ti x U=some (v,U):=by
 unfold Na at hs⊢
 split at hs
 ·split at hs
  ·rename_i vs hvs
   split at hs
   ·rename_i u hu;cases hs;simp only[Ao2 h hvs,hu]
   ·cases hs
  ·cases hs
 ·split at hs
  ·rename_i u hu;cases hs;simp only[hu]
  ·cases hs
 ·cases hs
theorem Aip{J U J₁ kt key z m v ok}(h:Yv J U)(hs:Ky kt key z ok m J=some (v,J₁)):Ky kt key z ok m U=some (v,U):=by
 unfold Ky at hs⊢
 split at hs
 ·split at hs
  ·split at hs
   ·rename_i kt' es ver hg
    rw[h _ _ hg];simp only
    split at hs
    ·rename_i hb
     try simp only[hb]
     split at hs<;>rename_i hf<;>cases hs<;>simp only[hb,hf]
    ·cases hs
   ·cases hs
  ·cases hs;rfl
  ·cases hs
 ·cases hs
theorem Arc{E J U J₁ op tm v}(hr:rdOk op=true)(h:Yv J U)(hs:Aw E op tm J=some (v,J₁)):∃U₁,Aw E op tm U=some (v,U₁):=by
 unfold rdOk at hr
 split at hr
 ·simp only[Aw]at hs⊢
  split at hs
  ·rename_i ti hti;exact⟨U,Ao3 h hs⟩
  ·cases hs
 ·simp only[Aw]at hs⊢
  split at hs
  ·rename_i ti hti
   split at hs
   ·rename_i kt et hd
    try simp only[hd]
    split at hs
    ·rename_i te hte
     try simp only[hd,hte]
     split at hs
     ·rename_i z hz
      try simp only[hd,hte,hz]
      exact⟨U,Aip h hs⟩
     ·cases hs
    ·cases hs
   ·cases hs
  ·cases hs
 ·cases hr
def Jo(E:Env)(m:Nat):List Ann->List Oper->Bool->Bool
 |a::az,o::os,late=>(match a.cls with
  |.read=> !late&&Nat.ble a.hi m&&rdOk o.op
  |_=>true)&&Jo E m az os (late||B5 (Bc E o.op))
 |_,_,_=>true
theorem Qj{E m}:∀{az:List Ann} {os:List Oper} {late:Bool},Jo E m az os late=true->∀(j:Nat) (a:Ann) (o:Oper),az[j]? =some a->os[j]? =some o->a.cls=.read->late=false/\cnt E os j=0/\a.hi<=m/\rdOk o.op=true
 |a::az,o::os,late,h,0,a',o',ha,ho,hc=>by
  simp at ha ho;subst ha ho
  simp only[Jo,hc,ad_]at h
  exact⟨by simpa using h.1.1.1,rfl,al_ h.1.1.2,h.1.2⟩
 |a::az,o::os,late,h,j+1,a',o',ha,ho,hc=>by
  simp only[Jo,ad_]at h
  obtain⟨h1,h2,h3⟩:=Qj h.2 j a' o' (by simpa using ha) (by simpa using ho) hc
  simp only[bv_]at h1;refine⟨h1.1,?_,h3⟩;simp only[cnt,h1.2,h2]
  simp
 |[],_,_,_,_,_,_,h,_,_=>by simp at h
 |_::_,[],_,_,_,_,_,_,h,_=>by simp at h
section
variable {E:Env}{nt B:Nat}{df:List (Nat×List AV)}{Q:Cc}{Rr:Rec}{ρ:Ad}{J:Sto}
def KDX(Q:Cc)(m:Nat)(J:Sto):KD:=fun ρ' J' eps _=>(∀e∈eps.reverse.take (m+1),Yv J e)/\Q .normal ρ' J'
theorem Amt(m){id ops anns}(hm:E.P.follows .mixedOrders=true)(hR:Bk E Rr)(ha:Lo E ops=some anns)(hp:Jo E m anns ops.toList false=true)
  (h:TD E nt Rr ops.toList ops.toList (KDX Q m J) ρ J [J] []):T E nt df B (.region id ops true) Q ρ J:=by
 intro ro n hn C w tm a ht st hB;obtain⟨c1,c2,c3,c4⟩:=Jm ha;obtain⟨d,k1,k2,k3,ρ',log',k4,k5,k6,k7⟩:=h tm df [] ht trivial;refine wpIn_mono (Aic hm hR st c1 c2 c3 k1 fun j o t v ho hl hcl hg σk hσ=>?_) fun e a' w' he=>?_
 ·have cv:=Ix (E:=E) (b:=(Region.before ops).toList) (effs:=A8 E ops.toList 0) ops.toList 0 j o (by simpa using ho)
  rw[←c4]at cv;simp only[bn_]at cv
  obtain⟨_,q1,q2,q3⟩:=Qj hp j _ o cv (by simpa using ho) hcl
  simp only[Gc]at q2
  have cu:Yv J σk:=by
   refine k6 σk ?_;obtain⟨i,hi⟩:=au_.1 hσ;rw[ea_]at hi
   split at hi
   ·rename_i hlt
    rw[g_]at hi;exact au_.2 ⟨_,(List.getElem?_take_of_lt Om).trans hi⟩
   ·cases hi
  obtain⟨log,eps,lex,g2,g3,g4,g5⟩:=Lz k1;simp only[dy_,bd_,d_]at g2 g3;obtain⟨x1,x2,x3,x4,x5⟩:=Wq lex
  obtain⟨t',v',t₁,J₀,J₁,y1,y2,y3,y4,y5,y6⟩:=x5 j o (by simpa using ho)
  rw[g2]at hl;rw[hl]at y1;cases y1
  have h0:J₀=J:=by
   rw[q1]at y3
   simpa using y3.symm
  subst h0
  have hne:B5 (Bc E o.op)=false:=by rw[hcl];rfl
  rcases y5 with⟨z1,z2⟩|⟨z1,z2⟩
  ·rw[Iy hcl]at z2;exact Arc q3 cu z2
  ·rw[z1]at hg;cases hg
 ·obtain⟨y,hy,C',h1,h2,h3⟩:=he;rw[ao_]at hy;subst hy;obtain⟨⟨tm',nt',df',J'⟩,eps',dl'⟩:=d;simp only at k2 k3;subst k2 k3;exact⟨.normal,tm',ρ',J',C',h1,k4,k7,h2,ai_ hB h3.next,h3.base hB⟩
theorem K4{o}(hw:WFS J):Yv J (J.new o):=Yv.below hw (Below.rfl'.new nl o)
def newQ(d:Nat)(z cs:List AV)(L ρ:Ad)(U:Sto):Cc
 |.normal=>fun ρ' J'=>Km L ρ'/\Hy ρ ρ'/\Ad.at ρ' d=some (.pr (nx U) 0)/\J'=(U.new (.cells z)).set (nx U) (.cells cs)
 |_=>fun _ _=>False
theorem Gz[Se E]{x y}(d z cs L)(hu:AV.unds (nx J) cs=true)(hL:AV.unds (nx J) (L.map (·.2))=true)(h:WFS J->T E nt [] B x (newQ d z cs L ρ J) ρ J)(k:T E nt [] B y Q ((d,.pv cs)::L++ρ) J):T E nt [] B (.seq x y) Q ρ J:=by
 intro ro n hn C w tm a ht st hB;have hwf:=st.sim.wfs;have em:∀i u,Ad.at ρ i=some u->AV.und (nx J) u=true:=fun i u hu=>R.und _ _ (st.tmps i u (ht i u hu))
 have hLu:∀(L:Ad),AV.unds (nx J) (L.map (·.2))=true->∀i u,Ad.at L i=some u->AV.und (nx J) u=true:=by
  intro L
  induction L with
  |nil=>intro _ i u hh;cases hh
  |cons p r ih=>
   obtain⟨j,v⟩:=p;intro hL i u hh;simp only[cn_,AV.unds,ad_]at hL;simp only[Ad.at]at hh;cases hb:Nat.beq j i with
   |true=>rw[hb]at hh;cases hh;exact hL.1
   |false=>rw[hb]at hh;exact ih hL.2 i u hh
 refine Aew ((h hwf).mono fun e ρ' J' hq=>?_) ro n hn C w tm a ht st hB
 cases e with
 |exit _=>exact hq.elim
 |ret=>exact hq.elim
 |normal=>
  obtain⟨h1,h2,h3,rfl⟩:=hq
  have hf:Ds ((J.new (.cells z)).set (nx J) (.cells cs)) J:=a_ hwf (by rw[Aq,Ao];exact dm_ _) fun b hb=>by rw[aa_,if_neg Om,ag_,if_neg Om]
  intro ro n hn C₁ w₁ tm₁ a₁ ht₁ st₁ hB₁;refine wpIn_mono (k ro n hn (C₁.keep J) w₁ _ a₁ (Kf _) (st₁.frz ht₁ hf fun i u hi=>?_) hB) fun e a' w' he=>he.from (en_ C₁ J B w₁)
  simp only[ay_,Ad.at]at hi;cases hb:Nat.beq d i with
  |true=>
   rw[hb]at hi;cases hi;have:=ac_ hb;subst this
   exact⟨_,h3,.pr (vs:=cs) (by rw[aa_,if_pos rfl]) (hwf.none nl) (dj_ hu)⟩
  |false=>
   rw[hb]at hi;simp only[cond_false]at hi;rw[ga_]at hi;cases hc:Ad.at L i with
   |some u'=>rw[hc]at hi;cases hi;exact⟨_,h1.at i _ hc,.same (hLu L hL i _ hc)⟩
   |none=>rw[hc]at hi;exact⟨_,h2 i u hi,.same (em i u hi)⟩
end
section
variable {E:Env}{nt B:Nat}{df:List (Nat×List AV)}{Q:Cc}{Rr:Rec}{ops r:List Oper}{K:KD}{ρ:Ad}{J U:Sto}{eps:List Sto}{log:List (Ad×AV)}
theorem TD_opF{op dst}{ty:Nat}{pos after v J₁}(he:B5 (Bc E op)=false)(hd:B0 nt dst=true)(h:As E Rr op ρ J v J₁)
  (k:TD E nt Rr ops r K (Dt dst v ρ) J eps ((ρ,v)::log)):TD E nt Rr ops ({ dst:=dst,op:=op,type:=ty,pos:=pos,after:=after,guard:=none }::r) K ρ J eps log:=Amn (b:=false) he hd h k
theorem TD_opT{op dst}{ty:Nat}{pos after v J₁}(he:B5 (Bc E op)=true)(hd:B0 nt dst=true)(h:As E Rr op ρ J v J₁)
  (k:TD E nt Rr ops r K (Dt dst v ρ) J₁ (J₁::eps) ((ρ,v)::log)):TD E nt Rr ops ({ dst:=dst,op:=op,type:=ty,pos:=pos,after:=after,guard:=none }::r) K ρ J eps log:=Amn (b:=true) he hd h k
theorem Bg{o oj v J₁}{j d:Nat}{b want}(hg:o.guard=some (j,want))(hj:ops[j]? =some oj)(hdj:oj.dst=some d)(hb:Ad.at ρ d=some (.bool b))(hw:cond b want (!want)=true)
  (he:B5 (Bc E o.op)=false)(hd:B0 nt o.dst=true)(h:As E Rr o.op ρ J v J₁)
  (k:TD E nt Rr ops r K (Dt o.dst v ρ) J eps ((ρ,v)::log)):TD E nt Rr ops (o::r) K ρ J eps log:=Qi (e:=false) hg hj hdj hb hw he hd h k
theorem Ol{o oj v J₁}{j d:Nat}{b want}(hg:o.guard=some (j,want))(hj:ops[j]? =some oj)(hdj:oj.dst=some d)(hb:Ad.at ρ d=some (.bool b))(hw:cond b want (!want)=true)
  (he:B5 (Bc E o.op)=true)(hd:B0 nt o.dst=true)(h:As E Rr o.op ρ J v J₁)
  (k:TD E nt Rr ops r K (Dt o.dst v ρ) J₁ (J₁::eps) ((ρ,v)::log)):TD E nt Rr ops (o::r) K ρ J eps log:=Qi (e:=true) hg hj hdj hb hw he hd h k
theorem Bx{o oj}{j d:Nat}{b want}(hg:o.guard=some (j,want))(hj:ops[j]? =some oj)(hdj:oj.dst=some d)(hb:Ad.at ρ d=some (.bool b))(hw:cond b want (!want)=false)
  (he:B5 (Bc E o.op)=false)(hd:B0 nt o.dst=true)
  (k:TD E nt Rr ops r K (Dt o.dst An ρ) J eps ((ρ,An)::log)):TD E nt Rr ops (o::r) K ρ J eps log:=Ta (e:=false) hg hj hdj hb hw he hd k
theorem K5{o oj}{j d:Nat}{b want}(hg:o.guard=some (j,want))(hj:ops[j]? =some oj)(hdj:oj.dst=some d)(hb:Ad.at ρ d=some (.bool b))(hw:cond b want (!want)=false)
  (he:B5 (Bc E o.op)=true)(hd:B0 nt o.dst=true)
  (k:TD E nt Rr ops r K (Dt o.dst An ρ) J (J::eps) ((ρ,An)::log)):TD E nt Rr ops (o::r) K ρ J eps log:=Ta (e:=true) hg hj hdj hb hw he hd k
end
theorem Abp{N M}(h:N<=M){es}(k:Jc N es=true):Jc M es=true:=by
 unfold Jc at k⊢;rw[b_]at k⊢;exact fun x hx=>AV.und_mono h x.2 (k x hx)
theorem Aiq{N M}(h:N<=M):∀{c:Option (Key×AV)},Ak3 N c=true->Ak3 M c=true
 |none,_=>rfl
 |some x,k=>AV.und_mono h x.2 k
theorem AO.und_mono{N M}(h:N<=M):∀{O:AO},AO.und N O=true->AO.und M O=true
 |.cells vs,k=>AV.unds_mono h vs k
 |.map _ es _,k=>Abp h k
 |.iter none _ _ _,_=>rfl
 |.iter (some r) _ _ _,k=>Ce (ak_ (Gy k) h)
 |.stamp _ _ _,k=>Ce (ak_ (Gy k) h)
 |.loop _,_=>rfl
theorem WFS.new{J}(hw:WFS J){X}(hX:AO.und (nx J+1) X=true)(hI:Agt (J.new X) X):WFS (J.new X):=by
 intro a O hg;rw[ag_]at hg;rw[Ao]
 split at hg
 ·grind
 ·obtain⟨h1,h2,h3⟩:=hw a O hg;refine⟨Nat.lt_succ_of_lt h1,AO.und_mono (dm_ _) h2,?_⟩;cases O with
  |iter m ver left cur=>
   cases m with
   |none=>trivial
   |some r=>
    intro kt es hr;have hlt:r<nx J:=Gy h2;rw[ag_,if_neg Om]at hr;obtain⟨k1,k2⟩:=h3 kt es hr;rw[Ao];exact⟨Abp (dm_ _) k1,Aiq (dm_ _) k2⟩
  |cells _=>trivial
  |map _ _ _=>trivial
  |stamp _ _ _=>trivial
  |loop _=>trivial
theorem Ds.newMap{J U kt ver es}(hw:WFS J)(hb:Below (nx J) J U)(hg:U.get (nx J)=some (.map kt es ver))(hn:nx J<nx U)(hu:Jc (nx J+1) es=true):Ds U (J.new (.map kt es ver)):=by
 refine a_ (hw.new hu trivial) gr fun a ha=>?_
 rw[Ao]at ha;rw[ag_]
 split
 ·grind
 ·exact hb.2 a Om
def aP(i j:Nat):Ann:=⟨.pure,i,j⟩
def aR(i j:Nat):Ann:=⟨.read,i,j⟩
def aE(i j:Nat):Ann:=⟨.eff,i,j⟩
theorem sb{ρ ρ'}(h:Hy ρ' ρ:=by repeat (first|exact .refl|refine .cons rfl ?_)):Hy ρ' ρ:=h
section
variable {E:Env}{nt B:Nat}{df:List (Nat×List AV)}{Q:Cc}{ρ:Ad}{J:Sto}{K:Ad->Sto->Prop}
theorem O1{ops r op dst}{ty:Nat}{pos after v J₁}(h:As E (fun _ _ _=>none) op ρ J v J₁)
  (k:TO E nt df B ops r K (Dt dst v ρ) J₁)(hn:Ga op=true:=by exact rfl)(hd:B0 nt dst=true:=by exact rfl):TO E nt df B ops ({ dst:=dst,op:=op,type:=ty,pos:=pos,after:=after,guard:=none }::r) K ρ J:=X4 noR hn hd h k
theorem OM{ops r x dst}{ty:Nat}{pos after v}(h:Ah E ρ x=some v)
  (k:TO E nt df B ops r K (Dt dst v ρ) J)(hd:B0 nt dst=true:=by exact rfl):TO E nt df B ops ({ dst:=dst,op:=.move x,type:=ty,pos:=pos,after:=after,guard:=none }::r) K ρ J:=X4 noR rfl hd (Ag h) k
theorem OA{ops r x dst}{ty:Nat}{pos after v}(h:Ah E ρ x=some v)
  (k:TO E nt df B ops r K (Dt dst v ρ) J)(hd:B0 nt dst=true:=by exact rfl):TO E nt df B ops ({ dst:=dst,op:=.assign x,type:=ty,pos:=pos,after:=after,guard:=none }::r) K ρ J:=X4 noR rfl hd (Gd h) k
theorem Of{ops r o oj}{j d:Nat}{b b' want}(hgb:b=b')(k:TO E nt df B ops r K (Dt o.dst An ρ) J)(hg:o.guard=some (j,want):=by exact rfl)(hj:ops[j]? =some oj:=by exact rfl)(hdj:oj.dst=some d:=by exact rfl)(hb:Ad.at ρ d=some (.bool b):=by exact rfl)(hw:cond b' want (!want)=false:=by exact rfl)
  (hd:B0 nt o.dst=true:=by exact rfl):TO E nt df B ops (o::r) K ρ J:=Co hg hj hdj hb (by rw[hgb];exact hw) hd k
theorem On{ops r o oj v J₁}{j d:Nat}{b b' want}(hgb:b=b')(h:As E (fun _ _ _=>none) o.op ρ J v J₁)(k:TO E nt df B ops r K (Dt o.dst v ρ) J₁)(hg:o.guard=some (j,want):=by exact rfl)(hj:ops[j]? =some oj:=by exact rfl)(hdj:oj.dst=some d:=by exact rfl)(hb:Ad.at ρ d=some (.bool b):=by exact rfl)(hw:cond b' want (!want)=true:=by exact rfl)
  (hn:Ga o.op=true:=by exact rfl)(hd:B0 nt o.dst=true:=by exact rfl):TO E nt df B ops (o::r) K ρ J:=Bi hg hj hdj hb (by rw[hgb];exact hw) noR hn hd h k
theorem Ou{ops r o oj}{j d:Nat}{want}(k:TO E nt df B ops r K (Dt o.dst An ρ) J)(hg:o.guard=some (j,want):=by exact rfl)(hj:ops[j]? =some oj:=by exact rfl)(hdj:oj.dst=some d:=by exact rfl)(hb:Ad.at ρ d=some An:=by exact rfl)(hd:B0 nt o.dst=true:=by exact rfl):TO E nt df B ops (o::r) K ρ J:=Auf hg hj hdj hb hd k
theorem DF{Rr ops r Kd eps log op dst}{ty:Nat}{pos after v J₁}(h:As E Rr op ρ J v J₁)
  (k:TD E nt Rr ops r Kd (Dt dst v ρ) J eps ((ρ,v)::log))(he:B5 (Bc E op)=false:=by exact rfl)(hd:B0 nt dst=true:=by exact rfl):TD E nt Rr ops ({ dst:=dst,op:=op,type:=ty,pos:=pos,after:=after,guard:=none }::r) Kd ρ J eps log:=Amn (b:=false) he hd h k
theorem DT{Rr ops r Kd eps log op dst}{ty:Nat}{pos after v J₁}(h:As E Rr op ρ J v J₁)
  (k:TD E nt Rr ops r Kd (Dt dst v ρ) J₁ (J₁::eps) ((ρ,v)::log))(he:B5 (Bc E op)=true:=by exact rfl)(hd:B0 nt dst=true:=by exact rfl):TD E nt Rr ops ({ dst:=dst,op:=op,type:=ty,pos:=pos,after:=after,guard:=none }::r) Kd ρ J eps log:=Amn (b:=true) he hd h k
theorem B4{fn ρ' vs}{P:AV->Prop}(hw:WFS J)(hr:Us E ρ' J fn.results.toList=some vs)(h:P (Akq vs))(hu:AV.und (nx J) (Akq vs)=true:=by exact rfl):Agw E fn (nx J) (fun v U=>P v/\U=J) ρ' J:=
 ⟨vs,hr,Akq vs,J,a_ hw nl (fun _ _=>rfl),nl,.same hu,h,rfl⟩
theorem Dx{Rr ops r Kd eps log}{o oj:Oper}{j d:Nat}{b want}(hg:o.guard=some (j,want))(hj:ops[j]? =some oj)(hdj:oj.dst=some d)(hb:Ad.at ρ d=some (.bool b))(hw:cond b want (!want)=false)
  (k:TD E nt Rr ops r Kd (Dt o.dst An ρ) J eps ((ρ,An)::log))(he:B5 (Bc E o.op)=false:=by exact rfl)(hd:B0 nt o.dst=true:=by exact rfl):TD E nt Rr ops (o::r) Kd ρ J eps log:=Ta (e:=false) hg hj hdj hb hw he hd k
theorem Dn{Rr ops r Kd eps log}{o oj:Oper}{v J₁}{j d:Nat}{b want}(hg:o.guard=some (j,want))(hj:ops[j]? =some oj)(hdj:oj.dst=some d)(hb:Ad.at ρ d=some (.bool b))(hw:cond b want (!want)=true)
  (h:As E Rr o.op ρ J v J₁)(k:TD E nt Rr ops r Kd (Dt o.dst v ρ) J eps ((ρ,v)::log))(he:B5 (Bc E o.op)=false:=by exact rfl)(hd:B0 nt o.dst=true:=by exact rfl):TD E nt Rr ops (o::r) Kd ρ J eps log:=Qi (e:=false) hg hj hdj hb hw he hd h k
theorem Du{Rr ops r Kd eps log o oj}{j d:Nat}{want}(k:TD E nt Rr ops r Kd (Dt o.dst An ρ) J eps ((ρ,An)::log))(hg:o.guard=some (j,want):=by exact rfl)(hj:ops[j]? =some oj:=by exact rfl)(hdj:oj.dst=some d:=by exact rfl)(hb:Ad.at ρ d=some An:=by exact rfl)
  (he:B5 (Bc E o.op)=false:=by exact rfl)(hd:B0 nt o.dst=true:=by exact rfl):TD E nt Rr ops (o::r) Kd ρ J eps log:=Zy (e:=false) hg hj hdj hb he hd k
end
section
open Go Go.Proofs
instance:Se Ew:=⟨fun g cs h=>(by
 have h:glW g=some cs:=h;unfold glW at h
 split at h
 ·cases h;rfl
 ·cases h),rfl⟩
theorem Aj{f fn c args J Post}(hfn:Tryz.prog.funcs[f]? =some fn)(hc:fn.body=some c)(hle:Nat.ble args.length fn.ntmps=true)
  (h:WFS J->AV.unds (nx J) args=true->T Ew fn.ntmps [] (nx J) c (Aox (Agw Ew fn (nx J) Post)) (Hg args 0) J):Al Ew f args J Post:=
 Aw1 hfn (Ke f fn hfn) hc hle h
end
section
variable {E:Env}{nt B:Nat}{df:List (Nat×List AV)}{Q:Cc}{ρ:Ad}{J:Sto}
theorem Ard{id ops r x}{d ty:Nat}{pos after a ver m left cur}
  (ew:ops.toList={ dst:=some d,op:=.next x false,type:=ty,pos:=pos,after:=after,guard:=none }::r)(hd:Nat.blt d nt=true)
  (hx:Ah E ρ x=some (.it a))(hg:J.get a=some (.iter m ver left cur))(hv:Aga J m ver=true)
  (h0:left=[]->TO E nt df B ops.toList r (fun ρ J=>Q .normal ρ J) ((d,.tup [.bool false])::ρ) (J.set a (.iter m ver [] none)))
  (h1:∀p,p∈Ht left->TO E nt df B ops.toList r (fun ρ J=>Q .normal ρ J) ((d,.tup [.bool true,T2 p.1.1,p.1.2])::ρ) (J.set a (.iter m ver p.2 (some p.1)))):T E nt df B (.region id ops false) Q ρ J:=by
 intro ro n hn C w tm act ht st hB
 obtain⟨hn1,hn2⟩:=L1 (by rw[←ew];exact hn)
 have hX:=Be st.glob st.tmps x;rw[ht.opd hx]at hX
 have ho:ops[0]? =some { dst:=some d,op:=.next x false,type:=ty,pos:=pos,after:=after,guard:=none }:=by rw[←bw_,ew];rfl
 have hsz:ops.size=r.length+1:=by rw[←cd_,ew];rfl
 obtain⟨y,w₁,bq,cu,fh⟩:=Akx (P:=E.P) (ty:=ty) st.sim hX hg hv
 have my:(execOp act.eval { dst:=some d,op:=.next x false,type:=ty,pos:=pos,after:=after,guard:=none }).run E.P w=.ok (.value y) w₁:=by
  simp[execOp,bq]
 refine wpIn_region ?_;rw[hsz,dr_,cj_];simp only[wpOpsIn,ho]
 rw[if_pos (by unfold Region.wanted;rfl)]
 refine Ev hn1 ?_;unfold Oper.wp;rw[my,Oper.upon_value]
 have hr:∀j,j<r.length->r[j]? =ops[0+1+j]? :=fun j _=>by
  rw[←bw_,ew,show 0+1+j=j+1 by omega];rfl
 have fin:∀(v:AV) (left':List (Key×AV)) (cur':Option (Key×AV)),TO E nt df B ops.toList r (fun ρ J=>Q .normal ρ J) ((d,v)::ρ) (J.set a (.iter m ver left' cur'))->Sim E.P C w₁ (J.set a (.iter m ver left' cur'))->R C (nx J) w₁ v y->
   wpOpsIn (Cy ro) n E.P ops (Sd E nt df B Q C w) (List.range' (0+1) r.length) (act.put (some d) y) w₁:=by
  intro v left' cur' hto hs' hv'
  obtain⟨tm',htm,ck⟩:=C6 (nt:=nt) (dst:=some d) (by exact hd) ht v
  have i7:Ext C (nx J) w C (nx (J.set a (.iter m ver left' cur'))) w₁:=by rw[Aq];exact cu
  have st':=st.put (x:=y) hs' i7 (by rw[Aq];exact hv') htm
  have:=hto ro n hn2 C w₁ tm' _ ck st' (by rw[Aq];exact hB) ops (0+1) (Sd E nt df B Q C w) [] rfl hr fun C' w' a' tm'' ρ' J' q1 q2 q3 q4 q5=>
   ⟨.normal,tm'',ρ',J',C',rfl,q1,q2,q3,q4,(i7.base hB).trans q5⟩
  rwa[bh_]at this
 rcases fh with⟨h,hs',hv'⟩|⟨p,hp,hs',hv'⟩
 ·exact fin _ _ _ (h0 h) hs' hv'
 ·exact fin _ _ _ (h1 p hp) hs' hv'
variable {Rr:Rec}
theorem Air{t r kt kt' sz ver agg z x es}(hi:mpI E.P t=some (kt',z,sz,agg))(hx:Ah E ρ x=some (.mp r))(hm:J.get r=some (.map kt es ver)):
  As E Rr (.range t x) ρ J (.it (nx J)) (J.new (.iter (some r) ver es none)):=fun tm h=>by
 obtain⟨ti,et,h1,h2⟩:=Aq8 hi;simp only[opA,Aw,h1,h2,h.opd hx,Af5,hm]
theorem Ais{x a r ver kt left es k v}(hx:Ah E ρ x=some (.it a))(hg:J.get a=some (.iter (some r) ver left (some (k,v))))(hm:J.get r=some (.map kt es ver)):
  As E Rr (.entry x) ρ J (.tup [T2 k,v]) J:=fun tm h=>by
 simp only[opA,Aw,h.opd hx,Aaf,hg,hm,aw_,cond_true]
end
theorem Tc{α enc}:∀{m:SM α} {p:(Key×AV)×List (Key×AV)},p∈Ht (Cn enc m)->∃q,q∈Ht m/\p=((kS q.1.1,enc q.1.2),Cn enc q.2)
 |[],p,h=>by simp[Cn,Ht]at h
 |x::m,p,h=>by
  simp only[Cn,cn_,Ht,an_,bt_]at h
  rcases h with rfl|⟨y,hy,rfl⟩
  ·exact⟨(x,m),by simp[Ht],rfl⟩
  ·obtain⟨q,h1,rfl⟩:=Tc (m:=m) hy
   exact⟨(q.1,x::q.2),by simp only[Ht,an_,bt_];exact .inr ⟨q,h1,rfl⟩,rfl⟩
theorem Rp{α}:∀{l:List α} {p:α×List α},p∈Ht l->p.1∈l/\(∀x,x∈l↔x=p.1∨x∈p.2)/\p.2.length+1=l.length
 |[],p,h=>by simp[Ht]at h
 |x::m,p,h=>by
  simp only[Ht,an_,bt_]at h
  rcases h with rfl|⟨q,hq,rfl⟩
  ·exact⟨ap_ ..,fun y=>an_,rfl⟩
  ·obtain⟨h1,h2,h3⟩:=Rp hq
   refine⟨aj_ _ h1,fun y=>?_,by simp only[as_];omega⟩
   simp only[an_,h2]
   constructor
   ·rintro(h|h|h)
    ·exact .inr (.inl h)
    ·exact .inl h
    ·exact .inr (.inr h)
   ·rintro(h|h|h)
    ·exact .inr (.inl h)
    ·exact .inl h
    ·exact .inr (.inr h)
theorem Ey {a b x y} : C8 (a :: x) (b :: y) = true ↔ a < b ∨ (a = b /\ C8 x y = true) := by
  simp only [C8];cases h : Nat.blt a b with
  | true => simp only [cond_true,true_iff]; exact .inl (by simpa [Nat.blt_eq] using h)
  | false =>
    have h' : ¬ a < b := fun hh => by rw [show Nat.blt a b = true from by rw [Nat.blt_eq]; exact hh] at h; cases h
    cases h2 : Nat.beq a b with
    | true => have := ac_ h2; subst this; simp
    | false => have : a ≠ b := fun hh => by subst hh; rw [aw_] at h2; cases h2
               simp only [cond_false,bp_,false_iff]; rintro (hh | ⟨hh,_⟩) <;> contradiction
theorem Abq : ∀ a : List Nat,C8 a a = false
  | [] => rfl
  | x :: a => by
    cases h : C8 (x :: a) (x :: a) with
    | false => rfl
    | true => rcases Ey.1 h with h | ⟨_,h⟩
              · omega
              · rw [Abq a] at h; cases h
theorem Uw : ∀ {a b c : List Nat},C8 a b = true -> C8 b c = true -> C8 a c = true
 | a,b,[],_,h2 => by cases b <;> simp [C8] at h2
 | a,[],c :: z,h1,_ => by cases a <;> simp [C8] at h1
 | [],_ :: _,_ :: _,_,_ => rfl
 | a :: x,b :: y,c :: z,h1,h2 => by
  rcases Ey.1 h1 with g1 | ⟨g0,g1⟩ <;> rcases Ey.1 h2 with g2 | ⟨g3,g2⟩
  ·exact Ey.2 (.inl Om)
  ·exact Ey.2 (.inl Om)
  ·exact Ey.2 (.inl Om)
  ·exact Ey.2 (.inr ⟨by omega,Uw g1 g2⟩)
theorem Abr:∀{a b:List Nat},C8 a b=false->C8 b a=false->a=b
 |[],[],_,_=>rfl
 |[],_::_,h,_=>by simp[C8]at h
 |_::_,[],_,h=>by simp[C8]at h
 |a::x,b::y,h1,h2=>by
  have g1:¬(a<b∨(a=b/\C8 x y=true)):=fun hh=>by rw[Ey.2 hh]at h1;cases h1
  have g2:¬(b<a∨(b=a/\C8 y x=true)):=fun hh=>by rw[Ey.2 hh]at h2;cases h2
  have e:a=b:=by omega
  subst e;rw[Abr (bz_.2 fun hh=>g1 (.inr ⟨rfl,hh⟩)) (bz_.2 fun hh=>g2 (.inr ⟨rfl,hh⟩))]
theorem Av6(a b):Key.lt (kS a) (kS b)=ltS a b:=rfl
theorem Ag2(a):ltS a a=false:=Abq _
theorem Ae0{a b c}(h:ltS a b=true)(k:ltS b c=true):ltS a c=true:=Uw h k
theorem Amu{a b}(h:ltS a b=false)(k:ltS b a=false):a=b:=Fu.1 (Abr h k)
section
variable {α:Type}
def SM.Srt(m:SM α):Prop:=m.Pairwise fun p q=>ltS p.1 q.1=true
theorem SM.Srt.nil:SM.Srt ([]:SM α):=List.Pairwise.nil
theorem SM.get_none_of{m:SM α}{s}(h:∀p∈m,p.1≠s):m.get s=none:=by
 induction m with
 |nil=>rfl
 |cons p m ih=>
  obtain⟨k,v⟩:=p;simp only[SM.get];rw[if_neg (fun hh=>h (k,v) (ap_ ..) hh.symm)]
  exact ih fun q hq=>h q (aj_ _ hq)
theorem SM.Srt.head{k v}{m:SM α}(h:SM.Srt ((k,v)::m)){s}(hs:ltS k s=false)(hne:s≠k):SM.get ((k,v)::m) s=none:=by
 refine SM.get_none_of fun p hp hh=>?_
 rcases an_.1 hp with rfl|hp
 ·exact hne hh.symm
 ·have:=(bq_.1 h).1 p hp;rw[hh]at this;rw[this]at hs;cases hs
theorem SM.Srt.ext:∀{m n:SM α},SM.Srt m->SM.Srt n->(∀s,m.get s=n.get s)->m=n
 |[],[],_,_,_=>rfl
 |[],(k,v)::n,_,_,h=>by have:=h k;simp[SM.get]at this
 |(k,v)::m,[],_,_,h=>by have:=h k;simp[SM.get]at this
 |(k,v)::m,(k',v')::n,hm,hn,h=>by
  have e:k=k':=by
   by_cases hk:k=k'
   ·exact hk
   ·cases h1:ltS k k' with
    |false=>
     cases h2:ltS k' k with
     |false=>exact Amu h1 h2
     |true=>
      have:=h k';rw[hm.head h1 (gx_ hk)]at this
      simp[SM.get]at this
    |true=>
     have h2:ltS k' k=false:=bz_.2 fun hh=>by have:=Ae0 h1 hh;rw[Ag2]at this;cases this
     have:=h k;rw[hn.head h2 hk]at this
     simp[SM.get]at this
  subst e
  have e2:v=v':=by have:=h k;simpa[SM.get]using this
  subst e2
  have:=SM.Srt.ext (bq_.1 hm).2 (bq_.1 hn).2 fun s=>by
   by_cases hs:s=k
   ·subst hs
    have g:∀{q:SM α},SM.Srt ((s,v)::q)->q.get s=none:=fun hq=>SM.get_none_of fun p hp hh=>by
     have:=(bq_.1 hq).1 p hp;rw[hh,Ag2]at this;cases this
    rw[g hm,g hn]
   ·have:=h s;simp only[SM.get,if_neg hs]at this;exact this
  rw[this]
theorem SM.Srt.set:∀{m:SM α} {s:Str} {x:α},SM.Srt m->SM.Srt (m.set s x)
 |[],_,_,_=>List.Pairwise.nil
 |(k,v)::m,s,x,h=>by
  have mem:∀{m:SM α} {p:Str×α},p∈m.set s x->∃q∈m,q.1=p.1:=by
   intro m
   induction m with
   |nil=>intro p hp;cases hp
   |cons r m ih=>
    intro p hp;obtain⟨k,v⟩:=r;simp only[SM.set]at hp
    split at hp
    ·rcases an_.1 hp with rfl|hp
     ·exact⟨_,ap_ ..,rfl⟩
     ·exact⟨p,aj_ _ hp,rfl⟩
    ·rcases an_.1 hp with rfl|hp
     ·exact⟨_,ap_ ..,rfl⟩
     ·obtain⟨q,h1,h2⟩:=ih hp;exact⟨q,aj_ _ h1,h2⟩
  simp only[SM.set]
  split
  ·exact bq_.2 ⟨fun p hp=>(bq_.1 h).1 p hp,(bq_.1 h).2⟩
  ·refine bq_.2 ⟨fun p hp=>?_,SM.Srt.set (bq_.1 h).2⟩
   obtain⟨q,h1,h2⟩:=mem hp;rw[←h2];exact(bq_.1 h).1 q h1
theorem SM.Srt.ins:∀{m:SM α} {s:Str} {x:α},SM.Srt m->m.get s=none->SM.Srt (m.ins s x)
 |[],_,_,_,_=>List.pairwise_singleton _ _
 |(k,v)::m,s,x,h,hn=>by
  have mem:∀{m:SM α} {p:Str×α},p∈m.ins s x->p=(s,x)∨p∈m:=by
   intro m
   induction m with
   |nil=>intro p hp;exact .inl (ao_.1 hp)
   |cons r m ih=>
    intro p hp;obtain⟨k,v⟩:=r;simp only[SM.ins]at hp
    split at hp
    ·rcases an_.1 hp with rfl|hp
     ·exact .inl rfl
     ·exact .inr hp
    ·rcases an_.1 hp with rfl|hp
     ·exact .inr (ap_ ..)
     ·exact(ih hp).imp id (aj_ _)
  have hne:s≠k:=fun hh=>by subst hh;simp[SM.get]at hn
  cases hl:ltS s k with
  |true=>
   have e:SM.ins ((k,v)::m) s x=(s,x)::(k,v)::m:=by simp only[SM.ins,Av6,hl,if_true]
   rw[e];refine bq_.2 ⟨fun p hp=>?_,h⟩
   rcases an_.1 hp with rfl|hp
   ·exact hl
   ·exact Ae0 hl ((bq_.1 h).1 p hp)
  |false=>
   have e:SM.ins ((k,v)::m) s x=(k,v)::SM.ins m s x:=by simp[SM.ins,Av6,hl]
   rw[e]
   have hk:ltS k s=true:=by
    cases hh:ltS k s with
    |true=>rfl
    |false=>exact absurd (Amu hl hh) hne
   refine bq_.2 ⟨fun p hp=>?_,SM.Srt.ins (bq_.1 h).2 (by simpa[SM.get,hne]using hn)⟩
   rcases mem hp with rfl|hp
   ·exact hk
   ·exact(bq_.1 h).1 p hp
theorem SM.Srt.put{m s}{x:α}(h:SM.Srt m):SM.Srt (m.put s x):=by
 unfold SM.put
 split
 ·exact h.set
 ·rename_i hn;exact h.ins hn
def SM.over(n m:SM α):SM α:=n.foldl (fun m p=>m.put p.1 p.2) m
theorem SM.Srt.over:∀{n m:SM α},SM.Srt m->SM.Srt (SM.over n m)
 |[],_,h=>h
 |p::n,m,h=>SM.Srt.over (n:=n) (m:=m.put p.1 p.2) h.put
def SM.Key1(m:SM α):Prop:=m.Pairwise fun p q=>p.1≠q.1
theorem SM.Srt.key1{m:SM α}(h:SM.Srt m):SM.Key1 m:=h.imp fun{p q} hh=>fun e=>by rw[e,Ag2]at hh;cases hh
theorem SM.get_over:∀{n m:SM α} {s:Str},SM.Key1 n->(SM.over n m).get s=(n.get s).or (m.get s)
 |[],_,_,_=>by simp[SM.over,SM.get]
 |(k,v)::n,m,s,h=>by
  have ih:=SM.get_over (n:=n) (m:=m.put k v) (s:=s) (bq_.1 h).2
  show(SM.over n (m.put k v)).get s=_
  rw[ih,ch_];simp only[SM.get]
  by_cases hs:s=k
  ·subst hs;rw[SM.get_none_of fun p hp hh=>(bq_.1 h).1 p hp hh.symm];simp
  ·simp[hs]
theorem Abs:∀{m:SM α} {p:(Str×α)×SM α},SM.Key1 m->p∈Ht m->SM.Key1 p.2/\p.2.get p.1.1=none/\∀s,m.get s=if s=p.1.1 then some p.1.2 else p.2.get s
 |[],p,_,h=>by simp[Ht]at h
 |(k,v)::m,p,hk,h=>by
  simp only[Ht,an_,bt_]at h;obtain⟨h1,h2⟩:=bq_.1 hk
  rcases h with rfl|⟨q,hq,rfl⟩
  ·exact⟨h2,SM.get_none_of fun p hp hh=>h1 p hp hh.symm,fun s=>rfl⟩
  ·obtain⟨g1,g2,g3⟩:=Abs h2 hq;obtain⟨m1,m2,_⟩:=Rp hq;have hne:k≠q.1.1:=h1 q.1 m1;refine⟨bq_.2 ⟨fun p hp=>h1 p ((m2 p).2 (.inr hp)),g1⟩,?_,fun s=>?_⟩
   ·simp only[SM.get];rw[if_neg (gx_ hne)];exact g2
   ·simp only[SM.get,g3 s]
    by_cases hs:s=k
    ·subst hs;simp[hne]
    ·simp[hs]
end
end Go.AM
namespace Go.AM
open Go
def ItV(J:Sto):Prop:=∀c r ver left cur,J.get c=some (.iter (some r) ver left cur)->∀kt es ver',J.get r=some (.map kt es ver')->ver<=ver'
theorem Sim.itv{P C w J}(h:Sim P C w J):ItV J:=fun c r ver left cur hg kt es ver' hr=>by
 have ho:=h.obj c _ hg;obtain⟨_,_,_,_,_,_,_,_,k3⟩:=ho;exact(k3 _ _ _ hr).1
theorem T_itv{E nt B df Q ρ J c}(h:ItV J->T E nt df B c Q ρ J):T E nt df B c Q ρ J:=fun ro n hn C w tm a ht st hB=>h st.sim.itv ro n hn C w tm a ht st hB
theorem WFS.setMap{J}(hw:WFS J)(hi:ItV J){r kt ver ver' es es'}(hm:J.get r=some (.map kt es ver))(hu:Jc (nx J) es'=true)(hv:ver<ver'∨(ver'=ver/\es'=es)):WFS (J.set r (.map kt es' ver')):=by
 intro a O hg;rw[aa_]at hg;rw[Aq]
 split at hg
 ·rename_i ha;cases hg;subst ha;exact⟨(hw _ _ hm).1,hu,trivial⟩
 ·obtain⟨h1,h2,h3⟩:=hw a O hg;refine⟨h1,h2,?_⟩;cases O with
  |iter m v left cur=>
   cases m with
   |none=>trivial
   |some q=>
    intro kt2 es2 hr;rw[aa_]at hr
    split at hr
    ·rename_i hq
     subst hq
     rcases hv with hv|⟨rfl,rfl⟩
     ·have:=hi a q v left cur hg _ _ _ hm;cases hr;omega
     ·cases hr;rw[Aq];exact h3 _ _ hm
    ·rw[Aq];exact h3 _ _ hr
  |cells _=>trivial
  |map _ _ _=>trivial
  |stamp _ _ _=>trivial
  |loop _=>trivial
theorem Ds.setMap{J U}(hw:WFS J)(hi:ItV J){r kt ver ver' es es'}(hm:J.get r=some (.map kt es ver))(hu:Jc (nx J) es'=true)(hv:ver<ver'∨(ver'=ver/\es'=es))
  (hn:nx J<=nx U)(hg:∀c,c<nx J->c≠r->U.get c=J.get c)(hr:U.get r=some (.map kt es' ver')):Ds U (J.set r (.map kt es' ver')):=by
 refine a_ (hw.setMap hi hm hu hv) (by rw[Aq];exact hn) fun c hc=>?_
 rw[Aq]at hc;rw[aa_]
 split
 ·rename_i h;subst h;exact hr
 ·rename_i h;exact hg c hc (by intro hh;exact h Om)
theorem Ag3(s):Key.eq (kS s) (kS s)=true:=by rw[Abl];simp
theorem Ae1{k}(hk:Key.eq k k=true){v z}:∀{es:List (Key×AV)},D5 k es=none->Ph k v (Nx k z es)=Nx k v es
 |[],_=>by
  simp only[Nx,Ph,hk,cond_true]
 |(k',v')::r,h=>by
  simp only[D5]at h;cases h1:Key.eq k k' with
  |true=>rw[h1]at h;cases h
  |false=>
   rw[h1]at h;simp only[Nx];cases h2:Key.lt k k' with
   |true=>simp only[cond_true,Ph,hk]
   |false=>simp only[cond_false,Ph,h1];rw[Ae1 hk h]
section
variable {E:Env}{ρ:Ad}{J:Sto}{Rr:Rec}{t ty n r a:Nat}{x y w:Operand}{α:Type}{enc:α->AV}{m:SM α}{s:Str}
def Td(enc:α->AV)(z:AV)(m:SM α)(s:Str):List (Key×AV):=match m.get s with|some _=>Cn enc m|none=>Nx (kS s) z (Cn enc m)
theorem Ait{z sz ver agg}(h9:Fs E.P 9=true)(hi:mpI E.P t=some (9,z,sz,agg))(hx:Ah E ρ x=some (.mp r))(hm:J.get r=some (.map 9 (Cn enc m) ver))(hy:Ah E ρ y=some (sV s)):
  As E Rr (.mapEntry t x y) ρ J (.tup [((m.get s).map enc).getD z,.stp (nx J)]) ((J.set r (.map 9 (Td enc z m s) (ver+1))).new (.stamp r (ver+1) (kS s))):=fun tm h=>by
 obtain⟨ti,et,te,h1,h2,h3,h4,h5,h6⟩:=Abe hi;simp only[opA,Aw,h1,h2,h3,h4,h.opd hx,h.opd hy,keyS h9,Q8,hm,aw_,Ak,Ih,Td];cases m.get s<;>rfl
theorem Ad1{z sz ver agg v}(hi:mpI E.P t=some (9,z,sz,agg))(hx:Ah E ρ x=some (.mp r))(hy:Ah E ρ y=some (.stp a))(hw:Ah E ρ w=some (enc v))(hf:∀te:TI,te.size=sz->te.isAgg=agg->Je te (enc v)=true)
  (ha:J.get a=some (.stamp r ver (kS s)))(hm:J.get r=some (.map 9 (Td enc z m s) ver)):As E Rr (.entryStore t x y w) ρ J An (J.set r (.map 9 (Cn enc (m.put s v)) (ver+1))):=fun tm h=>by
 obtain⟨ti,et,te,h1,h2,h3,h4,h5,h6⟩:=Abe hi
 have e1:∃u,D5 (kS s) (Td enc z m s)=some u:=by
  unfold Td
  split
  ·rename_i u hu;rw[Ih,hu];exact⟨_,rfl⟩
  ·rename_i hu
   have:∀es,D5 (kS s) (Nx (kS s) z es)=some z∨∃u,D5 (kS s) es=some u:=by
    intro es
    induction es with
    |nil=>left;simp[Nx,D5,Ag3]
    |cons p r ih=>
     obtain⟨k',v'⟩:=p;simp only[Nx];cases h2:Key.lt (kS s) k' with
     |true=>left;simp[D5,Ag3]
     |false=>
      simp only[cond_false,D5];cases h1:Key.eq (kS s) k' with
      |true=>exact .inr ⟨v',rfl⟩
      |false=>exact ih
   rcases this (Cn enc m)with h|⟨u,h⟩
   ·exact⟨_,h⟩
   ·rw[Ih,hu]at h;cases h
 have e2:Ph (kS s) (enc v) (Td enc z m s)=Cn enc (m.put s v):=by
  unfold Td SM.put
  split
  ·rename_i u hu;rw[Abm];try rw[hu]
  ·rename_i hu;rw[Ae1 (Ag3 s) (by rw[Ih,hu];rfl),Abn];try rw[hu]
 obtain⟨u,e1⟩:=e1;simp only[opA,Aw,h1,h2,h3,h.opd hx,h.opd hy,h.opd hw,Mf,ha,hm,aw_,hf te h5 h6,be_,Ak,e1,e2]
theorem G0{parts z cs sz len agg ps}(hz:(match Ay E.P t with|some ti=>ti.zero|none=>none)=some z)(hi:arI E.P t=some (len,sz,agg))
  (hp:W3 E ρ sz parts.toList=some ps)(hf:Si z ps=some cs):As E Rr (.build t parts) ρ J (.agg cs) J:=fun tm h=>by
 unfold arI at hi
 split at hi
 ·rename_i ti hti
  rw[hti]at hz;simp only at hz
  split at hi
  ·rename_i nn e he
   split at hi
   ·rename_i te hte
    simp only[af_,ba_]at hi;obtain⟨k1,k2,k3⟩:=hi;subst k1 k2;simp only[opA,Aw,hti,hz,he,hte,Abk h hp,M2,hf]
   ·cases hi
  ·cases hi
 ·cases hi
theorem Ao4{sz m agg k cs v}(hi:arI E.P t=some (m,sz,agg))(hx:Ah E ρ x=some (.agg cs))(hy:Ah E ρ y=some (.int k (.ofNat n)))
  (hn:n<m)(hv:Cz sz agg (cs.drop (n*sz))=some v):As E Rr (.index t x y) ρ J v J:=fun tm h=>by
 unfold arI at hi
 split at hi
 ·rename_i ti hti
  split at hi
  ·rename_i nn e he
   split at hi
   ·rename_i te hte
    simp only[af_,ba_]at hi;obtain⟨k1,k2,k3⟩:=hi;subst k1 k2 k3
    have hb:Nat.blt n nn=true:=by simpa using hn
    simp only[opA,Aw,hti,he,hte,h.opd hx,h.opd hy,Le,hb,cond_true,Ml,hv]
   ·cases hi
  ·cases hi
 ·cases hi
end
section
variable {E:Env}{nt B:Nat}{Q Q':Cc}{ρ ρ':Ad}{J J':Sto}
end
def Amv:List Nat->List AV->Ad->Ad
 |p::ps,x::xs,ρ=>Amv ps xs ((p,x)::ρ)
 |_,_,ρ=>ρ
theorem Qk{C N w nt}:∀{ps:List Nat} {args:List AV} {vs:List Value} {tm:Tr AV} {ρ:Ad} {tmps:Array Value},args.length=ps.length->ps.all (fun p=>Nat.blt p nt)=true->Has tm ρ->TR C N w tm tmps->tmps.size=nt->RL C N w args vs->
  vs.length=ps.length/\∃tm',Has tm' (Amv ps args ρ)/\TR C N w tm' ((ps.zip vs).foldl (fun tmps (t,a)=>tmps.setIfInBounds t a) tmps)/\((ps.zip vs).foldl (fun tmps (t,a)=>tmps.setIfInBounds t a) tmps).size=nt
 |[],[],[],tm,ρ,tmps,_,_,ht,hT,hs,_=>⟨rfl,tm,ht,hT,hs⟩
 |[],[],_::_,_,_,_,_,_,_,_,_,h=>by unfold RL at h;exact h.elim
 |[],_::_,_,_,_,_,h,_,_,_,_,_=>by cases h
 |_::_,[],_,_,_,_,h,_,_,_,_,_=>by cases h
 |_::_,_::_,[],_,_,_,_,_,_,_,_,h=>by unfold RL at h;exact h.elim
 |p::ps,x::xs,v::vs,tm,ρ,tmps,hl,hb,ht,hT,hs,hr=>by
  unfold RL at hr;simp only[cs_,ad_]at hb;obtain⟨tm1,h1,h2⟩:=C6 (nt:=nt) (dst:=some p) hb.1 ht x;obtain⟨k1,k2,_⟩:=TR.put (a:={ tmps:=tmps,defers:=[] }) hT hs h1 hr.1
  have pz:(({ tmps:=tmps,defers:=[] }:Act).put (some p) v).tmps=tmps.setIfInBounds p v:=by simp[Act.put]
  rw[pz]at k1 k2
  obtain⟨q1,tm',q2,q3,q4⟩:=Qk (by simpa using hl) hb.2 h2 k1 k2 hr.2
  exact⟨by simp[q1],tm',q2,q3,q4⟩
section
variable {E:Env}{L:RF}{nt B:Nat}{Q Q':Cc}{ρ ρ':Ad}{J J':Sto}
variable {K:Ad->Sto->Prop}{ops r:List Oper}
end
section
variable {E:Env}{L:RF}{nt B:Nat}{ρ:Ad}{J:Sto}{K:Ad->Sto->Prop}
end
theorem Aw7{E}(hm:E.P.follows .mixedOrders=true){Rr}(hR:Bk E Rr){ops s d C w a}(st:SSt E C w s a)
  (c1:Eu ops (Region.before ops).toList=true)(c2:Fo ops=true)(c3:Mg (Region.before ops).toList (A8 E ops.toList 0)=true)(hd:T9 E ops.toList Rr ops.toList ⟨s,[s.sto],[]⟩=some d)
  (hb:∀(j:Nat) (o:Oper) (t:Tr AV) (v:AV),ops[j]? =some o->d.log.reverse[j]? =some (t,v)->Bc E o.op=.read->Agn E ops.toList o t v
   ((d.eps.reverse.drop (Bl (fun e=>((Region.before ops).getD j 0).testBit e) (A8 E ops.toList 0))).take (Bl (fun e=> !((Region.before ops).getD e 0).testBit j) (A8 E ops.toList 0)+1-Bl (fun e=>((Region.before ops).getD j 0).testBit e) (A8 E ops.toList 0)))){ro n Q}(hQ:∀a' w',Aej E C (nx s.sto) w [(.normal,d.s)] .normal a' w'->Q .normal a' w'):
  wpAnyIn (Cy ro) n E.P .any ops Q ops.size (Array.replicate ops.size false) a { w with drawn:=w.drawn+1 }:=by
 obtain⟨log,eps,lex,k2,k3,k4,k5⟩:=Lz hd;simp only[dy_,bd_,d_]at k2 k3;obtain⟨x1,x2,x3,x4,x5⟩:=Wq lex
 have bl:ops.toList.length=ops.size:=by simp
 have hT:∀k,k<ops.size->∃o,ops[k]? =some o/\Ka o.dst (((log.map (·.1)++[d.s.tm])[k]?).getD .e) s.nt (((log[k]?).map (·.2)).getD .any)=some (((log.map (·.1)++[d.s.tm])[k+1]?).getD .e):=by
  intro k hk
  have ho:ops.toList[k]? =some ops[k]:=by simp[hk]
  grind
 have lx:Aer E ops Rr s.nt s.tm (A8 E ops.toList 0) (fun k=>((log.map (·.1)++[d.s.tm])[k]?).getD .e) (fun k=>((log[k]?).map (·.2)).getD .any) (s.sto::eps):=by
  refine⟨c1,rfl,by simp only[as_,x2,Nj ops.toList 0],c3,fun j o ho=>?_,fun j hj t=>?_,fun j o ho hc=>?_⟩
  ·obtain⟨t,v,t₁,σk,J₁,y1,y2,y3,y4,y5,y6⟩:=x5 j o gr
   grind
  ·exact Ni (n:=ops.size) gr hT j hj t
  grind
 obtain⟨t1,t2⟩:=st.sim.same (w':={ w with drawn:=w.drawn+1 }) nl (fun _ _=>rfl) ⟨rfl,rfl⟩
 have cz:∀i,(Array.replicate ops.size false).getD i false=false:=fun i=>by
  rw[bo_,Array.getElem?_replicate];grind
 refine Wt (C₀:=C) (N₀:=nx s.sto) (w₀:=w) (df:=s.df) hR lx c2 (fun L m J C' w' a' iv bs=>?_) ops.size _ 0 s.sto C _ a (by simp) (Ri cz) ?_
 ·obtain⟨z1,z2⟩:=iv.last lx bs
  have hσ:J=d.s.sto:=by
   rw[←Nj,←x2,x4]at z1;grind
  subst hσ;refine hQ _ _ ⟨(.normal,d.s),ev_ _,C',rfl,?_,iv.ext⟩;have hTn:((log.map (·.1)++[d.s.tm])[ops.size]?).getD .e=d.s.tm:=gr;simp only[hTn]at z2
  exact⟨z2.sim,z2.glob,z2.tmps,by rw[k4];exact z2.size,by rw[k5];exact z2.dfs⟩
 ·refine⟨fun j hj=>?_,fun k e _=>?_,rfl,t1,st.glob.ext t2,fun t x hx=>?_,st.size,st.dfs.ext t2,t2⟩
  ·grind
  ·grind
  ·refine R.ext t2 _ _ (st.tmps t x ?_);rw[←hx,He (k:=0) (aq_ _) fun i _ _ _=>cz i];rfl
theorem Arg{α:Type}{l:List α}{i}(h:i<l.length):∃a,l[i]? =some a:=⟨_,az_ h⟩
def Qm:Nat->List (List Bool)
 |0=>[[]]
 |n+1=>(Qm n).flatMap fun l=>[false::l,true::l]
theorem Abw:∀l:List Bool,l∈Qm l.length
 |[]=>by simp[Qm]
 |b::l=>by
  have:=Abw l;simp only[as_,Qm,List.mem_flatMap]
  exact⟨l,this,by cases b<;>simp⟩
def Dq(ops:List Oper):List Bool:=ops.map fun _=>false
def Jp(ops:List Oper):List Bool:=ops.map fun _=>true
def Aiu(ops:List Oper)(l:List Bool):Bool:=(List.range ops.length).all fun i=> !(l[i]?).getD false||(match ops[i]? with|some o=>o.after.all fun e=> !Region.binds .any e||(l[e.on]?).getD false|none=>true)
def Alb(ops1 ops2:List Oper)(l:List Bool):Bool:=
 l.all id||((!(Region.ready .any ops1.toArray l.toArray).isEmpty)&&decide (Region.ready .any (ops1++ops2).toArray (l++Dq ops2).toArray=Region.ready .any ops1.toArray l.toArray)&&(Region.ready .any ops1.toArray l.toArray).all fun i=>Aiu ops1 (l.set i true))
def X8(ops2:List Oper)(j:Nat):List Bool:=List.replicate j true++List.replicate (ops2.length-j) false
def K6(ops1 ops2:List Oper):Bool:=
 ((ops1++ops2).all fun o=>o.guard.isNone)&&Aiu ops1 (Dq ops1)&&((Qm ops1.length).all fun l=> !Aiu ops1 l||Alb ops1 ops2 l)
  &&((List.range (ops2.length+1)).all fun j=>decide (Region.ready .any (ops1++ops2).toArray (Jp ops1++X8 ops2 j).toArray=if j<ops2.length then[ops1.length+j]else[]))
theorem Ao8{F n P}{o:Oper}{a w K K' Q Q'}(h:∀a w,K a w->K' a w)(hq:∀e a w,e≠.normal->Q e a w->Q' e a w)
  (hh:o.wpIn F n P a w K Q):o.wpIn F n P a w K' Q':=by
 have hL:LetsOut Q->LetsOut Q':=fun⟨a,w,h⟩=>⟨a,w,hq _ _ _ gr h⟩
 unfold Oper.wpIn at *;refine⟨hh.1,?_⟩;have hh:=hh.2
 generalize (o.semAt F.round a.eval).run P w=r at *
 cases r with
 |ok x w'=>
  cases x<;>simp only[Oper.uponIn]at hh⊢<;>
   first
    |exact h _ _ hh
    |exact⟨hh.1,CallsIn.mono hh.2 gr⟩
    |exact⟨hh.1,RowsIn.mono hh.2 (fun _ _ he=>h _ _ he)⟩
    |exact⟨hh.1,RoundIn.mono hh.2 gr⟩
    |exact hh
 |halt x w'=>cases x<;>simp only[Oper.uponIn]at hh⊢<;>first|exact hh.elim|exact hq _ _ _ gr hh|exact hh
section
variable {F:Fence}{n:Nat}{P:Program}{ops1 ops2:List Oper}{Q Q1:Exit->Act->World->Prop}
theorem Ao9{ops:List Oper}{l:List Bool}{i}(h:i∈Region.ready .any ops.toArray l.toArray):i<ops.length/\∃o,ops[i]? =some o:=by
 unfold Region.ready at h
 grind
theorem Alc(hok:K6 ops1 ops2=true)(hn:∀a w,Q1 .normal a w->wpAnyIn F n P .any (ops1++ops2).toArray Q ops2.length (Jp ops1++Dq ops2).toArray a w)(hx:∀e a w,e≠.normal->Q1 e a w->Q e a w):
  ∀(k:Nat) (l:List Bool) (a:Act) (w:World),l.length=ops1.length->Aiu ops1 l=true->(l.filter (!·)).length=k->wpAnyIn F n P .any ops1.toArray Q1 k l.toArray a w->wpAnyIn F n P .any (ops1++ops2).toArray Q (k+ops2.length) (l++Dq ops2).toArray a w:=by
 unfold K6 at hok;simp only[ad_]at hok;obtain⟨⟨⟨hg,_⟩,hs⟩,_⟩:=hok;intro k
 induction k with
 |zero=>
  intro l a w hl hc hk h
  have bs:l=Jp ops1:=by
   refine List.ext_getElem? fun i=>?_
   unfold Jp;rw[br_]
   by_cases hi:i<l.length
   ·obtain⟨b,hb⟩:=Arg hi
    obtain⟨o,ho⟩:=Arg (show i<ops1.length by omega)
    rw[hb,ho];have:l.filter (!·)=[]:=ey_.1 hk;rw[List.filter_eq_nil_iff]at this;have:=this b (ab_ hb)
    grind
   grind
  subst bs;rw[bn_];exact hn a w h.2
 |succ k ih=>
  intro l a w hl hc hk h
  have hst:=b_.1 hs l (by rw[←hl];exact Abw l)
  rw[hc]at hst;simp only[Bool.not_true,Bool.false_or]at hst;unfold Alb at hst
  have hna:l.all id=false:=by
   cases hb:l.all id with
   |false=>rfl
   |true=>
    rw[b_]at hb;have:l.filter (!·)=[]:=List.filter_eq_nil_iff.2 gr;rw[this]at hk;cases hk
  rw[hna]at hst;simp only[Bool.false_or,ad_,bi_,decide_eq_true_eq,b_]at hst;obtain⟨⟨s1,s2⟩,s3⟩:=hst;rw[Nat.succ_add];obtain⟨_,h1⟩:=h;refine⟨fun he=>?_,fun i hi=>?_⟩
  ·grind
  ·rw[s2]at hi;obtain⟨hil,o,ho⟩:=Ao9 hi;have h2:=h1 i hi
   have hgo:o.guard=none:=by
    have:=b_.1 hg o (dg_ _ (ab_ ho))
    simpa using this
   have hwa:∀y,Region.wanted o y=true:=fun y=>by unfold Region.wanted;rw[hgo]
   have hlf:l[i]? =some false:=by
    unfold Region.ready at hi;have:=(cp_.1 hi).2
    obtain⟨b,hb⟩:=Arg (show i<l.length by omega)
    simp only[ad_,bi_]at this;have:=this.1;rw[hb];rw[bo_,List.getElem?_toArray,hb]at this
    grind
   unfold wpOpIn at h2⊢;rw[List.getElem?_toArray]at h2⊢;rw[cg_ hil,ho];rw[ho]at h2;simp only[hwa,if_true]at h2⊢;refine Ao8 (fun a w hh=>?_) hx h2
   have e1:(l++Dq ops2).toArray.setIfInBounds i true=(l.set i true++Dq ops2).toArray:=gr;have e2:l.toArray.setIfInBounds i true=(l.set i true).toArray:=gr;rw[e1];rw[e2]at hh;refine ih (l.set i true) a w gr (s3 i hi) ?_ hh
   have key:∀(l:List Bool) (i:Nat),l[i]? =some false->((l.set i true).filter (!·)).length+1=(l.filter (!·)).length:=fun l=>by
    induction l with
    |nil=>intro i h;simp at h
    |cons b l ihl=>
     intro i h;cases i with
     |zero=>simp at h;subst h;simp
     |succ i=>
      have:=ihl i gr;cases b<;>simp[List.set_cons_succ]<;>simpa using this
   grind
theorem Arh(hok:K6 ops1 ops2=true):∀(k j:Nat) (a:Act) (w:World),j+k=ops2.length->wpOpsIn F n P (ops1++ops2).toArray Q (List.range' (ops1.length+j) k) a w->wpAnyIn F n P .any (ops1++ops2).toArray Q k (Jp ops1++X8 ops2 j).toArray a w:=by
 have hok':=hok;unfold K6 at hok;simp only[ad_]at hok;obtain⟨_,ht⟩:=hok;have ht:=fun j (hj:j<ops2.length+1)=>of_decide_eq_true (b_.1 ht j (cw_.2 hj))
 intro k
 induction k with
 |zero=>
  intro j a w hj h;refine⟨?_,h⟩;rw[ht j Om,if_neg Om]
 |succ k ih=>
  intro j a w hj h;have hr:=ht j Om;rw[if_pos Om]at hr;refine⟨fun he=>gr,fun i hi=>?_⟩
  rw[hr,ao_]at hi;subst hi;rw[cj_,wpOpsIn_cons]at h;refine wpOpIn_mono (fun a w hh=>?_) h
  have e1:(Jp ops1++X8 ops2 j).toArray.setIfInBounds (ops1.length+j) true=(Jp ops1++X8 ops2 (j+1)).toArray:=by
   have hl:(Jp ops1).length=ops1.length:=by unfold Jp;grind
   rw[List.setIfInBounds_toArray,List.set_append_right _ _ Om,hl,show ops1.length+j-ops1.length=j by omega]
   congr 2
   unfold X8
   rw[List.set_append_right _ _ (by simp),fi_,Nat.sub_self,show ops2.length-j=(ops2.length-(j+1))+1 by omega,List.replicate_succ,List.set_cons_zero,List.replicate_succ',ca_]
   rfl
  rw[e1];exact ih (j+1) a w Om hh
end
section
variable {E:Env}{nt B b:Nat}{Q Q':Cc}{ρ ρ':Ad}{J:Sto}
end
def H7:Code->Bool
 |.region _ ops _=>D6 ops.toList
 |.seq a b=>H7 a&&H7 b
 |.cond _ a b=>H7 a&&H7 b
 |.block _ a=>H7 a
 |.loop a=>H7 a
 |.scope a=>H7 a
 |.rangeFunc _ _ _ _=>false
 |_=>true
def LI(Ls:List RF)(C:Ctx)(N:Nat)(w:World):Prop:=∀L∈Ls,Gk L C N w
theorem LI.ext{Ls C C' N N' w w'}(h:LI Ls C N w)(e:Ext C N w C' N' w'):LI Ls C' N' w':=fun L hL=>(h L hL).ext e
def Kg(E:Env)(nt b B:Nat)(Q:Cc)(C:Ctx)(w:World):Exit->Act->World->Prop:=fun e a' w'=>
 ∃x tm' ρ' J' C' df,Jj x=e/\Has tm' ρ'/\Q x ρ' J'/\SSt E C' w' ⟨tm',nt,df,J'⟩ a'/\Jt b df=true/\B<=nx J'/\Ext C B w C' B w'
def TX(E:Env)(Ls:List RF)(nt b B:Nat)(c:Code)(Q:Cc)(ρ:Ad)(J:Sto):Prop:=
 ∀(ro:Option Nat) (n:Nat),(ro=none∨H7 c=true)->∀(Bs:Nat) (C:Ctx) (w:World) (tm:Tr AV) (a:Act) (df:List (Nat×List AV)),(ro=none->Gl b Bs C B w)->LI Ls C B w->Jt b df=true->Has tm ρ->SSt E C w ⟨tm,nt,df,J⟩ a->B<=nx J->
  c.wpIn (Cy ro) n E.P (Kg E nt b B Q C w) a w
section
variable {E:Env}{Ls:List RF}{nt b B:Nat}{Q Q':Cc}{ρ ρ':Ad}{J J':Sto}
theorem Kg.mono{C w e a w'}(h:Kg E nt b B Q C w e a w')(hQ:∀x ρ J,Q x ρ J->Q' x ρ J):Kg E nt b B Q' C w e a w':=by
 obtain⟨x,tm',ρ',J',C',df,h1,h2,h3,h4⟩:=h;exact⟨x,tm',ρ',J',C',df,h1,h2,hQ _ _ _ h3,h4⟩
theorem Kg.from{C C₀ w w₀ e a w'}(h:Kg E nt b B Q C w e a w')(hx:Ext C₀ B w₀ C B w):Kg E nt b B Q C₀ w₀ e a w':=by
 obtain⟨x,tm',ρ',J',C',df,h1,h2,h3,h4,hm,hB,h5⟩:=h;exact⟨x,tm',ρ',J',C',df,h1,h2,h3,h4,hm,hB,hx.trans h5⟩
theorem Dy{c}(h:∀df,T E nt df B c Q ρ J)(hn:H7 c=Ln c:=by kernel_rfl):TX E Ls nt b B c Q ρ J:=fun ro n hr Bs C w tm a df _ _ hm ht st hB=>
 wpIn_mono (h df ro n (hr.imp (fun h=>h) gr) C w tm a ht st hB) fun e a' w' ⟨x,tm',ρ',J',C',h1,h2,h3,h4,hB',h5⟩=>⟨x,tm',ρ',J',C',df,h1,h2,h3,h4,hm,hB',h5⟩
theorem TX.mono{c}(h:TX E Ls nt b B c Q ρ J)(hQ:∀x ρ J,Q x ρ J->Q' x ρ J):TX E Ls nt b B c Q' ρ J:=fun ro n hr Bs C w tm a df h0 hl hm ht st hB=>wpIn_mono (h ro n hr Bs C w tm a df h0 hl hm ht st hB) fun e a' w' he=>he.mono hQ
theorem Gi{c}(h:WFS J->TX E Ls nt b B c Q ρ J):TX E Ls nt b B c Q ρ J:=fun ro n hr Bs C w tm a df h0 hl hm ht st hB=>h st.sim.wfs ro n hr Bs C w tm a df h0 hl hm ht st hB
theorem Jw(h:Q .normal ρ J):TX E Ls nt b B .skip Q ρ J:=Dy fun _=>Agu h
theorem Ux{n}(h:Q (.exit n) ρ J):TX E Ls nt b B (.exit n) Q ρ J:=Dy fun _=>Agv h
theorem Th(h:Q .ret ρ J):TX E Ls nt b B .ret Q ρ J:=Dy fun _=>Amj h
theorem Cf{x y}(h:TX E Ls nt b B x (Pa (TX E Ls nt b B y Q) Q) ρ J):TX E Ls nt b B (.seq x y) Q ρ J:=by
 intro ro n hr Bs C w tm a df h0 hl hm ht st hB;simp only[H7,ad_]at hr;refine wpIn_seq (wpIn_mono (h ro n (hr.imp (fun h=>h) (·.1)) Bs C w tm a df h0 hl hm ht st hB) fun e a' w' he=>?_)
 obtain⟨x',tm',ρ',J',C',df',h1,h2,h3,h4,hm',hB',h5⟩:=he;subst h1;cases x' with
 |normal=>exact wpIn_mono (h3 ro n (hr.imp (fun h=>h) (·.2)) Bs C' w' tm' a' df' (fun hh=>(h0 hh).ext h5) (hl.ext h5) hm' h2 h4 hB') fun e a'' w'' he=>he.from h5
 |exit id=>exact⟨.exit id,tm',ρ',J',C',df',rfl,h2,h3,h4,hm',hB',h5⟩
 |ret=>exact⟨.ret,tm',ρ',J',C',df',rfl,h2,h3,h4,hm',hB',h5⟩
theorem A2m{x y:Code}(h:∀df,T E nt df B x (Pa (TX E Ls nt b B y Q) Q) ρ J)(hn:H7 x=Ln x:=by kernel_rfl):TX E Ls nt b B (.seq x y) Q ρ J:=Cf (Dy h hn)
theorem A0{c x y v}(hc:Ah E ρ c=some (.bool v))(h1:v=true->TX E Ls nt b B x Q ρ J)(h2:v=false->TX E Ls nt b B y Q ρ J):TX E Ls nt b B (.cond c x y) Q ρ J:=by
 intro ro n hr Bs C w tm a df h0 hl hm ht st hB;simp only[H7,ad_]at hr;have hv:=Be st.glob st.tmps c;rw[ht.opd hc]at hv;unfold R at hv;cases v with
 |true=>exact wpIn_cond_true hv (h1 rfl ro n (hr.imp (fun h=>h) (·.1)) Bs C w tm a df h0 hl hm ht st hB)
 |false=>exact wpIn_cond_false hv (h2 rfl ro n (hr.imp (fun h=>h) (·.2)) Bs C w tm a df h0 hl hm ht st hB)
theorem Qn{id c}(h:TX E Ls nt b B c (Qf id Q) ρ J):TX E Ls nt b B (.block id c) Q ρ J:=by
 intro ro n hr Bs C w tm a df h0 hl hm ht st hB;refine wpIn_block (wpIn_mono (h ro n hr Bs C w tm a df h0 hl hm ht st hB) fun e a' w' he=>?_)
 obtain⟨x',tm',ρ',J',C',df',h1,h2,h3,h4,hm',hB',h5⟩:=he;subst h1;cases x' with
 |normal=>exact⟨.normal,tm',ρ',J',C',df',rfl,h2,h3,h4,hm',hB',h5⟩
 |ret=>exact⟨.ret,tm',ρ',J',C',df',rfl,h2,h3,h4,hm',hB',h5⟩
 |exit j=>
  simp only[Qf]at h3
  by_cases hj:j=id
  ·subst hj;rw[aw_]at h3;simp only[Jj,Exit.inBlock,if_true];exact⟨.normal,tm',ρ',J',C',df',rfl,h2,h3,h4,hm',hB',h5⟩
  ·have hb:Nat.beq j id=false:=by cases hb:Nat.beq j id with|true=>exact absurd (ac_ hb) hj|false=>rfl
   rw[hb]at h3;simp only[Jj,Exit.inBlock,if_neg hj];exact⟨.exit j,tm',ρ',J',C',df',rfl,h2,h3,h4,hm',hB',h5⟩
theorem Aun{c}(I:Nat->Ad->Sto->Prop)(n)(h0:∃ρ',Km ρ' ρ/\I n ρ' J)
  (hs:∀n ρ J,I n ρ J->TX E Ls nt b B c (Pa (fun ρ' J'=>∃m ρ'',m<n/\Km ρ'' ρ'/\I m ρ'' J') Q) ρ J):TX E Ls nt b B (.loop c) Q ρ J:=by
 intro ro m hn;have key:∀(n:Nat) (ρ:Ad) (J:Sto),I n ρ J->∀(Bs:Nat) (C:Ctx) (w:World) (tm:Tr AV) (a:Act) (df:List (Nat×List AV)),(ro=none->Gl b Bs C B w)->LI Ls C B w->Jt b df=true->Has tm ρ->SSt E C w ⟨tm,nt,df,J⟩ a->B<=nx J->∀(f:Frame) (k:List Item) (cs:List Frame),f.roundOf=(Cy ro).round->(Cy ro).fn f.fn->(Cy ro).room (cs.length+1+m)->
   ∃e a' w',Kg E nt b B Q C w e a' w'/\ArrivesIn (Machine.fenced E.P (Cy ro)) E.P (lone (f.atR a (.code c::.inLoop c::k)) cs w) f k cs e a' w':=by
  intro n
  induction n using Nat.strongRecOn with
  |_ n ih=>
   intro ρ J hI Bs C w tm a df hb hl hm ht st hB f k cs hro hf hr;obtain⟨e,a₁,w₁,hq,br⟩:=hs n ρ J hI ro m hn Bs C w tm a df hb hl hm ht st hB f (.inLoop c::k) cs hro hf hr;obtain⟨x',tm',ρ',J',C',df',h1,h2,h3,h4,hm',hB',h5⟩:=hq;subst h1;cases x' with
   |normal=>
    obtain⟨m,ρ'',hmn,cc,hI'⟩:=h3;obtain⟨e₂,a₂,w₂,hq₂,harr₂⟩:=ih m hmn ρ'' J' hI' Bs C' w₁ tm' a₁ df' (fun hh=>(hb hh).ext h5) (hl.ext h5) hm' (h2.subL cc) h4 hB' f k cs hro hf hr
    exact⟨e₂,a₂,w₂,hq₂.from h5,.of_steps (StepsIn.trans br (.one (fenced_calm hf hr rfl) stepR_inLoop)) harr₂⟩
   |exit id=>exact⟨.exit id,a₁,w₁,⟨_,tm',ρ',J',C',df',rfl,h2,h3,h4,hm',hB',h5⟩,.pass (x:=.inLoop c) rfl (fun _ _=>.inl (by simp)) br⟩
   |ret=>exact⟨.ret,a₁,w₁,⟨_,tm',ρ',J',C',df',rfl,h2,h3,h4,hm',hB',h5⟩,.pass (x:=.inLoop c) rfl (fun _ _=>.inl (by simp)) br⟩
 intro Bs C w tm a df hb hl hm ht st hB f k cs hro hf hr;obtain⟨ρ',cc,hI⟩:=h0;obtain⟨e,a',w',hq,br⟩:=key n ρ' J hI Bs C w tm a df hb hl hm (ht.subL cc) st hB f k cs hro hf hr;exact⟨e,a',w',hq,.of_steps (.one (fenced_calm hf hr rfl) stepR_loop) br⟩
theorem Hz{α:Type}{c}(ρI:α->Ad)(P:α->Sto->Prop)(μ:α->Nat)(a₀)(h0:Km (ρI a₀) ρ)(h1:P a₀ J)
  (hs:∀a J,P a J->TX E Ls nt b B c (Pa (fun ρ' J'=>∃a',μ a'<μ a/\Km (ρI a') ρ'/\P a' J') Q) (ρI a) J):TX E Ls nt b B (.loop c) Q ρ J:=by
 refine Aun (fun n ρ J=>∃a,n=μ a/\ρ=ρI a/\P a J) (μ a₀) ⟨ρI a₀,h0,a₀,rfl,rfl,h1⟩ ?_
 grind
def YX(E:Env)(Ls:List RF)(L:RF)(args:List AV)(J:Sto)(Post:XE->Sto->Prop):Prop:=
 ∀(C:Ctx) (w:World) (vs:Array Value),LI Ls C (nx J) w->Gk L C (nx J) w->Sim E.P C w J->Iw C (nx J) w E->RL C (nx J) w args vs.toList->
  ∃r,w.heap[(C.stm L.aY).toNat]? =some (.loop (C9 r .ready))/\vs.size=r.params.size/\∀ro n,RoundIn (Cy ro) n E.P (C.stm L.aY).toNat r.fn ((r.params.zip vs).foldl (fun tmps (t,a)=>tmps.setIfInBounds t a) r.tmps) r.assign r.body w fun e w'=>
   ∃x J' C',Post x J'/\e=.returned (.bool (Iu x))/\Sim E.P C' w' J'/\Ext C (nx J) w C' (nx J') w'
theorem Tk{L ρL args Post}(hL:Has L.tm ρL)(hl:args.length=L.ps.toList.length)(hps:L.ps.toList.all (fun p=>Nat.blt p L.nt)=true)(hna:H7 L.assign=true)(hnb:H7 L.body=true)(hrd:J.get L.aY=some (.loop .ready))(hY0:L.aY<nx J)
  (h:TX E Ls L.nt 0 (nx J) L.assign (fun|.normal=>fun ρ₁ J₁=>J₁.get L.aY=some (.loop .ready)/\TX E Ls L.nt 0 (nx J) L.body (fun x _ J₂=>J₂.get L.aY=some (.loop .busy)/\Post x (J₂.set L.aY (.loop (H2 x)))) ρ₁ (J₁.set L.aY (.loop .busy))|_=>fun _ _=>False) (Amv L.ps.toList args ρL) J):
  YX E Ls L args J Post:=by
 intro C w vs hLI hi hs hg bp;obtain⟨hY1,hY2,r,hlr,hTR,hsz,hp,has,hbo⟩:=hi;obtain⟨c,r',h1,h2,h3⟩:=hs.obj _ _ hrd;rw[hlr]at h2;cases h2;have hc:=hY2 c 0 h1;subst hc;obtain⟨q1,tm',q0,q2,q3⟩:=Qk (nt:=L.nt) hl hps hL hTR hsz bp
 have jj:(L.ps.toList.zip vs.toList).foldl (fun tmps (t,a)=>tmps.setIfInBounds t a) r.tmps=(L.ps.zip vs).foldl (fun tmps (t,a)=>tmps.setIfInBounds t a) r.tmps:=by
  rw[←fv_,Array.toList_zip]
 rw[jj]at q2 q3;refine⟨r,h3,gr,fun ro n=>?_⟩
 refine roundIn_of_wpIn (F:=Cy ro) trivial ?_;rw[has,hbo,hp]
 have st0:SSt E C w ⟨tm',L.nt,[],J⟩ { tmps:=(L.ps.zip vs).foldl (fun tmps (t,a)=>tmps.setIfInBounds t a) r.tmps,defers:=[] }:=⟨hs,hg,q2,q3,by unfold DR;trivial⟩
 refine wpIn_mono (h (some (C.stm L.aY).toNat) n (.inr hna) 0 C w tm' _ [] gr hLI rfl q0 st0 nl) fun e a₁ w₁ hq=>?_
 obtain⟨x₁,tm₁,ρ₁,J₁,C₁,df₁,hye,ht₁,hq₁,st₁,hm₁,hB₁,e₁⟩:=hq;subst hye;cases x₁ with
 |ret=>exact hq₁.elim
 |exit _=>exact hq₁.elim
 |normal=>
  obtain⟨hrd₁,ce⟩:=hq₁;obtain⟨c₁,r₁,j1,j2,j3,j4,j5⟩:=st₁.sim.turnLoop hrd₁ .busy
  have hr₁:r₁=r:=by
   have:=e₁.lr _ hY0
   grind
  subst hr₁;have hc₁:c₁=(C.stm L.aY).toNat:=hY2 c₁ 0 (e₁.loc _ hY0 _ j1);subst hc₁;refine⟨_,run_beginRound j3 rfl,?_⟩;have st₂:SSt E C₁ (w₁.putObj (C.stm L.aY).toNat (.loop (C9 r₁ .busy))) ⟨tm₁,L.nt,df₁,J₁.set L.aY (.loop .busy)⟩ a₁:=
   ⟨j4,by show Iw _ (nx (J₁.set _ _)) _ _;rw[Aq];exact st₁.glob.ext j5,by show TR _ (nx (J₁.set _ _)) _ _ _;rw[Aq];exact st₁.tmps.ext j5,st₁.size,by show DR _ (nx (J₁.set _ _)) _ _ _;rw[Aq];exact st₁.dfs.ext j5⟩
  have hLI₁:LI Ls C₁ (nx J) (w₁.putObj (C.stm L.aY).toNat (.loop (C9 r₁ .busy))):=(hLI.ext e₁).ext (j5.base hB₁);refine wpIn_mono (ce (some (C.stm L.aY).toNat) n (.inr hnb) 0 C₁ _ tm₁ _ df₁ gr hLI₁ hm₁ ht₁ st₂ gr) fun e a₃ w₃ hq=>?_
  obtain⟨x₃,tm₃,ρ₃,J₃,C₂,df₃,hye,ht₃,hq₃,st₃,hm₃,hB₃,e₂⟩:=hq;subst hye;obtain⟨hbu,bh⟩:=hq₃;have finish:∀(jump:Option Code),C9 r₁ (H2 x₃)={ C9 r₁ .busy with state:=if jump.isNone then .ready else .done,pending:=jump }->Iu x₃=jump.isNone->
    ∃v w',(Instr.endRound (C.stm L.aY).toNat jump).run E.P w₃=.ok v w'/\∃x J' C',Post x J'/\Ending.returned v=.returned (.bool (Iu x))/\Sim E.P C' w' J'/\Ext C (nx J) w C' (nx J') w':=by
   intro jump hst heq;obtain⟨c₂,r₂,m1,m2,m3,m4,m5⟩:=st₃.sim.turnLoop hbu (H2 x₃)
   have hr₂:r₂=r₁:=by
    have:=e₂.lr _ hY0
    grind
   subst hr₂;have hc₂:c₂=(C.stm L.aY).toNat:=hY2 c₂ 0 (e₁.loc _ hY0 _ (e₂.loc _ hY0 _ m1));subst hc₂;have da:=run_endRound (P:=E.P) jump m3;rw[←hst]at da
   refine⟨_,_,da,x₃,_,C₂,bh,by rw[heq],m4,?_⟩
   rw[Aq];exact(((e₁.trans (j5.base hB₁)).trans e₂).trans (m5.base hB₃)).top hB₃
  cases x₃ with
  |normal=>exact finish none rfl rfl
  |ret=>exact finish (some .ret) rfl rfl
  |exit id=>exact finish (some (.exit id)) rfl rfl
def TOX(E:Env)(Ls:List RF)(nt b B:Nat)(ops r:List Oper)(K:Ad->Sto->Prop)(ρ:Ad)(J:Sto):Prop:=
 ∀(ro:Option Nat) (n:Nat),(ro=none∨D6 r=true)->∀(Bs:Nat) (C:Ctx) (w:World) (tm:Tr AV) (a:Act) (df:List (Nat×List AV)),(ro=none->Gl b Bs C B w)->LI Ls C B w->Jt b df=true->Has tm ρ->SSt E C w ⟨tm,nt,df,J⟩ a->B<=nx J->∀(arr:Array Oper) (i:Nat) (QQ:Exit->Act->World->Prop),arr.toList=ops->(∀j,j<r.length->r[j]? =arr[i+j]?)->
  (∀C' w' a' tm' ρ' J',Has tm' ρ'->K ρ' J'->SSt E C' w' ⟨tm',nt,df,J'⟩ a'->B<=nx J'->Ext C B w C' B w'->QQ .normal a' w')->wpOpsIn (Cy ro) n E.P arr QQ (List.range' i r.length) a w
variable {K:Ad->Sto->Prop}{ops r:List Oper}
theorem Er{id ops}(h:TOX E Ls nt b B ops.toList ops.toList (fun ρ J=>Q .normal ρ J) ρ J):TX E Ls nt b B (.region id ops false) Q ρ J:=by
 intro ro n hr Bs C w tm a df h0 hl hm ht st hB;refine wpIn_region ?_;rw[dr_,←cd_];exact h ro n hr Bs C w tm a df h0 hl hm ht st hB ops 0 (Kg E nt b B Q C w) rfl gr fun C' w' a' tm' ρ' J' h1 h2 h3 h4 h5=>⟨.normal,tm',ρ',J',C',df,rfl,h1,h2,h3,hm,h4,h5⟩
theorem Uy(h:K ρ J):TOX E Ls nt b B ops [] K ρ J:=by
 intro ro n _ Bs C w tm a df h0 hl hm ht st hB arr i QQ _ _ hQ;simp only[cu_,gr_,wpOpsIn];exact hQ C w a tm ρ J ht h st hB (cf_ _ _ _)
theorem Ale{g}(h:∀df,TO E nt df B ops g (fun ρ' J'=>TOX E Ls nt b B ops r K ρ' J') ρ J):TOX E Ls nt b B ops (g++r) K ρ J:=by
 intro ro n hn Bs C w tm a df h0 hl hm ht st hB arr i QQ br hr hQ;rw[bx_,←List.range'_append_1];simp only[D6,List.all_append,ad_]at hn;refine h df ro n (hn.imp (fun h=>h) (·.1)) C w tm a ht st hB arr i QQ _ br (fun j hj=>?_) fun C' w' a' tm' ρ' J' h1 h2 h3 h4 h5=>?_
 ·grind
 ·refine h2 ro n (hn.imp (fun h=>h) (·.2)) Bs C' w' tm' a' df (fun hh=>(h0 hh).ext h5) (hl.ext h5) hm h1 h3 h4 arr (i+g.length) QQ br (fun j hj=>?_) fun C2 w2 a2 tm2 ρ2 J2 q1 q2 q3 qB q4=>hQ C2 w2 a2 tm2 ρ2 J2 q1 q2 q3 qB (h5.trans q4)
  have:=hr (g.length+j) gr
  grind
theorem Gm(m)(h:∀df,TO E nt df B ops (r.take m) (fun ρ' J'=>TOX E Ls nt b B ops (r.drop m) K ρ' J') ρ J):TOX E Ls nt b B ops r K ρ J:=by
 rw[←cc_ m r];exact Ale h
theorem Lg{L o f args}{tys:Array Nat}{vs Post}(hL:L∈Ls)(hg:∀tm,Has tm ρ->Bn ops o tm=some true)(hop:o.op=.call ⟨.value f,args,tys⟩)(hd:B0 nt o.dst=true)(hf:Ah E ρ f=some (.yl L.aY))(ha:Kc E ρ args.toList=some vs)
  (hy:YX E Ls L vs J Post)(k:∀x J',Post x J'->nx J<=nx J'->TOX E Ls nt b B ops r K (Dt o.dst (.bool (Iu x)) ρ) J'):TOX E Ls nt b B ops (o::r) K ρ J:=by
 intro ro n hn Bs C w tm a df h0 hl hm ht st hB arr i QQ br hr hQ
 have ho:arr[i]? =some o:=by have:=hr 0 (by simp);grind
 simp only[as_,cj_,wpOpsIn,ho];have hw:Region.wanted o (yielded arr a.tmps)=true:=Dp st.tmps gr;rw[if_pos hw]
 have hnd:Ra o.op=false:=by rw[hop];rfl
 have hV:=Be st.glob st.tmps f;rw[ht.opd hf]at hV;unfold R at hV;obtain⟨hV,_⟩:=hV;have hA:=Dm st.glob st.tmps args.toList;rw[ht.opds ha]at hA
 have hA':RL C (nx J) w vs (args.map a.eval).toList:=by simp only[c_];exact hA
 have hl':LI Ls C (nx J) w:=hl.ext ((cf_ C B w).top hB);obtain⟨r',fa,hsz,ca⟩:=hy C w _ hl' (hl' L hL) st.sim st.glob hA';have hyl:=run_yield (P:=E.P) (args:=args.map a.eval) fa hsz
 have bq:(execOp a.eval o).run E.P w=.ok (.round (C.stm L.aY).toNat r'.fn ((r'.params.zip (args.map a.eval)).foldl (fun tmps (t,a)=>tmps.setIfInBounds t a) r'.tmps) r'.assign r'.body) w:=by
  simp[execOp,hop,resolve,hV,Deferred.ofValue,invoke]
  simpa[C9]using hyl
 refine⟨fun _ _=>trivial,?_⟩
 rw[Oper.semAt_eq _ _ _ gr,bq,Oper.uponIn_round]
 refine⟨fun hh=>(by cases hh),(ca ro (n-1)).mono fun e w' he=>?_⟩
 obtain⟨x,J',C',hp,rfl,k1,k2⟩:=he;obtain⟨tm',h1,h2⟩:=C6 (nt:=nt) (dst:=o.dst) hd ht (.bool (Iu x))
 have st':=st.put (x:=.bool (Iu x)) k1 k2 (by unfold R;rfl) h1
 have hn':ro=none∨D6 r=true:=hn.imp (fun h=>h) fun h=>by simp only[D6,cs_,ad_]at h;exact h.2
 exact k x J' hp k2.next ro n hn' Bs C' w' tm' _ df (fun hh=>(h0 hh).ext (k2.base hB)) (hl.ext (k2.base hB)) hm h2 st' (ai_ hB k2.next) arr (i+1) QQ br (fun j hj=>by have:=hr (j+1) gr;grind)
  fun C2 w2 a2 tm2 ρ2 J2 q1 q2 q3 qB q4=>hQ C2 w2 a2 tm2 ρ2 J2 q1 q2 q3 qB ((k2.base hB).trans q4)
def Hl(E:Env)(Ls:List RF)(f:Nat)(args:List AV)(J:Sto)(Post:AV->Sto->Prop):Prop:=
 ∀(C:Ctx) (w:World) (vs:Array Value),LI Ls C (nx J) w->Sim E.P C w J->Iw C (nx J) w E->RL C (nx J) w args vs.toList->
  Aa2 E.P f/\Calls E.P f vs w fun
   |.returned x,w'=>∃v J' C',Post v J'/\Sim E.P C' w' J'/\Ext C (nx J) w C' (nx J') w'/\R C' (nx J') w' v x
   |_,_=>False
theorem Hl.to{f args Post}(h:Hl E [] f args J Post):Al E f args J Post:=fun C w vs=>h C w vs (fun _ hL=>by cases hL)
abbrev gm_:=@Hl.to
theorem Hl.mono{f args Post Post'}(h:Hl E Ls f args J Post)(k:∀v J',Post v J'->Post' v J'):Hl E Ls f args J Post':=by
 intro C w vs hl hs hg ha;obtain⟨h1,h2⟩:=h C w vs hl hs hg ha;refine⟨h1,h2.mono fun e w' he=>?_⟩
 grind
abbrev et_:=@Hl.mono
theorem L5{o f args}{tys:Array Nat}{k:Nat}{first cap vs full Post}(hg:∀tm,Has tm ρ->Bn ops o tm=some true)(hop:o.op=.call ⟨.value f,args,tys⟩)(hd:B0 nt o.dst=true)
  (hf:Ah E ρ f=some (.fn (.func k) first cap))(ha:Kc E ρ args.toList=some vs)(mn:first++vs++cap=full)(hc:Hl E Ls k full J Post)
  (kk:∀v J',Post v J'->nx J<=nx J'->TOX E Ls nt b B ops r K (Dt o.dst v ρ) J'):TOX E Ls nt b B ops (o::r) K ρ J:=by
 intro ro n hn Bs C w tm a df h0 hl hm ht st hB arr i QQ br hr hQ
 have ho:arr[i]? =some o:=by have:=hr 0 (by simp);grind
 simp only[as_,cj_,wpOpsIn,ho];have hw:Region.wanted o (yielded arr a.tmps)=true:=Dp st.tmps gr;rw[if_pos hw]
 refine Ev (.inr (by rw[hop];rfl)) ?_
 have hV:=Be st.glob st.tmps f;rw[ht.opd hf]at hV;unfold R at hV;obtain⟨p,q,hV,hp,hq⟩:=hV;have bp:=Dm st.glob st.tmps args.toList;rw[ht.opds ha]at bp
 have bs:RL C (nx J) w full (p++args.map a.eval++q).toList:=by
  subst mn;simp only[cv_,c_];exact(hp.append bp).append hq
 have hl':LI Ls C (nx J) w:=hl.ext ((cf_ C B w).top hB);obtain⟨⟨fn,g1,g2,g3⟩,b8⟩:=hc C w _ hl' st.sim st.glob bs
 have bq:(execOp a.eval o).run E.P w=.ok (.enter k (p++args.map a.eval++q)) w:=by
  have g2':fn.name≠ "runtime.NumGoroutine" :=gr;have g3':fn.body≠none:=gr
  simp[execOp,hop,resolve,hV,Deferred.ofValue,invoke,callFunc,g1,g2',g3']
 unfold Oper.wp;rw[bq,Oper.upon_enter];refine b8.mono fun e w' he=>?_
 have hn':ro=none∨D6 r=true:=hn.imp (fun h=>h) fun h=>by simp only[D6,cs_,ad_]at h;exact h.2
 cases e with
 |returned x=>
  obtain⟨v,J',C',k0,k1,k2,k3⟩:=he;obtain⟨tm',h1,h2⟩:=C6 (dst:=o.dst) hd ht v
  exact kk v J' k0 k2.next ro n hn' Bs C' w' tm' _ df (fun hh=>(h0 hh).ext (k2.base hB)) (hl.ext (k2.base hB)) hm h2 (st.put k1 k2 k3 h1) (ai_ hB k2.next) arr (i+1) QQ br (fun j hj=>by have:=hr (j+1) gr;grind)
   fun C2 w2 a2 tm2 ρ2 J2 q1 q2 q3 qB q4=>hQ C2 w2 a2 tm2 ρ2 J2 q1 q2 q3 qB ((k2.base hB).trans q4)
 |panicked _=>exact he.elim
 |outgrown=>exact he.elim
theorem Ae3{fn C₀ C₁ N₀ w₀ tm tmps U n Re}(hb:(C₁.stm b).toNat=w₀.heap.size)
  (K:∀w,Sim E.P C₁ w U->TR C₁ (nx U) w tm tmps->Ext C₀ N₀ w₀ C₁ (nx U) w->LeavesInM Fence.wide n E.P fn tmps Re [] .returning w):
  ∀(df:List (Nat×List AV)) (ds:List Deferred) (w:World),Jt b df=true->DR C₁ (nx U) w df ds->Sim E.P C₁ w U->TR C₁ (nx U) w tm tmps->Ext C₀ N₀ w₀ C₁ (nx U) w->LeavesInM Fence.wide n E.P fn tmps Re ds .returning w
 |[],[],w,_,_,hs,ht,cu=>K w hs ht cu
 |[],_::_,_,_,hd,_,_,_=>by unfold DR at hd;grind
 |_::_,[],_,_,hd,_,_,_=>gr
 |x::df,d::ds,w,hm,hd,hs,ht,cu=>by
  unfold DR at hd;obtain⟨hd,hd2⟩:=hd;obtain⟨k,l⟩:=x
  have hk:k=Ks/\∃aD,l=[.yl aD,.yl b]/\Jt b df=true:=by
   unfold Jt at hm
   split at hm
   ·grind
   ·rename_i heq
    cases heq;simp only[ad_]at hm
    exact⟨ac_ hm.1.1,_,by rw[ac_ hm.1.2],hm.2⟩
   grind
  obtain⟨rfl,aD,rfl,hm'⟩:=hk
  rcases hd with⟨h0,_⟩|⟨h0,a1,b1,h1,⟨h2,h3,h4⟩,h5,h6,h7,h8⟩
  ·grind
  ·simp only[dl_,AV.yl.injEq,and_true]at h1;obtain⟨rfl,rfl⟩:=h1;rw[h5]
   refine⟨by simp,.inl ⟨_,_,rfl,run_takeDeferred h7,?_⟩⟩
   have t:Jb w (w.putObj (C₁.stm aD).toNat (.deferred none)) (C₁.stm aD).toNat:=gy_ h7 rfl rfl;have hge:w₀.heap.size<=(C₁.stm aD).toNat:=gr
   have dr:∀{r:List (Nat×List AV)} {ds:List Deferred},MB C₁ (nx U) r (C₁.stm aD).toNat->DR C₁ (nx U) w r ds->DR C₁ (nx U) (w.putObj (C₁.stm aD).toNat (.deferred none)) r ds:=by
    intro r
    induction r with
    |nil=>intro ds _ h;cases ds<;>unfold DR at h⊢<;>first|trivial|exact h
    |cons x r ih=>
     intro ds hmb h;cases ds with
     |nil=>unfold DR at h;exact h.elim
     |cons d ds=>
      unfold DR at h⊢;refine⟨?_,ih (fun y hy=>hmb y (aj_ _ hy)) h.2⟩
      rcases h.1 with⟨g0,cap,g1,g2⟩|⟨g0,a,c,g1,g2,g3,g4,g5,g6⟩
      ·exact .inl ⟨g0,cap,g1,RL.turn t _ _ g2⟩
      ·refine .inr ⟨g0,a,c,g1,g2,g3,g4,?_,g6⟩;have:=(hmb x (ap_ ..) g0 a c g1).2;rw[t.other _ Om];exact g5
   exact Ae3 hb K df ds _ hm' (dr h8 hd2) (hs.turn t h6) (fun i v hv=>R.turn t _ _ (ht i v hv)) (cu.turnNew t h6 hge)
theorem Mo{f fn c args Post}(hfn:E.P.funcs[f]? =some fn)(dz:(fn.name== "runtime.NumGoroutine")=false)(hc:fn.body=some c)(hle:Nat.ble args.length fn.ntmps=true)
  (h:WFS J->AV.unds (nx J) args=true->TX E Ls fn.ntmps (nx J) (nx J+1) c (Aox (Agw E fn (nx J) Post)) (Hg args 0) J.bump):Hl E Ls f args J Post:=by
 intro C w vs hl hs hg bp;refine⟨⟨fn,hfn,dz,gr⟩,?_⟩;have hle:=al_ hle;obtain⟨s1,e1⟩:=hs.bump (w.heap.size:Int);rw[←Bm]at e1;refine(callsIn_wide (n:=1)).1 (callsIn_of_wp_marks hfn hc trivial ?_)
 have hi:Gl (nx J) w.heap.size (C.addStm (nx J) (w.heap.size:Int)) (nx J+1) w:=⟨by omega,by simp[Ctx.addStm],nl⟩
 have ht:Has (Kz args 0 .e) (Hg args 0):=fun i v hv=>by
  rw[Ig];rw[L3]at hv
  grind
 have st:=Ur (E:=E) (fn:=fn) s1 (hg.ext e1) (RL.ext e1 _ _ bp) hle
 have hl1:LI Ls (C.addStm (nx J) (w.heap.size:Int)) (nx J+1) w:=by rw[←Bm];exact hl.ext e1
 refine wpIn_mono (h hs.wfs (RL.unds _ _ bp) none 1 (.inl rfl) w.heap.size _ w _ _ [] (fun _=>hi) hl1 rfl ht st gr) fun e a' w' he=>?_
 obtain⟨x,tm',ρ',J₁,C',df,h1,h2,h3,h4,hdf,hB,h5⟩:=he;subst h1;rw[Bm]at e1;have cu:Ext C (nx J) w C' (nx J+1) w':=e1.trans h5;have hi5:Gl (nx J) w.heap.size C' (nx J+1) w':=hi.ext h5;have fin:Agw E fn (nx J) Post ρ' J₁->LeavesInM Fence.wide 1 E.P fn a'.tmps (fun
   |.returned x,w'=>∃v J' C',Post v J'/\Sim E.P C' w' J'/\Ext C (nx J) w C' (nx J') w'/\R C' (nx J') w' v x
   |_,_=>False) a'.defers .returning w':=by
  intro hx;obtain⟨vs₁,r1,v',J',r2,r3,r4,r5⟩:=hx;refine Ae3 (C₀:=C) (N₀:=nx J) hi5.2.1 (fun w₂ q1 q2 q3=>?_) df _ w' hdf h4.dfs h4.sim h4.tmps ((cu.base nl).top (ai_ (dm_ _) hB))
  show LeavesIn _ _ _ _ _ _ [] .returning _
  obtain⟨y,k1,k2⟩:=Hx (fn:=fn) q1 q2 (S8 h2 r1);exact⟨y,k1,v',J',_,r5,q1.frz r2,((q3.base nl).trans (en_ C' J' _ w₂)).top r3,r4.R q1 k2⟩
 cases x with
 |normal=>exact fin h3
 |ret=>exact fin h3
 |exit id=>exact h3.elim
theorem L6{k:Nat}{f ps assign body cap}(hf:Ah E ρ f=some (.fn (.func k) [] cap))
  (hit:∀tm,Has tm ρ->Hl E (⟨nx J+1,tm,nt,ps,assign,body⟩::Ls) k (.yl (nx J+1)::cap) (J.bump.new (.loop .ready)) (fun _ J'=>∃x,J'.get (nx J+1)=some (.loop (H2 x))/\Q x ρ (J'.kill (nx J+1)))):
  TX E Ls nt b B (.rangeFunc f ps assign body) Q ρ J:=by
 intro ro n hr Bs C w tm a df h0 hl hm ht st hB
 have hr:ro=none:=hr.resolve_right (by simp[H7])
 subst hr;have hi:Gl b Bs C (nx J) w:=(h0 rfl).ext ((cf_ C B w).top hB);have hl0:LI Ls C (nx J) w:=hl.ext ((cf_ C B w).top hB);have hV:=Be st.glob st.tmps f;rw[ht.opd hf]at hV;unfold R at hV;obtain⟨p0,lb,hV,hp0,hlb⟩:=hV
 have jk:p0=#[]:=by
  have:=hp0.length
  grind
 subst jk;refine wpIn_rangeFunc fun fn _=>?_
 obtain⟨rc,hrc⟩:∃rc:Loop,rc={ state:=.ready,pending:=none,fn,tmps:=a.tmps,params:=ps,assign,body,defers:=w.heap.size }:=⟨_,rfl⟩
 have jm:C9 rc .ready=rc:=by rw[hrc];rfl
 obtain⟨W0,hW0⟩:∃W0,w.alloc (.deferred (some []))=W0:=⟨_,rfl⟩;obtain⟨W1,hW1⟩:∃W1,W0.alloc (.loop rc)=W1:=⟨_,rfl⟩
 have hp1:Pu w W0 (.deferred (some [])):=by rw[←hW0];exact fa_ rfl ⟨rfl,rfl⟩
 have hp2:Pu W0 W1 (.loop rc):=by rw[←hW1];exact fa_ rfl ⟨rfl,rfl⟩
 have f7:=hp1.size;have jp:=hp2.size;obtain⟨s1,e1⟩:=st.sim.push hp1;obtain⟨s2,e2⟩:=s1.bump (w.heap.size:Int);obtain⟨s3,e3⟩:=s2.newLoop jm hp2;rw[←Bm]at e2;have hnx:nx (J.bump.new (.loop .ready))=nx J+1+1:=gr;have e5:=(e1.trans e2).trans e3;rw[←Ao J.bump (.loop .ready)]at e5
 generalize hC4:(((C.addStm (nx J) (w.heap.size:Int)).setLoop (nx J.bump) (W0.heap.size:Int) rc).add (nx J.bump) W0.heap.size 0)=C4 at s3 e5
 have f8:C4.stm (nx J)=(w.heap.size:Int):=by rw[←hC4];simp[Ctx.add,Ctx.setLoop,Ctx.addStm,Bm]
 have ml:C4.stm (nx J+1)=((w.heap.size+1:Nat):Int):=by rw[←hC4];simp[Ctx.add,Ctx.setLoop,Bm,f7]
 have gb:C4.lr (nx J+1)=some rc:=by rw[←hC4];simp[Ctx.add,Ctx.setLoop,Bm]
 have gc:C4.loc (nx J+1)=some (w.heap.size+1,0):=by rw[←hC4];simp[Ctx.add,Bm,f7]
 have hnD:¬C4.own w.heap.size:=fun hh=>by
  rcases hh with hh|⟨x,o,hh⟩
  ·have hh':C.res w.heap.size:=by rw[←e5.res.1];exact hh
   have:=st.sim.rlt _ hh';omega
  ·by_cases hx:x=nx J+1
   ·grind
   ·have:x<nx J:=by
     obtain⟨O,hO,_⟩:=s3.dom x _ hh;have hb:=s3.bound x O hO;rw[hnx]at hb
     by_cases hx2:x=nx J
     ·subst hx2;rw[ag_,Bm,if_neg Om,Fh]at hO;have:=st.sim.bound _ _ hO;omega
     ·omega
    have:=st.sim.lt x _ _ (e5.loc x this _ hh);omega
 have ez:W1.heap[w.heap.size]? =some (.deferred (some [])):=by rw[hp2.other _ Om];exact hp1.here
 have hli:Gk ⟨nx J+1,tm,nt,ps,assign,body⟩ C4 (nx (J.bump.new (.loop .ready))) W1:=by
  refine⟨gr,fun c o hc=>?_,rc,gb,?_,?_,?_,?_,?_⟩
  ·grind
  ·have:TR C (nx J) w tm rc.tmps:=by rw[hrc];exact st.tmps
   exact this.ext e5
  ·rw[hrc];exact st.size
  ·rw[hrc]
  ·rw[hrc]
  grind
 have bp:RL C4 (nx (J.bump.new (.loop .ready))) W1 (.yl (nx J+1)::cap) (#[Value.func (.yield (w.heap.size+1)) #[] #[]]++lb).toList:=by
  simp only[cv_,ay_,bd_];unfold RL;refine⟨?_,RL.ext e5 _ _ hlb⟩;unfold R
  grind
 have hLs:LI (⟨nx J+1,tm,nt,ps,assign,body⟩::Ls) C4 (nx (J.bump.new (.loop .ready))) W1:=fun L hL=>by
  rcases an_.1 hL with rfl|hL
  ·grind
  ·exact(hl0 L hL).ext e5
 obtain⟨⟨kfn,f6,dz,ce⟩,b8⟩:=hit tm ht C4 W1 _ hLs s3 (st.glob.ext e5) bp
 have en:∀args w,(callFunc k args).run E.P w=.ok (.enter k args) w:=fun args w=>by
  have g2':kfn.name≠ "runtime.NumGoroutine" :=gr;have g3':kfn.body≠none:=gr
  simp[callFunc,f6,g2',g3']
 refine⟨w.heap.size+1,[{ target:=.collected w.heap.size,args:=#[] }],W1,{ target:=.fn (.func k) lb,args:=#[.func (.yield (w.heap.size+1)) #[] #[]] },W1,k,
  #[.func (.yield (w.heap.size+1)) #[] #[]]++lb,W1,?_,?_,fun _ _=>trivial,?_,fun hh=>(by cases hh),?_⟩
 ·rw[←hW1,←hW0,hrc];exact run_enterLoop_outer _ _ _ _ _
 ·simp only[resolve,hV]
  simp[go_sem]
 ·simp[invoke,go_sem,en]
 ·refine(callsIn_wide).2 (b8.mono fun e w₃ he=>?_)
  cases e with
  |returned x=>
   obtain⟨v₀,J',C₃,⟨x₀,hgl,bh⟩,k1,k2,_⟩:=he;have co:=(k2.stm (nx J) gr).trans f8;have jq:=(k2.lr (nx J+1) gr).trans gb;obtain⟨hn4,hk4⟩:=k2.keep w.heap.size Om hnD;have hd3:=hk4.trans ez;obtain⟨c,r,g1,g2,g3⟩:=k1.obj _ _ hgl;rw[jq]at g2;cases g2;have hcl:=k2.loc _ gr _ g1;rw[gc]at hcl;cases hcl;obtain⟨m1,m2⟩:=k1.kill (nx J+1)
   have hnL:¬(C₃.del (nx J+1)).own (w.heap.size+1):=fun hh=>by
    rcases hh with hh|⟨x,o,hh⟩
    ·exact k1.rdis _ _ _ g1 hh
    ·by_cases hx:x=nx J+1
     ·simp[Ctx.del,hx]at hh
     ·simp[Ctx.del,hx]at hh
      exact hx (k1.inj _ _ _ _ _ hh g1)
   have py:¬(C₃.del (nx J+1)).own w.heap.size:=fun hh=>hn4 (by
    rcases hh with hh|⟨x,o,hh⟩
    ·exact .inl hh
    ·by_cases hx:x=nx J+1
     ·simp[Ctx.del,hx]at hh
     ·simp[Ctx.del,hx]at hh;exact .inr ⟨x,o,hh⟩)
   have t:Jb w₃ (w₃.putObj (w.heap.size+1) (.loop { C9 rc (H2 x₀)with state:=.exhausted })) (w.heap.size+1):=gy_ g3 rfl rfl;have e6:=((e5.trans k2).trans m2).turnNew t hnL Om;rw[←B3 J' (nx J+1)]at e6
   have jv:SSt E (C₃.del (nx J+1)) (w₃.putObj (w.heap.size+1) (.loop { C9 rc (H2 x₀)with state:=.exhausted })) ⟨tm,nt,(Ks,[.yl (nx J),.yl b])::df,J'.kill (nx J+1)⟩ { a with defers:=[{ target:=.collected w.heap.size,args:=#[] }]++a.defers }:=by
    refine⟨m1.turn t hnL,st.glob.ext e6,st.tmps.ext e6,st.size,?_⟩
    show DR _ _ _ _ ({ target:=Target.collected w.heap.size,args:=#[] }::a.defers)
    unfold DR;refine⟨.inr ⟨rfl,nx J,b,rfl,⟨?_,?_,?_⟩,?_,?_,?_,?_⟩,st.dfs.ext e6⟩
    ·show nx J<nx (J'.kill _);rw[B3];have:=k2.next;grind
    ·show b<nx (J'.kill _);rw[B3];have:=k2.next;rw[hnx]at this;have:=hi.1;omega
    ·show(C₃.stm b).toNat<=(C₃.stm (nx J)).toNat
     have hb6:=e6.stm b hi.1;have hb6:C₃.stm b=C.stm b:=hb6;rw[co,hb6,hi.2.1];exact hi.2.2
    ·show _=({ target:=.collected (C₃.stm (nx J)).toNat,args:=#[] }:Deferred);grind
    ·show ¬(C₃.del _).own (C₃.stm (nx J)).toNat;grind
    ·show(w₃.putObj _ _).heap[(C₃.stm (nx J)).toNat]? =_
     rw[co];exact(t.other w.heap.size Om).trans hd3
    ·intro y hy hk c d hcd;obtain⟨z1,z2⟩:=MB.of_DR st.dfs y hy hk c d hcd;refine⟨ak_ z1 e6.next,?_⟩
     show(C₃.stm c).toNat<(C₃.stm (nx J)).toNat
     have hb6:C₃.stm c=C.stm c:=e6.stm c z1
     grind
   have hBk:B<=nx (J'.kill (nx J+1)):=ai_ hB e6.next
   have hmk:Jt b ((Ks,[.yl (nx J),.yl b])::df)=true:=by simp[Jt,hm]
   have hE:∀e,Jj x₀=e->Kg E nt b B Q C w e { a with defers:=[{ target:=.collected w.heap.size,args:=#[] }]++a.defers } _:=fun e he=>⟨x₀,tm,ρ,_,_,_,he,ht,bh,jv,hmk,hBk,e6.base hB⟩
   cases x₀ with
   |normal=>exact⟨none,_,run_endLoop (P:=E.P) g3 (by simp[C9,H2]),hE _ rfl⟩
   |ret=>exact⟨some .ret,_,run_endLoop (P:=E.P) g3 (by simp[C9,H2]),wpIn_ret (hE _ rfl)⟩
   |exit id=>exact⟨some (.exit id),_,run_endLoop (P:=E.P) g3 (by simp[C9,H2]),wpIn_exit (hE _ rfl)⟩
  |panicked _=>exact he.elim
  |outgrown=>exact he.elim
end
theorem Arj{E Ls nt b B Q ρ J Rr id ops}(ops1 ops2){anns}(ew:ops.toList=ops1++ops2)(hok:K6 ops1 ops2=true)(hm:E.P.follows .mixedOrders=true)(hR:Bk E Rr)(ha:Lo E ops1.toArray=some anns)
  (h:TD E nt Rr ops1 ops1 (fun ρ' J' eps log=>Obl E eps.reverse anns ops1 log.reverse/\TOX E Ls nt b B ops.toList ops2 (fun ρ J=>Q .normal ρ J) ρ' J') ρ J [J] []):TX E Ls nt b B (.region id ops true) Q ρ J:=by
 intro ro n hro Bs C w tm a df h0 hl hmk ht st hB;obtain⟨c1,c2,c3,c4⟩:=Jm ha;obtain⟨d,k1,k2,k3,ρ',log',k4,k5,k6,k7⟩:=h tm df [] ht trivial;refine wpIn_region_any hm ?_
 have hn2:ro=none∨D6 ops2=true:=hro.imp (fun h=>h) fun h=>by
  simp only[H7,ew,D6,List.all_append,ad_]at h;exact h.2
 have hops':ops=(ops1++ops2).toArray:=gr;have hsz:ops.size=ops1.length+ops2.length:=gr
 have cz:(Array.replicate ops.size false)=(Dq ops1++Dq ops2).toArray:=by
  rw[hsz];unfold Dq
  grind
 have mr:(Array.replicate ops1.toArray.size false)=(Dq ops1).toArray:=by
  unfold Dq
  grind
 have pn:Aiu ops1 (Dq ops1)=true:=by
  unfold K6 at hok
  grind
 have mh:∀a' w',Aej E C (nx J) w [(.normal,d.s)] .normal a' w'->wpAnyIn (Cy ro) n E.P .any (ops1++ops2).toArray (Kg E nt b B Q C w) ops2.length (Jp ops1++Dq ops2).toArray a' w':=by
  intro a' w' he;obtain⟨y,hy,C',h1,h2,h3⟩:=he;rw[ao_]at hy;subst hy;obtain⟨⟨tm',nt',df',J'⟩,eps',dl'⟩:=d;simp only at k2 k3;subst k2 k3
  have ht0:Dq ops2=X8 ops2 0:=by unfold Dq X8;rw[List.map_const'];simp
  rw[ht0];refine Arh hok ops2.length 0 a' w' Om ?_
  refine k7 ro n hn2 Bs C' w' tm' a' _ (fun hh=>(h0 hh).ext (h3.base hB)) (hl.ext (h3.base hB)) hmk k4 h2 (ai_ hB h3.next) (ops1++ops2).toArray ops1.length (Kg E _ b B Q C w) (by rw[ew]) gr fun C2 w2 a2 tm2 ρ2 J2 q1 q2 q3 qB q4=>?_
  exact⟨.normal,tm2,ρ2,J2,C2,_,rfl,q1,q2,q3,hmk,qB,(h3.base hB).trans q4⟩
 have main:wpAnyIn (Cy ro) n E.P .any ops1.toArray (fun e a' w'=>match e with|.normal=>wpAnyIn (Cy ro) n E.P .any (ops1++ops2).toArray (Kg E nt b B Q C w) ops2.length (Jp ops1++Dq ops2).toArray a' w'|e=>Kg E nt b B Q C w e a' w') ops1.toArray.size (Array.replicate ops1.toArray.size false) a { w with drawn:=w.drawn+1 }:=by
  refine Aw7 hm hR st c1 c2 c3 k1 (fun j o t v ho hl hc hg σk hσ=>?_) mh
  obtain⟨ρj,q1,q2⟩:=k5.reverse.get j t v hl;have cv:=Ix (E:=E) (b:=(Region.before ops1.toArray).toList) (effs:=A8 E ops1 0) ops1 0 j o gr;rw[←c4]at cv;simp only[bn_]at cv
  obtain⟨J',hto⟩:=k6.get j _ o ρj v cv gr q1 hc σk (by simp only[Gc];grind)
  have:=hto t q2;refine⟨J',?_⟩
  have hne:B5 (Bc E o.op)=false:=by rw[hc];rfl
  rw[←Iy (Rr:=fun _ _ _=>none) hc];grind
 rw[mr]at main
 have jp:ops1.toArray.size=ops1.length:=by simp
 rw[jp]at main
 have ma:=Alc (F:=Cy ro) (n:=n) (P:=E.P) hok (Q:=Kg E nt b B Q C w) (Q1:=fun e a' w'=>match e with|.normal=>wpAnyIn (Cy ro) n E.P .any (ops1++ops2).toArray (Kg E nt b B Q C w) ops2.length (Jp ops1++Dq ops2).toArray a' w'|e=>Kg E nt b B Q C w e a' w') (fun a' w' hh=>hh) gr ops1.length (Dq ops1) a { w with drawn:=w.drawn+1 } (by unfold Dq;simp) pn (by unfold Dq;simp[List.filter_map]) main
 grind
theorem Abx{E Ls nt b B Q ρ J Rr id ops}(m){anns}(hok:K6 (ops.toList.take m) (ops.toList.drop m)=true)(hm:E.P.follows .mixedOrders=true)(hR:Bk E Rr)(ha:Lo E (ops.toList.take m).toArray=some anns)
  (h:TD E nt Rr (ops.toList.take m) (ops.toList.take m) (fun ρ' J' eps log=>Obl E eps.reverse anns (ops.toList.take m) log.reverse/\TOX E Ls nt b B ops.toList (ops.toList.drop m) (fun ρ J=>Q .normal ρ J) ρ' J') ρ J [J] []):TX E Ls nt b B (.region id ops true) Q ρ J:=
 Arj _ _ (cc_ m _).symm hok hm hR ha h
theorem DR.und{C N w}:∀{df:List (Nat×List AV)} {ds:List Deferred},DR C N w df ds->∀x∈df,AV.unds N x.2=true
 |[],_,_,x,hx=>by cases hx
 |y::r,d::s,h,x,hx=>by
  unfold DR at h;obtain⟨h,h3⟩:=h
  rcases an_.1 hx with rfl|hx
  ·rcases h with⟨h0,cap,h1,h2⟩|⟨h0,a,b,h1,⟨h2,hb,hle⟩,_⟩
   ·exact RL.unds _ _ h2
   ·rw[h1];simp only[AV.unds,AV.und,Nat.blt_eq,Bool.and_true,ad_];exact⟨h2,hb⟩
  ·exact DR.und h3 x hx
 |_::_,[],h,_,_=>by unfold DR at h;exact h.elim
theorem DR.cut{C N M w}(U):∀{df:List (Nat×List AV)} {ds:List Deferred},DR C N w df ds->(∀x∈df,AV.unds M x.2=true)->DR (C.keep U) M w df ds
 |[],[],_,_=>by unfold DR;trivial
 |y::r,d::s,h,hu=>by
  unfold DR at h⊢;obtain⟨h,h3⟩:=h;have hy:=hu y (ap_ ..);refine⟨?_,DR.cut U h3 fun x hx=>hu x (aj_ _ hx)⟩
  rcases h with⟨h0,cap,h1,h2⟩|⟨h0,a,b,h1,⟨h2,hb,hle⟩,g3,g4,g5,g6⟩
  ·exact .inl ⟨h0,cap,h1,RL.cut (C.keep_sub U) _ _ hy h2⟩
  ·have hy':=hy;rw[h1]at hy';simp only[AV.unds,AV.und,Nat.blt_eq,Bool.and_true,ad_]at hy';refine .inr ⟨h0,a,b,h1,⟨hy'.1,hy'.2,hle⟩,g3,fun hh=>g4 ((C.keep_sub U).own hh),g5,fun z hz hk c e hce=>⟨?_,(g6 z hz hk c e hce).2⟩⟩
   have hz':=hu z (aj_ _ hz);rw[hce]at hz';simp only[AV.unds,AV.und,Nat.blt_eq,Bool.and_true,ad_]at hz';exact hz'.1
 |[],_::_,h,_=>by unfold DR at h;exact h.elim
 |_::_,[],h,_=>by unfold DR at h;exact h.elim
theorem SSt.frzD{E}[Se E]{C w tm nt df J U a ρ ρ'}(hud:∀x∈df,AV.unds (nx U) x.2=true)(st:SSt E C w ⟨tm,nt,df,J⟩ a)(ht:Has tm ρ)(hf:Ds J U)(hs:∀i v',Ad.at ρ' i=some v'->∃v,Ad.at ρ i=some v/\Fz J U v v'):
  SSt E (C.keep U) w ⟨Oj ρ',nt,df,U⟩ a:=by
 refine⟨st.sim.frz hf,Iw.frz st.glob,fun i v hv=>?_,st.size,st.dfs.cut U hud⟩
 have hv:(Oj ρ').get i=some v:=hv;rw[Mn]at hv;obtain⟨u,h1,h2⟩:=hs i v hv;exact h2.R st.sim (st.tmps i u (ht i u h1))
theorem Aw8{E}[Se E]{nt B df c Q ρ J}(U ρ')(hud:∀x∈df,AV.unds (nx U) x.2=true)(hf:Ds J U)(hB:B<=nx U)(hs:Mm J U ρ' ρ)(k:T E nt df B c Q ρ' U):T E nt df B c Q ρ J:=
 fun ro n hn C w tm a ht st _=>wpIn_mono (k ro n hn (C.keep U) w _ a (Kf ρ') (st.frzD hud ht hf hs.at) hB) fun e a' w' he=>he.from (en_ C U B w)
section
variable {E:Env}{nt B:Nat}{df:List (Nat×List AV)}{K:Ad->Sto->Prop}{ρ:Ad}{J:Sto}
theorem Amy[Se E]{ops r}(U ρ')(hud:∀x∈df,AV.unds (nx U) x.2=true)(hf:Ds J U)(hB:B<=nx U)(hs:∀i v',Ad.at ρ' i=some v'->∃v,Ad.at ρ i=some v/\Fz J U v v')(k:TO E nt df B ops r K ρ' U):TO E nt df B ops r K ρ J:=
 fun ro n hn C w tm a ht st _ arr i QQ rest h1 h2 hQ=>k ro n hn (C.keep U) w _ a (Kf ρ') (st.frzD hud ht hf hs) hB arr i QQ rest h1 h2 fun C2 w2 a2 tm2 ρ2 J2 q1 q2 q3 qB q4=>hQ C2 w2 a2 tm2 ρ2 J2 q1 q2 q3 qB ((en_ C U B w).trans q4)
theorem Mp{ops r t d sz agg x}{ty ty':Nat}{pos pos' after after' z cs v}(hz:zI E.P t=some z)(hi:ldI E.P t=some (sz,agg))(hl:Nat.beq z.length sz=true)
  (hx:∀u,Ah E ((d,u)::ρ) x=some v)(hv:Ah E ρ x=some v)(hc:v.cellsN sz=some cs)(hd:Nat.blt d nt=true)[Se E]
  (k:TO E nt df B ops r K ((d,.pv cs)::ρ) J):
  TO E nt df B ops ({ dst:=some d,op:=.alloc t,type:=ty,pos:=pos,after:=after,guard:=none }::{ dst:=none,op:=.store t (.tmp d) x,type:=ty',pos:=pos',after:=after',guard:=none }::r) K ρ J:=by
 intro ro n hn C w tm a ht st hB
 have hcs:cs.length=z.length:=by
  have hb:=ac_ hl;have hvR:=Be st.glob st.tmps x;rw[ht.opd hv]at hvR;obtain⟨q1,q2,_⟩:=Hc hc hvR;have:=q1.length;rw[hb];unfold AV.cellsN at hc
  split at hc<;>try (cases hc;done)
  ·cases hb':Nat.beq ‹List AV›.length sz with
   |true=>rw[hb']at hc;cases hc;exact ac_ hb'
   |false=>rw[hb']at hc;cases hc
  ·cases hb':Nat.beq sz 1 with
   |true=>rw[hb']at hc;cases hc;exact(ac_ hb').symm
   |false=>rw[hb']at hc;cases hc
 have hwf:=st.sim.wfs;have hud:=st.dfs.und;have em:∀i u,Ad.at ρ i=some u->AV.und (nx J) u=true:=fun i u hu=>R.und _ _ (st.tmps i u (ht i u hu))
 have hvu:AV.und (nx J) v=true:=by
  have hvR:=Be st.glob st.tmps x;rw[ht.opd hv]at hvR;exact R.und _ _ hvR
 have hcu:AV.unds (nx J) cs=true:=by
  unfold AV.cellsN at hc
  split at hc<;>try (cases hc;done)
  ·cases hb':Nat.beq ‹List AV›.length sz with
   |true=>rw[hb']at hc;cases hc;exact hvu
   |false=>rw[hb']at hc;cases hc
  ·cases hb':Nat.beq sz 1 with
   |true=>rw[hb']at hc;cases hc;simp only[AV.unds,hvu,be_]
   |false=>rw[hb']at hc;cases hc
 have key:TO E nt df B ops ({ dst:=some d,op:=.alloc t,type:=ty,pos:=pos,after:=after,guard:=none }::{ dst:=none,op:=.store t (.tmp d) x,type:=ty',pos:=pos',after:=after',guard:=none }::r) K ρ J:=by
  refine Qg noR (J₁:=J.new (.cells z)) (ρ₁:=(d,.pr (nx J) 0)::ρ) (fun tm' ht'=>⟨_,S9 hz hd,ht'.put d _⟩) ?_
  refine X4 noR rfl rfl (By (vs:=z) (vs':=cs) (ad:=nx J) (off:=0) (v:=v) (cs:=cs) hi (by simp[Ah,Ad.at,aw_]) (hx _) hc Eg (Hh hcs)) ?_
  simp only[Dt];refine Amy J ((d,.pv cs)::ρ) hud ?_ hB ?_ k
  ·refine a_ hwf (by rw[Aq,Ao];exact dm_ _) fun b hb=>?_
   rw[aa_,if_neg Om,ag_,if_neg Om]
  ·intro i u hu;simp only[Ad.at]at hu⊢;cases hb:Nat.beq d i with
   |true=>
    rw[hb]at hu;simp only[cond_true,af_]at hu⊢;subst hu
    refine⟨_,rfl,.pr (vs:=cs) (by rw[aa_,if_pos rfl]) ?_ (dj_ hcu)⟩
    cases hg:J.get (nx J)with
    |none=>rfl
    |some O=>exact absurd (hwf _ _ hg).1 (Nat.lt_irrefl _)
   |false=>rw[hb]at hu;exact⟨u,hu,.same (em i u hu)⟩
 exact key ro n hn C w tm a ht st hB
theorem Aby[Se E]{c Q}(U ρ')(hf:Ds J U)(hn:nx U=nx J)(hs:Mm J U ρ' ρ)(k:T E nt df B c Q ρ' U):T E nt df B c Q ρ J:=
 fun ro n hr C w tm a ht st hB=>Aw8 U ρ' (by rw[hn];exact st.dfs.und) hf (by rw[hn];exact hB) hs k ro n hr C w tm a ht st hB
theorem Oo{Ls b c Q}(h:TX E Ls nt b B c (fun x ρ J=>WFS J->Q x ρ J) ρ J):TX E Ls nt b B c Q ρ J:=fun ro n hr Bs C w tm a df h0 hl hm ht st hB=>
 wpIn_mono (h ro n hr Bs C w tm a df h0 hl hm ht st hB) fun e a' w' ⟨x,tm',ρ',J',C',df',h1,h2,h3,h4,h5⟩=>⟨x,tm',ρ',J',C',df',h1,h2,h3 h4.sim.wfs,h4,h5⟩
end
section
variable {E:Env}{ρ:Ad}{J J' U:Sto}{N:Nat}{α:Type}{enc enc':α->List AV}{sz by':Nat}{l:List α}{v:AV}
theorem Own.app1(he:∀a,(enc a).length=sz)(hN:N<=nx J)(h:Own J N enc sz l v)(b)(bn:(l.length+1)*(by'+1)<=sizeLim):
  ∃J',B6 J sz by' v 1 (enc b)=some (.sr (nx J) 0 sz (l.length+1) none,J')/\J'.get (nx J)=some (.cells ((l++[b]).flatMap enc))/\nx J'=nx J+1/\Own J' N enc sz (l++[b]) (.sr (nx J) 0 sz (l.length+1) none)/\
   (∀a,a<nx J->(∀c,v=.sr c 0 sz l.length none->a≠c)->J'.get a=J.get a):=by
 obtain⟨v',J',h1,h2,h3,h4⟩:=h.app (by':=by') he hN [b] gr
 have hb:Nat.ble ((l.length+1)*(by'+1)) sizeLim=true:=ar_ bn
 have h1':B6 J sz by' v 1 (enc b)=some (v',J'):=gr
 have key:v'=.sr (nx J) 0 sz (l.length+1) none/\J'.get (nx J)=some (.cells ((l++[b]).flatMap enc))/\nx J'=nx J+1:=by
  rcases h with⟨rfl,rfl|rfl⟩|⟨a,tl,k1,k2,rfl,k3⟩
  ·have hb':Nat.ble ((0+1)*(by'+1)) sizeLim=true:=hb
   simp only[B6,Ja,hb',cond_true,Ak,bd_,af_,ba_]at h1'
   grind
  ·have hb':Nat.ble ((0+1)*(by'+1)) sizeLim=true:=hb
   have h0:Nat.ble (0+1) 0=false:=rfl;simp only[B6,aw_,h0,fc_,be_,cond_true,Ja,hb',Ak,bd_,af_,ba_]at h1'
   grind
  ·have ev:J.cells a=some (l.flatMap enc++tl):=by unfold Sto.cells;rw[k3]
   have b9:Dr (l.length*sz) ((l.flatMap enc++tl).drop 0)=some (l.flatMap enc):=by
    have:=D0 (l:=l.flatMap enc) (r:=tl)
    rwa[Dl he]at this
   simp only[B6,aw_,cond_true,ev,b9,Ja,hb,Ak,B3,af_,ba_]at h1'
   grind
 grind
theorem FzL.app:∀{a b c d:List AV},FzL J U a b->FzL J U c d->FzL J U (a++c) (b++d)
 |_,_,_,_,.nil,h=>h
 |_,_,_,_,.cons h1 h2,h=>.cons h1 (h2.app h)
theorem FzL.flat(h:∀a,FzL J U (enc a) (enc' a)):∀l:List α,FzL J U (l.flatMap enc) (l.flatMap enc')
 |[]=>.nil
 |a::l=>by simp only[bs_];exact(h a).app (FzL.flat h l)
theorem Own.fzE(he:∀a,(enc a).length=sz)(h:Own J N enc sz l v)(hτ:∀a,N<=a->U.get a=none)(hu:∀a,FzL J U (enc a) (enc' a)):Fz J U v (slV enc' sz l):=by
 rcases h with⟨rfl,rfl|rfl⟩|⟨a,tl,h1,_,rfl,h3⟩
 ·exact .nils gr
 ·exact .sv gr .nil
 ·have b9:Dr (l.length*sz) ((l.flatMap enc++tl).drop 0)=some (l.flatMap enc):=by
   have:=D0 (l:=l.flatMap enc) (r:=tl)
   rwa[Dl he]at this
  exact .sr h3 (hτ a h1) b9 (FzL.flat hu l)
end
section
set_option linter.unusedSectionVars false
class KE (κ:Type)[DecidableEq κ] where
 k:κ->Key
 eq:∀a b,Key.eq (k a) (k b)=decide (a=b)
theorem Nn(a b):Tz a b=decide (a=b):=by
 cases a with
 |ofNat x=>cases b with
  |ofNat y=>
   show Nat.beq x y=_
   by_cases h:x=y
   ·subst h;simp
   ·rw[decide_eq_false (fun hh=>h (ci_ hh))]
    cases hb:Nat.beq x y with
    |true=>exact absurd (ac_ hb) h
    |false=>rfl
  |negSucc y=>rfl
 |negSucc x=>cases b with
  |ofNat y=>rfl
  |negSucc y=>
   show Nat.beq x y=_
   by_cases h:x=y
   ·subst h;simp
   ·rw[decide_eq_false (fun hh=>h (Int.negSucc.inj hh))]
    cases hb:Nat.beq x y with
    |true=>exact absurd (ac_ hb) h
    |false=>rfl
instance:KE Int where
 k n:=.int .i64 n
 eq a b:=by show(Ed .i64 .i64&&Tz a b)=_;rw[Nn];rfl
abbrev Kk:=Str×Int×Int
instance:KE Kk where
 k p:=.agg [kS p.1,.int .i64 p.2.1,.int .i64 p.2.2]
 eq a b:=by
  obtain⟨s,x,y⟩:=a;obtain⟨t,u,v⟩:=b;simp only[Key.eq,Key.eqs,Abl,Nn,Ed]
  by_cases h1:s=t<;>by_cases h2:x=u<;>by_cases h3:y=v<;>simp[h1,h2,h3]
abbrev GM(κ α:Type):=List (κ×α)
section
variable {κ α:Type}[DecidableEq κ][KE κ]
def Hi(enc:α->AV)(m:GM κ α):List (Key×AV):=m.map fun p=>(KE.k p.1,enc p.2)
def GM.get:GM κ α->κ->Option α
 |[],_=>none
 |(k,v)::r,s=>if s=k then some v else GM.get r s
def GM.set:GM κ α->κ->α->GM κ α
 |[],_,_=>[]
 |(k,v)::r,s,x=>if s=k then(k,x)::r else(k,v)::GM.set r s x
def GM.ins:GM κ α->κ->α->GM κ α
 |[],s,x=>[(s,x)]
 |(k,v)::r,s,x=>if Key.lt (KE.k s) (KE.k k)then(s,x)::(k,v)::r else(k,v)::GM.ins r s x
def GM.put(m:GM κ α)(s:κ)(x:α):GM κ α:=match m.get s with|some _=>m.set s x|none=>m.ins s x
variable {enc:α->AV}{m:GM κ α}{s t:κ}{x:α}
theorem Rt:∀{m:GM κ α},D5 (KE.k s) (Hi enc m)=(m.get s).map enc
 |[]=>rfl
 |(k,v)::r=>by
  show cond (Key.eq (KE.k s) (KE.k k)) (some (enc v)) (D5 (KE.k s) (Hi enc r))=_
  rw[KE.eq,GM.get]
  by_cases h:s=k
  ·rw[decide_eq_true h,cond_true,if_pos h];rfl
  ·rw[decide_eq_false h,cond_false,if_neg h];exact Rt
theorem Aiv:∀{m:GM κ α},Ph (KE.k s) (enc x) (Hi enc m)=Hi enc (m.set s x)
 |[]=>rfl
 |(k,v)::r=>by
  show cond (Key.eq (KE.k s) (KE.k k)) ((KE.k k,enc x)::Hi enc r) ((KE.k k,enc v)::Ph (KE.k s) (enc x) (Hi enc r))=_
  rw[KE.eq,GM.set]
  by_cases h:s=k
  ·rw[decide_eq_true h,cond_true,if_pos h];rfl
  ·rw[decide_eq_false h,cond_false,if_neg h,Aiv];rfl
theorem Aiw:∀{m:GM κ α},Nx (KE.k s) (enc x) (Hi enc m)=Hi enc (m.ins s x)
 |[]=>rfl
 |(k,v)::r=>by
  show cond (Key.lt (KE.k s) (KE.k k)) ((KE.k s,enc x)::(KE.k k,enc v)::Hi enc r) ((KE.k k,enc v)::Nx (KE.k s) (enc x) (Hi enc r))=_
  rw[GM.ins];cases h:Key.lt (KE.k s) (KE.k k)
  ·rw[cond_false,if_neg (by simp),Aiw];rfl
  ·rw[cond_true,if_pos rfl];rfl
theorem Ark:Aot (KE.k s) (enc x) (Hi enc m)=Hi enc (m.put s x):=by
 unfold Aot GM.put;rw[Rt];cases m.get s with
 |none=>exact Aiw
 |some y=>exact Aiv
theorem GM.get_set:∀{m:GM κ α},(m.set s x).get t=if t=s/\(m.get s).isSome then some x else m.get t
 |[]=>by simp[GM.set,GM.get]
 |(k,v)::r=>by
  unfold GM.set
  by_cases h:s=k
  ·subst h;rw[if_pos rfl];simp only[GM.get,if_true,ew_,and_true]
   by_cases ht:t=s
   ·simp[ht]
   ·simp[ht]
  ·rw[if_neg h];simp only[GM.get,if_neg h]
   by_cases ht:t=k
   ·subst ht;rw[if_pos rfl,if_pos rfl,if_neg (fun hh=>h hh.1.symm)]
   ·rw[if_neg ht,if_neg ht];exact GM.get_set
theorem GM.get_ins:∀{m:GM κ α},m.get s=none->(m.ins s x).get t=if t=s then some x else m.get t
 |[],_=>by simp[GM.ins,GM.get]
 |(k,v)::r,hn=>by
  have hk:s≠k:=fun h=>by simp[GM.get,h]at hn
  have hr:GM.get r s=none:=by simpa[GM.get,hk]using hn
  unfold GM.ins
  split
  ·simp only[GM.get]
  ·simp only[GM.get]
   by_cases ht:t=k
   ·subst ht;rw[if_pos rfl,if_neg (fun h=>hk h.symm),if_pos rfl]
   ·rw[if_neg ht,if_neg ht];exact GM.get_ins hr
theorem GM.get_put:(m.put s x).get t=if t=s then some x else m.get t:=by
 unfold GM.put;cases h:m.get s with
 |none=>exact GM.get_ins h
 |some y=>simp only[GM.get_set,h,ew_,and_true]
abbrev fp_:=@GM.get_put
end
def GAt{κ α:Type}[DecidableEq κ][KE κ](kt:Nat)(enc:α->AV)(J:Sto)(r:Nat)(m:GM κ α):Prop:=∃ver,J.get r=some (.map kt (Hi enc m) ver)
section
variable {E:Env}{ρ:Ad}{J J':Sto}{Rr:Rec}{t kt sz r a:Nat}{x y w:Operand}{agg:Bool}{z u:AV}{κ α:Type}[DecidableEq κ][KE κ]{enc:α->AV}{m:GM κ α}{k:κ}{v:α}
theorem Amz(hi:mpI E.P t=some (kt,z,sz,agg))(hx:Ah E ρ x=some (.mp r))(hm:GAt kt enc J r m)(hy:Ah E ρ y=some u)(hk:D4 E.P kt u=some (KE.k k)):
  As E Rr (.lookup t x y false) ρ J (((m.get k).map enc).getD z) J:=by
 have:=Aet (Rr:=Rr) hi hx (show Xz J kt (Hi enc m) (.mp r)from hm) hy hk
 rwa[Rt]at this
theorem Arl(hi:mpI E.P t=some (kt,z,sz,agg))(hx:Ah E ρ x=some (.mp r))(hm:GAt kt enc J r m)(hy:Ah E ρ y=some u)(hk:D4 E.P kt u=some (KE.k k)):
  As E Rr (.lookup t x y true) ρ J (.tup [((m.get k).map enc).getD z,.bool (m.get k).isSome]) J:=by
 have:=Abf (Rr:=Rr) hi hx (show Xz J kt (Hi enc m) (.mp r)from hm) hy hk
 rwa[Rt,Option.isSome_map]at this
theorem K7{ver}(hi:mpI E.P t=some (kt,z,sz,agg))(hx:Ah E ρ x=some (.mp r))(hm:J.get r=some (.map kt (Hi enc m) ver))(hy:Ah E ρ y=some u)(hk:D4 E.P kt u=some (KE.k k))
  (hw:Ah E ρ w=some (enc v))(hf:∀te:TI,te.size=sz->te.isAgg=agg->Je te (enc v)=true):
  As E Rr (.mapUpdate t x y w) ρ J An (J.set r (.map kt (Hi enc (m.put k v)) (ver+1))):=by
 have:=Aeu (Rr:=Rr) hi hx hm hy hk hw hf
 rwa[Ark]at this
theorem GAt.of_get(h:GAt kt enc J r m)(hg:J'.get r=J.get r):GAt kt enc J' r m:=by obtain⟨v,h⟩:=h;exact⟨v,hg.trans h⟩
theorem GAt.put{ver}:GAt kt enc (J.set r (.map kt (Hi enc m) ver)) r m:=⟨ver,by rw[aa_,if_pos rfl]⟩
end
end
section
variable {E:Env}{ρ:Ad}{J J' U:Sto}{Rr:Rec}{t ty n a i k N off sz sz0 by':Nat}{x y:Operand}{agg:Bool}{cs cs' c tl:List AV}{u v:AV}{α:Type}{enc:α->List AV}{l:List α}{e:α}
theorem E8(hg:J.get a=some (.cells cs))(hi:ldI E.P t=some (sz,agg))(hx:Ah E ρ x=some (.pr a off))(hv:Cz sz agg (cs.drop off)=some v):As E Rr (.load t x) ρ J v J:=
 Ac hi hx (by simp only[Em,Sto.cells,hg]) hv
theorem G1(hg:J.get a=some (.cells cs))(hi:ldI E.P t=some (sz,agg))(hx:Ah E ρ x=some (.pr a off))(hy:Ah E ρ y=some v)(hc:v.cellsN sz=some c)(hs:Et cs off c=some cs'):As E Rr (.store t x y) ρ J An (J.set a (.cells cs')):=
 By hi hx hy hc (by simp only[Sto.cells,hg]) hs
theorem A7q(he:∀a,(enc a).length=sz0)(hg:J.get a=some (.cells (l.flatMap enc++tl)))(hu:l[i]? =some e)(hi:ldI E.P t=some (sz,agg))(hx:Ah E ρ x=some (.pr a (i*sz0+k)))(hk:Nat.ble k sz0=true)(hv:∀r,Cz sz agg ((enc e).drop k++r)=some v):As E Rr (.load t x) ρ J v J:=by
 refine E8 hg hi hx ?_;have hil:=(ae_.1 hu).1
 have h0:i*sz0<=(l.flatMap enc).length:=by rw[Dl he];exact el_ _ (gb_ hil)
 have hk:=al_ hk
 rw[←eo_,fj_ h0,Aml he hu,ca_,fj_ (by rw[he];exact hk)]
 exact hv _
def adr:AV->Option Nat
 |.sr a _ _ _ _=>some a
 |_=>none
theorem Own.adr_lt(h:Own J N enc sz l v){a}(ha:adr v=some a):N<=a/\a<nx J:=by
 rcases h with⟨_,rfl|rfl⟩|⟨b,tl,h1,h2,rfl,_⟩
 ·cases ha
 ·cases ha
 ·simp only[adr,af_]at ha;subst ha;exact⟨h1,h2⟩
theorem Own.of_get(h:Own J N enc sz l v)(hn:nx J<=nx J')(hg:∀a,adr v=some a->J'.get a=J.get a):Own J' N enc sz l v:=
 h.mono hn fun a tl hv _ _ _=>hg a (by rw[hv];rfl)
theorem Own.sr(h:Own J N enc sz l v)(hi:i<l.length):∃a tl,N<=a/\a<nx J/\v=.sr a 0 sz l.length none/\J.get a=some (.cells (l.flatMap enc++tl)):=by
 rcases h with⟨rfl,_⟩|h
 ·exact absurd hi (gz_ _)
 ·exact h
theorem Own.app2(he:∀a,(enc a).length=sz)(hN:N<=nx J)(h:Own J N enc sz l v)(b)(bn:(l.length+1)*(by'+1)<=sizeLim):
  ∃J',B6 J sz by' v 1 (enc b)=some (.sr (nx J) 0 sz (l.length+1) none,J')/\nx J'=nx J+1/\Own J' N enc sz (l++[b]) (.sr (nx J) 0 sz (l.length+1) none)/\(∀a,a<nx J->adr v≠some a->J'.get a=J.get a):=by
 obtain⟨J',h1,_,h3,h4,h5⟩:=h.app1 (by':=by') he hN b bn
 exact⟨J',h1,h3,h4,fun a ha hne=>h5 a ha fun c hc hac=>hne (by rw[hc,hac];rfl)⟩
abbrev dn_:=@Own.app2
theorem WFS.kill(hw:WFS J)(a):WFS (J.kill a):=fun b O hb=>by
 rw[bf_]at hb
 split at hb
 ·cases hb
 ·obtain⟨h1,h2,h3⟩:=hw b O hb;rw[B3];refine⟨h1,h2,?_⟩;unfold Agt at h3⊢
  split at h3
  ·intro kt es hg;rw[bf_]at hg;rw[B3]
   split at hg
   ·cases hg
   ·exact h3 kt es hg
  ·trivial
theorem Own.fzA(he:∀a,(enc a).length=sz)(h:Own J N enc sz l v)(hτ:∀a,adr v=some a->U.get a=none)(hu:AV.unds (nx U) (l.flatMap enc)=true):Fz J U v (slV enc sz l):=by
 rcases h with⟨rfl,rfl|rfl⟩|⟨a,tl,h1,_,rfl,h3⟩
 ·exact .nils (fun q hq=>by cases hq)
 ·exact .sv (fun q hq=>by cases hq) .nil
 ·have b9:Dr (l.length*sz) ((l.flatMap enc++tl).drop 0)=some (l.flatMap enc):=by
   have:=D0 (l:=l.flatMap enc) (r:=tl)
   rwa[Dl he]at this
  exact .sr h3 (hτ a rfl) b9 (dj_ hu)
def without(J:Sto)(v:AV):Sto:=match adr v with|some a=>J.kill a|none=>J
theorem L7:nx (without J v)=nx J:=by
 unfold without
 split
 ·exact B3 _ _
 ·rfl
theorem E0{b}:(without J v).get b=if adr v=some b then none else J.get b:=by
 unfold without;cases h:adr v with
 |none=>simp
 |some a=>
  simp only[bf_,af_]
  by_cases hb:b=a
  ·subst hb;simp
  ·rw[if_neg hb,if_neg (fun hh=>hb hh.symm)]
theorem WFS.without(hw:WFS J):WFS (without J v):=by
 unfold AM.without
 split
 ·exact hw.kill _
 ·exact hw
theorem Ds.sub(h:WFS U)(hn:nx U<=nx J)(hg:∀a O,U.get a=some O->J.get a=some O):Ds J U:=by
 refine⟨hn,fun a O ha=>?_⟩
 obtain⟨h1,h2,h3⟩:=h a O ha;refine⟨h1,O,hg a O ha,?_⟩;cases O with
 |cells vs=>exact .cells (dj_ h2)
 |map kt es ver=>exact .map (Oi .same h2)
 |iter m ver left cur=>exact .iter h2 h3
 |stamp m ver k=>exact .stamp h2
 |loop st=>exact .loop
abbrev ft_:=@Ds.sub
theorem Ds.without(hw:WFS J):Ds J (without J v):=ft_ hw.without (by rw[L7];exact nl) fun a O ha=>by
 rw[E0]at ha
 split at ha
 ·cases ha
 ·exact ha
end
section
open Go Go.Proofs
theorem Kr{p:Prop}(h:p:=by kernel_rfl):p:=h
theorem SL{p:Prop}(h:p:=by repeat (first|exact trivial|refine⟨rfl,?_⟩)):p:=h
class Ld (t:Nat)(s:outParam Nat)(g:outParam Bool):Prop where
 h:ldI Ew.P t=some (s,g):=by kernel_rfl
class Fd (t i:Nat)(o s:outParam Nat)(g:outParam Bool):Prop where
 h:fdI Ew.P t i=some (o,s,g):=by kernel_rfl
class Sl (t:Nat):Prop where
 h:Mk Ew.P t=true:=by kernel_rfl
class Ok (t:Nat):Prop where
 h:okI Ew.P t=true:=by kernel_rfl
class El (t:Nat)(s b:outParam Nat)(z:outParam (Option (List AV))):Prop where
 h:elI Ew.P t=some (s,b,z):=by kernel_rfl
class Zi (t:Nat)(z:outParam (List AV)):Prop where
 h:zI Ew.P t=some z:=by kernel_rfl
class Bd (t:Nat)(z:outParam (List AV))(l:outParam (List (Nat×Nat))):Prop where
 h:bdI Ew.P t=some (z,l):=by kernel_rfl
theorem stZ:Fs Ew.P 9=true:=by kernel_rfl
theorem ldC{t s g}[i:Ld t s g]:ldI Ew.P t=some (s,g):=i.h
theorem fdC{t i o s g}[k:Fd t i o s g]:fdI Ew.P t i=some (o,s,g):=k.h
theorem slC{t}[i:Sl t]:Mk Ew.P t=true:=i.h
theorem okC{t}[i:Ok t]:okI Ew.P t=true:=i.h
theorem elC{t s b z}[i:El t s b z]:elI Ew.P t=some (s,b,z):=i.h
theorem ziC{t z}[i:Zi t z]:zI Ew.P t=some z:=i.h
theorem bdC{t z l}[i:Bd t z l]:bdI Ew.P t=some (z,l):=i.h
section
variable {nt B:Nat}{df:List (Nat×List AV)}{Q:Cc}{ρ:Ad}{J:Sto}{K:Ad->Sto->Prop}{Rr:Rec}
def anO(E:Env)(ops:Array Oper)(f:List Ann->Bool):Bool:=match Lo E ops with|some l=>f l|none=>false
theorem Ag5{E ops f}(h:anO E ops f=true):∃l,Lo E ops=some l/\f l=true:=by
 unfold anO at h
 split at h
 ·exact⟨_,by assumption,h⟩
 ·cases h
theorem XI{id ops l}(hk:Aev Ew l)(h:TD Ew nt (Dk l) ops.toList ops.toList (KDI Q J) ρ J [J] [])(ha:anO Ew ops (fun _=>true)=true:=by kernel_rfl):T Ew nt df B (.region id ops true) Q ρ J:=by
 obtain⟨_,h1,_⟩:=Ag5 ha;exact Auk Di (Bw hk) h1 h
theorem X0{id ops}(h:TD Ew nt (fun _ _ _=>none) ops.toList ops.toList (KD0 Q J) ρ J [J] [])(ha:anO Ew ops (fun _=>Amo Ew ops.toList)=true:=by kernel_rfl):T Ew nt df B (.region id ops true) Q ρ J:=by
 obtain⟨_,h1,h2⟩:=Ag5 ha;exact Aui Di h1 h2 h
theorem XS{id ops l}(hk:Aev Ew l)(h:TD Ew nt (Dk l) ops.toList ops.toList (KDS Q) ρ J [J] [])(ha:anO Ew ops (fun a=>Rm Ew a ops.toList 0)=true:=by kernel_rfl):T Ew nt df B (.region id ops true) Q ρ J:=by
 obtain⟨_,h1,h2⟩:=Ag5 ha;exact Auj Di (Bw hk) h1 h2 h
theorem XX(m){id ops l}(hk:Aev Ew l)(h:TD Ew nt (Dk l) ops.toList ops.toList (KDX Q m J) ρ J [J] [])(ha:anO Ew ops (fun a=>Jo Ew m a ops.toList false)=true:=by kernel_rfl):T Ew nt df B (.region id ops true) Q ρ J:=by
 obtain⟨_,h1,h2⟩:=Ag5 ha;exact Amt m Di (Bw hk) h1 h2 h
theorem TAn(n){b}(q){ops r r' o t c x} 
  (hon:b=true->TO Ew nt df B ops (r.take n) (fun ρ' J'=>J'=J/\Hy ρ ρ'/\Ah Ew ρ' x=some (.bool q)) ρ J)
  (k:TO Ew nt df B ops r' K ((t,.bool (b&&q))::ρ) J)
  (hr:r.drop n=o::r':=by exact rfl)(hop:o.op=.pick c x (.const (.bool false)):=by exact rfl)(ct:o.dst=some t:=by exact rfl)(h0:Ah Ew ρ c=some (.bool b):=by exact rfl)(ht:Nat.blt t nt=true:=by exact rfl)(hg:o.guard=none:=by exact rfl)
  (ep:b=false->TO Ew nt df B ops (r.take n) (fun ρ' J'=>J'=J/\Hy ρ ρ') ρ J:=by intro hg;(repeat (first|refine Of hg ?_|refine Ou ?_));exact Dd ⟨rfl,sb⟩):TO Ew nt df B ops r K ρ J:=
 Hq n b q h0 hr hop ct ht (Eh hg) hon ep k
theorem TOr(n){b}(q){ops r r' o t c x} 
  (hon:b=false->TO Ew nt df B ops (r.take n) (fun ρ' J'=>J'=J/\Hy ρ ρ'/\Ah Ew ρ' x=some (.bool q)) ρ J)
  (k:TO Ew nt df B ops r' K ((t,.bool (b||q))::ρ) J)
  (hr:r.drop n=o::r':=by exact rfl)(hop:o.op=.pick c (.const (.bool true)) x:=by exact rfl)(ct:o.dst=some t:=by exact rfl)(h0:Ah Ew ρ c=some (.bool b):=by exact rfl)(ht:Nat.blt t nt=true:=by exact rfl)(hg:o.guard=none:=by exact rfl)
  (ep:b=true->TO Ew nt df B ops (r.take n) (fun ρ' J'=>J'=J/\Hy ρ ρ') ρ J:=by intro hg;(repeat (first|refine Of hg ?_|refine Ou ?_));exact Dd ⟨rfl,sb⟩):TO Ew nt df B ops r K ρ J:=
 Qh n b q h0 hr hop ct ht (Eh hg) hon ep k
theorem Xf{ops r Kd eps log o oj}{j d:Nat}{b want}(k:TD Ew nt Rr ops r Kd (Dt o.dst An ρ) J eps ((ρ,An)::log))(hg:o.guard=some (j,want):=by exact rfl)(hj:ops[j]? =some oj:=by exact rfl)(hdj:oj.dst=some d:=by exact rfl)(hb:Ad.at ρ d=some (.bool b):=by exact rfl)(hw:cond b want (!want)=false:=by first|rfl|simp only[*]<;>rfl|simp[*]<;>fail)
  (he:B5 (Bc Ew o.op)=false:=by exact rfl)(hd:B0 nt o.dst=true:=by exact rfl):TD Ew nt Rr ops (o::r) Kd ρ J eps log:=Dx hg hj hdj hb hw k he hd
theorem Xn{ops r Kd eps log o oj v J₁}{j d:Nat}{b want}(h:As Ew Rr o.op ρ J v J₁)(k:TD Ew nt Rr ops r Kd (Dt o.dst v ρ) J eps ((ρ,v)::log))(hg:o.guard=some (j,want):=by exact rfl)(hj:ops[j]? =some oj:=by exact rfl)(hdj:oj.dst=some d:=by exact rfl)(hb:Ad.at ρ d=some (.bool b):=by exact rfl)(hw:cond b want (!want)=true:=by first|rfl|simp only[*]<;>rfl|simp[*]<;>fail)
  (he:B5 (Bc Ew o.op)=false:=by exact rfl)(hd:B0 nt o.dst=true:=by exact rfl):TD Ew nt Rr ops (o::r) Kd ρ J eps log:=Dn hg hj hdj hb hw h k he hd
end
theorem k_lss{Rr ρ J}{t ty:Nat}{x k p q}(hi:okI Ew.P t=true)(hx:Ah Ew ρ x=some (.int k p)):As Ew Rr (.binOp .lss t x (.const (.int k q)) ty) ρ J (.bool (decide (p<q))) J:=Qe hi hx (by cases q<;>simp[Ah,ofV,Yh,Ak,hdV])
theorem k_leq{Rr ρ J}{t ty:Nat}{x k p q}(hi:okI Ew.P t=true)(hx:Ah Ew ρ x=some (.int k p)):As Ew Rr (.binOp .leq t x (.const (.int k q)) ty) ρ J (.bool (decide (p<=q))) J:=Hn hi hx (by cases q<;>simp[Ah,ofV,Yh,Ak,hdV])
theorem k_gtr{Rr ρ J}{t ty:Nat}{x k p q}(hi:okI Ew.P t=true)(hx:Ah Ew ρ x=some (.int k p)):As Ew Rr (.binOp .gtr t x (.const (.int k q)) ty) ρ J (.bool (decide (q<p))) J:=Wv hi hx (by cases q<;>simp[Ah,ofV,Yh,Ak,hdV])
theorem k_geq{Rr ρ J}{t ty:Nat}{x k p q}(hi:okI Ew.P t=true)(hx:Ah Ew ρ x=some (.int k p)):As Ew Rr (.binOp .geq t x (.const (.int k q)) ty) ρ J (.bool (decide (q<=p))) J:=Agq hi hx (by cases q<;>simp[Ah,ofV,Yh,Ak,hdV])
theorem k_eqi{Rr ρ J}{t ty:Nat}{x k p q}(hi:okI Ew.P t=true)(hx:Ah Ew ρ x=some (.int k p)):As Ew Rr (.binOp .eql t x (.const (.int k q)) ty) ρ J (.bool (decide (p=q))) J:=H4 hi hx (by cases q<;>simp[Ah,ofV,Yh,Ak,hdV])
theorem k_nei{Rr ρ J}{t ty:Nat}{x k p q}(hi:okI Ew.P t=true)(hx:Ah Ew ρ x=some (.int k p)):As Ew Rr (.binOp .neq t x (.const (.int k q)) ty) ρ J (.bool (!decide (p=q))) J:=Aqz hi hx (by cases q<;>simp[Ah,ofV,Yh,Ak,hdV])
theorem Ez{nt B df ρ ρ' J ops x q}(h1:Hy ρ ρ':=by repeat (first|exact .refl|refine .cons rfl ?_))(h2:Ah Ew ρ' x=some (.bool q):=by exact rfl):TO Ew nt df B ops [] (fun ρ'' J''=>J''=J/\Hy ρ ρ''/\Ah Ew ρ'' x=some (.bool q)) ρ' J:=Dd ⟨rfl,h1,h2⟩
theorem Cb{a b}(h:a=b:=by first|rfl|simp only[*]<;>rfl|simp[*]<;>fail):some (AV.bool a)=some (AV.bool b):=congrArg (fun b=>some (AV.bool b)) h
theorem Oq{Rr op ρ J v J₁}(h:As Ew Rr op ρ J v J₁:=by first|exact Ag rfl|exact Gd rfl|exact Ac ldC rfl rfl rfl|exact Ac ldC rfl rfl (Wz (Dh _))|exact Ae fdC rfl rfl|exact Jl slC rfl|exact S7 rfl rfl|exact A1 elC (fun _=>rfl) rfl rfl (by assumption)|exact D3 (q:=1) okC rfl rfl Om|exact Dc rfl|exact k_lss okC rfl|exact Qe okC rfl rfl|exact k_nei okC rfl|exact Aqz okC rfl rfl|exact k_gtr okC rfl|exact Wv okC rfl rfl|exact k_eqi okC rfl|exact H4 okC rfl rfl|exact k_geq okC rfl|exact Agq okC rfl rfl|exact Ut bdC rfl rfl|exact Amh rfl rfl|exact Bq rfl rfl Bv|exact Eq rfl|exact Ge rfl|exact Aug stZ rfl|exact H5 (q:=[]) okC rfl rfl|exact H5 okC rfl rfl|exact A3 rfl (by first|rfl|simp only[*]<;>rfl|simp[*]<;>fail) rfl|exact Au rfl (by first|rfl|simp only[*]<;>rfl|simp[*]<;>fail) rfl|fail):As Ew Rr op ρ J v J₁:=h
section
variable {Ls:List RF}{nt b B:Nat}{df:List (Nat×List AV)}{Q:Cc}{ρ:Ad}{J:Sto}{K:Ad->Sto->Prop}{Rr:Rec}
theorem TXr{id ops}(h:∀{df:List (Nat×List AV)},TO Ew nt df B ops.toList ops.toList (fun ρ J=>Q .normal ρ J) ρ J):TX Ew Ls nt b B (.region id ops false) Q ρ J:=Dy (fun df=>B7 h) rfl
theorem TOp(m){ops r}(h:∀{df:List (Nat×List AV)},TO Ew nt df B ops (r.take m) (fun ρ' J'=>TOX Ew Ls nt b B ops (r.drop m) K ρ' J') ρ J):TOX Ew Ls nt b B ops r K ρ J:=Gm m fun df=>h
theorem Ca{ops r f args}{tys:Array Nat}{dst}{ty:Nat}{pos after k first cap vs full v J'}(hc:Al Ew k full J fun u U=>u=v/\U=J')
  (kk:TO Ew nt df B ops r K (Dt dst v ρ) J')(hd:B0 nt dst=true:=by exact rfl)(hf:Ah Ew ρ f=some (.fn (.func k) first cap):=by exact rfl)(ha:Kc Ew ρ args.toList=some vs:=by exact rfl)(hl:first++vs++cap=full:=by exact rfl):TO Ew nt df B ops ({ dst:=dst,op:=.call ⟨.value f,args,tys⟩,type:=ty,pos:=pos,after:=after,guard:=none }::r) K ρ J:=
 Nm hd hf ha hl hc kk
theorem lO{t a off sz agg cs v x}[i:Ld t sz agg](hg:J.get a=some (.cells cs))(hx:Ah Ew ρ x=some (.pr a off):=by exact rfl)(hv:Cz sz agg (cs.drop off)=some v:=by exact rfl):As Ew Rr (.load t x) ρ J v J:=E8 hg i.h hx hv
theorem sO{t a off sz agg cs cs' c v x y}[i:Ld t sz agg](hg:J.get a=some (.cells cs))(hx:Ah Ew ρ x=some (.pr a off):=by exact rfl)(hy:Ah Ew ρ y=some v:=by exact rfl)(hc:v.cellsN sz=some c:=by exact rfl)(hs:Et cs off c=some cs':=by exact rfl):As Ew Rr (.store t x y) ρ J An (J.set a (.cells cs')):=G1 hg i.h hx hy hc hs
end
theorem G{P Q:Prop}(k:P)(h:P->Q:=by first|exact Aew|exact Dd|exact B7|exact fun k=>O1 Oq k|exact Agu|exact Amk|exact Agv|exact fun k=>Jv ldC rfl rfl rfl k|exact fun k=>Jv ldC rfl (A7 (Dh _)) rfl k|exact fun k=>Ho ziC ldC rfl (fun _=>rfl) rfl rfl rfl rfl k|exact Amj|exact Cf|exact TXr|exact Jw|exact Qn|exact Ux|exact Th|exact Er|exact Uy|exact fun k=>Mp ziC ldC rfl (fun _=>rfl) rfl rfl rfl k|exact fun k=>DF Oq k|exact fun k=>DT Oq k|exact C1|exact fun k=>Xf k|exact fun k=>Xn Oq k|exact fun k=>Du k|fail):Q:=h k
theorem Gn{b b':Bool}(hg:b=b'){P Q:Prop}(k:P)(h:P->Q:=by first|exact fun k=>On hg Oq k|exact fun k=>Of hg k|exact fun k=>Ou k|exact Dd|fail):Q:=h k
theorem Gs{P Q:Prop}(h:P->Q:=by first|exact Aew|exact Dd|exact B7|exact fun k=>O1 Oq k|exact Agu|exact Amk|exact Agv|exact fun k=>Jv ldC rfl rfl rfl k|exact fun k=>Jv ldC rfl (A7 (Dh _)) rfl k|exact fun k=>Ho ziC ldC rfl (fun _=>rfl) rfl rfl rfl rfl k|exact Amj|exact Cf|exact TXr|exact Jw|exact Qn|exact Ux|exact Th|exact Er|exact Uy|exact fun k=>Mp ziC ldC rfl (fun _=>rfl) rfl rfl rfl k|exact fun k=>DF Oq k|exact fun k=>DT Oq k|exact C1|exact fun k=>Xf k|exact fun k=>Xn Oq k|exact fun k=>Du k|fail):P->Q:=h
theorem G2{P Q R1:Prop}(k:P)(h1:R1->Q:=by exact Gs)(h2:P->R1:=by exact Gs):Q:=h1 (h2 k)
theorem G3{P Q R1 R2:Prop}(k:P)(h1:R1->Q:=by exact Gs)(h2:R2->R1:=by exact Gs)(h3:P->R2:=by exact Gs):Q:=h1 (h2 (h3 k))
theorem G4{P Q R1 R2 R3:Prop}(k:P)(h1:R1->Q:=by exact Gs)(h2:R2->R1:=by exact Gs)(h3:R3->R2:=by exact Gs)(h4:P->R3:=by exact Gs):Q:=h1 (h2 (h3 (h4 k)))
theorem G5{P Q R1 R2 R3 R4:Prop}(k:P)(h1:R1->Q:=by exact Gs)(h2:R2->R1:=by exact Gs)(h3:R3->R2:=by exact Gs)(h4:R4->R3:=by exact Gs)(h5:P->R4:=by exact Gs):Q:=h1 (h2 (h3 (h4 (h5 k))))
theorem G6{P Q R1 R2 R3 R4 R5:Prop}(k:P)(h1:R1->Q:=by exact Gs)(h2:R2->R1:=by exact Gs)(h3:R3->R2:=by exact Gs)(h4:R4->R3:=by exact Gs)(h5:R5->R4:=by exact Gs)(h6:P->R5:=by exact Gs):Q:=h1 (h2 (h3 (h4 (h5 (h6 k)))))
theorem G7{P Q R1 R2 R3 R4 R5 R6:Prop}(k:P)(h1:R1->Q:=by exact Gs)(h2:R2->R1:=by exact Gs)(h3:R3->R2:=by exact Gs)(h4:R4->R3:=by exact Gs)(h5:R5->R4:=by exact Gs)(h6:R6->R5:=by exact Gs)(h7:P->R6:=by exact Gs):Q:=h1 (h2 (h3 (h4 (h5 (h6 (h7 k))))))
theorem G8{P Q R1 R2 R3 R4 R5 R6 R7:Prop}(k:P)(h1:R1->Q:=by exact Gs)(h2:R2->R1:=by exact Gs)(h3:R3->R2:=by exact Gs)(h4:R4->R3:=by exact Gs)(h5:R5->R4:=by exact Gs)(h6:R6->R5:=by exact Gs)(h7:R7->R6:=by exact Gs)(h8:P->R7:=by exact Gs):Q:=h1 (h2 (h3 (h4 (h5 (h6 (h7 (h8 k)))))))
theorem G9{P Q R1 R2 R3 R4 R5 R6 R7 R8:Prop}(k:P)(h1:R1->Q:=by exact Gs)(h2:R2->R1:=by exact Gs)(h3:R3->R2:=by exact Gs)(h4:R4->R3:=by exact Gs)(h5:R5->R4:=by exact Gs)(h6:R6->R5:=by exact Gs)(h7:R7->R6:=by exact Gs)(h8:R8->R7:=by exact Gs)(h9:P->R8:=by exact Gs):Q:=h1 (h2 (h3 (h4 (h5 (h6 (h7 (h8 (h9 k))))))))
theorem G10{P Q R1 R2 R3 R4 R5 R6 R7 R8 R9:Prop}(k:P)(h1:R1->Q:=by exact Gs)(h2:R2->R1:=by exact Gs)(h3:R3->R2:=by exact Gs)(h4:R4->R3:=by exact Gs)(h5:R5->R4:=by exact Gs)(h6:R6->R5:=by exact Gs)(h7:R7->R6:=by exact Gs)(h8:R8->R7:=by exact Gs)(h9:R9->R8:=by exact Gs)(h10:P->R9:=by exact Gs):Q:=h1 (h2 (h3 (h4 (h5 (h6 (h7 (h8 (h9 (h10 k)))))))))
theorem G11{P Q R1 R2 R3 R4 R5 R6 R7 R8 R9 R10:Prop}(k:P)(h1:R1->Q:=by exact Gs)(h2:R2->R1:=by exact Gs)(h3:R3->R2:=by exact Gs)(h4:R4->R3:=by exact Gs)(h5:R5->R4:=by exact Gs)(h6:R6->R5:=by exact Gs)(h7:R7->R6:=by exact Gs)(h8:R8->R7:=by exact Gs)(h9:R9->R8:=by exact Gs)(h10:R10->R9:=by exact Gs)(h11:P->R10:=by exact Gs):Q:=h1 (h2 (h3 (h4 (h5 (h6 (h7 (h8 (h9 (h10 (h11 k))))))))))
theorem G12{P Q R1 R2 R3 R4 R5 R6 R7 R8 R9 R10 R11:Prop}(k:P)(h1:R1->Q:=by exact Gs)(h2:R2->R1:=by exact Gs)(h3:R3->R2:=by exact Gs)(h4:R4->R3:=by exact Gs)(h5:R5->R4:=by exact Gs)(h6:R6->R5:=by exact Gs)(h7:R7->R6:=by exact Gs)(h8:R8->R7:=by exact Gs)(h9:R9->R8:=by exact Gs)(h10:R10->R9:=by exact Gs)(h11:R11->R10:=by exact Gs)(h12:P->R11:=by exact Gs):Q:=h1 (h2 (h3 (h4 (h5 (h6 (h7 (h8 (h9 (h10 (h11 (h12 k)))))))))))
theorem R1{a1 p:Prop}(h1:a1)(r:a1->p:=by intro h1;first|rfl|simp only[h1]<;>rfl|simp[h1]):p:=r h1
theorem R2{a1 a2 p:Prop}(h1:a1)(h2:a2)(r:a1->a2->p:=by intro h1 h2;first|rfl|simp only[h1,h2]<;>rfl|simp[h1,h2]):p:=r h1 h2
theorem R3{a1 a2 a3 p:Prop}(h1:a1)(h2:a2)(h3:a3)(r:a1->a2->a3->p:=by intro h1 h2 h3;first|rfl|simp only[h1,h2,h3]<;>rfl|simp[h1,h2,h3]):p:=r h1 h2 h3
theorem R4{a1 a2 a3 a4 p:Prop}(h1:a1)(h2:a2)(h3:a3)(h4:a4)(r:a1->a2->a3->a4->p:=by intro h1 h2 h3 h4;first|rfl|simp only[h1,h2,h3,h4]<;>rfl|simp[h1,h2,h3,h4]):p:=r h1 h2 h3 h4
abbrev nS:AV:=.nil (.slice none 0 0)
abbrev z5:List AV:=[.str [],nS,nS,.str [],nS]
section
variable {nt:Nat}{ρ:Ad}{J:Sto}{Rr:Rec}{ops r:List Oper}{Kd:KD}{eps:List Sto}{log:List (Ad×AV)}{o oj:Oper}{j d:Nat}{b want:Bool}
theorem Wx(k:TD Ew nt Rr ops r Kd (Dt o.dst An ρ) J eps ((ρ,An)::log))(hg:o.guard=some (j,want):=by exact rfl)(hj:ops[j]? =some oj:=by exact rfl)(hdj:oj.dst=some d:=by exact rfl)(hb:Ad.at ρ d=some (.bool b):=by exact rfl)(he:B5 (Bc Ew o.op)=false:=by exact rfl)(hd:B0 nt o.dst=true:=by exact rfl)(w:cond b want (!want)=false):TD Ew nt Rr ops (o::r) Kd ρ J eps log:=Dx hg hj hdj hb w k he hd
theorem Wn{v J₁}(h:As Ew Rr o.op ρ J v J₁)(k:TD Ew nt Rr ops r Kd (Dt o.dst v ρ) J eps ((ρ,v)::log))(hg:o.guard=some (j,want):=by exact rfl)(hj:ops[j]? =some oj:=by exact rfl)(hdj:oj.dst=some d:=by exact rfl)(hb:Ad.at ρ d=some (.bool b):=by exact rfl)(he:B5 (Bc Ew o.op)=false:=by exact rfl)(hd:B0 nt o.dst=true:=by exact rfl)(w:cond b want (!want)=true):TD Ew nt Rr ops (o::r) Kd ρ J eps log:=Dn hg hj hdj hb w h k he hd
end
abbrev Cv(f:Nat)(a:List AV)(J:Sto)(x:AV):Prop:=Al Ew f a J fun v U=>v=x/\U=J
end
structure Pr where
 a:Str
 b:Str
 deriving DecidableEq
structure Hp where
 label:Str
 floating:Bool
 text:List Str
structure Fr where
 label:Str
 thm:Bool
 hyps:List Hp
 apart:List Pr
 text:List Str
 dummies:List Hp
 wide:List Pr
 proof:List Str
structure Db where
 consts:List Str
 vars:List Str
 frames:List Fr
inductive Ax where
 |node (label:Str)(kids:List Ax)
structure Sb where
 label:Str
 tree:Ax
structure Pt where
 symbol:Str
 sort:Str
 arg:Int
structure Rl where
 label:Str
 sort:Str
 parts:List Pt
 var:Bool
structure Gr where
 sorts:List Str
 rules:List Rl
abbrev Af(l:List Str):AV:=slV (fun s=>[sV s]) 1 l
def eP(p:Pr):List AV:=[sV p.a,sV p.b]
def eH(h:Hp):List AV:=[sV h.label,.bool h.floating,Af h.text]
def eF(f:Fr):List AV:=[sV f.label,.bool f.thm,slV eH 3 f.hyps,slV eP 2 f.apart,Af f.text,slV eH 3 f.dummies,slV eP 2 f.wide,Af f.proof]
def dbV(d:Db):AV:=.agg [Af d.consts,Af d.vars,slV eF 8 d.frames]
mutual
def eT:Ax->List AV
 |.node l ks=>[sV l,.sv (eTs ks) 2 ks.length none]
def eTs:List Ax->List AV
 |[]=>[]
 |t::r=>eT t++eTs r
end
theorem No:∀l:List Ax,eTs l=l.flatMap eT
 |[]=>by simp[eTs]
 |t::r=>by simp[eTs,No r]
theorem Cl(l ks):eT (.node l ks)=[sV l,slV eT 2 ks]:=by simp[eT,slV,No]
theorem Dh(t):(eT t).length=2:=by cases t;simp[eT]
def En(t:Ax):AV:=.agg (eT t)
def eS(s:Sb):List AV:=sV s.label::eT s.tree
def ePt(p:Pt):List AV:=[sV p.symbol,sV p.sort,iV p.arg]
def eR(r:Rl):List AV:=[sV r.label,sV r.sort,slV ePt 3 r.parts,.bool r.var]
def grV(g:Gr):AV:=.agg [Af g.sorts,slV eR 4 g.rules]
mutual
theorem Ax.ind' {P:Ax->Prop} (h:∀l ks,(∀t∈ks,P t)->P (.node l ks)):∀t,P t
 |.node l ks=>h l ks (Ax.indL' h ks)
theorem Ax.indL' {P:Ax->Prop} (h:∀l ks,(∀t∈ks,P t)->P (.node l ks)):∀(ks:List Ax),∀t∈ks,P t
 |[],t,ht=>by simp at ht
 |k::r,t,ht=>by
  have h1:=Ax.ind' h k;have h2:=Ax.indL' h r
  grind
end
theorem Uz{N}:∀{l m:List AV},AV.unds N l=true->AV.unds N m=true->AV.unds N (l++m)=true
 |[],m,_,h=>h
 |x::l,m,h,k=>by simp only[ay_,AV.unds,ad_]at h⊢;exact⟨h.1,Uz h.2 k⟩
mutual
theorem Es {N:Nat}:∀t:Ax,AV.unds N (eT t)=true
 |.node l ks=>by simp only[eT,AV.unds,AV.und,sV,Jq ks,be_]
theorem Jq {N:Nat}:∀l:List Ax,AV.unds N (eTs l)=true
 |[]=>rfl
 |t::r=>by simp only[eTs];exact Uz (Es t) (Jq r)
end
def Aix(o:Oper)(l:List Bool):Bool:=o.after.all fun e=> !Region.binds .any e||(l[e.on]?).getD false
def Abz:List Oper->List Bool->List (List Bool)
 |[],l=>[l]
 |o::r,l=>Abz r (l++[false])++cond (Aix o l) (Abz r (l++[true])) []
def Arm(ops:List Oper):Bool:=(List.range ops.length).all fun i=>match ops[i]? with
 |some o=>o.after.all fun e=> !Region.binds .any e||Nat.blt e.on i
 |none=>true
theorem Ae4:∀(r:List Oper) (pre suf:List Bool),suf.length=r.length->(∀(j:Nat) (o:Oper),r[j]? =some o->suf[j]? =some true->Aix o (pre++suf)=true)->
  (∀(j:Nat) (o:Oper),r[j]? =some o->(o.after.all fun e=> !Region.binds .any e||Nat.blt e.on (pre.length+j))=true)->pre++suf∈Abz r pre
 |[],pre,suf,hl,_,_=>by
  have:suf=[]:=ey_.1 hl;subst this
  simp[Abz]
 |o::r,pre,[],hl,_,_=>by simp at hl
 |o::r,pre,b::suf,hl,hc,hb=>by
  have ih:=Ae4 r (pre++[b]) suf gr (fun j o' h1 h2=>by
   have:=hc (j+1) o' gr gr
   grind) (fun j o' h1=>by
   have:=hb (j+1) o' gr
   grind)
  have e:pre++b::suf=pre++[b]++suf:=by simp
  rw[e];unfold Abz;cases b with
  |false=>exact dg_ _ ih
  |true=>
   have h1:=hc 0 o rfl rfl;have h2:=hb 0 o rfl
   have hok:Aix o pre=true:=by
    unfold Aix at h1⊢;rw[Array.all_eq_true]at h1 h2⊢;intro i hi;have q1:=h1 i hi;have q2:=h2 i hi;rw[bk_]at q1 q2⊢
    rcases q1 with q1|q1
    ·exact .inl q1
    ·rcases q2 with q2|q2
     ·exact .inl q2
     ·right
      have hlt:o.after[i].on<pre.length:=by
       have:=Nat.blt_eq▸q2
       grind
      grind
   rw[hok];exact fg_ _ ih
def Aiy(ops1 ops2:List Oper):Bool:=
 ((ops1++ops2).all fun o=>o.guard.isNone)&&Aiu ops1 (Dq ops1)&&Arm ops1&&((Abz ops1 []).all fun l=>Alb ops1 ops2 l)
  &&((List.range (ops2.length+1)).all fun j=>decide (Region.ready .any (ops1++ops2).toArray (Jp ops1++X8 ops2 j).toArray=if j<ops2.length then[ops1.length+j]else[]))
theorem Ab0:∀(n:Nat) (l:List Bool),l∈Qm n->l.length=n
 |0,l,h=>by simp[Qm]at h;rw[h];rfl
 |n+1,l,h=>by
  simp only[Qm,List.mem_flatMap]at h;obtain⟨m,hm,h⟩:=h;have:=Ab0 n m hm
  grind
theorem Ab1{ops1 ops2}(h:Aiy ops1 ops2=true):K6 ops1 ops2=true:=by
 unfold Aiy at h;simp only[ad_]at h;obtain⟨⟨⟨⟨h1,h2⟩,h3⟩,h4⟩,h5⟩:=h;unfold K6;rw[ad_,ad_,ad_];refine⟨⟨⟨h1,h2⟩,?_⟩,h5⟩;rw[b_];intro l hl;cases hc:Aiu ops1 l with
 |false=>rfl
 |true=>
  have bl:=Ab0 _ _ hl
  have hm:l∈Abz ops1 []:=by
   have:=Ae4 ops1 [] l bl (fun j o ho hs=>?_) (fun j o ho=>?_)
   ·grind
   ·unfold Aiu at hc;rw[b_]at hc;have hj:=(ae_.1 ho).1;have:=hc j (cw_.2 hj);rw[hs,ho]at this
    simpa[Aix]using this
   ·unfold Arm at h3
    grind
  rw[b_]at h4;rw[h4 l hm];rfl
theorem A3u{E:Env}{Ls:List RF}{nt b B:Nat}{Q:Cc}{ρ:Ad}{J:Sto}{c:Code}(h:TX E Ls nt b B c Q ρ J):TX E Ls nt b B (.scope c) Q ρ J:=by
 intro ro n hr Bs C w tm a df h0 hl hm ht st hB;refine Sc (wpIn_mono (h ro n hr Bs C w tm a df h0 hl hm ht st hB) fun e a' w' he=>?_)
 obtain⟨x',tm',ρ',J',C',df',h1,h2,h3,h4,hm',hB',h5⟩:=he;subst h1;cases x'<;>exact⟨_,tm',ρ',J',C',df',rfl,h2,h3,h4,hm',hB',h5⟩
end Go.AM
namespace Go.Proofs
open Go.Shelf
def Tryz.lays189_ren:Go.Shelf.Ren:=⟨fun|189=>186|125=>231|257=>230|128=>262|129=>263|294=>253|295=>254|296=>255|297=>256|298=>257|299=>258|216=>259|300=>260|301=>261|328=>279|329=>280|330=>281|331=>282|332=>283|215=>284|343=>293|n=>n,fun|28=>31|3=>3|46=>385|0=>0|51=>425|53=>427|4=>4|183=>419|182=>418|131=>305|5=>5|9=>9|218=>445|222=>449|228=>464|229=>388|n=>n,fun|n=>n⟩
theorem Tryz.lays189:Go.Proofs.Lays.n189 Tryz.prog Tryz.lays189_ren:=by repeat' first|kernel_rfl|(intro w;kernel_rfl)|constructor
open Go.Sort Go.RowKit in
theorem Tryz.slices_Sort_int (blk off cap:Nat) (zs:List Int) (w:World) (hH:Holds (Value.int .i64) w blk off zs.toArray) (pt:blk<w.heap.size) (hsz:zs.length<4611686018427387904):
  Calls Tryz.prog 186 #[.slice (some ⟨blk,off,none⟩) zs.length cap] w fun e w'=>
   e=.returned (.tuple #[])/\∃n os,w'=grow (putRow (Value.int .i64) (Sort.ahead w n) blk off (zs.mergeSort fun x y=>decide (x<=y)).toArray) os:=Any.slices_Sort_int Tryz.lays189 blk off cap zs w hH pt hsz
open Go.RowKit Go.Sort in
theorem Tryz.slices_Sort_int_none (p:Option Addr) (cap:Nat) (w:World):
  Calls Tryz.prog 186 #[.slice p 0 cap] w fun e w'=>e=.returned (.tuple #[])/\w'=w:=Any.slices_Sort_int_none Tryz.lays189 p cap w
end Go.Proofs
namespace Go.Proofs
open Go.Shelf
def Tryz.lays119_ren:Go.Shelf.Ren:=⟨fun|119=>302|n=>n,fun|21=>21|4=>4|n=>n,fun|n=>n⟩
theorem Tryz.lays119:Go.Proofs.Lays.n119 Tryz.prog Tryz.lays119_ren:=by repeat' first|kernel_rfl|(intro w;kernel_rfl)|constructor
theorem Tryz.utf8_ValidRune(r w):
  Calls Tryz.prog 302 #[.int .i32 r] w fun e w'=>e=.returned (.bool (Lib.validRune r))/\w'=w:=Any.utf8_ValidRune Tryz.lays119 r w
def Tryz.lays106_ren:Go.Shelf.Ren:=⟨fun|106=>271|213=>287|265=>294|n=>n,fun|9=>9|3=>3|n=>n,fun|n=>n⟩
theorem Tryz.lays106:Go.Proofs.Lays.n106 Tryz.prog Tryz.lays106_ren:=by repeat' first|kernel_rfl|(intro w;kernel_rfl)|constructor
open Go.RowKit in
theorem Tryz.strings_Compare (a b:ByteArray) (w:World):
  Calls Tryz.prog 271 #[.string a,.string b] w fun e w'=>e=.returned (.int .i64 (Lib.compareBytes a.data.toList b.data.toList))/\w'=w:=Any.strings_Compare Tryz.lays106 a b w
def Tryz.laysGw17_ren:Go.Shelf.Ren:=⟨fun|17=>295|15=>298|20=>300|n=>n,fun|9=>9|23=>468|4=>4|3=>3|0=>0|21=>21|n=>n,fun|n=>n⟩
theorem Tryz.laysGw17:Go.Proofs.LaysGw.n17 Tryz.prog Tryz.laysGw17_ren:=by repeat' first|kernel_rfl|(intro w;kernel_rfl)|constructor
open Go.RowKit Go.Lib in
def Tryz.lays151_ren:Go.Shelf.Ren:=⟨fun|151=>297|152=>299|137=>301|119=>302|224=>303|225=>304|217=>305|266=>306|n=>n,fun|9=>9|21=>21|4=>4|3=>3|5=>5|0=>0|46=>385|n=>n,fun|n=>n⟩
theorem Tryz.lays151:Go.Proofs.Lays.n151 Tryz.prog Tryz.lays151_ren:=by repeat' first|kernel_rfl|(intro w;kernel_rfl)|constructor
open Go.RowKit Go.Lib in
theorem Tryz.strings_ContainsRune_ascii (s:ByteArray) (r:Int) (w:World) (h0:0<=r) (h1:r<128):
  Calls Tryz.prog 297 #[.string s,.int .i32 r] w fun e w'=>e=.returned (.bool (decide (0<=Lib.indexByte s.data.toList r.toNat.toUInt8)))/\w'=w:=Any.strings_ContainsRune_ascii Tryz.lays151 s r w h0 h1
end Go.Proofs
namespace Go.AM
open Go Go.Proofs
instance:Ld 3 1 false:={}
instance:Ok 3:={}
instance:Zi 3 [.int .i64 (0)]:={}
instance:Ld 4 1 false:={}
instance:Zi 4 [.bool false]:={}
instance:Ld 5 1 false:={}
instance:Ok 5:={}
instance:Ld 9 1 false:={}
instance:Ok 9:={}
instance:Ld 22 1 false:={}
instance:Sl 22:={}
instance:El 22 1 16 (some [.str []]):={}
instance:Ld 23 1 false:={}
instance:Sl 23:={}
instance:El 23 8 168 (some [.str [],.bool false,nS,nS,nS,nS,nS,nS]):={}
instance:Ld 25 3 true:={}
instance:Zi 25 [nS,nS,nS]:={}
instance:Fd 25 0 0 1 false:={}
instance:Fd 25 1 1 1 false:={}
instance:Fd 25 2 2 1 false:={}
instance:Bd 25 [nS,nS,nS] [(0,1),(1,1),(2,1)]:={}
instance:Ld 31 1 false:={}
instance:Zi 31 [nS]:={}
instance:Sl 31:={}
instance:El 31 1 8 (some [.int .i64 (0)]):={}
instance:Ld 32 1 false:={}
instance:Ok 32:={}
instance:Ld 37 1 false:={}
instance:Zi 37 [nS]:={}
instance:Sl 37:={}
instance:El 37 2 40 (some [.str [],nS]):={}
instance:Ld 39 2 true:={}
instance:Zi 39 [.str [],nS]:={}
instance:Fd 39 0 0 1 false:={}
instance:Fd 39 1 1 1 false:={}
instance:Bd 39 [.str [],nS] [(0,1),(1,1)]:={}
instance:Ld 47 1 false:={}
instance:Sl 47:={}
instance:El 47 3 48 (some [.str [],.bool false,nS]):={}
instance:Ld 48 1 false:={}
instance:Sl 48:={}
instance:El 48 2 32 (some [.str [],.str []]):={}
instance:Ld 50 8 true:={}
instance:Zi 50 [.str [],.bool false,nS,nS,nS,nS,nS,nS]:={}
instance:Fd 50 0 0 1 false:={}
instance:Fd 50 1 1 1 false:={}
instance:Fd 50 2 2 1 false:={}
instance:Fd 50 3 3 1 false:={}
instance:Fd 50 4 4 1 false:={}
instance:Fd 50 5 5 1 false:={}
instance:Fd 50 6 6 1 false:={}
instance:Fd 50 7 7 1 false:={}
instance:Bd 50 [.str [],.bool false,nS,nS,nS,nS,nS,nS] [(0,1),(1,1),(2,1),(3,1),(4,1),(5,1),(6,1),(7,1)]:={}
instance:Ld 54 1 false:={}
instance:Ld 74 3 true:={}
instance:Zi 74 [.str [],.bool false,nS]:={}
instance:Fd 74 0 0 1 false:={}
instance:Fd 74 1 1 1 false:={}
instance:Fd 74 2 2 1 false:={}
instance:Bd 74 [.str [],.bool false,nS] [(0,1),(1,1),(2,1)]:={}
instance:Ld 107 1 false:={}
instance:Sl 122:={}
instance:El 122 1 24 (some [nS]):={}
instance:Ld 123 1 false:={}
instance:Ld 139 1 false:={}
instance:Sl 139:={}
instance:El 139 4 64 (some [.str [],.str [],nS,.bool false]):={}
instance:Ld 141 2 true:={}
instance:Zi 141 [nS,nS]:={}
instance:Fd 141 0 0 1 false:={}
instance:Fd 141 1 1 1 false:={}
instance:Bd 141 [nS,nS] [(0,1),(1,1)]:={}
instance:Ld 145 1 false:={}
instance:Sl 145:={}
instance:El 145 4 56 (some [.str [],.int .i64 (0),.int .i64 (0),nS]):={}
instance:Ld 147 1 true:={}
instance:Zi 147 [nS]:={}
instance:Fd 147 0 0 1 false:={}
instance:Bd 147 [nS] [(0,1)]:={}
instance:Ld 160 1 false:={}
instance:Ld 200 1 false:={}
instance:Zi 200 [nS]:={}
instance:Sl 200:={}
instance:El 200 3 40 (some [.str [],.str [],.int .i64 (0)]):={}
instance:Ld 202 4 true:={}
instance:Zi 202 [.str [],.str [],nS,.bool false]:={}
instance:Fd 202 0 0 1 false:={}
instance:Fd 202 1 1 1 false:={}
instance:Fd 202 2 2 1 false:={}
instance:Fd 202 3 3 1 false:={}
instance:Bd 202 [.str [],.str [],nS,.bool false] [(0,1),(1,1),(2,1),(3,1)]:={}
instance:Ld 221 1 false:={}
instance:Ld 223 3 true:={}
instance:Zi 223 [.str [],.str [],.int .i64 (0)]:={}
instance:Fd 223 0 0 1 false:={}
instance:Fd 223 1 1 1 false:={}
instance:Fd 223 2 2 1 false:={}
instance:Bd 223 [.str [],.str [],.int .i64 (0)] [(0,1),(1,1),(2,1)]:={}
instance:Ld 228 1 false:={}
instance:Ld 232 3 true:={}
instance:Zi 232 [.str [],.int .i64 (0),.int .i64 (0)]:={}
instance:Fd 232 0 0 1 false:={}
instance:Fd 232 1 1 1 false:={}
instance:Fd 232 2 2 1 false:={}
instance:Bd 232 [.str [],.int .i64 (0),.int .i64 (0)] [(0,1),(1,1),(2,1)]:={}
instance:Ld 233 1 false:={}
instance:Sl 233:={}
instance:El 233 1 24 (some [nS]):={}
instance:Ld 234 1 false:={}
instance:Sl 234:={}
instance:El 234 1 8 (some [.nil (.map none)]):={}
instance:Ld 235 1 false:={}
instance:Ld 237 7 true:={}
instance:Fd 237 0 0 2 true:={}
instance:Fd 237 1 2 1 false:={}
instance:Fd 237 2 3 1 false:={}
instance:Fd 237 3 4 1 false:={}
instance:Fd 237 4 5 1 false:={}
instance:Fd 237 5 6 1 false:={}
instance:Bd 237 [nS,nS,.nil (.map none),nS,nS,nS,.nil (.map none)] [(0,2),(2,1),(3,1),(4,1),(5,1),(6,1)]:={}
instance:Ld 239 1 false:={}
instance:Ld 240 1 false:={}
instance:Ld 241 1 false:={}
instance:Ld 242 1 false:={}
instance:Zi 242 [nS]:={}
instance:Sl 242:={}
instance:El 242 3 32 (some [.str [],.int .i64 (0),.int .i64 (0)]):={}
instance:Ld 244 4 true:={}
instance:Fd 244 0 0 1 false:={}
instance:Fd 244 1 1 1 false:={}
instance:Fd 244 2 2 1 false:={}
instance:Fd 244 3 3 1 false:={}
instance:Bd 244 [.nil (.pointer none),.nil (.map none),nS,.nil (.map none)] [(0,1),(1,1),(2,1),(3,1)]:={}
instance:Ld 246 1 false:={}
instance:Ld 250 3 true:={}
instance:Fd 250 0 0 1 true:={}
instance:Fd 250 1 1 1 false:={}
instance:Fd 250 2 2 1 false:={}
instance:Bd 250 [nS,nS,nS] [(0,1),(1,1),(2,1)]:={}
instance:Ld 251 1 false:={}
instance:Ld 253 3 true:={}
instance:Fd 253 0 0 1 false:={}
instance:Fd 253 1 1 2 true:={}
instance:Bd 253 [.nil (.pointer none),nS,nS] [(0,1),(1,2)]:={}
instance:Ld 256 3 true:={}
instance:Zi 256 [.int .i64 (0),.int .i64 (0),.bool false]:={}
instance:Fd 256 0 0 1 false:={}
instance:Fd 256 1 1 1 false:={}
instance:Fd 256 2 2 1 false:={}
instance:Bd 256 [.int .i64 (0),.int .i64 (0),.bool false] [(0,1),(1,1),(2,1)]:={}
instance:Ld 274 2 true:={}
instance:Ok 274:={}
instance:Zi 274 [.str [],.str []]:={}
instance:Fd 274 0 0 1 false:={}
instance:Fd 274 1 1 1 false:={}
instance:Ld 289 2 true:={}
instance:Zi 289 [.int .i64 (0),.int .i64 (0)]:={}
instance:Ld 311 1 false:={}
instance:Sl 311:={}
instance:El 311 2 32 (some [.int .i64 (0),nS]):={}
instance:Ld 313 4 true:={}
instance:Zi 313 [.str [],.int .i64 (0),.int .i64 (0),nS]:={}
instance:Fd 313 3 3 1 false:={}
instance:Bd 313 [.str [],.int .i64 (0),.int .i64 (0),nS] [(0,1),(1,1),(2,1),(3,1)]:={}
instance:Ld 318 2 true:={}
instance:Zi 318 [.int .i64 (0),nS]:={}
instance:Fd 318 0 0 1 false:={}
instance:Fd 318 1 1 1 false:={}
instance:Bd 318 [.int .i64 (0),nS] [(0,1),(1,1)]:={}
instance:Ld 329 1 false:={}
instance:Zi 329 [.nil (.nilFunc)]:={}
instance:Ld 331 1 false:={}
instance:Ld 332 1 false:={}
instance:Ld 333 1 false:={}
instance:Ld 335 5 true:={}
instance:Fd 335 0 0 1 false:={}
instance:Fd 335 1 1 1 false:={}
instance:Fd 335 2 2 1 false:={}
instance:Fd 335 3 3 1 false:={}
instance:Fd 335 4 4 1 false:={}
instance:Bd 335 [.nil (.map none),.nil (.map none),.nil (.map none),.nil (.map none),.nil (.map none)] [(0,1),(1,1),(2,1),(3,1),(4,1)]:={}
instance:Ld 349 1 false:={}
instance:Ld 351 3 true:={}
instance:Zi 351 [.int .i64 (0),.int .i64 (0),.int .i64 (0)]:={}
instance:Ld 352 1 false:={}
instance:Sl 352:={}
instance:El 352 3 24 (some [.int .i64 (0),.int .i64 (0),.int .i64 (0)]):={}
instance:Ld 356 1 false:={}
instance:Ld 373 2 true:={}
instance:Zi 373 [.nil (.map none),.nil (.map none)]:={}
instance:Fd 373 0 0 1 false:={}
instance:Fd 373 1 1 1 false:={}
instance:Bd 373 [.nil (.map none),.nil (.map none)] [(0,1),(1,1)]:={}
instance:Ld 386 4 true:={}
instance:Zi 386 [.int .i64 (0),.int .i64 (0),.int .i64 (0),.int .i64 (0)]:={}
instance:Sl 404:={}
instance:El 404 1 24 (some [nS]):={}
instance:Ld 415 4 true:={}
instance:Zi 415 [.int .i64 (0),.str [],nS,nS]:={}
instance:Fd 415 0 0 1 false:={}
instance:Fd 415 1 1 1 false:={}
instance:Fd 415 2 2 1 false:={}
instance:Fd 415 3 3 1 false:={}
instance:Bd 415 [.int .i64 (0),.str [],nS,nS] [(0,1),(1,1),(2,1),(3,1)]:={}
instance:Sl 416:={}
instance:El 416 4 72 (some [.int .i64 (0),.str [],nS,nS]):={}
instance:Ld 431 3 true:={}
instance:Fd 431 0 0 2 true:={}
instance:Fd 431 1 2 1 false:={}
instance:Bd 431 [nS,nS,.nil (.map none)] [(0,2),(2,1)]:={}
instance:Sl 435:={}
instance:El 435 1 1 (some [.int .u8 (0)]):={}
instance:Ld 436 256 true:={}
instance:Zi 436 (List.replicate 256 (.int .u8 (0))):={}
instance:Ld 456 2 true:={}
instance:Zi 456 [.str [],nS]:={}
instance:Fd 456 1 1 1 false:={}
instance:Bd 456 [.str [],nS] [(0,1),(1,1)]:={}
instance:Ld 461 4 true:={}
instance:Zi 461 [.str [],.bool false,.int .i64 (0),.int .i64 (0)]:={}
instance:Fd 461 0 0 1 false:={}
instance:Fd 461 1 1 1 false:={}
instance:Fd 461 2 2 1 false:={}
instance:Fd 461 3 3 1 false:={}
theorem A3v:arI Ew.P 159=some (5,1,false):=Kr
instance:Zi 9 [.str []]:={}
instance:Zi 22 [nS]:={}
instance:Zi 32 [.int .i64 (0)]:={}
instance:Ld 56 1 false:={}
instance:Sl 56:={}
instance:El 56 2 40 (some [.str [],nS]):={}
instance:Ld 58 3 true:={}
instance:Fd 58 0 0 1 false:={}
instance:Fd 58 1 1 1 false:={}
instance:Fd 58 2 2 1 false:={}
instance:Ld 60 1 false:={}
instance:Sl 60:={}
instance:El 60 2 40 (some [.str [],nS]):={}
instance:Ld 62 3 true:={}
instance:Zi 62 [.int .i64 (0),nS,nS]:={}
instance:Fd 62 0 0 1 false:={}
instance:Fd 62 1 1 1 false:={}
instance:Fd 62 2 2 1 false:={}
instance:Bd 62 [.int .i64 (0),nS,nS] [(0,1),(1,1),(2,1)]:={}
instance:Ld 64 1 false:={}
instance:Zi 64 [nS]:={}
instance:Sl 64:={}
instance:El 64 2 24 (some [.str [],.int .i64 (0)]):={}
instance:Zi 123 [.nil (.map none)]:={}
instance:Ld 129 2 true:={}
instance:Zi 129 [.str [],nS]:={}
instance:Fd 129 1 1 1 false:={}
instance:Ld 136 2 true:={}
instance:Ok 136:={}
instance:Fd 136 0 0 1 false:={}
instance:Fd 136 1 1 1 false:={}
instance:Bd 136 [.str [],.int .i64 (0)] [(0,1),(1,1)]:={}
instance:Ld 138 2 true:={}
instance:Zi 138 [.str [],nS]:={}
instance:Fd 138 0 0 1 false:={}
instance:Fd 138 1 1 1 false:={}
instance:Bd 138 [.str [],nS] [(0,1),(1,1)]:={}
instance:Ld 153 1 false:={}
instance:Ld 162 12 true:={}
instance:Fd 162 0 0 3 true:={}
instance:Fd 162 1 3 2 true:={}
instance:Fd 162 2 5 1 false:={}
instance:Fd 162 3 6 5 true:={}
instance:Fd 162 4 11 1 false:={}
instance:Bd 162 [nS,nS,nS,nS,nS,.int .i64 (0),.bool false,.bool false,.bool false,.bool false,.bool false,.nil (.map none)] [(0,3),(3,2),(5,1),(6,5),(11,1)]:={}
instance:Ld 170 6 true:={}
instance:Zi 170 [.bool false,nS,nS,.str [],nS,.int .i64 (0)]:={}
instance:Fd 170 0 0 1 false:={}
instance:Fd 170 1 1 1 false:={}
instance:Fd 170 2 2 1 false:={}
instance:Fd 170 3 3 2 true:={}
instance:Fd 170 4 5 1 false:={}
instance:Bd 170 [.bool false,nS,nS,.str [],nS,.int .i64 (0)] [(0,1),(1,1),(2,1),(3,2),(5,1)]:={}
instance:Sl 172:={}
instance:El 172 6 104 (some [.bool false,nS,nS,.str [],nS,.int .i64 (0)]):={}
instance:Ld 177 4 true:={}
instance:Zi 177 [.str [],nS,nS,.int .i64 (0)]:={}
instance:Fd 177 0 0 2 true:={}
instance:Fd 177 1 2 1 false:={}
instance:Fd 177 2 3 1 false:={}
instance:Bd 177 [.str [],nS,nS,.int .i64 (0)] [(0,2),(2,1),(3,1)]:={}
instance:Ld 265 1 false:={}
instance:Zi 265 [.nil (.nilFunc)]:={}
theorem st9:Fs Ew.P 9=true:=Kr
theorem Arn:mpI Ew.P 123=some (9,.int .i64 (0),1,false):=Kr
theorem Ae5:mpI Ew.P 160=some (9,nS,1,false):=Kr
theorem Qo:mpI Ew.P 221=some (9,.agg [.str [],.bool false,nS],3,true):=Kr
theorem Va:mpI Ew.P 235=some (232,.bool false,1,false):=Kr
theorem Am1:mpI Ew.P 240=some (232,.int .i64 (0),1,false):=Kr
theorem Ab2:mpI Ew.P 241=some (386,.bool false,1,false):=Kr
theorem Am2:mpI Ew.P 254=some (289,.agg [.int .i64 (0),.int .i64 (0),.bool false],3,true):=Kr
theorem ar289:arI Ew.P 289=some (2,1,false):=Kr
theorem Vb:mpI Ew.P 304=some (9,.bool false,1,false):=Kr
theorem Cr:mpI Ew.P 332=some (9,.bool false,1,false):=Kr
theorem Ae6:mpI Ew.P 333=some (9,.str [],1,false):=Kr
theorem Ae7:mpI Ew.P 338=some (9,.nil (.map none),1,false):=Kr
theorem Av7:arI Ew.P 340=some (2,1,false):=Kr
theorem Am3:mpI Ew.P 349=some (351,.bool false,1,false):=Kr
theorem Ii:arI Ew.P 351=some (3,1,false):=Kr
theorem ar386:arI Ew.P 386=some (4,1,false):=Kr
theorem ar436:arI Ew.P 436=some (256,1,false):=Kr
theorem Av8:arI Ew.P 462=some (10,4,true):=Kr
end Go.AM
