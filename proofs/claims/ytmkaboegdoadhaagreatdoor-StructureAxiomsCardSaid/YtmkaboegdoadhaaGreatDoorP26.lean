/- A part of the proof; shortened by program. -/
import Derived.Test.YtmkaboegdoadhaaGreatDoorP25
set_option maxRecDepth 100000
set_option maxHeartbeats 4000000
set_option linter.all false
namespace Go.AM
open Go Go.Proofs
def lW(g:Gr)(o:List cN)(c:Cs)(k:Nat):Prop:=∀(a:List RF) (L:RF) (B:Nat) (S:F->Prop) (b:XE->F->Prop) (J:F),L∈a->TC a L B (fT g o c k) S b->S J->B<=O J->Hl M a 159 (.yl L.aY::[.pv [lV g o c],.pv [nV k]]) J λ_ d=>PY B J b d
def wO(g:Gr)(o:List cN)(c:Cs)(w:Wy)(q:Nat):Prop:=∀(a:List RF) (L:RF) (B:Nat) (S:F->Prop) (b:XE->F->Prop) (J:F) (d:I),L∈a->TC a L B (.node (Md g w.rule) (w.kids.map (fT g o c))) S b->S J->B<=O J->eo J B ((w.kids.map (fT g o c)).take q) d->Hl M a 160 [lV g o c,.agg (fQ w),d,.yl L.aY] J λv e=>v=.bool false/\PY B J b e
theorem MW{g o c w}(lg:w.kids.length<=200)(dg:w.rule<g.rules.length)(ih:∀k∈w.kids,lW g o c k){q}(hq:q<=w.kids.length)(ac:q<w.kids.length->wO g o c w (q+1)):wO g o c w q:=by
 intro Ls L B S aA J kv af v hS hB m;obtain⟨rl,ag⟩:=Ar dg
 have iq:Md g w.rule=rl.label:=by unfold Md;rw[ag]
 obtain⟨f,ay⟩:∃f,w.kids.map (fT g o c)=f:=⟨_,rfl⟩;have l5:f.length=w.kids.length:=Z;unfold wO at ac;rw[ay]at v m ac;have a8:(f.take q).length=q:=Z;have d:=m.lenA;rw[a8]at d;obtain⟨h,aj⟩:∃h,J.bump.new (.cells [.bool false])=h:=⟨_,rfl⟩;have n0:O h=O J+2:=Z;have g0:∀b,b<O J->h.get b=J.get b:=Z;have r0:h.get (O J+1)=some (.cells [.bool false]):=Z;refine Mo Tryz.func160 (Ke _ _ Tryz.func160) rfl rfl λhw lc=>?_
 iterate  4 refine G ?_
 refine Jv aG rfl m.cellsN rfl ?_;refine G ?_;refine A (Bj (n:=O J+1) bG (Bm J)) ?_;refine G ?_;rw[aj]
 iterate  3 refine G ?_
 refine A (Ac aG rfl rfl m.ld) (A (Bf bF rfl d.1 d.2) ?_)
 iterate  5 refine G ?_
 refine A0 rfl ?_ ?_<;>intro h1
 ·have d4:q=w.kids.length:=gI (of_decide_eq_true h1);have a7:f.take q=f:=dG z;rw[a7]at m;obtain⟨v',J1,P,ae,n1,lj,g1⟩:=V' h f z;have ap:lenA kv=some f.length:=Z;have ef:F9 h 2 kv f.length=some (f.flatMap eT):=(m.of z λb _ h2=>g0 b h2).src
  obtain⟨U,al⟩:∃U,J1.kill (O h)=U:=⟨_,rfl⟩;have gz:O U=O J1:=Z;have j0:∀b,b<O h->U.get b=h.get b:=Z;have bx:=v.lt;refine G ?_;refine HU 14 (Rr:=Dk []) (anns:=[aR 0 1,aR 0 1,aP 0 1,aP 0 1,aP 0 1,aR 0 1,aP 0 1,aR 0 1,aP 0 1,aP 0 1,aR 0 1,aR 0 0,aE 0 1,aP 1 1]) (KZ Kr) Di (Bw (l:=[]) trivial) Kr ?_
  iterate  8 refine G ?_
  refine V (A1 aJ Qy rfl rfl ag) ?_
  iterate  2 refine G ?_
  refine V (Ac aG rfl rfl m.ld) (DT (Av aJ rfl bF rfl rfl ap (new:=f.flatMap eT) ef P) (V (Ut z8 rfl ae.fill) ?_));refine G ?_;refine⟨⟨(λs r=>⟨_,(Ac (aG (t:=54)) rfl rfl rfl)⟩),(λs r=>⟨_,(Ac (aG (t:=251)) rfl rfl rfl)⟩),trivial,trivial,trivial,(λs r=>⟨_,(Ac (aG (t:=139)) rfl rfl rfl)⟩),trivial,(λs r=>⟨_,(Ac (aG (t:=3)) rfl rfl rfl)⟩),trivial,trivial,(λs r=>⟨_,(Ac (aG (t:=9)) rfl rfl rfl)⟩),(λs r=>⟨_,(Ac (aG (t:=37)) rfl rfl m.ld)⟩),trivial,trivial,trivial⟩,?_⟩
  refine rF 0 ?_
  refine Avb U [(8,.pr (O J+1) 0),(16,.yl L.aY),(29,En (.node (Md g w.rule) f))] (λp=>by rw[<-al];exact .kill p _) gz (λp=>⟨⟨_,rfl,.same (Jr z)⟩,⟨_,rfl,.same (Ce z)⟩,⟨_,rfl,?_⟩,trivial⟩) ?_
  ·rw[Cg,iq];refine .agg (.cons (.same rfl) (.cons (ae.fz λa ha=>?_) .nil))
   rw[<-al,dF]
   split
   ·rfl
   ·exact p.none z
  refine G ?_;refine Lg af (λ_ _=>rfl) rfl rfl rfl rfl (v.y U (v.s J U hS Z) z) λx J2 bz l6=>?_
  obtain⟨ah,ao,n2,g2⟩:=bz;have d5:J2.get (O J+1)=some (.cells [.bool false]):=Z
  have aw:Iu x=false:=by cases x<;>first|exact absurd rfl ah|rfl
  refine rF 1 ?_;refine A (sO (cs':=[.bool (Iu x)]) d5) ?_
  iterate  2 refine G ?_
  refine Gi λp=>?_
  refine G ?_
  exact⟨[.bool (Iu x)],Am (vs:=[.bool (Iu x)]) (aG (t:=4)) rfl (by simp only[F.cells];grind) rfl rfl,_,_,a_ p Y (λ_ _=>rfl),Z,.same rfl,congrArg I.bool aw,⟨x,ah,v.j x _ _ ao Z⟩,Z,Z⟩
 ·have d4:q≠w.kids.length:=λe=>of_decide_eq_false h1 (congrArg _ e)
  have bc:q<w.kids.length:=by omega
  obtain⟨k,hk⟩:=Ar bc;have ax:=bA hk;have a7:f[q]? =some (fT g o c k):=Z;have a9:=List.take_add_one (l:=f) (i:=q);rw[a7]at a9;have a9:f.take (q+1)=f.take q++[fT g o c k]:=a9
  obtain⟨lk,kk,hT⟩:∃lk kk,fT g o c k=.node lk kk:=by cases fT g o c k;grind
  have au:eT (fT g o c k)=[sV lk,aD eT 2 kk]:=by rw[hT];exact Cl lk kk
  have bx:=v.lt
  iterate  3 refine G ?_
  refine Dy λdf=>XS (l:=[(124,[lV g o c,nV k],h,CJ g o c k,h)]) ⟨uT k h,trivial⟩ ?_
  iterate  3 refine G ?_
  refine V (Ac aG rfl rfl m.ld) (V (Bf bF rfl d.1 d.2) (V (A1 aJ Ep rfl rfl hk) ?_))
  iterate  4 refine G ?_
  obtain⟨N,ar⟩:∃N,O h+1=N:=⟨_,rfl⟩;obtain⟨R,ak⟩:∃R,h.bump.new (.loop .ready)=R:=⟨_,rfl⟩;have n7:O R=O J+4:=Z;have g7:∀b,b<O h->R.get b=h.get b:=Z;have y7:R.get N=some (.loop .ready):=Z;refine Oo ?_;refine L6 rfl (λtm db=>?_)
  rw[ak,ar];refine mB (ih k ax _ ⟨N,tm,Tryz.f160.ntmps,_,_,_⟩ (O J+4) (λU=>S U/\U.get N=some (.loop .ready)/\U.get (O J+1)=some (.cells [.bool false])/\∀b,B<=b->b<O J->U.get b=J.get b) (λx U=>x=.ret/\U.get N=some (.loop (H2 .ret))/\U.get (O J+1)=some (.cells [.bool false])/\(∃E,E≠.normal/\aA E U)/\∀b,B<=b->b<O J->U.get b=J.get b) R (cX ..) ⟨Z,?s,?j,?y⟩ ⟨v.s J R hS Z,y7,Z,Z⟩ z) ?post
  case s=>
   rintro U U' ⟨h1,h2,h3,h4⟩ H;exact⟨v.s U U' h1 λb hb=>H b z,Z,Z,Z⟩
  case j=>
   rintro x U U' ⟨h1,h2,h3,⟨E,h4,h5⟩,h6⟩ H;exact⟨h1,Z,Z,⟨E,h4,v.j E U U' h5 λb hb=>H b z⟩,Z⟩
  case y=>
   rintro U ⟨aq,ai,l9,kr⟩ jc;rw[hT,Cg];obtain⟨C,am⟩:∃C,U.set N (.loop .busy)=C:=⟨_,rfl⟩;have ln:O C=O U:=Z;have ij:∀b,b≠N->C.get b=U.get b:=Z;have Q:eo C B (f.take q) kv:=m.of z Z;obtain⟨T,an⟩:∃T,C.new (.cells ((f.take q++[fT g o c k]).flatMap eT))=T:=⟨_,rfl⟩;have lq:O T=O C+1:=Z;have iw:∀b,b<O C->T.get b=C.get b:=Z;have P:=Q.app1 (fT g o c k) z;rw[an,au,a8]at P
   have X:eo T B (f.take (q+1)) (.sr (O C) 0 2 (q+1) none):=by
    have:=eo.snoc (J:=C) (B:=B) (K:=f.take (q+1)) z
    grind
   refine Tk db rfl Kr Kr Kr ai Z ?_
   iterate  3 refine G ?_
   refine⟨ai,?_⟩;rw[show U.set N (.loop .busy)=C from am]
   iterate  2 refine G ?_
   refine HU 12 (Rr:=Dk []) (anns:=[aR 0 1,aR 0 1,aR 0 0,aR 0 0,aR 0 0,aR 0 0,aR 0 0,aP 0 0,aR 0 0,aP 0 0,aE 0 1,aR 0 1]) (KZ Kr) Di (Bw (l:=[]) trivial) Kr ?_
   iterate  2 refine G ?_
   refine V (Ac aG rfl rfl m.ld) (V (Ac aG rfl rfl m.ld) (V (Bf bF rfl d.1 d.2) (V (Ac aG rfl rfl m.ld) (V (Bf bF rfl d.1 d.2) (V (As5 Q a8 rfl rfl rfl) ?_)))));refine G ?_;refine V (Ai aJ bM rfl rfl rfl) (DT (Av aJ rfl bF rfl rfl rfl (new:=[sV lk,aD eT 2 kk]) rfl P) ?_)
   iterate  2 refine G ?_
   refine⟨⟨(λs r=>⟨_,(Ac (aG (t:=251)) rfl rfl rfl)⟩),(λs r=>⟨_,(Ac (aG (t:=318)) rfl rfl rfl)⟩),(λs r=>⟨_,(Ac (aG (t:=37)) rfl rfl m.ld)⟩),(λs r=>⟨_,(Ac (aG (t:=37)) rfl rfl m.ld)⟩),(λs r=>⟨_,(Bf (bF (t:=37)) rfl d.1 d.2)⟩),(λs r=>⟨_,(Ac (aG (t:=37)) rfl rfl m.ld)⟩),(λs r=>⟨_,(Bf (bF (t:=37)) rfl d.1 d.2)⟩),trivial,(λs r=>⟨_,(Ac (aG (t:=39)) rfl rfl rfl)⟩),trivial,trivial,(λs r=>⟨_,(Ac (aG (t:=54)) rfl rfl rfl)⟩),trivial⟩,?_⟩
   refine L5 (λ_ _=>rfl) rfl rfl rfl rfl rfl (ac bc _ L B S aA T _ (ch _ af) v.up (v.s U T aq Z) z X) λu3 U3 cx l7=>?_
   obtain⟨rfl,⟨E,aa,W⟩,n3,g3⟩:=cx;have d9:U3.get (O J+1)=some (.cells [.bool false]):=Z;have li:U3.get N=some (.loop .busy):=Z;refine rF 1 ?_
   iterate  3 refine G ?_
   refine A0 rfl (λh3=>?_) Z
   iterate  2 refine G ?_
   refine A (sO (cs':=[.bool false]) d9) ?_
   iterate  2 refine G ?_
   refine⟨Z,by simp,⟨rfl,Z,Z,⟨E,aa,v.j E _ _ W Z⟩,Z⟩,Z,Z⟩
  case post=>
   rintro u J' ⟨⟨x,_,rfl,ey,l8,⟨E,aa,W⟩,kf⟩,n9,g9⟩;refine⟨.ret,ey,λp=>?_⟩
   exact⟨[.bool false],Am (vs:=[.bool false]) (aG (t:=4)) rfl (by simp only[F.cells];grind) rfl rfl,_,_,a_ p Y (λ_ _=>rfl),Z,.same rfl,rfl,⟨E,aa,v.j E _ _ W Z⟩,Z,Z⟩
theorem xd{g o c E}(h:iM g o c E){i n:Nat}(R:E[i]? =some n)(hn:c.2.getD n 0≠0)(d:∀x w,o[n]? =some x->w∈x.ways->Gp c.2 w≠0->wO g o c w 0):lW g o c n:=by
 intro Ls L B S aA J N C hS hB;obtain⟨x,w,s,P,r,hp,ac⟩:=h.ci.first R hn;have Q:=vc (g:=g) h.ci R hn s P;rw[Q]at C;have d:=d x w s r hp;refine Mo Tryz.func159 (Ke _ _ Tryz.func159) rfl rfl λhw ag=>?_
 refine G ?_;refine Dy λdf=>X0 ?_
 iterate  9 refine G ?_
 refine V (A1 aJ Mw rfl rfl s) ?_
 iterate  5 refine G ?_
 refine⟨rfl,rfl,?_⟩;refine G ?_
 refine Hz (λa:Nat=>[(0,.yl L.aY),(1,.pv [lV g o c]),(17,aD fQ 2 x.ways),(18,nV x.ways.length),(19,nV a)]) (λa j=>a<=x.ways.length/\(∀b,b<O J->j.get b=J.get b)/\O J<=O j/\∀v∈x.ways.take a,Gp c.2 v=0) (λa=>x.ways.length-a) 0 SL ⟨bU _,λ_ _=>Fe,by rw[Bm];omega,λv m=>by simp at m⟩ ?_
 rintro a j ⟨aa,K,n0,f⟩
 iterate  5 refine G ?_
 refine A0 rfl ?_ ?_<;>intro t
 ·have bc:a<x.ways.length:=Int.ofNat_lt.1 (of_decide_eq_true t);obtain⟨v,m⟩:=Ar bc;have X:=bA m;obtain⟨ah,ai,W⟩:=h.way R s X;have aj:=(h.fb.2 x (bA s)).1;have p:=List.take_add_one (l:=x.ways) (i:=a);rw[m]at p
  iterate  5 refine G ?_
  refine A (A1 aJ Gq rfl rfl m) (A (Ac aG rfl rfl (A6 (Gq v) _)) (Mp bG aG rfl (λ_=>rfl) rfl (A7 (Gq v)) rfl ?_))
  iterate  6 refine G ?_
  refine Ca (xp z (λk hk=>(W k hk).2.2) j) ?_
  iterate  2 refine G ?_
  refine A0 rfl ?_ ?_<;>intro y
  ·have hz:Gp c.2 v=0:=gI (of_decide_eq_true y)
   iterate  5 refine G ?_
   refine⟨a+1,by show x.ways.length-(a+1)<x.ways.length-a;omega,SL,by omega,K,n0,λu e=>?_⟩
   rw[p]at e
   rcases dW.1 e with e|e
   ·exact f u e
   ·simp at e;subst e;exact hz
  ·have U:Gp c.2 v≠0:=λq=>of_decide_eq_false y (congrArg _ q)
   have a7:v=w:=by
    rw[<-gK a x.ways,List.find?_append,List.find?_eq_none.2 (λu e=>by simp[f u e]),A4 m,List.find?_cons_of_pos (by simp[U])]at P
    exact gL P
   subst a7;have ae:=C.lt;refine Jw ?_;refine Cf ?_;refine Er ?_;refine Gm 3 λdf=>?_
   iterate  4 refine G ?_
   refine L5 (λ_ _=>rfl) rfl rfl rfl rfl rfl (d Ls L B S aA j _ N C (C.s J j hS λb hb=>K b z) z (.inl ⟨rfl,rfl⟩)) λu3 U3 T af=>?_
   obtain⟨rfl,a9,n3,g3⟩:=T;refine rF 1 ?_
   iterate  3 refine G ?_
   refine A0 rfl (λh3=>?_) (λh3=>by cases h3)
   refine Gi λa8=>?_
   refine G ?_
   exact⟨[],rfl,_,_,a_ a8 Y (λ_ _=>rfl),by omega,.same rfl,a9,by omega,λb t y=>by rw[g3 b t z];exact K b y⟩
 ·have bj:x.ways.length<=a:=dQ.1 (Int.not_lt.1 (λq=>of_decide_eq_false t q))
  exfalso
  rw[dG bj]at f;exact hp (f w r)
theorem Awi{g o c w}(p:w.kids.length<=200)(E:w.rule<g.rules.length)(R:∀k∈w.kids,lW g o c k):∀(r q:Nat),q+r=w.kids.length->wO g o c w q
 |0,q,h=>MW p E R z λa=>by omega
 |r+1,q,h=>MW p E R z λ_=>Awi p E R r (q+1) z
theorem DE{g o c E}(h:iM g o c E):∀(i n:Nat),E[i]? =some n->c.2.getD n 0≠0->lW g o c n:=by
 intro i
 induction i using Nat.strongRecOn with
 |_ i t=>
  intro n b p;refine xd h b p λx w s r q=>?_
  obtain⟨e,f,l⟩:=h.way b s r;refine Awi e f (λk d=>?_) w.kids.length 0 (dE _)
  obtain⟨⟨j,m,a⟩,_⟩:=l k d;exact t j m k a (Xc _ _ q k d)
theorem UQ{E G R T e b a x}(h:Vs G.length b a x=true)(P:∀k,k<G.length->a.contains k=false->Sz b a x.1.D k=true->Lp E G R T e x.1.J k=true):Hm E G R T e b a x=true:=by
 unfold Vs at h;unfold Hm;rw[bg]at h⊢;refine⟨h.1,?_⟩;rw[b_];intro k f;have c:=(b_.1 h.2) k f;have d:k<G.length:=jW.1 f;cases i:a.contains k with
 |true=>simpa using c
 |false=>
  cases g:Sz b a x.1.D k with
  |false=>simp
  |true=>
   rw[P k d i g];rw[g]at c
   simpa using c
theorem Q4{E nt B l Q f J q h id G}(d)(hm:E.P.follows .mixedOrders=true)(X:Bk E h)(hl:G.toList.length=d.length)(hd:G.toList.all (λo=>B0 nt o.dst)=true)(r:(Eu G (Region.before G).toList&&Fo G)=true)
  (P:∀(c:List (Tr I)),(∀k,k<=G.toList.length->Has (c.getD k .e) (Lb G.toList d f k))->∃g b,Ne E G.toList h (λk=>c.getD k .e) (λk=>d.getD k .any) (Region.before G).toList (A8 E G.toList 0) [] J=some (g,b)/\b.J=q/\(∀x∈g++[(b,[])],∀k,k<G.toList.length->(A8 E G.toList 0).contains k=false->Sz (Region.before G).toList (A8 E G.toList 0) x.1.D k=true->Lp E G.toList h (λk=>c.getD k .e) (λk=>d.getD k .any) x.1.J k=true)/\(g++[(b,[])]).all (Vs G.toList.length (Region.before G).toList (A8 E G.toList 0))=true/\(g.all λx=>(A8 E G.toList 0).any λe=> !x.1.D.contains e)=true)
  (k:Q .normal (Lb G.toList d f G.toList.length) q):T E nt l B (.region id G true) Q f J:=by
 intro ro n a7 C w tm a ht st s;obtain⟨c,N,m⟩:=Vr (nt:=nt) ht hl hd;obtain⟨g,b,R,S,U,p,W⟩:=P c m
 have hp:Rd E G h ⟨tm,nt,l,J⟩ d=some ⟨c.getD G.size .e,nt,l,b.J⟩:=by
  unfold Rd;simp only[N,r,R];rw[W]
  have:(g++[(b,[])]).all (Hm E G.toList h (λk=>c.getD k .e) (λk=>d.getD k .any) (Region.before G).toList (A8 E G.toList 0))=true:=by
   rw[b_]at p⊢;exact λx t=>UQ (p x t) (U x t)
  rw[this];rfl
 refine wpIn_mono (Ss hm X st hp) λe a' w' he=>?_
 obtain⟨y,u,v,K,L,j⟩:=he;rw[cI]at u;subst u
 have i:G.size=G.toList.length:=by simp
 refine⟨.normal,_,_,b.J,v,K,m _ (pD i),?_,L,bD s j.next,j.base s⟩;rw[i,S];exact k
theorem Rz{E G R T V e o f J U v}(a:G[e]? =some o)(H:o.guard=none)(m:Has (T e) f)(b:V e=v)(Q:I.beq v v=true)(h:As E R o.op f J v U):Ps E G R T V e J=some U:=by
 unfold Ps;simp only[a,O5 H m h,b,Q,cond_true]
theorem Avd{E nt B df Q f J n l N r R Rr id ops}(d c e i j){oc oe G u}{t x y t' x' y'}{a b p q K L}(hm:E.P.follows .mixedOrders=true)(hR:Bk E Rr)(hl:ops.toList.length=d.length)(hd:ops.toList.all (λo=>B0 nt o.dst)=true)(aa:(Eu ops (Region.before ops).toList&&Fo ops)=true)
  (ae:A8 E ops.toList 0=[c,e,i,j])(al:ops.toList[c]? =some oc)(am:ops.toList[e]? =some oe)(an:ops.toList[i]? =some G)(ao:ops.toList[j]? =some u)(X:((Region.before ops).toList.getD e 0).testBit c=true)(a7:((Region.before ops).toList.getD i 0).testBit e=true)(a8:((Region.before ops).toList.getD j 0).testBit i=false)
  (aj:G.op=.store t x y)(ak:u.op=.store t' x' y')(af:oc.guard=none)(ag:oe.guard=none)(ah:G.guard=none)(w:u.guard=none)(ai:Nat.beq i j=false)(P:a≠b)(re:c<=ops.toList.length)(ac:e<=ops.toList.length)(m:i<=ops.toList.length)(h:j<=ops.toList.length)
  (h1:As E Rr oc.op (Lb ops.toList d f c) J K n)(h2:As E Rr oe.op (Lb ops.toList d f e) n L l)(h3:As E Rr G.op (Lb ops.toList d f i) l An N)(h4:As E Rr u.op (Lb ops.toList d f j) l An r)(h5:As E Rr u.op (Lb ops.toList d f j) N An R)
  (W:Ah E (Lb ops.toList d f i) x=some (.pr a p))(ax:Ah E (Lb ops.toList d f j) x'=some (.pr b q))(aq:d.getD c .any=K)(S:I.beq K K=true)(ar:d.getD e .any=L)(a9:I.beq L L=true)(au:d.getD i .any=An)(aw:d.getD j .any=An)
  (cy:∀k,k<ops.toList.length->([c,e,i,j]:List Nat).contains k=false->∀U:F,(U=J\/U=n\/((Region.before ops).toList.getD e 0).testBit k=false)->∃o v U',ops.toList[k]? =some o/\o.guard=none/\As E Rr o.op (Lb ops.toList d f k) U v U'/\d.getD k .any=v/\I.beq v v=true)
  (dc:∀(s1 s2 s3 s4 s5 s6:F),([((⟨[],s1,[]⟩:Nd),[c]),(⟨[c],s2,[]⟩,[e]),(⟨[e,c],s3,[]⟩,[i,j]),(⟨[i,e,c],s4,[]⟩,[j]),(⟨[j,e,c],s5,[]⟩,[i]),(⟨[j,i,e,c],s6,[]⟩,[])]:NL).all (Vs ops.toList.length (Region.before ops).toList [c,e,i,j])=true)
  (cw:∀(s1 s2 s3 s4 s5:F),(([((⟨[],s1,[]⟩:Nd),[c]),(⟨[c],s2,[]⟩,[e]),(⟨[e,c],s3,[]⟩,[i,j]),(⟨[i,e,c],s4,[]⟩,[j]),(⟨[j,e,c],s5,[]⟩,[i])]:NL).all λx=>([c,e,i,j]:List Nat).any λe=> !x.1.D.contains e)=true)
  (k:Q .normal (Lb ops.toList d f ops.toList.length) R):T E nt df B (.region id ops true) Q f J:=by
 refine Q4 d hm hR hl hd aa (λtl g=>?_) k
 rw[ae];have e1:=Rz (T:=λk=>tl.getD k .e) (V:=λk=>d.getD k .any) al af (g c re) aq S h1
 have e2:=Rz (T:=λk=>tl.getD k .e) (V:=λk=>d.getD k .any) am ag (g e ac) ar a9 h2
 have e3:=O5 (ops:=ops.toList) ah (g i m) h3;have e4:=O5 (ops:=ops.toList) w (g j h) h4;have e5:=O5 (ops:=ops.toList) w (g j h) h5
 have ap:Nat.beq a b=false:=by cases hh:Nat.beq a b with|true=>exact absurd (bK hh) P|false=>rfl
 have hu:I.beq An An=true:=by rfl
 have ip:N2 E ops.toList Rr (λk=>tl.getD k .e) (λk=>d.getD k .any) i j [e,c] l=some ([(⟨[e,c],l,[]⟩,[i,j]),(⟨[i,e,c],N,[]⟩,[j]),(⟨[j,e,c],r,[]⟩,[i])],R):=by
  unfold N2;simp only[an,ao,e3,e4,e5,aj,ak,(g i m).opd W,(g j h).opd ax,au,aw,ai,ap,hu,tF,dR,cond_true]
 refine⟨[(⟨[],J,[]⟩,[c]),(⟨[c],n,[]⟩,[e]),(⟨[e,c],l,[]⟩,[i,j]),(⟨[i,e,c],N,[]⟩,[j]),(⟨[j,e,c],r,[]⟩,[i])],⟨[j,i,e,c],R,[]⟩,?_,rfl,λx W k hk hc s=>?_,dc _ _ _ _ _ _,cw _ _ _ _ _⟩
 ·simp only[Ne,X,a7,a8,e1,e2,ip]
  rfl
 ·have ay:x.1.J=J\/x.1.J=n\/((Region.before ops).toList.getD e 0).testBit k=false:=by
   have C:e∈x.1.D->((Region.before ops).toList.getD e 0).testBit k=false:=λhm=>by
    unfold Sz at s
    have:=b_.1 s e zS
    rw[List.contains_iff_mem.2 hm]at this
    simpa using this
   simp only[dL,fK,bN,mW,or_false]at W
   rcases W with rfl|rfl|rfl|rfl|rfl|rfl
   ·exact .inl rfl
   ·exact .inr (.inl rfl)
   ·exact .inr (.inr (C zS))
   ·exact .inr (.inr (C zS))
   ·exact .inr (.inr (C zS))
   ·exact .inr (.inr (C zS))
  obtain⟨o,v,U',q1,q2,q3,q4,q5⟩:=cy k hk hc _ ay;exact FY q1 q2 (g k (q' hk)) q4 q5 q3
mutual
theorem Z8:∀t:Ax,I.beqs (eT t) (eT t)=true
 |.node l ks=>by
  have:=JO ks;simp only[eT,I.beqs,I.beq,sV,Tv,cb,kW,this,dR]
theorem JO:∀l:List Ax,I.beqs (kR l) (kR l)=true
 |[]=>rfl
 |t::r=>by rw[kR];exact Vq (Z8 t) (JO r)
end
theorem Ds.cell{J}(i:bY J){a b q d}(Q:J.get b=some (.cells q))(p:a≠b)(N:∀U:F,O U=O J->U.get a=none->cH J U q d):Ds J ((J.kill a).set b (.cells d)):=by
 have B:((J.kill a).set b (.cells d)).get a=none:=by rw[aU,if_neg p,dF,if_pos rfl]
 have c:O ((J.kill a).set b (.cells d))=O J:=by rw[Aq,B3]
 have y:=Ds.kill i a
 refine⟨by rw[c];exact Y,λx l f=>?_⟩
 rw[aU]at f
 split at f
 ·rename_i e
  subst e;cases f
  exact⟨by rw[c];exact(i _ _ Q).1,_,Q,.cells (N _ c B)⟩
 ·rename_i C
  obtain⟨t,h,o,G⟩:=y.2 x l f;rw[B3]at t
  refine⟨by rw[c];exact t,h,o,?_⟩
  have u:J.get x=some l:=by
   rw[dF]at f
   split at f
   ·cases f
   ·exact f
  rw[u]at o;cases o;obtain⟨_,n,E⟩:=i x l u;cases l with
  |cells q=>exact .cells (jg (by rw[c];exact n))
  |map v s j=>exact .map (Oi .same (by rw[c];exact n))
  |stamp m j k=>exact .stamp (by rw[c];exact n)
  |loop K=>exact .loop
  |iter m j left w=>
   refine .iter (by rw[c];exact n) ?_
   cases m with
   |none=>trivial
   |some r=>
    intro v s g;rw[c];refine E v s ?_;rw[aU]at g
    split at g
    ·cases g
    ·rw[dF]at g
     split at g
     ·cases g
     ·exact g
def Q2(b:Bool):Nat->Bool
 |0=>false
 |_=>b
theorem qW{a o}:I.beq (.pr a o) (.pr a o)=true:=by
 show(Nat.beq a a&&Nat.beq o o)=true
 rw[cb,cb];rfl
def Xg(T:Ax):I:=if 4000<M6 T then .tup [nS,D 4]else if 100<eZ T 1 then .tup [nS,D 9]else .tup [aD eT 2 [T],D 0]
theorem f70{g F c}(hB:sY g)(dw:Eb g=0)(hF:jC g F.length F)(a9:FB F)(h0:0<F.length)(hc:Yx F=some c)(dv:c.2.getD 0 0=1)(d4:g.rules.length<=1000000)(J):Cv 70 [gY g,fV F,nV 1] J (Xg (fT g F c 0)):=by
 obtain⟨E,cx,aq⟩:=PU hF h0 hc;obtain⟨i0,Q⟩:=fA.1 aq;have hL:iM g F c E:=⟨hF,a9,cx,d4⟩;have af:=hL.kb i0 0 Q z
 have a7:∀J,Cv 117 [gY g] J (D 0):=λJ=>by
  have:=pY g J hB
  grind
 have a8:∀J,Cv 122 [fV F] J (.tup [yE F c,D 0]):=λJ=>by
  have:=uU hF a9 h0 J;unfold md at this
  grind
 have ac:=O4 (l:=c.2) (i:=0) Z;rw[dv]at ac;obtain⟨T,L⟩:∃T,fT g F c 0=T:=⟨_,rfl⟩;rw[L]at af⊢;have d5:∀b:Bool,b=true->b=false->False:=Z;refine sg ?_;refine Mo Tryz.func70 (Ke _ _ Tryz.func70) rfl rfl λhw ln=>?_
 iterate  12 refine G ?_
 refine Ca (a7 _) ?_
 iterate  7 refine G ?_
 refine A0 rfl Z (λh1=>?_)
 iterate  4 refine G ?_
 refine Ca (a8 _) ?_
 iterate  14 refine G ?_
 refine A0 rfl Z (λh2=>?_)
 iterate  5 refine G ?_
 refine cJ 2 ?_ (λH=>?_) ?_
 rotate_left
 ·iterate  2 refine Gn H ?_
  exact Ez
 iterate  2 refine G ?_
 refine A0 rfl Z (λh3=>?_)
 iterate  16 refine G ?_
 refine A (Gx zP) ?_
 iterate  2 refine G ?_
 obtain⟨X,aa⟩:∃X,O J.bump=X:=⟨_,rfl⟩;obtain⟨J1,K⟩:∃J1,J.bump.new (.map 289 [] 0)=J1:=⟨_,rfl⟩;rw[aa,K];rw[Bm]at aa;have n1:O J1=O J+2:=Z;have g1:∀b,b<O J->J1.get b=J.get b:=Z
 have ar:g8 g F c J1 X:=⟨[],⟨0,by rw[<-K,a5,if_pos Z];rfl⟩,λn t h=>by cases h⟩
 iterate  2 refine G ?_
 refine Dy λdf=>X0 ?_
 iterate  5 refine G ?_
 refine V (A1 aJ Ep rfl rfl ac) ?_;refine G ?_;refine V (show As M _ _ _ _ (nV 1) _ from G' (p:=1) (q:=1) aV rfl rfl) ?_
 iterate  2 refine G ?_
 refine⟨rfl,rfl,?_⟩;refine G ?_
 refine Hz (λq:Nat=>[(5,.pv [nV 1]),(11,lV g F c),(12,.bool (Q2 (decide ((4000:Int)<Int.ofNat (gp T))) q)),(13,.bool (Q2 (decide ((100:Int)<Int.ofNat (gJ T))) q)),(14,.mp X),(52,nV 1),(53,nV q)]) (λq J'=>q<=1/\g8 g F c J' X/\O J+2<=O J'/\∀b,b<O J->J'.get b=J.get b) (λq=>1-q) 0 SL ⟨bU _,ar,by omega,g1⟩ ?_
 rintro q J2 ⟨hq,au,n2,g2⟩
 iterate  5 refine G ?_
 refine A0 rfl ?_ ?_<;>intro h4
 ·have db:q=0:=Z;subst db
  iterate  13 refine G ?_
  refine Az rfl rfl rfl rfl (IM hL i0 0 Q z X J2 au z) ?_;rintro _ J3 ⟨rfl,aw,n3,g3⟩;rw[L]
  iterate  9 refine G ?_
  refine A0 rfl Z (λh5=>?_)
  refine G ?_;refine Dy λdf=>X0 ?_
  iterate  2 refine G ?_
  refine Bg rfl rfl rfl rfl rfl rfl rfl (Ae cP rfl rfl) (Bg rfl rfl rfl rfl rfl rfl rfl (Ac aG rfl rfl rfl) (Bg rfl rfl rfl rfl rfl rfl rfl (Wv (q:=4000) aV rfl rfl) (V (Au rfl rfl rfl) ?_)))
  iterate  2 refine G ?_
  refine Bg rfl rfl rfl rfl rfl rfl rfl (Ae cP rfl rfl) (Bg rfl rfl rfl rfl rfl rfl rfl (Ac aG rfl rfl rfl) (Bg rfl rfl rfl rfl rfl rfl rfl (Wv (q:=100) aV rfl rfl) (V (Au rfl rfl rfl) ?_)))
  iterate  3 refine G ?_
  refine⟨rfl,rfl,?_⟩
  iterate  4 refine G ?_
  refine⟨1,Z,SL,Y,aw,by omega,Z⟩
 ·have dg:q=1:=Z;subst dg
  iterate  8 refine G ?_
  refine A0 rfl ?_ ?_<;>intro h5
  ·have B:4000<M6 T:=by
    have h:(4000:Int)<Int.ofNat (gp T):=of_decide_eq_true h5;have h:4000<gp T:=Int.ofNat_lt.1 h;unfold gp at h;omega
   iterate  6 refine G ?_
   exact⟨_,rfl,_,J,bL hw ⟨by omega,Z⟩,Y,.same rfl,by unfold Xg;rw[if_pos B];rfl,rfl⟩
  ·have B:¬4000<M6 T:=λh=>by
    have h':4000<gp T:=by unfold gp;omega
    exact of_decide_eq_false h5 (Int.ofNat_lt.2 h')
   iterate  5 refine G ?_
   refine A0 rfl ?_ ?_<;>intro h6
   ·have P:100<eZ T 1:=by
     have h:(100:Int)<Int.ofNat (gJ T):=of_decide_eq_true h6;exact Int.ofNat_lt.1 h
    iterate  6 refine G ?_
    exact⟨_,rfl,_,J,bL hw ⟨by omega,Z⟩,Y,.same rfl,by unfold Xg;rw[if_neg B,if_pos P];rfl,rfl⟩
   ·have P:¬100<eZ T 1:=λh=>of_decide_eq_false h6 (Int.ofNat_lt.2 h)
    iterate  3 refine G ?_
    refine A (Bj (n:=O J2) bG rfl) ?_;refine G ?_;obtain⟨e,ay⟩:∃e,O J2=e:=⟨_,rfl⟩;obtain⟨v,ah⟩:∃v,J2.new (.cells [nS])=v:=⟨_,rfl⟩;rw[ay,ah];have n6:O v=e+1:=Z;have g6:∀b,b<e->v.get b=J2.get b:=Z;have o6:v.get e=some (.cells [nS]):=Z
    iterate  6 refine G ?_
    refine A0 rfl (λh7=>?_) Z
    iterate  3 refine G ?_
    refine Ca (uT (g:=g) (F:=F) (c:=c) 0 _) ?_
    iterate  2 refine G ?_
    obtain⟨r,bx⟩:∃r,O v+1=r:=⟨_,rfl⟩;obtain⟨S,ai⟩:∃S,v.bump.new (.loop .ready)=S:=⟨_,rfl⟩;have n7:O S=e+3:=Z;have g7:∀b,b<O v->S.get b=v.get b:=Z;have y7:S.get r=some (.loop .ready):=Z;refine L6 rfl (λtm gz=>?_)
    rw[ai,bx];refine mB (DE hL i0 0 Q z _ ⟨r,tm,Tryz.f70.ntmps,_,_,_⟩ (e+3) (λU=>U.get r=some (.loop .ready)/\U.get e=some (.cells [nS])/\∀b,b<O J->U.get b=J.get b) (λx U=>x=.exit 4/\U.get r=some (.loop (H2 (.exit 4)))/\U.get e=some (.cells [aD eT 2 [T]])/\∀b,b<O J->U.get b=J.get b) S (cX ..) ⟨Z,?s,?j,?y⟩ ⟨y7,Z,Z⟩ z) ?post
    case s=>
     rintro U U' ⟨h1,h2,h3⟩ H;exact⟨Z,Z,Z⟩
    case j=>
     rintro x U U' ⟨h1,h2,h3,h4⟩ H;exact⟨h1,Z,Z,Z⟩
    case y=>
     rintro U ⟨ag,lj,li⟩ lc
     obtain⟨m,f,hT⟩:∃m f,T=.node m f:=by cases T;grind
     have ot:∀J,Cv 125 [.agg [sV m,aD eT 2 f]] J (.agg [sV m,aD eT 2 f]):=λJ=>by
      have:=BW af J
      rwa[hT,Cg]at this
     have ey:aD eT 2 [T]=.sv [sV m,aD eT 2 f] 2 1 none:=by
      show I.sv ([T].flatMap eT) 2 1 none=_
      rw[ej,yL,dA,hT,Cl]
     have ae:I.beq (.agg [sV m,aD eT 2 f]) (.agg [sV m,aD eT 2 f])=true:=by
      have:=Z8 T;rw[hT,Cl]at this;exact this
     have iw:∀N,I.unds N [sV m,aD eT 2 f]=true:=λN=>by
      have:=Es (N:=N) T
      rwa[hT,Cl]at this
     have ij:En T=.agg [sV m,aD eT 2 f]:=by rw[hT,Cg]
     rw[L,ij];obtain⟨o,aj⟩:∃o,U.set r (.loop .busy)=o:=⟨_,rfl⟩;have lq:O o=O U:=Z;have l6:∀b,b≠r->o.get b=U.get b:=Z;have lz:o.get r=some (.loop .busy):=Z;have kf:o.get e=some (.cells [nS]):=Z;obtain⟨d,ax⟩:∃d,O o=d:=⟨_,rfl⟩;obtain⟨w,ak⟩:∃w,o.new (.cells [.str [],nS])=w:=⟨_,rfl⟩;have lu:O w=d+1:=Z;have l7:∀b,b<d->w.get b=o.get b:=Z;have ao:w.get d=some (.cells [.str [],nS]):=Z;have an:w.get e=some (.cells [nS]):=Z
     have bz:B6 o 2 40 nS 1 [.str [],nS]=some (.sr d 0 2 1 none,w):=by rw[<-ak,<-ax];rfl
     obtain⟨C,al⟩:∃C,(w.set d (.cells [sV m,aD eT 2 f])).set e (.cells [.sr d 0 2 1 none])=C:=⟨_,rfl⟩;have lw:O C=d+1:=Z;have kr:C.get e=some (.cells [.sr d 0 2 1 none]):=Z;have ap:C.get d=some (.cells [sV m,aD eT 2 f]):=Z;have l8:∀b,b<d->b≠e->C.get b=w.get b:=Z;obtain⟨W,am⟩:∃W,(C.kill d).set e (.cells [aD eT 2 [T]])=W:=⟨_,rfl⟩;have ly:O W=d+1:=Z;have l5:W.get e=some (.cells [aD eT 2 [T]]):=Z;have l9:∀b,b<d->b≠e->W.get b=C.get b:=Z;refine Tk gz rfl Kr Kr Kr ag Z ?_
     iterate  3 refine G ?_
     refine⟨ag,?_⟩;rw[show U.set r (.loop .busy)=o from aj]
     iterate  2 refine G ?_
     refine Dy λdf=>?_
     refine Avd (Rr:=Dk [(125,[.agg [sV m,aD eT 2 f]],o,.agg [sV m,aD eT 2 f],o)]) (a:=d) (b:=e) (p:=0) (q:=0) [nS,.agg [sV m,aD eT 2 f],.agg [sV m,aD eT 2 f],nV 0,.sv [.str [],nS] 2 1 (some 1),.sr d 0 2 1 none,.pr d 0,An,An] 2 5 7 8 Di (Bw ⟨ot o,trivial⟩) rfl rfl Kr Kr rfl rfl rfl rfl Kr Kr Kr rfl rfl rfl rfl rfl rfl rfl z (by decide) (by decide) (by decide) (by decide) (Bq rfl rfl Bv) (Av aJ rfl bF rfl rfl rfl (new:=[.str [],nS]) rfl bz) (G1 (cs':=[sV m,aD eT 2 f]) ao aG rfl rfl rfl rfl) (G1 (cs':=[.sr d 0 2 1 none]) an aG rfl rfl rfl rfl) (G1 (cs':=[.sr d 0 2 1 none]) (by rw[aU,if_neg z];exact an) aG rfl rfl rfl rfl) rfl rfl rfl ae rfl zz rfl rfl ?_ (λ_ _ _ _ _ _=>by kernel_rfl) (λ_ _ _ _ _=>by kernel_rfl) ?_
     ·intro k hk hc υ R
      match k,hk,hc with
      |0,_,_=>
       have R:υ=o:=by
        rcases R with h|h|h
        ·exact h
        ·exact h
        ·exact(d5 _ Kr h).elim
       subst R;exact⟨_,_,_,rfl,rfl,E8 kf (aG (t:=37)) rfl rfl,rfl,rfl⟩
      |1,_,_=>exact⟨_,_,_,rfl,rfl,Ac (aG (t:=39)) rfl rfl rfl,rfl,ae⟩
      |2,_,h=>cases h
      |3,_,_=>exact⟨_,_,_,rfl,rfl,Bf (bF (t:=37)) rfl rfl rfl,rfl,rfl⟩
      |4,_,_=>exact⟨_,_,_,rfl,rfl,Ai (aJ (t:=37)) bM rfl rfl rfl,rfl,rfl⟩
      |5,_,h=>cases h
      |6,_,_=>exact⟨_,_,_,rfl,rfl,Br (aJ (t:=37)) rfl rfl (by decide),rfl,qW⟩
      |7,_,h=>cases h
      |8,_,h=>cases h
      |k+9,hk,_=>exact absurd hk (by simp)
     rw[al];refine G ?_;refine Dy λdf=>?_
     refine Bo λj0=>?_
     refine HT W [(5,.pv [nV 1]),(17,.pr e 0)] (by rw[<-am];exact Ds.cell j0 kr z λυ hn hk=>.cons (by rw[ey];exact .sr ap hk (by rfl) (jg (iw _))) .nil) z ⟨⟨_,rfl,.same rfl⟩,⟨_,rfl,.same (Jr z)⟩,trivial⟩ ?_
     refine G ?_;refine A (lO l5) ?_
     iterate  2 refine G ?_
     refine A (H4 (p:=1) (q:=1) aV rfl rfl) ?_;refine G ?_;refine A0 rfl (λh8=>?_) Z
     refine G ?_
     refine⟨Z,by simp,⟨rfl,Z,Z,Z⟩,Z,Z⟩
    case post=>
     rintro u J' ⟨⟨x,_,rfl,jc,d9,lg⟩,n9,g9⟩;refine⟨.exit 4,jc,?_⟩
     iterate  2 refine G ?_
     refine A (E8 (by rw[dF,if_neg z];exact d9) aG rfl rfl) ?_
     iterate  4 refine G ?_
     exact⟨_,rfl,_,J,bL hw ⟨Z,Z⟩,Y,.same (by
      show((I.und (O J) (aD eT 2 [T]))&&(true&&true))=true
      rw[Fv Es];rfl),by unfold Xg;rw[if_neg B,if_neg P];rfl,rfl⟩
theorem Aj1:∀(l:List (Nat×List Sp)) {P Q:Pk},Pj l P=some Q->P.ways.length<=P.total->P.total<=40000->Q.ways.length<=Q.total/\Q.total<=40000
 |[],P,Q,h,b,c=>by cases h;grind
 |x::r,P,Q,h,b,c=>by
  unfold Pj at h
  split at h
  ·cases h
  ·rename_i d a
   unfold F7 at a
   split at a
   ·cases a
   ·rename_i e
    cases a;exact Aj1 r h Z Z
theorem Aj2{g k R}:∀(f i b:Nat) (L:List Sp) (a c:List cN),b<=40000->(∀x∈a,x.ways.length<=40000)->Pf g k R f i b L a=some c->∀x∈c,x.ways.length<=40000
 |0,_,_,_,_,_,_,_,h=>by cases h
 |f+1,i,b,L,a,c,j,m,h=>by
  unfold Pf at h
  split at h
  ·grind
  ·split at h
   ·cases h
   ·rename_i s _ P e
    obtain⟨l,d⟩:=Aj1 _ e (bU _) j;refine Aj2 f (i+1) P.total P.list _ c d (λx n=>?_) h
    grind
theorem Aj3{g k R w o}(a:∀r∈g.rules,r.parts.length<=200)(h:Im g k R w=some o):FB o:=by
 obtain⟨d,j,e⟩:=EV h;refine⟨e,λx b=>⟨Aj2 4002 0 0 [w] [] o (bU _) Z h x b,λv i=>?_⟩⟩
 have c:=d x b v i;rw[c.len];obtain⟨l,f⟩:=Ar c.rule;unfold qE du
 grind
theorem Vt{g s t}:(∃e,Fj g s t=(none,e)/\e≠0)\/∃a h w,Fj g s t=(some a,0)/\Im g h t w=some a:=by
 unfold Fj
 by_cases b:Eb g≠0
 ·rw[if_pos b];grind
 ·rw[if_neg b]
  by_cases c:s∉g.sorts
  ·rw[if_pos c];grind
  ·rw[if_neg c]
   by_cases d:t.length>200
   ·rw[if_pos d];grind
   ·rw[if_neg d]
    by_cases f:(Ej g s t).sets.length<=t.length\/(s,0,t.length)∉(Ej g s t).done
    ·rw[if_pos f];grind
    ·rw[if_neg f];cases i:Im g (Ej g s t).done t (s,0,t.length)with
     |none=>exact .inl ⟨_,rfl,by decide⟩
     |some a=>exact .inr ⟨a,_,_,rfl,i⟩
theorem Ap5{g o}(h:∀c,Yx o=some c->c.2.getD 0 0≠1):Mu g o=(Ek,191):=by
 unfold Mu
 grind
theorem RP(d l J)(hD:nE d)(a7:d.vars.length+d.frames.length<1000000)(hl:l.length<1000000):Cv 26 [fy d,Af l] J (.tup [En (B1 d l).1,D (B1 d l).2]):=by
 have hG:=Yc d;have r:=NI d;refine Aj Tryz.func26 rfl rfl λk ac=>?_
 refine G3 ?_;refine A (Bu bG) ?_;refine G2 ?_;obtain⟨p,E⟩:=zE (J.new (.cells [.str [],nS]));rw[E];have n1:O p=O J+1:=Z;have g1:∀b,b<O J->p.get b=J.get b:=Z;have o:p.get (O J)=some (.cells [.str [],nS]):=Z;refine G3 ?_;refine Ca (PJ d _ hD a7) ?_;refine cG ?_;refine Ab rfl ?_ ?_<;>intro h1
 ·have he:(aM d).2≠0:=Z
  have h:B1 d l=(Ek,(aM d).2):=by unfold B1;rw[if_pos he]
  refine G4 ?_;refine A (sO (cs':=[.str [],nS]) o) ?_;refine G3 ?_
  exact⟨[.agg [.str [],nS],_],Am (vs:=[.str [],nS]) (aG (t:=39)) rfl (by simp only[F.cells];grind) rfl (Ba rfl rfl),.tup [.agg [sV [],.sv [] 2 0 none],_],J,bL k ⟨Z,Z⟩,Y,.tup (.cons (.agg (.cons (.same rfl) (.cons (.nils Z) .nil))) (.cons (.same rfl) .nil)),by rw[h];rfl,rfl⟩
 have he:(aM d).2=0:=Z;refine G8 ?_;cases l with
 |nil=>
  have h:B1 d []=(Ek,2):=by unfold B1;grind
  refine Ab rfl (λh2=>?_) Z
  refine G3 ?_;refine A (sO (cs':=[.str [],nS]) o) ?_;refine G3 ?_
  exact⟨[.agg [.str [],nS],_],Am (vs:=[.str [],nS]) (aG (t:=39)) rfl (by simp only[F.cells];grind) rfl (Ba rfl rfl),.tup [.agg [sV [],.sv [] 2 0 none],_],J,bL k ⟨Z,Z⟩,Y,.tup (.cons (.agg (.cons (.same rfl) (.cons (.nils Z) .nil))) (.cons (.same rfl) .nil)),by rw[h];rfl,rfl⟩
 |cons t a=>
  have f:B1 d (t::a)=if D7 t∉(aM d).1.sorts then(Ek,11)else match Fj (aM d).1 (D7 t) a with
   |(none,e)=>(Ek,if e=160 then 190 else e)
   |(some j,_)=>Mu (aM d).1 j:=by conv=>{ lhs;unfold B1 };grind
  have a9:a.length+1<1000000:=hl;refine Ab rfl ?_ ?_<;>intro h2
  ·grind
  refine G2 ?_;refine XS (l:=[(67,[sV t],p,sV (D7 t),p)]) ⟨TM t p,trivial⟩ ?_;refine G ?_;refine V (A1 (i:=0) aJ zF rfl rfl rfl) ?_
  refine G3 ?_
  refine V (Uu (enc:=e1) (l:=t::a) aJ zF rfl rfl zS) ?_
  refine G9 ?_
  refine Ca (pQ (aM d).1.sorts (D7 t) _ (by have:=r.s;omega)) ?_
  refine G2 ?_;refine Ab rfl ?_ ?_<;>intro h3
  ·have hs:D7 t∉(aM d).1.sorts:=Z;have h:B1 d (t::a)=(Ek,11):=Z;refine G3 ?_;refine A (sO (cs':=[.str [],nS]) o) ?_;refine G3 ?_
   exact⟨[.agg [.str [],nS],_],Am (vs:=[.str [],nS]) (aG (t:=39)) rfl (by simp only[F.cells];grind) rfl (Ba rfl rfl),.tup [.agg [sV [],.sv [] 2 0 none],_],J,bL k ⟨Z,Z⟩,Y,.tup (.cons (.agg (.cons (.same rfl) (.cons (.nils Z) .nil))) (.cons (.same rfl) .nil)),by rw[h];rfl,rfl⟩
  have hs:D7 t∈(aM d).1.sorts:=Z;rw[if_neg (λq=>q hs)]at f
  refine G6 ?_;refine Ca (ZL (aM d).1 (D7 t) a _ r z) ?_;refine G3 ?_
  rcases Vt (g:=(aM d).1) (s:=D7 t) (t:=a)with⟨e,X,W⟩|⟨j,ae,w,X,C⟩
  ·rw[X]at f⊢;have f:B1 d (t::a)=(Ek,if e=160 then 190 else e):=f
   iterate 14 refine G ?_
   refine Ab rfl (λL=>absurd (of_decide_eq_true L) W) (λL=>?_)
   refine G5 ?_;refine Ab rfl ?_ ?_<;>intro P
   ·have h:B1 d (t::a)=(Ek,190):=Z;refine G3 ?_;refine A (sO (cs':=[.str [],nS]) o) ?_;refine G3 ?_
    exact⟨[.agg [.str [],nS],_],Am (vs:=[.str [],nS]) (aG (t:=39)) rfl (by simp only[F.cells];grind) rfl (Ba rfl rfl),.tup [.agg [sV [],.sv [] 2 0 none],_],J,bL k ⟨Z,Z⟩,Y,.tup (.cons (.agg (.cons (.same rfl) (.cons (.nils Z) .nil))) (.cons (.same rfl) .nil)),by rw[h];rfl,rfl⟩
   ·have h:B1 d (t::a)=(Ek,e):=Z;refine G4 ?_;refine A (sO (cs':=[.str [],nS]) o) ?_;refine G3 ?_
    exact⟨[.agg [.str [],nS],_],Am (vs:=[.str [],nS]) (aG (t:=39)) rfl (by simp only[F.cells];grind) rfl (Ba rfl rfl),.tup [.agg [sV [],.sv [] 2 0 none],_],J,bL k ⟨Z,Z⟩,Y,.tup (.cons (.agg (.cons (.same rfl) (.cons (.nils Z) .nil))) (.cons (.same rfl) .nil)),by rw[h];rfl,rfl⟩
  ·rw[X]at f⊢;have f:B1 d (t::a)=Mu (aM d).1 j:=f;obtain⟨hF,h0,a8⟩:=EV C;have y:=Aj3 hG.prt C
   iterate 14 refine G ?_
   refine Ab rfl (λL=>?_) Z
   refine G5 ?_;refine Ca (f69 hF y h0 _) ?_;refine fJ ?_;refine cJ 2 ?_ (λH=>?_) ?_
   rotate_left
   ·iterate 2 refine Gn H ?_
    exact Ez
   refine G ?_;refine Ab rfl ?_ ?_<;>intro P
   ·have h:B1 d (t::a)=(Ek,191):=by
     rw[f];refine Ap5 λc U h1=>?_
     unfold kX at P
     grind
    refine G3 ?_;refine A (sO (cs':=[.str [],nS]) o) ?_;refine G3 ?_
    exact⟨[.agg [.str [],nS],_],Am (vs:=[.str [],nS]) (aG (t:=39)) rfl (by simp only[F.cells];grind) rfl (Ba rfl rfl),.tup [.agg [sV [],.sv [] 2 0 none],_],J,bL k ⟨Z,Z⟩,Y,.tup (.cons (.agg (.cons (.same rfl) (.cons (.nils Z) .nil))) (.cons (.same rfl) .nil)),by rw[h];rfl,rfl⟩
   have dv:∃c,Yx j=some c/\c.2.getD 0 0=1:=by
    rw[iT]at P;have K:(kX j).2=0:=Z;have Q:Int.ofNat (kX j).1=1:=Z;have Q:(kX j).1=1:=gI Q;unfold kX at K Q
    grind
   obtain⟨c,U,x⟩:=dv;obtain⟨T,hT⟩:=zE (fT (aM d).1 j c 0)
   have R:∀J,Cv 70 [gY (aM d).1,fV j,nV 1] J (Xg T):=λJ=>by
    have:=f70 r KH hF y h0 U x (by have:=hG.len;omega) J
    grind
   have aa:B1 d (t::a)=if M6 T>4000 then(Ek,4)else if eZ T 1>100 then(Ek,9)else(T,0):=by
    rw[f,Mu,U];simp only[x];rw[show Yy (aM d).1 j c.2 (j.length+1) 0=T from hT]
    rfl
   refine G5 ?_;refine Ca (R _) ?_;unfold Xg
   by_cases u:4000<M6 T
   ·rw[if_pos u];have h:B1 d (t::a)=(Ek,4):=Z;refine cG ?_;refine Ab rfl (λK=>?_) Z
    refine G4 ?_;refine A (sO (cs':=[.str [],nS]) o) ?_;refine G3 ?_
    exact⟨[.agg [.str [],nS],_],Am (vs:=[.str [],nS]) (aG (t:=39)) rfl (by simp only[F.cells];grind) rfl (Ba rfl rfl),.tup [.agg [sV [],.sv [] 2 0 none],_],J,bL k ⟨Z,Z⟩,Y,.tup (.cons (.agg (.cons (.same rfl) (.cons (.nils Z) .nil))) (.cons (.same rfl) .nil)),by rw[h];rfl,rfl⟩
   ·by_cases B:100<eZ T 1
    ·rw[if_neg u,if_pos B];have h:B1 d (t::a)=(Ek,9):=Z;refine cG ?_;refine Ab rfl (λK=>?_) Z
     refine G4 ?_;refine A (sO (cs':=[.str [],nS]) o) ?_;refine G3 ?_
     exact⟨[.agg [.str [],nS],_],Am (vs:=[.str [],nS]) (aG (t:=39)) rfl (by simp only[F.cells];grind) rfl (Ba rfl rfl),.tup [.agg [sV [],.sv [] 2 0 none],_],J,bL k ⟨Z,Z⟩,Y,.tup (.cons (.agg (.cons (.same rfl) (.cons (.nils Z) .nil))) (.cons (.same rfl) .nil)),by rw[h];rfl,rfl⟩
    ·rw[if_neg u,if_neg B];have h:B1 d (t::a)=(T,0):=Z;refine cG ?_;refine Ab rfl Z (λK=>?_)
     refine G ?_
     obtain⟨n,m,S⟩:∃n m,T=.node n m:=by cases T;grind
     have v:eT T=[sV n,aD eT 2 m]:=by rw[S];exact Cl n m
     refine G3 ?_
     refine A (A1 (i:=0) aJ Dh rfl rfl rfl) (A (Ac aG rfl rfl (show Cz 2 true (eT T++_)=some (.agg [sV n,aD eT 2 m])from by rw[<-v];exact A6 (Dh _) _)) ?_)
     refine A (sO (cs':=[sV n,aD eT 2 m]) o) ?_;refine G3 ?_
     exact⟨[.agg [sV n,aD eT 2 m],D 0],Am (vs:=[sV n,aD eT 2 m]) (aG (t:=39)) rfl (by simp only[F.cells];grind) rfl (Ba rfl rfl),_,J,bL k ⟨Z,Z⟩,Y,.same (by
      have:=Es (N:=O J) T;rw[v]at this
      show(I.unds (O J) [sV n,aD eT 2 m]&&(true&&true))=true
      rw[this];rfl),by rw[h];show _=I.tup [.agg (eT T),D 0];rw[v];rfl,rfl⟩
def Nv(l:List aH):Bool:=decide (l[0]? =some [124,45])
end Go.AM

