/- A part of the proof; shortened by program. -/
import Derived.Test.YtmkaboegdoadhaaGreatDoorP24
set_option maxRecDepth 100000
set_option maxHeartbeats 4000000
set_option linter.all false
namespace Go.AM
open Go Go.Proofs
theorem Tv:∀l:List Nat,Fm l l=true
 |[]=>rfl
 |x::r=>by simp only[Fm,cb,cond_true,Tv r]
theorem sj(n):I.beq (nV n) (nV n)=true:=by
 show(Ed .i64 .i64&&Nat.beq n n)=true
 rw[cb];rfl
theorem Axr(s):I.beq (sV s) (sV s)=true:=Tv _
theorem Vq:∀{a b:List I},I.beqs a a=true->I.beqs b b=true->I.beqs (a++b) (a++b)=true
 |[],b,_,h=>h
 |x::a,b,h,k=>by
  simp only[dL,I.beqs,bg]at h⊢;exact⟨h.1,Vq h.2 k⟩
theorem Afq{C:Type}{a}(h:∀x,I.beqs (a x) (a x)=true):∀l:List C,I.beqs (l.flatMap a) (l.flatMap a)=true
 |[]=>rfl
 |x::l=>by rw[ej];exact Vq (h x) (Afq h l)
theorem JD{C enc sz}(h:∀x,I.beqs (enc x) (enc x)=true)(l:List C):I.beq (aD enc sz l) (aD enc sz l)=true:=by
 show(I.beqs (l.flatMap enc) (l.flatMap enc)&&Nat.beq sz sz&&Nat.beq l.length l.length&&true)=true
 rw[Afq h,cb,cb];rfl
theorem wz{x}(h:I.beq x x=true):I.beqs [x] [x]=true:=by simp only[I.beqs,h,dR]
theorem Asu(w):I.beqs (fQ w) (fQ w)=true:=by
 have:=JD (enc:=eN) (sz:=1) (λn=>wz (sj n)) w.kids
 simp only[fQ,I.beqs,sj,this,dR]
theorem YY(x):I.beqs (cQ x) (cQ x)=true:=by
 have:=JD (sz:=2) Asu x.ways;simp only[cQ,I.beqs,sj,Axr,this,dR]
theorem zz{a s n c}:I.beq (.sr a 0 s n c) (.sr a 0 s n c)=true:=by
 have b:kW c c=true:=by
  cases c with
  |none=>rfl
  |some x=>exact cb x
 show(Nat.beq a a&&Nat.beq 0 0&&Nat.beq s s&&Nat.beq n n&&kW c c)=true
 rw[b,cb,cb,cb,cb];rfl
def Lb:List Oper->List I->Ad->Nat->Ad
 |_,_,a,0=>a
 |o::r,v::b,a,k+1=>Lb r b (Dt o.dst v a) k
 |_,_,a,_=>a
theorem Vr{nt}:∀{a:List Oper} {vl:List I} {d:Ad} {b:Tr I},Has b d->a.length=vl.length->a.all (λo=>B0 nt o.dst)=true->∃c,Adi nt a vl b=some c/\∀k,k<=a.length->Has (c.getD k .e) (Lb a vl d k)
  |[],[],d,b,h,_,_=>⟨[b],rfl,λk f=>by cases (show k=0 by simpa using f);exact h⟩
  |o::r,v::p,d,b,h,m,e=>by
    simp only[gX,bg]at e;obtain⟨n,g,i⟩:=C6 (dst:=o.dst) e.1 h v
    obtain⟨c,j,l⟩:=Vr (vl:=p) i (by simpa using m) e.2
    refine⟨b::c,by simp only[Adi,g,j],λk f=>?_⟩
    cases k with
    |zero=>exact h
    |succ k=>exact l k (by simpa using f)
  |[],_::_,_,_,_,h,_=>by simp at h
  |_::_,[],_,_,_,h,_=>by simp at h
def Vs(n:Nat)(b a:List Nat)(x:Nd×List Nat):Bool:=
 (a.all λe=>x.1.D.contains e|| !Sz b a x.1.D e||x.2.contains e)&&
 (List.range n).all λk=>x.1.D.contains k|| !Sz b a x.1.D k||zu b x.1.aC k
theorem Ajx{E G R T d b a x}(h:Vs G.length b a x=true)(P:∀k,k<G.length->a.contains k=false->Lp E G R T d x.1.J k=true):Hm E G R T d b a x=true:=by
 unfold Vs at h;unfold Hm;rw[bg]at h⊢;refine⟨h.1,?_⟩;rw[b_];intro k f;have e:=(b_.1 h.2) k f;have c:k<G.length:=jW.1 f;cases g:a.contains k with
 |true=>simpa using e
 |false=>rw[P k c g];simpa using e
theorem UP{E nt B l Q f J q id G}(d)(hm:E.P.follows .mixedOrders=true)(hl:G.toList.length=d.length)(g:G.toList.all (λo=>B0 nt o.dst)=true)(r:(Eu G (Region.before G).toList&&Fo G)=true)
  (P:∀(c:List (Tr I)),(∀k,k<=G.toList.length->Has (c.getD k .e) (Lb G.toList d f k))->∃i b,Ne E G.toList (λ_ _ _=>none) (λk=>c.getD k .e) (λk=>d.getD k .any) (Region.before G).toList (A8 E G.toList 0) [] J=some (i,b)/\b.J=q/\(∀k U,k<G.toList.length->(A8 E G.toList 0).contains k=false->Lp E G.toList (λ_ _ _=>none) (λk=>c.getD k .e) (λk=>d.getD k .any) U k=true)/\(i++[(b,[])]).all (Vs G.toList.length (Region.before G).toList (A8 E G.toList 0))=true/\(i.all λx=>(A8 E G.toList 0).any λe=> !x.1.D.contains e)=true)
  (k:Q .normal (Lb G.toList d f G.toList.length) q):T E nt l B (.region id G true) Q f J:=by
 intro ro n a7 C w tm a ht st t;obtain⟨c,N,p⟩:=Vr (nt:=nt) ht hl g;obtain⟨i,b,R,S,W,s,X⟩:=P c p
 have hp:Rd E G (λ_ _ _=>none) ⟨tm,nt,l,J⟩ d=some ⟨c.getD G.size .e,nt,l,b.J⟩:=by
  unfold Rd;simp only[N,r,R];rw[X]
  have:(i++[(b,[])]).all (Hm E G.toList (λ_ _ _=>none) (λk=>c.getD k .e) (λk=>d.getD k .any) (Region.before G).toList (A8 E G.toList 0))=true:=by
   rw[b_]at s⊢;exact λx hx=>Ajx (s x hx) λk hk j=>W k _ hk j
  rw[this];rfl
 refine wpIn_mono (Ss hm sQ st hp) λe a' w' j=>?_
 obtain⟨y,u,v,K,L,m⟩:=j;rw[cI]at u;subst u
 have h:G.size=G.toList.length:=by simp
 refine⟨.normal,_,_,b.J,v,K,p _ (pD h),?_,L,bD t m.next,m.base t⟩;rw[h,S];exact k
theorem FY{E G R T c J U k o f v}(d:G[k]? =some o)(H:o.guard=none)(m:Has (T k) f)(b:c k=v)(Q:I.beq v v=true)(h:As E R o.op f J v U):Lp E G R T c J k=true:=by
 unfold Lp
 have a:Bn G o (T k)=some true:=by unfold Bn;rw[H]
 simp only[d,a,h (T k) m,b,Q]
theorem O5{E ops R o f n J U v}(H:o.guard=none)(m:Has n f)(h:As E R o.op f J v U):nR E ops R o n J=some (v,U):=by
 unfold nR
 have a:Bn ops o n=some true:=by unfold Bn;rw[H]
 simp only[a,h n m]
theorem YE{E nt B df Q f J a g d id ops}(b i j e){G K oe}{t x y t' x' y'}{l u m C h q p c L}(hm:E.P.follows .mixedOrders=true)(hl:ops.toList.length=b.length)(hd:ops.toList.all (λo=>B0 nt o.dst)=true)(S:(Eu ops (Region.before ops).toList&&Fo ops)=true)
  (P:A8 E ops.toList 0=[i,j,e])(ae:ops.toList[i]? =some G)(af:ops.toList[j]? =some K)(ac:ops.toList[e]? =some oe)(hb:((Region.before ops).toList.getD j 0).testBit i=false)
  (a9:G.op=.makeSlice t x y)(aa:K.op=.makeSlice t' x' y')(X:G.guard=none)(w:K.guard=none)(n:oe.guard=none)(W:Nat.beq i j=false)(a7:i<=ops.toList.length)(a8:j<=ops.toList.length)(N:e<=ops.toList.length)
  (h1:As E (λ_ _ _=>none) G.op (Lb ops.toList b f i) J (.sr (O J) 0 l u h) a)(h2:As E (λ_ _ _=>none) K.op (Lb ops.toList b f j) J (.sr (O J) 0 m C q) g)(gi:a.get (O J)=some (.cells p))(gj:g.get (O J)=some (.cells c))
  (ah:b.getD i .any=.sr (O J+2) 0 l u h)(ai:b.getD j .any=.sr (O J+3) 0 m C q)
  (h3:As E (λ_ _ _=>none) oe.op (Lb ops.toList b f e) (((((a.new (.cells c)).kill (O J)).kill (O J+1)).new (.cells p)).new (.cells c)) L d)(ag:b.getD e .any=L)(r:I.beq L L=true)
  (cy:∀k,k<ops.toList.length->([i,j,e]:List Nat).contains k=false->∀U:F,∃o v U',ops.toList[k]? =some o/\o.guard=none/\As E (λ_ _ _=>none) o.op (Lb ops.toList b f k) U v U'/\b.getD k .any=v/\I.beq v v=true)
  (dc:∀(v1 v2:I) (l m s3 s4 s5:F),([((⟨[],l,[]⟩:Nd),[i,j]),(⟨[i],m,[(i,v1)]⟩,[j]),(⟨[j],s3,[(j,v2)]⟩,[i]),(⟨[j,i],s4,[]⟩,[e]),(⟨[e,j,i],s5,[]⟩,[])]:NL).all (Vs ops.toList.length (Region.before ops).toList [i,j,e])=true)
  (cw:∀(v1 v2:I) (l m s3 s4:F),(([((⟨[],l,[]⟩:Nd),[i,j]),(⟨[i],m,[(i,v1)]⟩,[j]),(⟨[j],s3,[(j,v2)]⟩,[i]),(⟨[j,i],s4,[]⟩,[e])]:NL).all λx=>([i,j,e]:List Nat).any λe=> !x.1.D.contains e)=true)
  (k:Q .normal (Lb ops.toList b f ops.toList.length) d):T E nt df B (.region id ops true) Q f J:=by
 refine UP b hm hl hd S (λtl s=>?_) k
 rw[P];have e1:=O5 (ops:=ops.toList) X (s i a7) h1;have e2:=O5 (ops:=ops.toList) w (s j a8) h2;have e3:=O5 (ops:=ops.toList) n (s e N) h3
 have ip:N2 E ops.toList (λ_ _ _=>none) (λk=>tl.getD k .e) (λk=>b.getD k .any) i j [] J=some ([(⟨[],J,[]⟩,[i,j]),(⟨[i],a,[(i,.sr (O J) 0 l u h)]⟩,[j]),(⟨[j],g,[(j,.sr (O J) 0 m C q)]⟩,[i])],((((a.new (.cells c)).kill (O J)).kill (O J+1)).new (.cells p)).new (.cells c)):=by
  unfold N2;simp only[ae,af,e1,e2,a9,aa,gi,gj,ah,ai,W,zz,tF,dR,cond_true]
 have R:Ps E ops.toList (λ_ _ _=>none) (λk=>tl.getD k .e) (λk=>b.getD k .any) e (((((a.new (.cells c)).kill (O J)).kill (O J+1)).new (.cells p)).new (.cells c))=some d:=by
  unfold Ps;simp only[ac,e3,ag,r,cond_true]
 refine⟨[(⟨[],J,[]⟩,[i,j]),(⟨[i],a,[(i,.sr (O J) 0 l u h)]⟩,[j]),(⟨[j],g,[(j,.sr (O J) 0 m C q)]⟩,[i]),(⟨[j,i],((((a.new (.cells c)).kill (O J)).kill (O J+1)).new (.cells p)).new (.cells c),[]⟩,[e])],⟨[e,j,i],d,[]⟩,?_,rfl,λk U hk hc=>?_,dc _ _ _ _ _ _ _,cw _ _ _ _ _ _⟩
 ·simp only[Ne,hb,ip,R]
  rfl
 ·obtain⟨o,v,U',q1,q2,q3,q4,q5⟩:=cy k hk hc U;exact FY q1 q2 (s k (q' hk)) q4 q5 q3
def yE(o:List cN)(c:Cs):I:=.pv [aD cQ 4 o,aD eN 1 c.1,aD eN 1 c.2]
theorem OZ(n):rep [.int .i64 0] n=(List.replicate n 0).flatMap eN:=by
 induction n with
 |zero=>rfl
 |succ n a=>rw[List.replicate_succ,ej,<-a];rfl
theorem MA{J U a n y l}(h:J.get a=some (.cells (l.flatMap eN)))(d:l.length=n)(p:U.get a=none):Fz J U (.sr a 0 1 n y) (aD eN 1 l):=by
 subst d
 have b:Dr (l.length*1) ((l.flatMap eN).drop 0)=some (l.flatMap eN):=by
  have:=D0 (l:=l.flatMap eN) (r:=[]);rw[Dl Ep,dA]at this;exact this
 exact .sr h p b (jg (A2 vM _))
theorem MJ{o}:CI o (List.replicate o.length 0,List.replicate o.length 0) []:=by
 have a:∀n,(List.replicate o.length 0).getD n 0=0:=Z
 refine⟨by simp,by simp,by simp,Z,λn=>?_,Z⟩
 grind
theorem PU{g o}(e:jC g o.length o)(a:0<o.length){c}(h:Yx o=some c):∃E,CI o c E/\0∈E:=by
 obtain⟨E,b,d⟩:=Z5 e _ 0 _ [] c MJ a h;exact⟨E,b.ci,d⟩
theorem QX{g o}(d:jC g o.length o)(b:0<o.length){c}(h:Yx o=some c):c.1.length=o.length/\c.2.length=o.length:=by
 obtain⟨E,a,_⟩:=PU d b h;exact⟨a.l1,a.l2⟩
def md(o:List cN):I:=match Yx o with
 |some c=>.tup [yE o c,D 0]
 |none=>.tup [.nil (.pointer none),D 161]
theorem uU{g o}(Q:jC g o.length o)(j:FB o)(h0:0<o.length)(J):Cv 122 [fV o] J (md o):=by
 unfold md;refine Aj Tryz.func122 rfl rfl λy ai=>?_
 iterate 14 refine G ?_
 refine Ab rfl ?_ ?_<;>intro h1
 ·grind
 ·skip
  refine cD ?_;refine Bz o.length (λs=>[(1,.pv [aD cQ 4 o]),(16,aD cQ 4 o),(17,nV o.length),(18,nV s)]) (λs a=>a=J) SL rfl ?_
  rintro s a ac X;subst X;refine G5 ?_;refine Ab rfl ?_ ?_<;>intro h2
  ·have bc:s<o.length:=Int.ofNat_lt.1 (of_decide_eq_true h2);have aa:=j.1;obtain⟨x,hx⟩:=Ar bc;have E:=bA hx;have a9:=j.2 x E;refine G5 ?_;refine A (A1 aJ Mw rfl rfl hx) (A (Ac aG rfl rfl (A6 (Mw x) _)) (Ho bG aG rfl zF rfl (A7 (Mw x)) rfl rfl ?_))
   refine G9 ?_;refine Bz x.ways.length (λK=>[(1,.pv [aD cQ 4 o]),(16,aD cQ 4 o),(17,nV o.length),(18,nV s),(23,aD fQ 2 x.ways),(24,nV x.ways.length),(25,nV K)]) (λK N=>N=a) SL rfl ?_
   rintro K N ae a7;subst a7;refine G5 ?_;refine Ab rfl ?_ ?_<;>intro h3
   ·have bv:K<x.ways.length:=Int.ofNat_lt.1 (of_decide_eq_true h3);obtain⟨w,C⟩:=Ar bv;have B:=bA C;have ag:=a9.2 w B;refine G5 ?_;refine A (A1 aJ Gq rfl rfl C) (A (Ac aG rfl rfl (A6 (Gq w) _)) (Ho bG aG rfl zF rfl (A7 (Gq w)) rfl rfl ?_))
    refine G9 ?_;refine Bz w.kids.length (λL=>[(1,.pv [aD cQ 4 o]),(16,aD cQ 4 o),(17,nV o.length),(18,nV s),(23,aD fQ 2 x.ways),(24,nV x.ways.length),(25,nV K),(30,aD eN 1 w.kids),(31,nV w.kids.length),(32,nV L)]) (λL J4=>J4=N) SL rfl ?_
    rintro L J4 af a8;subst a8;refine G5 ?_;refine Ab rfl ?_ ?_<;>intro h4
    ·have dy:L<w.kids.length:=Int.ofNat_lt.1 (of_decide_eq_true h4);obtain⟨k,r⟩:=Ar dy;have ah:=(Q x E w B).kid k (bA r);refine G5 ?_;refine A (A1 aJ Ep rfl rfl r) ?_;refine G8 ?_;refine cJ 5 ?_ (λH=>?_) ?_
     rotate_left
     ·iterate 5 refine Gn H ?_
      exact Ez
     refine G ?_;refine Ab rfl ?_ ?_<;>intro h5
     ·grind
     ·skip
      refine G5 ?_;refine⟨dy,SL,rfl⟩
    ·skip
     refine G5 ?_;refine⟨bv,SL,rfl⟩
   ·skip
    refine G5 ?_;refine⟨bc,SL,rfl⟩
  ·skip
   refine G2 ?_;obtain⟨vl,aj⟩:∃vl:List I,[fV o,.pv [aD cQ 4 o],aD cQ 4 o,nV o.length,.sr (O a+2) 0 1 o.length (some o.length),.pv [aD cQ 4 o],aD cQ 4 o,nV o.length,.sr (O a+3) 0 1 o.length (some o.length),.agg [aD cQ 4 o,.sr (O a+2) 0 1 o.length (some o.length),.sr (O a+3) 0 1 o.length (some o.length)],.pr (O a+4) 0,.pr (O a+4) 0]=vl:=⟨_,rfl⟩;have f:I.beq (aD cQ 4 o) (aD cQ 4 o)=true:=JD YY o
   have v:I.beq (.pr (O a+4) 0) (.pr (O a+4) 0)=true:=by
    show(Nat.beq _ _&&Nat.beq 0 0)=true
    rw[cb];rfl
   have bn:o.length*(8+1)<=az:=by simp only[az];have:=j.1;omega
   refine YE [fV o,.pv [aD cQ 4 o],aD cQ 4 o,nV o.length,.sr (O a+2) 0 1 o.length (some o.length),.pv [aD cQ 4 o],aD cQ 4 o,nV o.length,.sr (O a+3) 0 1 o.length (some o.length),.agg [aD cQ 4 o,.sr (O a+2) 0 1 o.length (some o.length),.sr (O a+3) 0 1 o.length (some o.length)],.pr (O a+4) 0,.pr (O a+4) 0] 4 8 10 Di rfl rfl Kr Kr rfl rfl rfl Kr rfl rfl rfl rfl rfl rfl zD zD zD (O3 (n:=o.length) aJ rfl rfl bn) (O3 (n:=o.length) aJ rfl rfl bn) (by rw[a5,if_pos rfl]) (by rw[a5,if_pos rfl]) rfl rfl (Q0 (n:=O a+4) (cs:=[aD cQ 4 o,.sr (O a+2) 0 1 o.length (some o.length),.sr (O a+3) 0 1 o.length (some o.length)]) aG rfl rfl (by rw[Ao,Ao,B3,B3,Ao,Ao])) rfl v ?_ (λ_ _ _ _ _ _ _=>by kernel_rfl) (λ_ _ _ _ _ _=>by kernel_rfl) ?_
   ·intro k r hc U
    match k,r,hc with
    |0,_,_=>exact⟨_,_,_,rfl,rfl,Ac (aG (t:=147)) rfl rfl rfl,rfl,by simp only[I.beq,I.beqs,f,dR]⟩
    |1,_,_=>exact⟨_,_,_,rfl,rfl,Ae (cP (t:=147) (i:=0)) rfl rfl,rfl,by simp only[I.beq,I.beqs,kn,f,dR]⟩
    |2,_,_=>exact⟨_,_,_,rfl,rfl,Ac (aG (t:=145)) rfl rfl rfl,rfl,f⟩
    |3,_,_=>exact⟨_,_,_,rfl,rfl,Jl (bF (t:=145)) rfl,rfl,sj _⟩
    |4,_,h=>cases h
    |5,_,_=>exact⟨_,_,_,rfl,rfl,Ae (cP (t:=147) (i:=0)) rfl rfl,rfl,by simp only[I.beq,I.beqs,kn,f,dR]⟩
    |6,_,_=>exact⟨_,_,_,rfl,rfl,Ac (aG (t:=145)) rfl rfl rfl,rfl,f⟩
    |7,_,_=>exact⟨_,_,_,rfl,rfl,Jl (bF (t:=145)) rfl,rfl,sj _⟩
    |8,_,h=>cases h
    |9,_,_=>exact⟨_,_,_,rfl,rfl,Ut (z8 (t:=250)) rfl rfl,rfl,by simp only[I.beq,I.beqs,f,cb,kW,dR]⟩
    |10,_,h=>cases h
    |11,_,_=>exact⟨_,_,_,rfl,rfl,Gd rfl,rfl,v⟩
    |k+12,r,_=>exact absurd r zS
   obtain⟨q,e⟩:=zE (((((((a.new (.cells (rep [.int .i64 0] o.length))).new (.cells (rep [.int .i64 0] o.length))).kill (O a)).kill (O a+1)).new (.cells (rep [.int .i64 0] o.length))).new (.cells (rep [.int .i64 0] o.length))).new (.cells [aD cQ 4 o,.sr (O a+2) 0 1 o.length (some o.length),.sr (O a+3) 0 1 o.length (some o.length)]));rw[e]
   have n5:O q=O a+5:=by rw[<-e];simp only[Ao,B3]
   have P:ke o (O a+4) (O a+2) (O a+3) (List.replicate o.length 0,List.replicate o.length 0) q:=by
    refine⟨?_,?_,?_,by omega,by omega,λm=>?_⟩
    ·grind
    ·rw[<-e,a5,if_neg Z,a5,if_neg Z,a5,if_pos Z,OZ]
    ·rw[<-e,a5,if_neg Z,a5,if_pos Z,OZ]
    grind
   have g5:∀b,b<O a->q.get b=a.get b:=Z;refine G4 ?_;refine Az rfl rfl rfl rfl (f157 Q j (o.length+1) 0 (List.replicate o.length 0,List.replicate o.length 0) [] q MJ Z h0 P) ?_;intro u6 J6 d;obtain⟨b6,rfl⟩:=po.bool d;obtain⟨n6,g6,d⟩:=d
   have u:Below (O a) a J6:=⟨by omega,Z⟩
   refine G2 ?_;have S:Yx o=La o (o.length+1) 0 (List.replicate o.length 0,List.replicate o.length 0):=rfl;rw[<-S]at d;cases p:Yx o with
   |none=>
    rw[p]at d;obtain rfl:=I.bool.inj d;refine Ab rfl (λh5=>?_) Z
    refine G6 ?_;exact⟨_,rfl,_,a,bL y u,Y,.same rfl,rfl,rfl⟩
   |some c=>
    rw[p]at d;obtain⟨R,l⟩:=d;obtain rfl:=I.bool.inj R;obtain⟨T,W⟩:=QX Q h0 p;refine Ab rfl Z (λh5=>?_)
    refine G8 ?_;refine⟨_,rfl,.tup [yE o c,D 0],a,bL y u,Y,.tup (.cons (.pr l.ob (y.none z) (.cons (.same (Fv Vp o)) (.cons (MA l.s T (y.none z)) (.cons (MA l.t W (y.none z)) .nil)))) (.cons (.same rfl) .nil)),rfl,rfl⟩
def kX(o:List cN):Nat×Int:=match Yx o with
 |none=>(0,161)
 |some c=>if 1000000000<c.2.getD 0 0 then(0,15)else(c.2.getD 0 0,0)
theorem f69{g o}(k:jC g o.length o)(f:FB o)(e:0<o.length)(J):Cv 69 [fV o] J (.tup [nV (kX o).1,D (kX o).2]):=by
 refine Aj Tryz.func69 rfl rfl λh n=>?_
 refine G9 ?_;refine Ca (uU k f e J) ?_;unfold md;cases d:Yx o with
 |none=>
  iterate 14 refine G ?_
  refine Ab rfl (λm=>?_) Z
  refine G7 ?_
  exact⟨_,rfl,_,J,a_ h Y zN,Y,.same rfl,by unfold kX;rw[d];rfl,rfl⟩
 |some c=>
  have b:=O4 (l:=c.2) (i:=0) (by rw[(QX k e d).2];exact e)
  iterate 14 refine G ?_
  refine Ab rfl Z (λm=>?_)
  refine G6 ?_;refine A (A1 aJ Ep rfl rfl b) ?_;refine G4 ?_;refine Ab rfl ?_ ?_<;>intro j
  ·have a:1000000000<c.2.getD 0 0:=Int.ofNat_lt.1 (of_decide_eq_true j);refine G6 ?_
   exact⟨_,rfl,_,J,a_ h Y zN,Y,.same rfl,by unfold kX;rw[d];simp only[if_pos a];rfl,rfl⟩
  ·have a:¬1000000000<c.2.getD 0 0:=λq=>of_decide_eq_false j (Int.ofNat_lt.2 q)
   refine G7 ?_;refine A (A1 aJ Ep rfl rfl b) ?_;refine G5 ?_
   exact⟨_,rfl,_,J,a_ h Y zN,Y,.same rfl,by unfold kX;rw[d];simp only[if_neg a];rfl,rfl⟩
def lV(g:Gr)(o:List cN)(c:Cs):I:=.pv [yE o c,Af g.sorts,aD eR 4 g.rules]
theorem xp{g o c w}(d:w.kids.length<=1000000)(X:∀k∈w.kids,k<c.2.length/\c.2.getD k 0<=cS)(J):Cv 158 [lV g o c,.agg (fQ w)] J (nV (Gp c.2 w)):=by
 refine Aj Tryz.func158 rfl rfl λv u=>?_
 iterate 18 refine G ?_
 refine Ci (λq:Nat×Nat=>[(0,lV g o c),(5,nV q.2),(9,aD eN 1 w.kids),(10,nV w.kids.length),(11,nV q.1)]) (λq p=>p=J/\q.1<=w.kids.length/\q.2<=cS/\(w.kids.drop q.1).foldl (λn k=>min (n*c.2.getD k 0) cS) q.2=Gp c.2 w) (λq=>w.kids.length-q.1) (0,1) SL ⟨rfl,bU _,by show 1<=cS;decide,rfl⟩ ?_
 rintro⟨h,m⟩ p ⟨rfl,f,e,a⟩;have f:h<=w.kids.length:=f;have e:m<=cS:=e;have a:(w.kids.drop h).foldl (λn k=>min (n*c.2.getD k 0) cS) m=Gp c.2 w:=a
 refine G5 ?_;refine Ab rfl ?_ ?_<;>intro r
 ·have s:h<w.kids.length:=Int.ofNat_lt.1 (of_decide_eq_true r);obtain⟨k,b⟩:=Ar s;obtain⟨i,j⟩:=X k (bA b);have l:=NU e j;rw[A4 b,iU]at a;refine G5 ?_;refine A (A1 aJ Ep rfl rfl b) ?_
  iterate 13 refine G ?_
  refine A (A1 aJ Ep rfl rfl (O4 i)) ?_;refine G ?_;refine A (MR aV rfl rfl l) (A (BI aV rfl) ?_);refine G6 ?_;refine⟨(h+1,min (m*c.2.getD k 0) cS),Z,SL,rfl,Z,Nat.min_le_right _ _,a⟩
 ·have t:w.kids.length<=h:=dQ.1 (Int.not_lt.1 (λq=>of_decide_eq_false r q))
  rw[cv t,List.foldl_nil]at a;refine G7 ?_;exact⟨_,rfl,_,_,a_ v Y zN,Y,.same rfl,congrArg nV a,rfl⟩
inductive KB:Ax->Prop
 |node {l:aH} {ks:List Ax}:ks.length<=100000->(∀k∈ks,KB k)->KB (.node l ks)
theorem BW{t}(h:KB t):∀J:F,Cv 125 [En t] J (En t):=by
 induction h with
 |@node l s hl hk ih=>
  intro J;rw[En,Cl];refine Aj Tryz.func125 rfl rfl λT a9=>?_
  refine G3 ?_;refine A (Bu bG) ?_;refine G6 ?_
  refine A (Bj (n:=O J+1) bG (by rw[Ao])) ?_
  refine A (sO (a:=O J+1) (off:=0) (cs:=[.str [],nS]) (cs':=[sV l,nS]) Z) ?_;refine G ?_;obtain⟨u,C⟩:=zE (((J.new (.cells [.str [],nS])).new (.cells [.str [],nS])).set (O J+1) (.cells [sV l,nS]));rw[C];have n1:O u=O J+2:=Z;have X:∀b,b<O J->u.get b=J.get b:=Z;have r1:u.get (O J)=some (.cells [.str [],nS]):=Z;have o1:u.get (O J+1)=some (.cells [sV l,nS]):=Z;refine G9 ?_
  refine Bz s.length (λj=>[(2,.pr (O J) 0),(3,.pr (O J+1) 0),(10,aD eT 2 s),(11,nV s.length),(12,nV j)]) (λj d=>∃v,d.get (O J)=some (.cells [.str [],nS])/\d.get (O J+1)=some (.cells [sV l,v])/\aW d (O J+2) eT 2 (s.take j) v/\O J+2<=O d/\∀b,b<O J->d.get b=J.get b) SL ⟨_,r1,o1,.nil,by omega,X⟩ ?_
  rintro j d a7 ⟨v,y,r,m,n0,W⟩;refine G5 ?_;refine Ab rfl ?_ ?_<;>intro R
  ·have Q:j<s.length:=Int.ofNat_lt.1 (of_decide_eq_true R);obtain⟨k,p⟩:=Ar Q
   obtain⟨g,f,rfl⟩:∃g f,k=.node g f:=by cases k;grind
   have o:eT (.node g f)=[sV g,aD eT 2 f]:=Cl g f;have B:=List.take_add_one (l:=s) (i:=j);rw[p]at B
   obtain⟨E,w,n2,K,L⟩:=jB (by':=40) Dh z m (.node g f) (by simp only[az,gC];omega)
   rw[gC,nO z,o]at w;rw[gC,nO z]at K;have x:=ih _ (bA p) d;rw[En,o]at x;obtain⟨P,c⟩:=zE (E.set (O J+1) (.cells [sV l,.sr (O d) 0 2 (j+1) none]))
   have N:E.get (O J+1)=some (.cells [sV l,v]):=(L _ z (λe=>by have:=(m.adr_lt e).1;omega)).trans r
   have a8:E.get (O J)=some (.cells [.str [],nS]):=(L _ z (λe=>by have:=(m.adr_lt e).1;omega)).trans y
   refine G5 ?_
   refine A (A1 aJ Dh rfl rfl p) (A (Ac aG rfl rfl (show Cz 2 true (eT (Ax.node g f)++_)=some (.agg [sV g,aD eT 2 f])from by rw[<-o];exact A6 (Dh _) _)) ?_)
   refine G2 ?_;refine XX 1 (l:=[(125,[.agg [sV g,aD eT 2 f]],d,.agg [sV g,aD eT 2 f],d)]) ⟨x,trivial⟩ ?_;refine G ?_;refine V (lO r) ?_;refine G2 ?_;refine V (Ai aJ bM rfl rfl rfl) (DT (Av aJ rfl bF rfl rfl rfl (new:=[sV g,aD eT 2 f]) rfl w) ?_);refine G ?_;refine DT (sO (cs':=[sV l,.sr (O d) 0 2 (j+1) none]) N) ?_;refine G ?_;rw[c]
   refine⟨(by intro e S;simp at S;rcases S with rfl|rfl<;>exact .refl),?_⟩
   refine G4 ?_
   refine⟨Q,SL,_,Z,by rw[<-c,aU,if_pos rfl],by rw[B];exact K.of_get Z (λb q=>by rw[<-c,aU,if_neg (by have:=(K.adr_lt q).1;omega)]),Z,λb hb=>by rw[<-c,aU,if_neg z,L _ z (λe=>by have:=(m.adr_lt e).1;omega)];exact W b hb⟩
  ·have U:s.length<=j:=dQ.1 (Int.not_lt.1 (λq=>of_decide_eq_false R q))
   rw[dG U]at m;refine G3 ?_;refine A (lO r) (A (sO (cs':=[sV l,v]) y) ?_);refine G ?_;refine Bo λaa=>?_
   refine G ?_
   exact⟨[.agg [sV l,v]],Am (vs:=[sV l,v]) (aG (t:=39)) rfl (by simp only[F.cells];grind) rfl rfl,_,J,bL T ⟨Z,Z⟩,Y,.agg (.cons (.same rfl) (.cons (aW.fz Dh (m.of_get Z (λb q=>by rw[aU,if_neg (by have:=(m.adr_lt q).1;omega)])) (λa ha=>T.none z) (by rw[<-No];exact Jq _)) .nil)),rfl,rfl⟩
section
mutual
theorem CC:∀(t:Ax) (lv:Nat),eZ t (lv+1)=eZ t lv+1
 |.node _ ks,lv=>by unfold eZ;exact NT ks (lv+1) lv
theorem NT:∀(l:List Ax) (lv d:Nat),iW l (lv+1) (d+1)=iW l lv d+1
 |[],_,_=>rfl
 |t::r,lv,d=>by
  unfold iW
  rw[CC t lv,show max (d+1) (eZ t lv+1)=max d (eZ t lv)+1 by omega,NT r lv]
end
theorem Anv:∀(l:List Ax) (c a b:Nat),iW l c (max a b)=max (iW l c a) b
 |[],_,_,_=>rfl
 |t::r,c,a,b=>by
  unfold iW
  rw[show max (max a b) (eZ t c)=max (max a (eZ t c)) b by omega,Anv r c]
def gp(t:Ax):Nat:=min (M6 t) 4001
def gJ(t:Ax):Nat:=eZ t 1
def kZ(t:Ax):List I:=[nV (gp t),nV (gJ t),.bool true]
def nJ(t:Ax):I:=.agg (kZ t)
theorem OP{l}:gp (.node l [])=1/\gJ (.node l [])=1:=⟨by unfold gp M6 mo;rfl,by unfold gJ eZ iW;rfl⟩
theorem SG{l k r}:gp (.node l (k::r))=min (gp (.node l r)+gp k) 4001:=by
 unfold gp;rw[M6,mo,M6];omega
theorem Zk{l k r}:gJ (.node l (k::r))=max (gJ (.node l r)) (gJ k+1):=by
 unfold gJ;rw[eZ,iW,eZ,Anv,CC]
theorem QB(t):gp t<=4001:=Nat.min_le_right _ _
theorem Sh{i a}:rW i a<=cS:=by
 have:∀(l:List Wy) (t:Nat),t<=cS->l.foldl (λt w=>min (t+Gp i w) cS) t<=cS:=by
  intro l
  induction l with
  |nil=>exact λt h=>h
  |cons w l b=>exact λt _=>b _ (Nat.min_le_right _ _)
 exact this a 0 (bU _)
structure iM (g:Gr)(F:List cN)(c:Cs)(E:List Nat):Prop where
 ok:jC g F.length F
 fb:FB F
 ci:CI F c E
 Z:g.rules.length<=1000000
section
variable {g:Gr}{F:List cN}{c:Cs}{E:List Nat}{i n:Nat}{x:cN}
theorem iM.tr(h:iM g F c E)(L:E[i]? =some n):n<c.2.length/\c.2.getD n 0<=cS:=by
 obtain⟨x,b,a,_⟩:=h.ci.ord i n L
 refine⟨?_,by rw[a];exact Sh⟩
 rw[h.ci.l2]
 grind
theorem iM.way(h:iM g F c E)(L:E[i]? =some n)(W:F[n]? =some x){w}(e:w∈x.ways):w.kids.length<=200/\w.rule<g.rules.length/\∀k∈w.kids,(∃j,j<i/\E[j]? =some k)/\k<F.length/\k<c.2.length/\c.2.getD k 0<=cS:=by
 obtain⟨o,d,_,l⟩:=h.ci.ord i n L;rw[W]at d;cases d;have b:=bA W;refine⟨(h.fb.2 x b).2 w e,(h.ok x b w e).rule,λk f=>?_⟩
 obtain⟨j,m,a⟩:=l w e k f;exact⟨⟨j,m,a⟩,(h.ok x b w e).kid k f,(h.tr a).1,(h.tr a).2⟩
theorem As3:∀(l:List Ax) (a d m:Nat),d<=m->(∀t∈l,eZ t a<=m)->iW l a d<=m
 |[],_,_,_,h,_=>h
 |t::r,a,d,m,h,b=>by
  unfold iW;exact As3 r a _ m Z λu c=>b u (ch _ c)
theorem iM.dep(h:iM g F c E):∀(i n:Nat),E[i]? =some n->c.2.getD n 0≠0->gJ (fT g F c n)<=i+1:=by
 intro i
 induction i using Nat.strongRecOn with
 |_ i r=>
  intro n e f;obtain⟨x,w,q,l,u,s,o⟩:=h.ci.first e f;rw[vc h.ci e f q l];unfold gJ eZ;refine As3 _ _ _ _ z λt p=>?_
  obtain⟨k,b,rfl⟩:=dO.1 p;obtain⟨⟨j,m,a⟩,d⟩:=o k b;have:=r j m k a d;unfold gJ at this;rw[CC];omega
theorem iM.len(h:iM g F c E)(L:E[i]? =some n):i<4000:=by
 have a:=h.ci.len;have b:=h.fb.1
 grind
theorem iM.kb(h:iM g F c E):∀(i n:Nat),E[i]? =some n->c.2.getD n 0≠0->KB (fT g F c n):=by
 intro i
 induction i using Nat.strongRecOn with
 |_ i u=>
  intro n a f;obtain⟨x,w,l,m,r,v,p⟩:=h.ci.first a f;rw[vc h.ci a f l m];have s:=h.way a l r;refine .node (by grind) λt q=>?_
  obtain⟨k,d,rfl⟩:=dO.1 q;obtain⟨⟨j,o,b⟩,e⟩:=p k d;exact u j o k b e
end
abbrev K2:=Int×Int
instance:KE K2 where
 k p:=.agg [.int .i64 p.1,.int .i64 p.2]
 eq a b:=by
  obtain⟨s,x⟩:=a;obtain⟨t,u⟩:=b;simp only[aQ.eq,aQ.eqs,Nn,Ed]
  grind
def k2(n:Nat):K2:=(.ofNat n,.ofNat 0)
theorem WL{n m}:k2 n=k2 m↔n=m:=by
 simp only[k2,cE]
 grind
theorem qH(n):D4 M.P 289 (.agg [nV n,nV 0])=some (KE.k (k2 n)):=Kr
def g8(g:Gr)(o:List cN)(c:Cs)(J:F)(a:Nat):Prop:=∃b:GM K2 Ax,eW 289 nJ J a b/\∀n t,b.get (k2 n)=some t->t=fT g o c n
theorem g8.of_get{g o c J U a}(h:g8 g o c J a)(H:U.get a=J.get a):g8 g o c U a:=by
 obtain⟨b,d,e⟩:=h;exact⟨b,d.of_get H,e⟩
theorem g8.put{g o c}{J:F}{a n b}{E:GM K2 Ax}{t}(h:∀n t,E.get (k2 n)=some t->t=fT g o c n)(m:t=fT g o c n):g8 g o c (J.set a (.map 289 (Hi nJ (E.put (k2 n) t)) b)) a:=by
 refine⟨_,eW.put,λf i d=>?_⟩
 rw[tV]at d
 split at d
 ·rename_i e
  obtain rfl:=WL.1 e
  grind
 grind
theorem ZY{f J a}{t l:Nat}{x y q}(L:cW M.P t=true)(W:Ah M f x=some (nV 0))(B:Ah M f y=some (nV q))(h:q≠0):As M a (.binOp .rem t x y l) f J (nV 0) J:=by
 obtain⟨q,rfl⟩:∃k,q=k+1:=⟨q-1,by omega⟩
 exact L0 (p:=0) (q:=.ofNat (q+1)) L W B (by show(C7 (0%(q+1)) λm=>some (I.int .i64 (.ofNat m)))=_;rw[Nat.zero_mod];rfl)
theorem Au7{f J a}{t l:Nat}{x y q}(L:cW M.P t=true)(W:Ah M f x=some (nV 0))(B:Ah M f y=some (nV q))(h:q≠0):As M a (.binOp .quo t x y l) f J (nV 0) J:=by
 obtain⟨q,rfl⟩:∃k,q=k+1:=⟨q-1,by omega⟩
 exact L0 (p:=0) (q:=.ofNat (q+1)) L W B (by show some (Me .i64 (.ofNat (0 / (q+1))))=_;rw[Nat.zero_div];rfl)
end
theorem XG{f J a}{t l:Nat}{x y q}(L:cW M.P t=true)(W:Ah M f x=some (nV 0))(B:Ah M f y=some (nV q))(h:q=0):As M a (.binOp .sub t x y l) f J (nV 0) J:=by
 subst h;exact W2 (p:=0) (q:=0) L W B Y z
theorem fS:(match Ay M.P 289 with|some a=>a.zero|none=>none)=some [.int .i64 0,.int .i64 0]:=Kr
theorem xc{g d c E}(h:iM g d c E){i:Nat}(ih:∀j,j<i->∀n,E[j]? =some n->c.2.getD n 0≠0->∀(e:Nat) (J:F),g8 g d c J e->e<O J->Al M 123 [lV g d c,nV n,nV 0,.mp e] J λv f=>v=nJ (fT g d c n)/\g8 g d c f e/\O J<=O f/\∀b,b<O J->b≠e->f.get b=J.get b)
  (n)(hi:E[i]? =some n)(hn:c.2.getD n 0≠0)(e J)(ai:g8 g d c J e)(ak:e<O J):Al M 123 [lV g d c,nV n,nV 0,.mp e] J λv f=>v=nJ (fT g d c n)/\g8 g d c f e/\O J<=O f/\∀b,b<O J->b≠e->f.get b=J.get b:=by
 obtain⟨a7,⟨r,hM⟩,Q⟩:=ai;refine Aj Tryz.func123 rfl rfl λhw gz=>?_
 refine G2 ?_;refine A (Bu bG) ?_;refine G ?_;obtain⟨y,ae⟩:=zE (J.new (.cells [.int .i64 0,.int .i64 0,.bool false]));rw[ae];have n1:O y=O J+1:=Z;have g1:∀b,b<O J->y.get b=J.get b:=Z;have r1:y.get (O J)=some (.cells [.int .i64 0,.int .i64 0,.bool false]):=Z;have P:y.get e=some (.map 289 (Hi nJ a7) r):=(g1 e ak).trans hM;refine G4 ?_;refine A (G0 fS fW rfl rfl) ?_;refine G2 ?_;cases ho:a7.get (k2 n)with
 |some t=>
  have ht:=Q n t ho;refine G5 ?_;refine A (Nu (o:=some t) zP rfl ⟨r,P⟩ rfl (qH n) ho) ?_;refine cD ?_;refine Ab rfl (λh1=>?_) Z
  refine G3 ?_;refine A (sO (cs':=kZ t) r1) ?_;refine G ?_;refine Bo λS=>?_
  refine G ?_
  exact⟨[nJ (fT g d c n)],Am (vs:=kZ (fT g d c n)) (aG (t:=256)) rfl (by simp only[F.cells];grind) rfl rfl,_,_,a_ S Y zN,Z,.same rfl,rfl,g8.of_get ⟨a7,⟨r,hM⟩,Q⟩ Z,Z,Z⟩
 |none=>
  refine G5 ?_;refine A (Nu (o:=none) zP rfl ⟨r,P⟩ rfl (qH n) ho) ?_;refine cD ?_;refine Ab rfl Z (λh1=>?_)
  refine G4 ?_;refine A (Bj (n:=O J+1) bG n1) (A (sO (a:=O J+1) (off:=0) (cs:=[.int .i64 0,.int .i64 0,.bool false]) (cs':=[nV 1,nV 1,.bool false]) Z) ?_);refine G ?_;obtain⟨L,af⟩:=zE ((y.new (.cells [.int .i64 0,.int .i64 0,.bool false])).set (O J+1) (.cells [nV 1,nV 1,.bool false]));rw[af];have n2:O L=O J+2:=Z;have g2:∀b,b<O y->L.get b=y.get b:=Z;have o2:L.get (O J+1)=some (.cells [nV 1,nV 1,.bool false]):=Z;have r2:L.get (O J)=some (.cells [.int .i64 0,.int .i64 0,.bool false]):=(g2 _ z).trans r1;have ag:L.get e=some (.map 289 (Hi nJ a7) r):=(g2 e z).trans P;obtain⟨x,w,hx,hf,iw,hp,an⟩:=h.ci.first hi hn;have a9:=vc (g:=g) h.ci hi hn hx hf;refine cG ?_;refine A (A1 aJ Mw rfl rfl hx) ?_;refine G6 ?_;refine Bz x.ways.length (λU=>[(0,lV g d c),(2,nV 0),(3,.mp e),(8,.pr (O J) 0),(9,.pv [nV n,nV 0]),(12,.pr (O J+1) 0),(42,aD fQ 2 x.ways),(43,nV x.ways.length),(44,nV U)]) (λU W=>W=L/\∀v∈x.ways.take U,Gp c.2 v=0) SL ⟨rfl,Z⟩ ?_
  rintro U W cx ⟨rfl,jc⟩;refine G5 ?_;refine Ab rfl ?_ ?_<;>intro h2
  ·have bc:U<x.ways.length:=Int.ofNat_lt.1 (of_decide_eq_true h2);obtain⟨v,hv⟩:=Ar bc;have aw:=bA hv;obtain⟨ij,ax,ac⟩:=h.way hi hx aw;have j0:=(h.fb.2 x (bA hx)).1;have au:=List.take_add_one (l:=x.ways) (i:=U);rw[hv]at au;refine G5 ?_;refine A (A1 aJ Gq rfl rfl hv) (A (Ac aG rfl rfl (A6 (Gq v) _)) (Ho bG aG rfl zF rfl (A7 (Gq v)) rfl rfl ?_))
   refine G5 ?_;refine Ca (xp z (λk hk=>(ac k hk).2.2) W) ?_
   refine G9 ?_;refine Ab rfl ?_ ?_<;>intro h3
   ·have hz:Gp c.2 v=0:=Z;refine G4 ?_;refine A (XG aV rfl rfl hz) ?_;refine G7 ?_;refine⟨bc,SL,rfl,λu hu=>?_⟩
    grind
   ·have ap:Gp c.2 v≠0:=λq=>of_decide_eq_false h3 (dQ.2 (pD q))
    have ay:v=w:=by
     rw[<-gK U x.ways,List.find?_append,List.find?_eq_none.2 Z,A4 hv,List.find?_cons_of_pos (by simp[ap])]at hf
     grind
    subst ay;have ao:decide (Int.ofNat v.rule<Int.ofNat g.rules.length)=true:=decide_eq_true (Int.ofNat_lt.2 ax);obtain⟨s,ru⟩:=zE (v.kids.map (fT g d c));have al:s.length=v.kids.length:=Z;rw[ru]at a9;obtain⟨X,N⟩:=zE (W.set (O J+1) (.cells [nV 1,nV 1,.bool (decide (Int.ofNat v.rule<Int.ofNat g.rules.length))]));have n3:O X=O J+2:=Z;have g3:∀b,b≠O J+1->X.get b=W.get b:=Z
    have o3:X.get (O J+1)=some (.cells (kZ (.node (Md g v.rule) (s.drop s.length)))):=by
     rw[<-N,aU,if_pos rfl,ao,qQ,kZ,OP.1,OP.2]
    refine G2 ?_;refine XS (l:=[]) trivial ?_;refine G4 ?_;refine Bg rfl rfl rfl rfl rfl rfl rfl Oq (Bg rfl rfl rfl rfl rfl rfl rfl Oq (Bg rfl rfl rfl rfl rfl rfl rfl Oq (Bg rfl rfl rfl rfl rfl rfl rfl Oq (Bg rfl rfl rfl rfl rfl rfl rfl Oq (Bg rfl rfl rfl rfl rfl rfl rfl Oq (Bg rfl rfl rfl rfl rfl rfl rfl Oq (Bg rfl rfl rfl rfl rfl rfl rfl Oq ?_)))))));refine Bg rfl rfl rfl rfl rfl rfl rfl Oq (V Oq ?_);refine G ?_;refine DT (sO (cs':=[nV 1,nV 1,.bool (decide (Int.ofNat v.rule<Int.ofNat g.rules.length))]) o2) ?_;refine G ?_;rw[N];refine G6 ?_;refine A (xz (p:=.ofNat v.kids.length) (q:=1) aV rfl rfl Z Z) ?_;refine G3 ?_
    refine Ci (λq:Nat=>[(0,lV g d c),(2,nV 0),(3,.mp e),(8,.pr (O J) 0),(9,.pv [nV n,nV 0]),(12,.pr (O J+1) 0),(14,.pv (fQ v)),(16,D (Int.ofNat q-1))]) (λq f=>q<=v.kids.length/\f.get (O J)=some (.cells [.int .i64 0,.int .i64 0,.bool false])/\f.get (O J+1)=some (.cells (kZ (.node (Md g v.rule) (s.drop q))))/\g8 g d c f e/\O J+2<=O f/\∀b,b<O J->b≠e->f.get b=J.get b) (λq=>q) v.kids.length SL ⟨Y,(g3 _ z).trans r2,al▸o3,⟨a7,⟨r,(g3 e z).trans ag⟩,Q⟩,by omega,Z⟩ ?_
    rintro q J4 ⟨ey,ar,m,B,n4,g4⟩;refine G6 ?_;refine fZ 2 ?_ (λH=>?_) ?_
    rotate_left
    ·refine Gn H ?_;refine On H (lO m) ?_;exact Ez
    refine G ?_;refine Ab rfl ?_ ?_<;>intro h4
    ·have a8:0<q:=Z
     obtain⟨q,rfl⟩:∃k,q=k+1:=⟨q-1,by omega⟩
     obtain⟨k,hk⟩:=Ar (l:=v.kids) (i:=q) z;have aq:Int.ofNat (q+1)-1=Int.ofNat q:=Z;rw[aq];obtain⟨⟨j,hj,R⟩,d5,aa,d9⟩:=ac k (bA hk);have C:=(an k (bA hk)).2;have am:s[q]? =some (fT g d c k):=Z;have bz:=h.dep j k R C;have d4:=h.len R;have dm:=m;refine G8 ?_;refine A (A1 aJ Ep rfl rfl hk) ?_
     iterate 16 refine G ?_
     refine A (A1 aJ Ep rfl rfl (O4 aa)) ?_;refine G ?_;refine A (ZY aV rfl rfl C) ?_;refine G ?_;refine Az rfl rfl rfl rfl (ih j hj k R C e J4 B z) ?_;rintro _ J5 ⟨rfl,ah,n5,g5⟩
     iterate 13 refine G ?_
     refine A (A1 aJ Ep rfl rfl (O4 aa)) ?_;refine G ?_;refine A (Au7 aV rfl rfl C) ?_;refine G2 ?_;have K:J5.get (O J+1)=some (.cells (kZ (.node (Md g v.rule) (s.drop (q+1))))):=(g5 _ z z).trans m;obtain⟨T,hT⟩:=zE (Ax.node (Md g v.rule) (s.drop (q+1)))
     have aj:Ax.node (Md g v.rule) (s.drop q)=.node (Md g v.rule) (fT g d c k::s.drop (q+1)):=by rw[A4 am]
     rw[hT]at K;have db:=QB T;have dg:=QB (fT g d c k);have e1:min (Int.ofNat (gp T+gp (fT g d c k))) 4001=Int.ofNat (min (gp T+gp (fT g d c k)) 4001):=Z;have e2:max (Int.ofNat (gJ T)) (Int.ofNat (gJ (fT g d c k)+1))=Int.ofNat (max (gJ T) (gJ (fT g d c k)+1)):=Z;refine G2 ?_;refine A (lO K) ?_;refine G2 ?_;refine A (D3 aV rfl rfl z) ?_;refine A (G' (q:=4001) aV rfl rfl) ?_;refine G ?_;refine A (lO K) ?_;refine G3 ?_;refine A (BE aV rfl rfl) ?_;refine G3 ?_;refine A (sO (cs':=[.int .i64 (min (Int.ofNat (gp T+gp (fT g d c k))) 4001),.int .i64 (max (Int.ofNat (gJ T)) (Int.ofNat (gJ (fT g d c k)+1))),.bool true]) K) ?_;refine G ?_;rw[e1,e2];refine G2 ?_;refine A (xz (p:=.ofNat q) (q:=1) aV rfl rfl Z Z) ?_;refine G2 ?_
     refine⟨q,eU q,SL,by omega,Z,by rw[aU,if_pos rfl,aj,kZ,SG,Zk,hT];rfl,ah.of_get Z,Z,Z⟩
    ·have a8:q=0:=Z;subst a8;rw[kn,<-a9]at m;obtain⟨M4,⟨bx,B⟩,rh⟩:=B;refine G6 ?_;refine A (lO m) (A (K7 (v:=fT g d c n) zP rfl B rfl (qH n) rfl (λ_ h1 h2=>H6 h1 h2 rfl)) ?_)
     refine G3 ?_
     refine A (E8 (by rw[aU,if_neg z];exact m) aG rfl rfl) ?_
     refine A (G1 (cs':=kZ (fT g d c n)) (by rw[aU,if_neg z];exact ar) aG rfl rfl rfl rfl) ?_
     refine G ?_;refine Bo λS=>?_
     refine G ?_
     exact⟨[nJ (fT g d c n)],Am (vs:=kZ (fT g d c n)) (aG (t:=256)) rfl (by simp only[F.cells];grind) rfl rfl,_,_,a_ S Y zN,Z,.same rfl,rfl,g8.of_get (g8.put rh rfl) (by rw[aU,if_neg z]),Z,Z⟩
  ·grind
theorem IM{g o c E}(h:iM g o c E):∀(i n:Nat),E[i]? =some n->c.2.getD n 0≠0->∀(a:Nat) (J:F),g8 g o c J a->a<O J->Al M 123 [lV g o c,nV n,nV 0,.mp a] J λv d=>v=nJ (fT g o c n)/\g8 g o c d a/\O J<=O d/\∀b,b<O J->b≠a->d.get b=J.get b:=by
 intro i
 induction i using Nat.strongRecOn with
 |_ i e=>exact xc h e
theorem YX.up{E d L b c J a}(h:YX E d L c J a):YX E (b::d) L c J a:=λC w i g=>h C w i λe f=>g e (ch _ f)
structure TC (Ls:List RF)(L:RF)(B:Nat)(t:Ax)(S:F->Prop)(aA:XE->F->Prop):Prop where
 lt:L.aY<B
 s:∀U U',S U->(∀b,b<B->U'.get b=U.get b)->S U'
 j:∀x U U',aA x U->(∀b,b<B->U'.get b=U.get b)->aA x U'
 y:∀U,S U->B<=O U->YX M Ls L [En t] U λx U'=>x≠.normal/\aA x U'/\O U<=O U'/\∀b,B<=b->b<O U->U'.get b=U.get b
theorem TC.up{a L b B t S R}(h:TC a L B t S R):TC (b::a) L B t S R:=⟨h.lt,h.s,h.j,λU c d=>(h.y U c d).up⟩
def PY(B:Nat)(J:F)(R:XE->F->Prop)(q:F):Prop:=(∃x,x≠.normal/\R x q)/\O J<=O q/\∀b,B<=b->b<O J->q.get b=J.get b
def eo(J:F)(B:Nat)(K:List Ax)(v:I):Prop:=(K=[]/\v=nS)\/∃a,B<=a/\a<O J/\v=.sr a 0 2 K.length none/\J.get a=some (.cells (K.flatMap eT))
theorem eo.lenA{J B K v}(h:eo J B K v):lenA v=some K.length/\pz v=true:=by
 rcases h with⟨rfl,rfl⟩|⟨a,_,_,rfl,_⟩<;>exact⟨rfl,rfl⟩
theorem eo.of{J q B K v}(h:eo J B K v)(S:O J<=O q)(H:∀b,B<=b->b<O J->q.get b=J.get b):eo q B K v:=by
 rcases h with h|⟨a,c,d,e,f⟩
 ·exact .inl h
 ·exact .inr ⟨a,c,by omega,e,(H a c d).trans f⟩
theorem eo.cellsN{J B K v}(h:eo J B K v):v.cellsN 1=some [v]:=by
 rcases h with⟨rfl,rfl⟩|⟨a,_,_,rfl,_⟩<;>rfl
theorem eo.ld{J B K v}(h:eo J B K v):Cz 1 false ([v].drop 0)=some v:=by
 rcases h with⟨rfl,rfl⟩|⟨a,_,_,rfl,_⟩<;>rfl
theorem eo.fill{J B K v l}(h:eo J B K v):Si [.str [],nS] [(0,1,sV l),(1,1,v)]=some [sV l,v]:=by
 rcases h with⟨rfl,rfl⟩|⟨a,_,_,rfl,_⟩<;>rfl
theorem eo.src{J B K v}(h:eo J B K v):F9 J 2 v K.length=some (K.flatMap eT):=by
 rcases h with⟨rfl,rfl⟩|⟨a,_,_,rfl,b⟩
 ·rfl
 ·have:=D0 (l:=K.flatMap eT) (r:=[]);rw[Dl Dh,dA]at this
  show(match J.cells a with|some c=>Dr (K.length*2) (c.drop 0)|none=>none)=_
  simp only[F.cells,b,kn];exact this
def xu:I->I
 |.sr a o s n _=>.sr a o s n (some n)
 |v=>v
theorem SB{f J n B K v x L b}(h:eo J B K v)(W:Ah M f x=some v)(r:Iz M f L=some (some (nV K.length)))(j:Iz M f b=some (some (nV K.length))):
  As M n (.slice 37 x none L b) f J (xu v) J:=λp c=>by
 obtain⟨w,e,u,k,l,m,o,q,s⟩:=Qc (aJ (t:=37));have i:opdO M p none=none:=rfl;have g:=dS (Nat.le_refl K.length)
 rcases h with⟨rfl,rfl⟩|⟨a,_,_,rfl,_⟩
 ·have d:Do 0 (some 0) none (some (nV 0)) (some (nV 0))=some (0,0,some 0):=rfl;simp only[bB,Aw,k,l,m,c.opd W,c.opdO r,c.opdO j,i,Lj,lP,d]
  rfl
 ·have d:Do K.length none none (some (nV K.length)) (some (nV K.length))=some (0,K.length,some K.length):=by
   show cond (Nat.ble 0 K.length&&Nat.ble K.length K.length&&Li K.length none K.length) _ _=_
   simp only[Li,g,dR,cond_true];rw[show Nat.ble 0 K.length=true from dS (bU _)]
   rfl
  simp only[bB,Aw,k,l,m,c.opd W,c.opdO r,c.opdO j,i,Lj,d,o,cb,Ak,lH,mO,oE]
  rfl
theorem As5{f J a B n K v x L b}(h:eo J B K v)(S:K.length=n)(W:Ah M f x=some v)(r:Iz M f L=some (some (nV n)))(t:Iz M f b=some (some (nV n))):
  As M a (.slice 37 x none L b) f J (xu v) J:=by subst S;exact SB h W r t
theorem eo.app1{J B K v}(h:eo J B K v)(t)(d:K.length<=1000):B6 J 2 40 (xu v) 1 (eT t)=some (.sr (O J) 0 2 (K.length+1) none,J.new (.cells ((K++[t]).flatMap eT))):=by
 have b:Nat.ble ((K.length+1)*(40+1)) az=true:=dS (by simp only[az];omega)
 rcases h with⟨rfl,rfl⟩|⟨a,_,_,rfl,f⟩
 ·simp only[xu,B6,Ja,lP]at b⊢;rw[b];simp only[cond_true,Ak,fK,ej,yL,dA]
 ·have c:=D0 (l:=K.flatMap eT) (r:=[]);rw[Dl Dh,dA]at c
  have e:Nat.ble (K.length+1) K.length=false:=by
   cases g:Nat.ble (K.length+1) K.length with
   |true=>exact absurd (dB g) z
   |false=>rfl
  simp only[xu,B6,cb,cond_true,F.cells,f,kn,c,e,Ja,dE,b,Ak,mV,ej,yL,dA]
theorem eo.snoc{J B K}(x:B<=O J):eo (J.new (.cells (K.flatMap eT))) B K (.sr (O J) 0 2 K.length none):=.inr ⟨O J,x,Z,rfl,Z⟩
theorem V'(J K)(d:K.length<=1000):∃c a,B6 J 2 40 nS K.length (K.flatMap eT)=some (c,a)/\eo a (O J) K c/\O J<=O a/\O a<=O J+1/\∀b,b<O J->a.get b=J.get b:=by
 cases K with
 |nil=>exact⟨_,J,rfl,.inl ⟨rfl,rfl⟩,Y,kG _,λ_ _=>rfl⟩
 |cons t r=>
  have e:Nat.ble ((r.length+1)*(40+1)) az=true:=dS (by simp only[az,cZ]at d⊢;omega)
  refine⟨.sr (O J) 0 2 (t::r).length none,J.new (.cells ((t::r).flatMap eT)),?_,eo.snoc Y,Z,Z,Z⟩;simp only[cZ,B6,Ja,e,cond_true,Ak,fK,dE]
theorem eo.fz{J U B K v}(h:eo J B K v)(p:∀a,B<=a->U.get a=none):Fz J U v (aD eT 2 K):=by
 rcases h with⟨rfl,rfl⟩|⟨a,c,_,rfl,d⟩
 ·exact .nils Z
 ·have b:=D0 (l:=K.flatMap eT) (r:=[]);rw[Dl Dh,dA]at b
  exact .sr d (p a c) b (jg (by rw[<-No];exact Jq _))
theorem Avb{E c B l K f J}[Se E]{G r}(U s)(N:bY J->Ds J U)(S:O U=O J)(j:bY J->Mm J U s f)(k:TO E c l B G r K s U):TO E c l B G r K f J:=
 λh n e C w i a g b d=>JL U s (by rw[S];exact b.dfs.und) (N b.sim.wfs) Z (j b.sim.wfs).at k h n e C w i a g b d
theorem Ds.kill{J}(i:bY J)(a):Ds J (J.kill a):=zn (i.kill a) Z Z
theorem Axu{N}(g o c):I.und N (lV g o c)=true:=by
 have a:I.und N (Af g.sorts)=true:=Fv D9 _;have b:I.und N (aD eR 4 g.rules)=true:=Fv Vj _;have d:I.und N (aD cQ 4 o)=true:=Fv Vp _;have e:I.und N (aD eN 1 c.1)=true:=Fv vM _;have f:I.und N (aD eN 1 c.2)=true:=Fv vM _
 show(((I.und N (aD cQ 4 o))&&((I.und N (aD eN 1 c.1))&&((I.und N (aD eN 1 c.2))&&true)))&&((I.und N (Af g.sorts))&&((I.und N (aD eR 4 g.rules))&&true)))=true
 rw[a,b,d,e,f];rfl
def CJ(g:Gr)(o:List cN)(c:Cs)(k:Nat):I:=.fn (.func 159) [] [.pv [lV g o c],.pv [nV k]]
theorem ZZ{N g o c k}:I.und N (CJ g o c k)=true:=by
 show(true&&((I.und N (lV g o c)&&true)&&((true&&true)&&true)))=true
 rw[Axu];rfl
theorem uT{g F c}(k J):Cv 124 [lV g F c,nV k] J (CJ g F c k):=by
 refine Aj Tryz.func124 rfl rfl λb a=>?_
 refine cG ?_;exact⟨_,rfl,_,_,a_ b Y zN,Y,.same ZZ,rfl,rfl⟩
end Go.AM

