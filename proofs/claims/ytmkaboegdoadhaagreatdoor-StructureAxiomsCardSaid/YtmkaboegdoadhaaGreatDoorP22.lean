/- A part of the proof; shortened by program. -/
import Derived.Test.YtmkaboegdoadhaaGreatDoorP21
set_option maxRecDepth 100000
set_option maxHeartbeats 4000000
set_option linter.all false
namespace Go.AM
open Go Go.Proofs
theorem wu:(match Ay M.P 386 with|some a=>a.zero|none=>none)=some [.int .i64 0,.int .i64 0,.int .i64 0,.int .i64 0]:=Kr
theorem Jy(p):(cL p).length=3:=rfl
theorem Z7(r l):Cz 1 false ((eR r++l).drop 2)=some (aD cL 3 r.parts):=rfl
theorem Tt(p):Cz 1 false ((cL p).drop 1)=some (sV p.sort):=rfl
theorem QC(p):Cz 1 false ((cL p).drop 0)=some (sV p.symbol):=rfl
def OK(g:Gr)(R:List aH)(k:List Sp)(X:Cp)(P w q:Nat)(c:I)(r d t:Nat)(b:List Pt)(e:Nat)(J a:F):Prop:=
 Al M 192 [.pr P 0,nV r,nV (d+1),nV e,nV t] J (λu f=>u=.bool (ldP k R t b e)/\f=a)/\ee g R k X P w q c a/\gM q J a
inductive I6 (g:Gr)(text:List aH)(D:List Sp)(X:Cp)(P mN mT:Nat)(lv:I)(r d a t:Nat)(p:Pt)(ps':List Pt):Nat->Bool->F->F->Prop where
 |stop' {e:Nat} {b:Bool} {J:F} (h:¬e<=t\/b=true):I6 g text D X P mN mT lv r d a t p ps' e b J J
 |miss' {e:Nat} {J U:F} (h:e<=t) (hin:(p.sort,a,e)∉D) (h2:I6 g text D X P mN mT lv r d a t p ps' (e+1) false J U):I6 g text D X P mN mT lv r d a t p ps' e false J U
 |hit' {e:Nat} {J J1 U:F} (h:e<=t) (hin:(p.sort,a,e)∈D) (h1:OK g text D X P mN mT lv r d t ps' e J J1) (h2:I6 g text D X P mN mT lv r d a t p ps' (e+1) (ldP D text t ps' e) J1 U):I6 g text D X P mN mT lv r d a t p ps' e false J U
section
variable {g:Gr}{text:List aH}{D:List Sp}{X:Cp}{P mN mT:Nat}{lv:I}{r d a t:Nat}{p:Pt}{ps':List Pt}{e:Nat}{b:Bool}{J U:F}
theorem I6.stop(h:I6 g text D X P mN mT lv r d a t p ps' e b J U)(j:¬e<=t\/b=true):J=U:=by
 cases h with
 |stop' _=>rfl
 |miss' h _ _=>rcases j with j|j;exact absurd h j;cases j
 |hit' h _ _ _=>rcases j with j|j;exact absurd h j;cases j
theorem I6.miss(h:I6 g text D X P mN mT lv r d a t p ps' e false J U)(j:e<=t)(x:(p.sort,a,e)∉D):I6 g text D X P mN mT lv r d a t p ps' (e+1) false J U:=by
 cases h with
 |stop' h=>rcases h with h|h;exact absurd j h;cases h
 |miss' _ _ h=>exact h
 |hit' _ h _ _=>exact absurd h x
theorem I6.hit(h:I6 g text D X P mN mT lv r d a t p ps' e false J U)(j:e<=t)(x:(p.sort,a,e)∈D):∃b,Al M 192 [.pr P 0,nV r,nV (d+1),nV e,nV t] J (λu i=>u=.bool (ldP D text t ps' e)/\i=b)/\ee g text D X P mN mT lv b/\gM mT J b/\I6 g text D X P mN mT lv r d a t p ps' (e+1) (ldP D text t ps' e) b U:=by
 cases h with
 |stop' h=>rcases h with h|h;exact absurd j h;cases h
 |miss' _ h _=>exact absurd x h
 |hit' _ _ c f=>exact⟨_,c.1,c.2.1,c.2.2,f⟩
theorem I6.ex(R:∀(e:Nat) (J:F),e<=t->ee g text D X P mN mT lv J->∃i,OK g text D X P mN mT lv r d t ps' e J i):∀(k e:Nat) (b:Bool) (J:F),t+1-e=k->ee g text D X P mN mT lv J->∃U,I6 g text D X P mN mT lv r d a t p ps' e b J U/\ee g text D X P mN mT lv U/\gM mT J U:=by
 intro k
 induction k with
 |zero=>intro e b J o h;exact⟨J,.stop' (.inl z),h,.refl⟩
 |succ k f=>
  intro e b J o h;cases b with
  |true=>exact⟨J,.stop' (.inr rfl),h,.refl⟩
  |false=>
   by_cases c:(p.sort,a,e)∈D
   ·obtain⟨i,j⟩:=R e J z h;obtain⟨U,l,m,n⟩:=f (e+1) (ldP D text t ps' e) i z j.2.1;exact⟨U,.hit' z c j l,m,j.2.2.trans n⟩
   ·obtain⟨U,l,m,n⟩:=f (e+1) false J z h;exact⟨U,.miss' z c l,m,n⟩
end
def xH(g:Gr)(R:List aH)(k:List Sp)(X:Cp)(P w q:Nat)(e:I)(r d a t:Nat)(J c:F):List Pt->Prop
 |[]=>c=J
 |p::b=>if p.sort=[]then(if a<t/\R.getD a []=p.symbol then Al M 192 [.pr P 0,nV r,nV (d+1),nV (a+1),nV t] J (λu f=>u=.bool (ldP k R t b (a+1))/\f=c)else c=J)else I6 g R k X P w q e r d a t p b a false J c
theorem ze{g R k X P mN N lv r t rl}(ax:g.rules[r]? =some rl)(hR:g.rules.length<=1000000)(aw:(du g r).length<=1000000)(cx:R.length<=1000000)(ht:t<=R.length)(ps)
    (d a J U)(a8:(du g r).drop d=ps)(hd:d<=(du g r).length)(ha:a<=R.length)(h:ee g R k X P mN N lv J){aj o}(hG:eW 386 bE J N aj)(al:∀r d a t b,aj.get (lk r d a t)=some b->b=ldP k R t ((du g r).drop d) a)(ho:aj.get (lk r d a t)=o)
    (ap:∀b,o=some b->U=J)(ao:o=none->∃w M9 v9,(xH g R k X P mN N lv r d a t J w ps/\ee g R k X P mN N lv w/\gM N J w)/\w.get N=some (.map 386 (Hi bE M9) v9)/\U=w.set N (.map 386 (Hi bE (M9.put (lk r d a t) (ldP k R t ps a))) (v9+1))):Al M 192 [.pr P 0,nV r,nV d,nV a,nV t] J λu υ=>u=.bool (ldP k R t ps a)/\υ=U:=by
  have E:du g r=rl.parts:=by unfold du;rw[ax]
  refine Aj Tryz.func192 rfl rfl λhw d4=>?_
  refine cD ?_;refine A (G0 wu xJ rfl rfl) ?_;refine G4 ?_;refine X0 ?_;refine G3 ?_;refine V (lO h.pk) ?_;refine G ?_;refine V (Nu (o:=o) pX rfl hG rfl (rY r d a t) ho) ?_;refine G6 ?_;refine⟨rfl,rfl,?_⟩;refine G4 ?_;refine Ab rfl ?_ ?_<;>intro h1
  · obtain⟨b,hb⟩:=gV.1 h1
    subst hb;refine G6 ?_
    exact⟨_,rfl,_,J,a_ hw Y zN,Y,.same rfl,by rw[<-a8];exact congrArg _ (al _ _ _ _ _ ho),(ap b rfl).symm⟩
  · have au:o=none:=by cases ar:o with|none=>rfl|some _=>rw[ar]at h1;cases h1
    subst au;obtain⟨w,M9,v9,⟨Q,qn⟩,T,rfl⟩:=ao rfl;refine fJ ?_;refine A (lO h.pk) ?_;refine G3 ?_;refine A (lO h.cl) ?_;refine G3 ?_;refine A (Ac aG rfl rfl (Z7 rl _)) ?_;refine G9 ?_;refine Ab rfl ?_ ?_<;>intro h2
    · have ac:ps=[]:=by
        have ah:d=rl.parts.length:=gI (of_decide_eq_true h2)
        rw[<-a8];exact cv (by rw[E];omega)
      subst ac;have Q:w=J:=Q;subst Q;have j:=Nat.le_refl (O w)
      have i:decide ((Int.ofNat a)=Int.ofNat t)=ldP k R t [] a:=by
        show _=decide (a=t)
        by_cases e:a=t
        · rw[decide_eq_true e,decide_eq_true (congrArg _ e)]
        · rw[decide_eq_false e,decide_eq_false (λq=>e (gI q))]
      refine G7 ?_;refine XS (l:=[]) trivial ?_;refine G3 ?_;refine V (lO h.pk) ?_;refine G2 ?_
      refine DT (K7 (v:=(decide ((Int.ofNat a)=Int.ofNat t))) pX rfl T rfl (rY r d a t) rfl (λte k1 k2=>by simp[Je,k1,k2])) ?_
      refine G6 ?_;refine Bo λm=>?_
      refine G ?_
      exact⟨_,rfl,_,_,a_ m Y zN,by rw[Aq];exact j,.same rfl,congrArg _ i,by rw[<-i]⟩
    · have ah:d<rl.parts.length:=by
        have:¬(Int.ofNat d=Int.ofNat rl.parts.length):=by simpa using h2
        have bz:d≠rl.parts.length:=λe=>this (congrArg _ e)
        rw[E]at hd;omega
      obtain⟨p,hp⟩:=Ar ah
      obtain⟨c,ac⟩:∃c,ps=p::c:=⟨rl.parts.drop (d+1),by rw[<-a8,E];exact A4 hp⟩
      subst ac
      have fp:(du g r).drop (d+1)=c:=by
        have:=A4 hp;rw[<-E,a8]at this;exact(List.cons.inj this).2.symm
      have ay:d+1<=(du g r).length:=by rw[E];omega
      have an:d<1000000:=by rw[E]at aw;omega
      refine G5 ?_;refine A (Ac aG rfl rfl (A6 (Jy p) _)) (Ho bG aG rfl zF rfl (A7 (Jy p)) rfl rfl ?_)
      refine G4 ?_;refine A (Ac aG rfl rfl (Tt p)) ?_;refine G2 ?_;refine Ab rfl ?_ ?_<;>intro h3
      · have cg:p.sort=[]:=of_decide_eq_true h3
        simp only[xH,if_pos cg]at Q
        have K:ldP k R t (p::c) a=(decide (a<t)&&decide (R.getD a []=p.symbol)&&ldP k R t c (a+1)):=by
          show(if p.sort=[]then _ else _)=_
          rw[if_pos cg]
        by_cases x:a<t
        · have a7:decide ((Int.ofNat a)<Int.ofNat t)=true:=decide_eq_true (Int.ofNat_lt.2 x)
          obtain⟨y,ae⟩:=Ar (show a<R.length by omega)
          have aa:R.getD a []=y:=by rw[List.getD_eq_getElem?_getD,ae];rfl
          rw[aa,decide_eq_true x]at K
          by_cases L:y=p.symbol
          · have a9:decide (y=p.symbol)=true:=decide_eq_true L
            rw[if_pos ⟨x,by rw[aa];exact L⟩]at Q
            refine XS (l:=[(192,[.pr P 0,nV r,nV (d+1),nV (a+1),nV t],J,.bool (ldP k R t c (a+1)),w)]) ⟨Q,trivial⟩ ?_;refine G3 ?_;rw[a7];refine G ?_;refine Bg rfl rfl rfl rfl rfl rfl rfl (Ag rfl) (Bg rfl rfl rfl rfl rfl rfl rfl (Ge rfl) (Bg rfl rfl rfl rfl rfl rfl rfl (Ae cP rfl rfl) (Bg rfl rfl rfl rfl rfl rfl rfl (lO h.pk) (Bg rfl rfl rfl rfl rfl rfl rfl (Ge rfl) (Bg rfl rfl rfl rfl rfl rfl rfl (Ae cP rfl rfl) (Bg rfl rfl rfl rfl rfl rfl rfl (lO h.cl) (Bg rfl rfl rfl rfl rfl rfl rfl (Ag rfl) ?_)))))));refine Bg rfl rfl rfl rfl rfl rfl rfl (A1 aJ zF rfl rfl ae) ?_
            refine Bg rfl rfl rfl rfl rfl rfl rfl (Ac aG rfl rfl rfl) (Bg rfl rfl rfl rfl rfl rfl rfl (Ae cP rfl rfl) (Bg rfl rfl rfl rfl rfl rfl rfl (Ac aG rfl rfl (QC p)) (Bg rfl rfl rfl rfl rfl rfl rfl (H5 aV rfl rfl) ?_)));rw[a9];refine V (A3 rfl rfl rfl) ?_;refine G ?_;refine Bg rfl rfl rfl rfl rfl rfl rfl (Ag rfl) (Bg rfl rfl rfl rfl rfl rfl rfl (Ag rfl) (Bg rfl rfl rfl rfl rfl rfl rfl (Ag rfl) (Bg rfl rfl rfl rfl rfl rfl rfl (D3 (q:=1) aV rfl rfl z) ?_)));refine Bg rfl rfl rfl rfl rfl rfl rfl (Ag rfl) (Bg rfl rfl rfl rfl rfl rfl rfl (D3 (q:=1) aV rfl rfl z) ?_);refine Bg rfl rfl rfl rfl rfl rfl rfl (Ag rfl) (Ol rfl rfl rfl rfl rfl rfl rfl (Bq rfl rfl Bv) (V (A3 rfl rfl rfl) ?_));refine G2 ?_;obtain⟨h9,hF⟩:=qn;have j:=hF.n
            have i:ldP k R t c (a+1)=ldP k R t (p::c) a:=by rw[K,decide_eq_true L];rfl
            refine G ?_;refine XS (l:=[]) trivial ?_;refine G3 ?_;refine V (lO h9.pk) ?_;refine G2 ?_
            refine DT (K7 (v:=(ldP k R t c (a+1))) pX rfl T rfl (rY r d a t) rfl (λte k1 k2=>by simp[Je,k1,k2])) ?_
            refine G6 ?_;refine Bo λm=>?_
            refine G ?_
            exact⟨_,rfl,_,_,a_ m Y zN,by rw[Aq];exact j,.same rfl,congrArg _ i,by rw[<-i]⟩
          · have a9:decide (y=p.symbol)=false:=decide_eq_false L
            refine XS (l:=[]) trivial ?_;refine G3 ?_;rw[a7];refine G ?_;refine Bg rfl rfl rfl rfl rfl rfl rfl (Ag rfl) (Bg rfl rfl rfl rfl rfl rfl rfl (Ge rfl) (Bg rfl rfl rfl rfl rfl rfl rfl (Ae cP rfl rfl) (Bg rfl rfl rfl rfl rfl rfl rfl (lO h.pk) (Bg rfl rfl rfl rfl rfl rfl rfl (Ge rfl) (Bg rfl rfl rfl rfl rfl rfl rfl (Ae cP rfl rfl) (Bg rfl rfl rfl rfl rfl rfl rfl (lO h.cl) (Bg rfl rfl rfl rfl rfl rfl rfl (Ag rfl) ?_)))))));refine Bg rfl rfl rfl rfl rfl rfl rfl (A1 aJ zF rfl rfl ae) ?_
            refine Bg rfl rfl rfl rfl rfl rfl rfl (Ac aG rfl rfl rfl) (Bg rfl rfl rfl rfl rfl rfl rfl (Ae cP rfl rfl) (Bg rfl rfl rfl rfl rfl rfl rfl (Ac aG rfl rfl (QC p)) (Bg rfl rfl rfl rfl rfl rfl rfl (H5 aV rfl rfl) ?_)));rw[a9];refine V (A3 rfl rfl rfl) ?_;refine G ?_;refine Bx rfl rfl rfl rfl rfl rfl rfl (Bx rfl rfl rfl rfl rfl rfl rfl (Bx rfl rfl rfl rfl rfl rfl rfl (Bx rfl rfl rfl rfl rfl rfl rfl (Bx rfl rfl rfl rfl rfl rfl rfl (Bx rfl rfl rfl rfl rfl rfl rfl (Bx rfl rfl rfl rfl rfl rfl rfl (K5 rfl rfl rfl rfl rfl rfl rfl ?_)))))));refine V (Au rfl rfl rfl) ?_;refine G2 ?_
            rw[if_neg (λq=>L (by rw[<-aa];exact q.2))]at Q
            subst Q;have j:=Nat.le_refl (O w)
            have i:false=ldP k R t (p::c) a:=by rw[K,decide_eq_false L];rfl
            refine G ?_;refine XS (l:=[]) trivial ?_;refine G3 ?_;refine V (lO h.pk) ?_;refine G2 ?_
            refine DT (K7 (v:=false) pX rfl T rfl (rY r d a t) rfl (λte k1 k2=>by simp[Je,k1,k2])) ?_
            refine G6 ?_;refine Bo λm=>?_
            refine G ?_
            exact⟨_,rfl,_,_,a_ m Y zN,by rw[Aq];exact j,.same rfl,congrArg _ i,by rw[<-i]⟩
        · have a7:decide ((Int.ofNat a)<Int.ofNat t)=false:=decide_eq_false (λe=>x (Int.ofNat_lt.1 e))
          refine XS (l:=[]) trivial ?_;refine G3 ?_;rw[a7];refine G ?_;refine Bx rfl rfl rfl rfl rfl rfl rfl (Bx rfl rfl rfl rfl rfl rfl rfl (Bx rfl rfl rfl rfl rfl rfl rfl (Bx rfl rfl rfl rfl rfl rfl rfl (Bx rfl rfl rfl rfl rfl rfl rfl (Bx rfl rfl rfl rfl rfl rfl rfl (Bx rfl rfl rfl rfl rfl rfl rfl (Bx rfl rfl rfl rfl rfl rfl rfl ?_)))))));refine Bx rfl rfl rfl rfl rfl rfl rfl (Bx rfl rfl rfl rfl rfl rfl rfl (Bx rfl rfl rfl rfl rfl rfl rfl (Bx rfl rfl rfl rfl rfl rfl rfl (Bx rfl rfl rfl rfl rfl rfl rfl (V (Au rfl rfl rfl) ?_)))));refine G ?_;refine Bx rfl rfl rfl rfl rfl rfl rfl (Bx rfl rfl rfl rfl rfl rfl rfl (Bx rfl rfl rfl rfl rfl rfl rfl (Bx rfl rfl rfl rfl rfl rfl rfl (Bx rfl rfl rfl rfl rfl rfl rfl (Bx rfl rfl rfl rfl rfl rfl rfl (Bx rfl rfl rfl rfl rfl rfl rfl (K5 rfl rfl rfl rfl rfl rfl rfl ?_)))))));refine V (Au rfl rfl rfl) ?_;refine G2 ?_;rw[if_neg (λq=>x q.1)]at Q
          subst Q;have j:=Nat.le_refl (O w)
          have i:false=ldP k R t (p::c) a:=by rw[K,decide_eq_false x];rfl
          refine G ?_;refine XS (l:=[]) trivial ?_;refine G3 ?_;refine V (lO h.pk) ?_;refine G2 ?_
          refine DT (K7 (v:=false) pX rfl T rfl (rY r d a t) rfl (λte k1 k2=>by simp[Je,k1,k2])) ?_
          refine G6 ?_;refine Bo λm=>?_
          refine G ?_
          exact⟨_,rfl,_,_,a_ m Y zN,by rw[Aq];exact j,.same rfl,congrArg _ i,by rw[<-i]⟩
      · have cg:p.sort≠[]:=of_decide_eq_false h3
        simp only[xH,if_neg cg]at Q;obtain⟨f,hf⟩:∃f:Nat->Bool,(λe=>decide ((p.sort,a,e)∈k)&&ldP k R t c e)=f:=⟨_,rfl⟩
        have K:ldP k R t (p::c) a=(List.range' a (t+1-a)).any f:=by
          show(if p.sort=[]then _ else _)=_
          rw[if_neg cg,<-hf]
        refine G6 ?_
        refine Ci (λq:Nat×Bool=>[(0,.pr P 0),(1,nV r),(2,nV d),(3,nV a),(4,nV t),(11,.pv [nV r,nV d,nV a,nV t]),(14,.bool q.2),(16,.pv (cL p)),(17,nV q.1)]) (λq W=>a<=q.1/\(q.1<=t+1\/q.1=a)/\q.2=(List.range' a (q.1-a)).any f/\ee g R k X P mN N lv W/\gM N J W/\I6 g R k X P mN N lv r d a t p c q.1 q.2 W w) (λq=>t+1-q.1) (a,false) SL ⟨Y,.inr rfl,by rw[Nat.sub_self];rfl,h,.refl,Q⟩ ?_
        rintro⟨e,b⟩ W ⟨ag,B,n,hY,hF,S⟩;have ag:a<=e:=ag;have B:e<=t+1\/e=a:=B;have n:b=(List.range' a (e-a)).any f:=n;have hY:ee g R k X P mN N lv W:=hY;have hF:gM N J W:=hF;have S:I6 g R k X P mN N lv r d a t p c e b W w:=S;refine G5 ?_;refine A (Hn aV rfl rfl) ?_;refine G ?_;refine fZ 2 ?_ (λH=>?_) ?_
        rotate_left
        · iterate 2 refine Gn H ?_
          exact Ez
        refine G ?_;refine Ab rfl ?_ ?_<;>intro s
        · obtain⟨ai,aq⟩:e<=t/\b=false:=by
            rw[bg]at s
            exact⟨dQ.1 (of_decide_eq_true s.1),by simpa using s.2⟩
          obtain⟨MD,⟨vD,af⟩,dh⟩:=hY.dn
          have nz:(List.range' a (e+1-a)).any f=(b||f e):=by
            rw[show e+1-a=(e-a)+1 by omega,Yz,<-n,show a+(e-a)=e by omega]
          refine G3 ?_;subst aq
          by_cases C:(p.sort,a,e)∈k
          · have hm:=(dh _).1 C
            obtain⟨J1,qr,h9,ak,qs⟩:=S.hit ai C;refine XS (l:=[(192,[.pr P 0,nV r,nV (d+1),nV e,nV t],W,.bool (ldP k R t c e),J1)]) ⟨qr,trivial⟩ ?_;refine G3 ?_;refine V (lO hY.pk) ?_;refine G2 ?_;refine V (lO hY.cl) ?_;refine G ?_;refine V (Ac aG rfl rfl (Tt p)) ?_;refine G3 ?_;refine V (Ns (o:=some true) (z:=.bool false) Va rfl ⟨vD,af⟩ rfl (j' (p.sort,a,e)) hm) ?_;refine G ?_;refine Bg rfl rfl rfl rfl rfl rfl rfl (Ag rfl) (Bg rfl rfl rfl rfl rfl rfl rfl (Ag rfl) (Bg rfl rfl rfl rfl rfl rfl rfl (Ag rfl) (Bg rfl rfl rfl rfl rfl rfl rfl (D3 (q:=1) aV rfl rfl z) ?_)));refine Bg rfl rfl rfl rfl rfl rfl rfl (Ag rfl) (Bg rfl rfl rfl rfl rfl rfl rfl (Ag rfl) (Ol rfl rfl rfl rfl rfl rfl rfl (Bq rfl rfl Bv) (V (A3 rfl rfl rfl) ?_)));refine G7 ?_
            refine⟨(e+1,ldP k R t c e),by show t+1-(e+1)<t+1-e;omega,SL,by show a<=e+1;omega,.inl (by show e+1<=_;omega),by show _=(List.range' a (e+1-a)).any f;rw[nz];exact(by rw[<-hf];show _=(false||(decide _&&_));rw[decide_eq_true C];rfl),h9,hF.trans ak,qs⟩
          · have hm:=(dh _).2 C
            refine XS (l:=[]) trivial ?_;refine G3 ?_;refine V (lO hY.pk) ?_;refine G2 ?_;refine V (lO hY.cl) ?_;refine G ?_;refine V (Ac aG rfl rfl (Tt p)) ?_;refine G3 ?_;refine V (Ns (o:=none) (z:=.bool false) Va rfl ⟨vD,af⟩ rfl (j' (p.sort,a,e)) hm) ?_;refine G ?_;refine Bx rfl rfl rfl rfl rfl rfl rfl (Bx rfl rfl rfl rfl rfl rfl rfl (Bx rfl rfl rfl rfl rfl rfl rfl (Bx rfl rfl rfl rfl rfl rfl rfl (Bx rfl rfl rfl rfl rfl rfl rfl (Bx rfl rfl rfl rfl rfl rfl rfl (K5 rfl rfl rfl rfl rfl rfl rfl (V (Au rfl rfl rfl) ?_)))))));refine G7 ?_
            refine⟨(e+1,false),by show t+1-(e+1)<t+1-e;omega,SL,by show a<=e+1;omega,.inl (by show e+1<=_;omega),by show _=(List.range' a (e+1-a)).any f;rw[nz];exact(by rw[<-hf];show _=(false||(decide _&&_));rw[decide_eq_false C];rfl),hY,hF,S.miss ai C⟩
        · have i:b=ldP k R t (p::c) a:=by
            rw[K];rw[Bool.and_eq_false_iff]at s
            rcases s with s|s
            · have bx:¬e<=t:=λq=>(of_decide_eq_false s) (dQ.2 q)
              rw[n]
              congr 2
              omega
            · have am:b=true:=by simpa using s
              rw[am]at n⊢
              rcases B with B|B
              · exact(Vv (show e-a<=t+1-a by omega) n.symm).symm
              · rw[B,Nat.sub_self]at n;cases n
          have da:W=w:=S.stop (by
            rw[Bool.and_eq_false_iff]at s
            rcases s with s|s
            · exact .inl λq=>(of_decide_eq_false s) (dQ.2 q)
            · exact .inr (by simpa using s))
          subst da;have j:=hF.n;refine G2 ?_;refine XS (l:=[]) trivial ?_;refine G3 ?_;refine V (lO hY.pk) ?_;refine G2 ?_
          refine DT (K7 (v:=b) pX rfl T rfl (rY r d a t) rfl (λte k1 k2=>by simp[Je,k1,k2])) ?_
          refine G6 ?_;refine Bo λm=>?_
          refine G ?_
          exact⟨_,rfl,_,_,a_ m Y zN,by rw[Aq];exact j,.same rfl,congrArg _ i,by rw[<-i]⟩
theorem E1{g R k X P mN s lv r t rl}(E:g.rules[r]? =some rl)(x:g.rules.length<=1000000)(i:(du g r).length<=1000000)(N:R.length<=1000000)(m:t<=R.length):∀(ps:List Pt) (d a:Nat) (J:F),(du g r).drop d=ps->d<=(du g r).length->a<=R.length->ee g R k X P mN s lv J->∃U,Al M 192 [.pr P 0,nV r,nV d,nV a,nV t] J (λu υ=>u=.bool (ldP k R t ps a)/\υ=U)/\ee g R k X P mN s lv U/\gM s J U:=by
 intro ps
 induction ps with
 |nil=>
  intro d a J c L G h;obtain⟨W,⟨j,n⟩,f⟩:=h.rs;cases T:W.get (lk r d a t)with
  |some b=>exact⟨J,ze E x i N m [] d a J J c L G h ⟨j,n⟩ f T zN (λq=>by cases q),h,.refl⟩
  |none=>exact⟨_,ze E x i N m [] d a J _ c L G h ⟨j,n⟩ f T (λ_ q=>by cases q) (λ_=>⟨J,W,j,⟨rfl,h,.refl⟩,n,rfl⟩),h.keep .set (.put f (by rw[c])),.set⟩
 |cons p ps' ih=>
  intro d a J c L G h;obtain⟨W,⟨j,n⟩,f⟩:=h.rs
  have Q:d+1<=(du g r).length:=by
   have:((du g r).drop d).length=ps'.length+1:=by rw[c];rfl
   rw[oV]at this;omega
  have fp:(du g r).drop (d+1)=ps':=by
   have:((du g r).drop d).drop 1=ps':=by rw[c];rfl
   rwa[rU]at this
  cases T:W.get (lk r d a t)with
  |some b=>exact⟨J,ze E x i N m _ d a J J c L G h ⟨j,n⟩ f T zN (λq=>by cases q),h,.refl⟩
  |none=>
   obtain⟨v,bq,h9,C⟩:∃v,xH g R k X P mN s lv r d a t J v (p::ps')/\ee g R k X P mN s lv v/\gM s J v:=by
    simp only[xH]
    by_cases l:p.sort=[]
    ·by_cases K:a<t/\R.getD a []=p.symbol
     ·obtain⟨U,w,y,B⟩:=ih (d+1) (a+1) J fp Q z h
      exact⟨U,by rw[if_pos l,if_pos K];exact w,y,B⟩
     ·exact⟨J,by rw[if_pos l,if_neg K],h,.refl⟩
    ·obtain⟨U,w,y,B⟩:=I6.ex (a:=a) (p:=p) (r:=r) (d:=d) (ps':=ps') (λe J he hp=>by
      obtain⟨U,w,y,B⟩:=ih (d+1) e J fp Q z hp;exact⟨U,w,y,B⟩) (t+1-a) a false J rfl h
     exact⟨U,by rw[if_neg l];exact w,y,B⟩
   obtain⟨M9,⟨v9,a7⟩,qt⟩:=h9.rs;have S:=C.trans (gM.set (o:=.map 386 (Hi bE (M9.put (lk r d a t) (ldP k R t (p::ps') a))) (v9+1)))
   exact⟨_,ze E x i N m _ d a J _ c L G h ⟨j,n⟩ f T (λ_ q=>by cases q) (λ_=>⟨v,M9,v9,⟨bq,h9,C⟩,a7,rfl⟩),h.keep S (.put qt (by rw[c])),S⟩
theorem wQ{g R ah X N P w m f L J}(h:ee g R ah X P w m f J)(d:oU L N w f J)(hN:P<N/\X.c<N/\X.mD<N/\m<N)(x:w≠X.mD/\w≠m)(s)(bn:L.length<=30000000):
  ∃k U,Al M 155 [.pr P 0,.agg (c7 s)] J (λu υ=>u=nV (D2 L s).1/\υ=U)/\ee g R ah X P w m k U/\oU (D2 L s).2 N w k U/\GR N P w f J k U:=by
 obtain⟨n,⟨c,W⟩,a7⟩:=d.num
 have r:P≠w:=λe=>by have:=h.pk;grind
 have ac:X.c≠w:=λe=>by have:=h.cl;grind
 by_cases hs:s∈L
 ·have ho:n.get (sk s)=some (L.idxOf s):=Z
  have e:D2 L s=(L.idxOf s,L):=by unfold D2;rw[if_pos hs]
  rw[e];refine⟨f,J,?_,h,d,.refl⟩;refine Aj Tryz.func155 rfl rfl λhw af=>?_
  refine G6 ?_;refine X0 ?_;refine G3 ?_;refine V (lO h.pk) ?_;refine G ?_;refine V (Nu (o:=some (L.idxOf s)) yT rfl ⟨c,W⟩ rfl (j' s) ho) ?_;refine G6 ?_;refine⟨rfl,rfl,?_⟩;refine G6 ?_;refine Ab rfl Z (λh1=>?_)
  ·skip
   refine G7 ?_;exact⟨_,rfl,_,_,a_ hw Y zN,Y,.same rfl,rfl,rfl⟩
 
 ·have ho:n.get (sk s)=none:=Z
  have e:D2 L s=(L.length,L++[s]):=by unfold D2;rw[if_neg hs]
  rw[e];have a8:∀a,bm f=some a->N<=a/\a<O J:=λa i=>d.lst.adr_lt i
  have ny:bm f≠some w:=λe=>by have:=(a8 _ e).1;have:=d.lt.1;omega
  generalize C:J.set w (.map 232 (Hi nV (n.put (sk s) L.length)) (c+1))=K
  have n1:O K=O J:=Z;have g1:∀b,b≠w->K.get b=J.get b:=Z;have aa:K.get w=some (.map 232 (Hi nV (n.put (sk s) L.length)) (c+1)):=Z;have B:=(g1 P r).trans h.pk
  have a9:aW K N c7 3 L f:=d.lst.of_get z λa i=>g1 a λe=>ny (by rw[i,e])
  obtain⟨J2,p,n2,y,T⟩:=jB (enc:=c7) (l:=L) (sz:=3) (by':=32) zF (by rw[n1];exact d.lt.2) a9 s (by simp only[az];omega)
  rw[n1]at p n2 y T;have ae:=(T P h.lt.1 Z).trans B
  generalize E:J2.set P (.cells [.pr X.c 0,.mp w,.sr (O J) 0 3 (L.length+1) none,.mp m])=Q
  have n3:O Q=O J+1:=Z;have g3:∀b,b≠P->Q.get b=J2.get b:=Z;have S:∀b,b<O J->b≠P->b≠w->bm f≠some b->Q.get b=J.get b:=Z;obtain⟨q1,q2,q3⟩:=h.ne;have j:∀b,b<N->bm f≠some b:=Z
  refine⟨.sr (O J) 0 3 (L.length+1) none,Q,?_,⟨?_,?_,?_,?_,?_⟩,⟨⟨n.put (sk s) L.length,⟨c+1,?_⟩,λt=>?_⟩,?_,d.lt.1,?_⟩,⟨by omega,λa i=>.inr (by cases i;grind),S⟩⟩
  rotate_left
  ·grind
  ·rw[S _ h.lt.2.1 (λe=>?_) ac (j _ hN.2.1)]
   ·exact h.cl
   ·have:=h.pk;rw[<-e,h.cl]at this;cases this
  ·refine h.dn.of_get (S _ h.lt.2.2.1 (λe=>?_) x.1.symm (j _ hN.2.2.1))
   obtain⟨M',⟨v',ai⟩,_⟩:=h.dn
   grind
  ·exact h.rs.of_get (S _ h.lt.2.2.2 q1.symm x.2.symm (j _ hN.2.2.2))
  ·have:=h.lt;omega
  ·rw[g3 _ r.symm,T _ (by have:=d.lt;omega) ny];exact aa
  ·rw[tV,V7 hs,a7]
   by_cases e:t=s
   ·grind
   ·rw[if_neg e,if_neg (λq=>e (K0.1 q))]
  ·exact y.of_get z λa i=>g3 a λe=>by cases i;have:=h.lt.1;omega
  ·have:=d.lt.2;omega
  refine Aj Tryz.func155 rfl rfl λhw af=>?_
  refine G6 ?_;refine X0 ?_;refine G3 ?_;refine V (lO h.pk) ?_;refine G ?_;refine V (Nu (o:=none) yT rfl ⟨c,W⟩ rfl (j' s) ho) ?_;refine G6 ?_;refine⟨rfl,rfl,?_⟩;refine G6 ?_;refine Ab rfl (λh1=>?_) Z
  ·skip
   refine G5 ?_;refine A (lO h.pk) (A (Bf bF rfl d.lst.lenA.1 d.lst.lenA.2) ?_);refine G3 ?_;refine XS (l:=[]) trivial ?_;refine G3 ?_;refine V (lO h.pk) ?_;refine G2 ?_;refine DT (K7 (v:=L.length) yT rfl W rfl (j' s) rfl (λte k1 k2=>I2 k1 k2)) ?_
   refine G ?_;rw[C];refine XS (l:=[]) trivial ?_;refine G4 ?_;refine V (lO B) ?_;refine G ?_;refine V (Ai aJ bM rfl rfl rfl) (DT (Av aJ rfl bF rfl rfl rfl (new:=c7 s) rfl p) ?_);refine G2 ?_;refine DT (sO (cs':=[.pr X.c 0,.mp w,.sr (O J) 0 3 (L.length+1) none,.mp m]) ae) ?_;refine G ?_;rw[E];refine G5 ?_;refine Bo λag=>?_
   refine G ?_
   exact⟨_,rfl,_,_,a_ ag Y zN,by omega,.same rfl,rfl,rfl⟩
def I7(g:Gr)(i:aH)(R:List aH):Int:=if Eb g≠0 then Eb g else if(!(g.sorts.any λx=>decide (i=x)))=true then 5 else if 200<R.length then 4 else 0
theorem GT(g i R J)(x:sY g)(d:R.length<1000000):Cv 118 [gY g,sV i,Af R] J (D (I7 g i R)):=by
 refine Aj Tryz.func118 rfl rfl λb k=>?_
 refine G9 ?_;refine Ca (pY g _ x) ?_;refine G9 ?_;refine Ab rfl ?_ ?_<;>intro f
 ·have a:Eb g≠0:=by simpa using f
  refine G6 ?_
  exact⟨_,rfl,_,_,a_ b Y zN,Y,.same rfl,by unfold I7;rw[if_pos a];rfl,rfl⟩
 ·have a:¬Eb g≠0:=by simpa using f
  refine G5 ?_
  refine Ca (pQ g.sorts i _ (by have:=x.s;omega)) ?_
  refine G3 ?_;refine Ab rfl ?_ ?_<;>intro e
  ·skip
   refine G5 ?_
   exact⟨_,rfl,_,_,a_ b Y zN,Y,.same rfl,by unfold I7;rw[if_neg a,if_pos e];rfl,rfl⟩
  ·skip
   refine G7 ?_;refine Ab rfl ?_ ?_<;>intro h
   ·have c:200<R.length:=(by have j:(200:Int)<(R.length:Int):=(by simpa using h);omega)
    refine G5 ?_
    exact⟨_,rfl,_,_,a_ b Y zN,Y,.same rfl,by unfold I7;rw[if_neg a,if_neg (by rw[e];simp),if_pos c];rfl,rfl⟩
   ·have c:¬200<R.length:=(by have j:¬(200:Int)<(R.length:Int):=(by simpa using h);omega)
    refine G6 ?_
    exact⟨_,rfl,_,_,a_ b Y zN,Y,.same rfl,by unfold I7;rw[if_neg a,if_neg (by rw[e];simp),if_neg c];rfl,rfl⟩
theorem TM(t J):Cv 67 [sV t] J (sV (D7 t)):=by
 refine Aj Tryz.func67 rfl rfl λb c=>?_
 refine G8 ?_;refine A (H5 (q:=[124,45]) aV rfl rfl) ?_;refine G ?_;refine Ab rfl ?_ ?_<;>intro a
 ·skip
  refine G5 ?_
  exact⟨_,rfl,_,_,a_ b Y zN,Y,.same rfl,by unfold D7;rw[if_pos (of_decide_eq_true a)];rfl,rfl⟩
 ·skip
  refine G7 ?_
  exact⟨_,rfl,_,_,a_ b Y zN,Y,.same rfl,by unfold D7;rw[if_neg (of_decide_eq_false a)];rfl,rfl⟩
section
open Go Go.Proofs
theorem BL:∀{l:List I} {i:Nat} {v:I},i<l.length->Et l i [v]=some (l.set i v)
 |[],i,v,h=>by simp at h
 |x::r,0,v,_=>by cases r<;>rfl
 |x::r,i+1,v,h=>by
  have:=BL (l:=r) (i:=i) (v:=v) Z;simp only[Et,this,List.set_cons_succ]
theorem ZK{l:List Int}{o v}(h:l[o]? =some v):Cz 1 false ((l.map D).drop (o*1))=some (D v):=by
 rw[lT,iF Z];simp only[List.getElem_map];obtain⟨a,rfl⟩:=bQ.1 h
 rfl
theorem Bdb(l p):cY (l++[p]) 0=cY l 0*p.1+p.2:=by rw[Rq];rfl
theorem Bb3{base f at' o e}:∀{m:Nat},e<=m->∃r,fU base f at' o m=fU base f at' o e++r
 |0,h=>⟨[],Z⟩
 |m+1,h=>by
  by_cases b:e=m+1
  ·exact⟨[],Z⟩
  ·obtain⟨r,a⟩:=Bb3 (base:=base) (f:=f) (at':=at') (o:=o) (e:=e) (m:=m) z
   exact⟨r++[(base,f (at'.set o (Int.ofNat m)))],by rw[CN,a,iC]⟩
section
variable {W:Wd}{b:Int}{o:Nat}{at':List Int}{ss:List aH}{fs:List (List Int->Int)}{len:Nat}
theorem Rs(a:oN (A78 W b o at' ss fs 0))(d:d7 (A78 W b o at' ss fs 0)=Int.ofNat len)(c:ss.length=fs.length){i}(L:i<=ss.length):0<=cY (A78 W b o at' (ss.take i) (fs.take i) 0) 0/\cY (A78 W b o at' (ss.take i) (fs.take i) 0) 0<Int.ofNat len:=by
 have e:A78 W b o at' ss fs 0=A78 W b o at' (ss.take i) (fs.take i) 0++A78 W b o at' (ss.drop i) (fs.drop i) (0+(ss.take i).length):=by
  rw[<-A98 Z,gK,gK]
 rw[e]at a d;rw[<-d];exact QL a
theorem VR(c:oN (A78 W b o at' ss fs 0))(d:d7 (A78 W b o at' ss fs 0)=Int.ofNat len)(l:ss.length=fs.length){i e s f}(j:ss[i]? =some s)(N:fs[i]? =some f)(u:¬b<0)(h:¬Int.ofNat i=b)(p:e<=W.n.toNat):
  0<=cY (A78 W b o at' (ss.take i) (fs.take i) 0++fU (bR W.n (kd W.km s)) f at' o e) 0/\cY (A78 W b o at' (ss.take i) (fs.take i) 0++fU (bR W.n (kd W.km s)) f at' o e) 0<Int.ofNat len:=by
 have k:=(bQ.1 j).1;obtain⟨r,m⟩:=Bb3 (base:=bR W.n (kd W.km s)) (f:=f) (at':=at') (o:=o) p
 have a:A78 W b o at' ss fs 0=A78 W b o at' (ss.take (i+1)) (fs.take (i+1)) 0++A78 W b o at' (ss.drop (i+1)) (fs.drop (i+1)) (0+(ss.take (i+1)).length):=by
  rw[<-A98 Z,gK,gK]
 have g:jP W b o at' i s f=fU (bR W.n (kd W.km s)) f at' o e++r:=by unfold jP;grind
 rw[JY j N,g,<-iC,iC]at a;rw[a]at c d;rw[<-d];exact QL c
end
theorem Bdc{W}(E:jN W){s q d}(h:ev W.g (.node s d)=some q){r}(w:F4 W.g s=some r){j:Nat}{a}(v:(bJ r)[j]? =some a)(X:kd W.km a=1){k}(c:d[j]? =some k):∃o,F4 W.g (fL k)=some o/\o.var=true/\eE (fL k) (.node s d)=true:=by
 obtain⟨o,g,_,G,f⟩:=nQ E.rs h;rw[w]at g;cases g;obtain⟨K,e,u⟩:=f j k c;rw[v]at e;cases e;have t:=bA c
 have m:eE (fL k) (.node s d)=true:=by
  unfold eE;rw[show kT (fL k) d=true from ?_];simp
  clear v c f h G w u
  induction d with
  |nil=>cases t
  |cons b l N=>
   unfold kT
   rcases bN.1 t with rfl|L
   ·have:eE (fL k) k=true:=by cases k;unfold fL eE;simp
    rw[this];rfl
   ·grind
 cases k with
 |node l P=>
  obtain⟨p,i,B,_⟩:=nQ E.rs u;refine⟨p,i,?_,m⟩;cases C:p.var with
  |true=>rfl
  |false=>
   obtain⟨J,n⟩:=E.all l p i C;obtain⟨Q,x,_,y,_⟩:=E.sy l J n;rw[i]at x;cases x;rw[B]at y;exact absurd X y
def eM(x:cT×I):I:=.agg [sV x.1.var,D x.1.obj,x.2]
def FH(J:F)(l:List Int)(v:I):Prop:=v=aD eI 1 l\/(v=nS/\l=[])\/∃o,v=.sr o 0 1 l.length (some l.length)/\J.get o=some (.cells (l.flatMap eI))
theorem FH.und{J l v}(i:bY J)(h:FH J l v):I.und (O J) v=true:=by
 rcases h with rfl|⟨rfl,_⟩|⟨o,rfl,h⟩
 ·exact Fv zF _
 ·rfl
 ·exact Ce (i _ _ h).1
structure oC (d:Db)(s:cA)(W:Wd)(rm:SM Rl)(M:cF)(V:aH->Prop)(tl:List I)(a kq rq yq b q:Nat)(J:F):Prop where
 w:fH d s W.km rm W.sm a kq rq yq J
 m:J.get b=some (.cells (gH a q M.k++tl))
 of:∃m:SM (cT×I),B8 eM J q m/\∀s',V s'->∃v,m.get s'=some (M.of s',v)/\FH J (M.of s').vals v
theorem oC.below{d s W e E k p a n t u b q J U}(i:bY J)(h:oC d s W e E k p a n t u b q J)(x:Below (O J) J U):oC d s W e E k p a n t u b q U:=by
 obtain⟨⟨r,⟨R,w⟩,⟨S,y⟩,⟨T,B⟩⟩,C,m,⟨X,G⟩,K⟩:=h;have g:∀c j,J.get c=some j->U.get c=some j:=λc j l=>(x.2 c (i c j l).1).trans l
 exact⟨⟨g _ _ r,⟨R,g _ _ w⟩,⟨S,g _ _ y⟩,⟨T,g _ _ B⟩⟩,g _ _ C,m,⟨X,g _ _ G⟩,λQ L=>by
  obtain⟨v,N,f⟩:=K Q L;refine⟨v,N,?_⟩
  rcases f with f|f|⟨o,f,P⟩
  ·exact .inl f
  ·exact .inr (.inl f)
  ·exact .inr (.inr ⟨o,f,g _ _ P⟩)⟩
theorem xN (d : Db) (s : cA) (g : Gr) (W : Wd) (rm : SM Rl) (M : cF) (l6 : aH -> Prop) (tl : List I) (a T rq yq b q : Nat) (hG : gU g) (s7 : W.g = g.rules) (hn : W.n = s.size) (hW : jN W) (sw : ∀ l,rm.get l = F4 g.rules l) (S : M.k <= 6) (B q0 : aH) (h : List Ax) (at' : List Int) (J : F) (oh : ∀ s' r',eE s' (.node B h) = true -> F4 W.g s' = some r' -> r'.var = true -> l6 s') (hf : ev W.g (.node B h) = some q0) (hv : kY W M (.node B h)) (u : ff W.n at') (hS : oC d s W rm M l6 tl a T rq yq b q J) (hb : h.length < 1000000) (ih : ∀ k ∈ h,∀ at' U,ff W.n at' -> oC d s W rm M l6 tl a T rq yq b q U -> Cv 239 [.pr b 0,En k,.agg (at'.map D)] U (D (cU W M k at'))) : Cv 239 [.pr b 0,En (.node B h),.agg (at'.map D)] J (D (cU W M (.node B h) at')) := by
 rw [Cg];obtain ⟨r,hr,hq,ak,lj⟩ := nQ hW.rs hf;have H : rm.get B = some r := Z
 have fg := sP (by grind : F4 g.rules B = some r)
 have sx := hG.prt r fg;have lc := hG.argsOk fg;have ey := hW.n1;have lq := hW.n3
 have t : (at'.map D).length = 6 := by rw [jT]; exact u.1
 have ag : ff s.size at' := Z
 obtain ⟨nn,mt⟩ := Int.eq_ofNat_of_zero_le (show 0 <= s.size by omega)
 have a8 := hS.w.cl;have R := hS.m;refine Aj Tryz.func239 rfl rfl λN t7 => ?_
 refine G3 ?_;refine Jv aG rfl (A7 t) rfl ?_;refine G2 ?_;refine Gz 7 wV (eR r) [] (Vj r) rfl (λN => ?_) ?_
 ·refine XX 1 (l := []) trivial ?_;refine G3 ?_;refine V (E8 R aG rfl (show Cz 1 false ((gH a q M.k ++ tl).drop 0) = some (.pr a 0) from rfl)) ?_
  refine G2 ?_;refine V (E8 a8 aG rfl (show Cz 1 false ((dI d s T rq yq).drop 7) = some (.mp rq) from rfl)) ?_
  refine G2 ?_;refine V (Nr (v := r) bI zX rfl hS.w.rs rfl H) (DT (Bu bG) (DT (By (vs := wV) (vs' := eR r) aG rfl rfl (A7 (Qy _)) Eg (Hh (Qy _))) ?_));refine G ?_
  exact ⟨(by intro e he; simp at he; rcases he with rfl | rfl <;> first | exact .refl | exact K4 N),trivial,sb,rfl,rfl⟩
 refine G6 ?_;refine Ab rfl ?_ ?_ <;> intro h1
 ·have hm := hv B r (by unfold eE; simp) hr h1
  obtain ⟨mm,ln,lw⟩ := hS.of
  obtain ⟨av,o5,d9⟩ := lw B (oh B r (by unfold eE; simp) hr h1)
  have no := d9.und N
  refine Gz 8 jR [sV (M.of B).var,D (M.of B).obj,av] [] (by show (true && (true && (I.und (O J) av && true))) = true; rw [no]; rfl) rfl (λN => ?_) ?_
  ·refine XX 1 (l := []) trivial ?_;refine G3 ?_;refine V (E8 R aG rfl (show Cz 1 false ((gH a q M.k ++ tl).drop 1) = some (.mp q) from rfl)) ?_
   refine G2 ?_;refine V (Nr (v := (M.of B,av)) bI pT rfl ln rfl o5) (DT (Bu bG) (DT (By (vs := jR) (vs' := [sV (M.of B).var,D (M.of B).obj,av]) aG rfl rfl rfl Eg rfl) ?_));refine G ?_
   exact ⟨(by intro e he; simp at he; rcases he with rfl | rfl <;> first | exact .refl | exact K4 N),trivial,sb,rfl,rfl⟩
  refine G2 ?_;refine X0 ?_;refine G3 ?_;refine V (E8 R aG rfl (show Cz 1 false ((gH a q M.k ++ tl).drop 0) = some (.pr a 0) from rfl)) ?_
  refine G2 ?_;refine V (E8 a8 aG rfl (show Cz 1 false ((dI d s T rq yq).drop 6) = some (.mp T) from rfl)) ?_
  refine G2 ?_;refine V (kD bI gG rfl hS.w.ks rfl) ?_;refine G2 ?_;refine ⟨rfl,rfl,?_⟩;refine Ab rfl ?_ ?_ <;> intro h2
  ·have P : kd W.km r.sort = 1 := Z;obtain ⟨lu,sq⟩ := hm.1 P;obtain ⟨o,ho⟩ := Int.eq_ofNat_of_zero_le lu;have ac : o < 6 := Z
   obtain ⟨v0,K⟩ := Ar (show o < at'.length by rw [u.1]; exact ac)
   refine G4 ?_;refine A (Bp rD rfl (congrArg (λx => some (I.int .i64 x)) ho) ac rfl) ?_
   refine A (Ac aG rfl rfl (ZK K)) ?_;refine G3 ?_;refine B4 N rfl ?_;unfold cU; rw [hr]; simp only; rw [if_pos h1,if_pos P,ho]; show D v0 = D ((at'[o]?).getD 0); rw [K]; rfl
  ·have P : ¬ kd W.km r.sort = 1 := Z;obtain ⟨db,sn⟩ := hm.2 P;obtain ⟨sd,cx⟩ := KY ey u S
   obtain ⟨v0,K⟩ := Ar (show (dU W.n (at'.take M.k)).toNat < (M.of B).vals.length by rw [<- db] at cx; simp only [ep] at cx; omega)
   have d4 : dU s.size (at'.take M.k) = Int.ofNat (dU W.n (at'.take M.k)).toNat := Z
   rcases d9 with rfl | ⟨_,he⟩ | ⟨lo,rfl,sh⟩
   ·refine G2 ?_;refine XI (l := [(267,[.pr b 0,.agg (at'.map D)],J,D (dU s.size (at'.take M.k)),J)]) ⟨qS d s a T rq yq b q M.k at' _ a8 R z z ag S,trivial⟩ ?_;refine G3 ?_;refine V (Ac aG rfl rfl (Wz t)) ?_;refine G ?_;refine V (A1 (i := (dU W.n (at'.take M.k)).toNat) aJ zF rfl (congrArg (λx => some (I.int .i64 x)) d4) K) ?_
    refine G3 ?_
    refine ⟨rfl,by simp,?_⟩
    refine G ?_;refine B4 N rfl ?_;unfold cU; rw [hr]; simp only; rw [if_pos h1,if_neg P,K]; rfl
   ·grind
   ·refine G2 ?_;refine XI (l := [(267,[.pr b 0,.agg (at'.map D)],J,D (dU s.size (at'.take M.k)),J)]) ⟨qS d s a T rq yq b q M.k at' _ a8 R z z ag S,trivial⟩ ?_;refine G3 ?_;refine V (Ac aG rfl rfl (Wz t)) ?_;refine G ?_;refine V (Br aJ rfl (congrArg (λx => some (I.int .i64 x)) d4) (bQ.1 K).1) ?_
    refine V (Dg (enc := eI) (l := (M.of B).vals) (tl := []) zF aG rfl Z K zF) ?_
    refine G2 ?_
    refine ⟨rfl,by simp,?_⟩
    refine G ?_;refine B4 N rfl ?_;unfold cU; rw [hr]; simp only; rw [if_pos h1,if_neg P,K]; rfl
 ·obtain ⟨y,hy⟩ := hW.all B r hr h1;obtain ⟨o,ho⟩ : ∃ o : Nat,o = (M.of (((h[y.binds.toNat]?).map fL).getD [])).obj.toNat := ⟨_,rfl⟩;obtain ⟨hD,hP⟩ := Bdk hW hf (λk hk q hq at' u => BZ hW S k q hq (hv.kid k hk) at' u) hr hy u o
  obtain ⟨r2,z1,_,_,z4,z5,z6,_⟩ := hW.sy B y hy;rw [hr] at z1; cases z1;have th : Int.ofNat y.vals.length <= 10000 := Z
  have ae : (bJ r).length = (dN W M h).length := by rw [pV,A9v,jT,ak]
  have s8 : (bJ r).length < 1000000 := by rw [pV,ak]; exact hb
  refine G ?_;refine Gz 9 jR (eD y) [] (IU y) rfl (λN => ?_) ?_
  ·refine XX 1 (l := []) trivial ?_;refine G3 ?_;refine V (E8 R aG rfl (show Cz 1 false ((gH a q M.k ++ tl).drop 0) = some (.pr a 0) from rfl)) ?_
   refine G2 ?_;refine V (E8 a8 aG rfl (show Cz 1 false ((dI d s T rq yq).drop 8) = some (.mp yq) from rfl)) ?_
   refine G2 ?_;refine V (Nr (v := y) bI wC rfl hS.w.ss rfl hy) (DT (Bu bG) (DT (By (vs := jR) (vs' := eD y) aG rfl rfl (A7 (sI _)) Eg (Hh (sI _))) ?_));refine G ?_
   exact ⟨(by intro e he; simp at he; rcases he with rfl | rfl <;> first | exact .refl | exact K4 N),trivial,sb,rfl,rfl⟩
  refine G7 ?_;refine A (Ac (v := .agg (eR r)) aG rfl rfl (Wz (Qy r))) ?_;refine Ca (qJ r _ z lc) ?_;refine G4 ?_;refine Bz (bJ r).length (λf => [(0,.pr b 0),(4,.pv [sV B,aD eT 2 h]),(5,.pv (at'.map D)),(9,.pv (eD y)),(10,D (cY (A78 W y.binds o at' ((bJ r).take f) ((dN W M h).take f) 0) 0)),(69,Af (bJ r)),(70,D (.ofNat (bJ r).length)),(71,D (.ofNat f))]) (λf E => Below (O J) J E) SL mE ?_
  rintro f E sc C;refine G5 ?_;refine Ab rfl ?_ ?_ <;> intro h2
  ·have bc : f < (bJ r).length := Z;obtain ⟨w,aa⟩ := Ar bc;have sa := A4 aa;have Q := hS.below N C;have bx := Q.w.cl;have a7 := Q.m
   obtain ⟨p,a9⟩ := Ar (show f < h.length by rw [<- ak,<- pV]; exact bc)
   have L := bA a9;obtain ⟨ri,af,ax⟩ := lj f p a9;rw [aa] at af; cases af
   have ah : (dN W M h)[f]? = some (cU W M p) := by rw [A9v,eC,a9]; rfl
   have al := JY (W := W) (b := y.binds) (obj := o) (at' := at') aa ah;obtain ⟨ly,su⟩ := Rs hD hP ae (q' bc);have t8 := rN (k := kd W.km w) ey;have kf := y0 (k := kd W.km w) lq;have si : cY (A78 W y.binds o at' ((bJ r).take f) ((dN W M h).take f) 0) 0 * bR W.n (kd W.km w) <= 10000 * 3 := Int.mul_le_mul z kf z z;have db : 0 <= cY (A78 W y.binds o at' ((bJ r).take f) ((dN W M h).take f) 0) 0 * bR W.n (kd W.km w) := Int.mul_nonneg ly z;refine cG ?_;refine XS (l := [(196,[.pr a 0,D (kd W.km w)],E,D (bR s.size (kd W.km w)),E)]) ⟨mQ d s a T rq yq (kd W.km w) _ Q.w.cl,trivial⟩ ?_;refine G3 ?_;refine V (E8 a7 aG rfl (show Cz 1 false ((gH a q M.k ++ tl).drop 0) = some (.pr a 0) from rfl)) ?_
   refine G3 ?_;refine V (E8 a7 aG rfl (show Cz 1 false ((gH a q M.k ++ tl).drop 0) = some (.pr a 0) from rfl)) ?_
   refine G2 ?_;refine V (E8 bx aG rfl (show Cz 1 false ((dI d s T rq yq).drop 6) = some (.mp T) from rfl)) ?_
   refine G ?_;refine V (kD bI gG rfl Q.w.ks rfl) ?_;refine fJ ?_;refine Ab rfl ?_ ?_ <;> intro h3
   ·have aj : y.binds < 0 := Z;obtain ⟨ou,r6⟩ := BZ hW S p w ax (hv.kid p L) at' u
    have e3 : cY (A78 W y.binds o at' ((bJ r).take f) ((dN W M h).take f) 0) 0 * bR s.size (kd W.km w) + cU W M p at' = cY (A78 W y.binds o at' ((bJ r).take (f + 1)) ((dN W M h).take (f + 1)) 0) 0 := by rw [al,Rq]; unfold jP; rw [if_pos aj,<- hn]; rfl
    refine XS (l := [(239,[.pr b 0,En p,.agg (at'.map D)],E,D (cU W M p at'),E)]) ⟨ih p L at' _ u Q,trivial⟩ ?_;refine G2 ?_;refine V (qA aV rfl rfl Z Z) ?_;refine G4 ?_;refine V (A1 aJ Dh rfl rfl a9) (V (Ac aG rfl rfl (A6 (Dh p) _)) (V (Ac aG rfl rfl (Wz t)) ?_));refine G ?_;refine V (rH aV rfl rfl Z Z) ?_;refine G6 ?_;refine ⟨bc,⟨rfl,rfl,rfl,rfl,congrArg (λx => some (D x)) e3,rfl,rfl,rfl,trivial⟩,C⟩
   ·have aj : ¬ y.binds < 0 := Z;refine G8 ?_;refine Ab rfl ?_ ?_ <;> intro h4
    ·have gz : ¬ Int.ofNat f = y.binds := Z;obtain ⟨jb,li,ab,au,ai⟩ : ∃ j,y.binds = Int.ofNat j /\ ∃ q,(bJ r)[j]? = some q /\ kd W.km q = 1 := Z;obtain ⟨kb,d5,r8,r9⟩ := Bc9 (M := M) (y := y) hW hf hv hr au ai;have ij : (M.of (fL kb)).obj = Int.ofNat o := Z;have ac : o < 6 := Z;obtain ⟨tn,dg,iw⟩ := Q.of
     obtain ⟨am,kr,_⟩ := iw (fL kb) (by
      obtain ⟨rb,tp,tq,tt⟩ := Bdc hW hf hr au ai d5
      grind)
     have ao := C.1
     have l8 : Below (O J) J ((E.new (.cells [.int .i64 0,.int .i64 0,.int .i64 0,.int .i64 0,.int .i64 0,.int .i64 0])).set (O E) (.cells (at'.map D))) := ⟨Z,λc hc => by rw [aU,if_neg z,a5,if_neg z]; exact C.2 c hc⟩
     have ar := hS.below N l8;have bz := ar.w.cl;have ay := ar.m
     have iq : ∀ r,Cz 1 false (eT kb ++ r) = some (sV (fL kb)) := λr => by cases kb; rw [Cl]; rfl
     refine G ?_;refine X0 ?_;refine G3 ?_;refine V (E8 a7 aG rfl (show Cz 1 false ((gH a q M.k ++ tl).drop 1) = some (.mp q) from rfl)) ?_
     refine G4 ?_;refine V (A1 (i := jb) aJ Dh rfl (congrArg (λx => some (I.int .i64 x)) li) d5) ?_
     refine G ?_;refine V (Ac aG rfl rfl (iq _)) (V (Nr (v := (M.of (fL kb),am)) bI pT rfl dg rfl kr) (V (uP (cs := [sV (M.of (fL kb)).var,D (M.of (fL kb)).obj,am]) cP rfl rfl) ?_));refine G2 ?_;refine ⟨rfl,rfl,?_⟩;refine G2 ?_;refine A (Ac aG rfl rfl (Wz t)) ?_;refine A (Bj (n := O E) bG rfl) ?_; refine A (G1 (a := O E) (off := 0) (cs := [.int .i64 0,.int .i64 0,.int .i64 0,.int .i64 0,.int .i64 0,.int .i64 0]) (cs' := at'.map D) Z aG rfl rfl (A7 t) (Hh t)) ?_;refine G6 ?_;refine A (E8 ay aG rfl (show Cz 1 false ((gH a q M.k ++ tl).drop 0) = some (.pr a 0) from rfl)) ?_
     refine G3 ?_
     refine A (E8 bz aG rfl (show Cz 1 false ((dI d s T rq yq).drop 0) = some (D (.ofNat nn)) from by rw [show Int.ofNat nn = s.size from mt.symm]; rfl)) ?_
     refine G3 ?_
     refine Bz nn (λm => [(0,.pr b 0),(4,.pv [sV B,aD eT 2 h]),(5,.pv (at'.map D)),(9,.pv (eD y)),(10,D (cY ((A78 W y.binds o at' ((bJ r).take f) ((dN W M h).take f) 0) ++ fU (bR W.n (kd W.km w)) (cU W M p) at' o m) 0)),(11,D (.ofNat f)),(13,D (bR s.size (kd W.km w))),(14,D (M.of (fL kb)).obj),(15,.pr (O E) 0),(69,Af (bJ r)),(70,D (.ofNat (bJ r).length)),(71,D (.ofNat f)),(132,D (.ofNat nn)),(133,D (.ofNat m))]) (λm J3 => Below (O J) J J3 /\ O E < O J3 /\ ∃ X : List Int,J3.get (O E) = some (.cells (X.map D)) /\ X.length = 6 /\ ∀ e,X.set o e = at'.set o e) ⟨rfl,rfl,rfl,rfl,congrArg (λx => some (D x)) (show cY (A78 W y.binds o at' ((bJ r).take f) ((dN W M h).take f) 0) 0 = cY ((A78 W y.binds o at' ((bJ r).take f) ((dN W M h).take f) 0) ++ fU (bR W.n (kd W.km w)) (cU W M p) at' o 0) 0 by simp [fU]),rfl,rfl,rfl,rfl,rfl,rfl,rfl,rfl,rfl,trivial⟩ ⟨⟨Z,λc hc => by have := C.1; rw [aU,if_neg z,a5,if_neg z]; exact C.2 c hc⟩,Z,at',Z,u.1,λ_ => rfl⟩ ?_
     rintro m J3 se ⟨ap,r7,X,l7,sf,lz⟩;refine G5 ?_;refine Ab rfl ?_ ?_ <;> intro h5
     ·have rn : m < nn := Z
      have an : (X.map D).set o (D (Int.ofNat m)) = ((at'.set o (Int.ofNat m)).map D) := by rw [<- lz,List.map_set]
      have ao := C.1
      have aq : Below (O J) J (J3.set (O E) (.cells ((at'.set o (Int.ofNat m)).map D))) := ⟨Z,λc hc => by rw [aU,if_neg z]; exact ap.2 c hc⟩
      have l9 := hS.below N aq;have aw : (((at'.set o (Int.ofNat m)).map D)).length = 6 := Z;obtain ⟨oo,t9⟩ := VR hD hP ae aa ah aj gz (e := m) Z;have tc : cY ((A78 W y.binds o at' ((bJ r).take f) ((dN W M h).take f) 0) ++ fU (bR W.n (kd W.km w)) (cU W M p) at' o m) 0 * bR W.n (kd W.km w) <= 10000 * 3 := Int.mul_le_mul z kf z z;have tg : 0 <= cY ((A78 W y.binds o at' ((bJ r).take f) ((dN W M h).take f) 0) ++ fU (bR W.n (kd W.km w)) (cU W M p) at' o m) 0 * bR W.n (kd W.km w) := Int.mul_nonneg oo z;obtain ⟨ou,r6⟩ := BZ hW S p w ax (hv.kid p L) (at'.set o (Int.ofNat m)) (u.set Z)
      have e3 : cY ((A78 W y.binds o at' ((bJ r).take f) ((dN W M h).take f) 0) ++ fU (bR W.n (kd W.km w)) (cU W M p) at' o m) 0 * bR s.size (kd W.km w) + cU W M p (at'.set o (Int.ofNat m)) = cY ((A78 W y.binds o at' ((bJ r).take f) ((dN W M h).take f) 0) ++ fU (bR W.n (kd W.km w)) (cU W M p) at' o (m + 1)) 0 := by rw [CN,<- iC,<- hn]; exact (Bdb _ (bR W.n (kd W.km w),cU W M p (at'.set o (Int.ofNat m)))).symm
      refine cG ?_;refine A (Bp (v := .pr (O E) (0 + o * 1)) rD rfl (congrArg (λx => some (I.int .i64 x)) ij) ac rfl) ?_
      refine A (G1 (cs' := ((at'.set o (Int.ofNat m)).map D)) l7 aG rfl rfl rfl (by rw [dE,lT,BL Z,an])) ?_
      refine G ?_;refine XS (l := [(239,[.pr b 0,En p,.agg ((at'.set o (Int.ofNat m)).map D)],J3.set (O E) (.cells ((at'.set o (Int.ofNat m)).map D)),D (cU W M p (at'.set o (Int.ofNat m))),J3.set (O E) (.cells ((at'.set o (Int.ofNat m)).map D)))]) ⟨ih p L (at'.set o (Int.ofNat m)) _ (u.set Z) l9,trivial⟩ ?_;refine G2 ?_;refine V (qA aV rfl rfl Z Z) ?_;refine G4 ?_;refine V (A1 aJ Dh rfl rfl a9) (V (Ac aG rfl rfl (A6 (Dh p) _)) (V (E8 (cs := ((at'.set o (Int.ofNat m)).map D)) Z aG rfl (Wz aw)) ?_));refine G ?_;refine V (rH aV rfl rfl Z Z) ?_;refine G6 ?_
      refine ⟨rn,⟨rfl,rfl,rfl,rfl,congrArg (λx => some (D x)) e3,rfl,rfl,rfl,rfl,rfl,rfl,rfl,rfl,rfl,trivial⟩,⟨aq,Z,at'.set o (Int.ofNat m),Z,Z,λe => by rw [List.set_set]⟩⟩
     ·have rr : nn <= m := Z
      have rr : m = nn := by omega
      have e4 : cY ((A78 W y.binds o at' ((bJ r).take f) ((dN W M h).take f) 0) ++ fU (bR W.n (kd W.km w)) (cU W M p) at' o m) 0 = cY (A78 W y.binds o at' ((bJ r).take (f + 1)) ((dN W M h).take (f + 1)) 0) 0 := by rw [al]; unfold jP; grind
      refine G5 ?_;refine ⟨bc,⟨rfl,rfl,rfl,rfl,congrArg (λx => some (D x)) e4,rfl,rfl,rfl,trivial⟩,ap⟩
    ·have gz : Int.ofNat f = y.binds := Z
     have e3 : cY (A78 W y.binds o at' ((bJ r).take f) ((dN W M h).take f) 0) 0 = cY (A78 W y.binds o at' ((bJ r).take (f + 1)) ((dN W M h).take (f + 1)) 0) 0 := by rw [al]; unfold jP; grind
     refine G5 ?_;refine ⟨bc,⟨rfl,rfl,rfl,rfl,congrArg (λx => some (D x)) e3,rfl,rfl,rfl,trivial⟩,C⟩
  ·have bj : (bJ r).length <= f := Z;have lg : (dN W M h).take f = dN W M h := dG Z;rw [dG bj,lg];obtain ⟨j0,jc⟩ := Rs hD hP ae Y;rw [List.take_length,ae,List.take_length] at j0 jc
   obtain ⟨vv,l5⟩ := Ar (show (cY (A78 W y.binds o at' (bJ r) (dN W M h) 0) 0).toNat < y.vals.length by simp only [ep] at jc; omega)
   have ns : cY (A78 W y.binds o at' (bJ r) (dN W M h) 0) 0 = Int.ofNat (cY (A78 W y.binds o at' (bJ r) (dN W M h) 0) 0).toNat := (Int.toNat_of_nonneg j0).symm;refine G6 ?_;refine A (A1 (i := (cY (A78 W y.binds o at' (bJ r) (dN W M h) 0) 0).toNat) aJ zF rfl (congrArg (λx => some (I.int .i64 x)) ns) l5) ?_
   refine G4 ?_;refine ⟨_,rfl,_,J,bL N C,Y,.same rfl,?_,rfl⟩;unfold cU; rw [hr]; simp only; rw [if_neg Z,hy]; simp only; rw [<- ho,l5]; rfl
theorem DJ(d s g W e E p tl a kq rq yq b q)(hG:gU g)(C:W.g=g.rules)(hn:W.n=s.size)(hW:jN W)(T:∀l,e.get l=F4 g.rules l)(N:E.k<=6)(t):∀(w:aH) (c:List Int) (U:F),(∀f m,eE f t=true->F4 W.g f=some m->m.var=true->p f)->ev W.g t=some w->kY W E t->ff W.n c->oC d s W e E p tl a kq rq yq b q U->M6 t<=100000->
  Cv 239 [.pr b 0,En t,.agg (c.map D)] U (D (cU W E t c)):=by
 refine Ax.ind' (P:=λt=>∀(w:aH) (c:List Int) (U:F),(∀f m,eE f t=true->F4 W.g f=some m->m.var=true->p f)->ev W.g t=some w->kY W E t->ff W.n c->oC d s W e E p tl a kq rq yq b q U->M6 t<=100000->
  Cv 239 [.pr b 0,En t,.agg (c.map D)] U (D (cU W E t c))) ?_ t
 intro s0 o ih w c U i L X G hS J;have Q:=QZ o
 have hc:1+mo o<=100000:=by unfold M6 at J;exact J
 obtain⟨r,hr,hq,R,v⟩:=nQ hW.rs L;refine xN d s g W e E p tl a kq rq yq b q hG C hn hW T N s0 w o c U i L X G hS z λk n y U2 u B=>?_
 obtain⟨j,hj⟩:=List.getElem?_of_mem n;obtain⟨x,_,hx⟩:=v j k hj;have K:=PQ n
 have S:∀f,eE f k=true->eE f (.node s0 o)=true:=λf h=>by
  unfold eE;rw[show kT f o=true from ?_];simp
  clear i L X hS J ih Q hc R v K hj
  induction o with
  |nil=>cases n
  |cons b l ih=>
   unfold kT
   rcases bN.1 n with rfl|hm
   ·rw[h];rfl
   ·grind
 exact ih k n x y U2 (λf m h=>i f m (S f h)) hx (X.kid k n) u B z
end
section
variable {W:Wd}{b:Int}{o:Nat}{at':List Int}{ss:List aH}{fs:List (List Int->Int)}{len:Nat}
end
section
variable {E:aZ}{ρ:Ad}{J:F}{Rr:bP}{t ty a off sz len:Nat}{cap:Option Nat}{x:Operand}
theorem nY(a:Mk E.P t=true):∃b e,Ay E.P t=some b/\b.desc=.slice e:=by
 unfold Mk at a
 grind
theorem KO(b:Mk E.P t=true)(W:Ah E ρ x=some (.sr a off sz len cap)):As E Rr (.binOp .eql t x (.const (.slice none 0 0)) ty) ρ J (.bool false) J:=λi h=>by
 obtain⟨j,e,c,d⟩:=nY b
 have f:(Cm x||Cm (.const (.slice none 0 0)))=true:=by rw[Bool.or_comm];rfl
 have g:opd E i (.const (.slice none 0 0))=nS:=rfl;simp only[bB,Aw,h.opd W,g,f,Wb,c,Ir,cond_true,vO,Q6,Pm,d,cond_false,Bool.true_or,Sx]
theorem ZM(a:Mk E.P t=true)(W:Ah E ρ x=some nS):As E Rr (.binOp .eql t x (.const (.slice none 0 0)) ty) ρ J (.bool true) J:=λg h=>by
 obtain⟨i,e,b,c⟩:=nY a
 have d:(Cm x||Cm (.const (.slice none 0 0)))=true:=by rw[Bool.or_comm];rfl
 have f:opd E g (.const (.slice none 0 0))=nS:=rfl;simp only[bB,Aw,h.opd W,f,d,Wb,b,Ir,cond_true,vO,Q6,c,Sx]
theorem kH{C:Type}{y enc tl}{l:List C}(p:∀a,(enc a).length=sz)(H:J.get a=some (.cells (l.flatMap enc++tl))):F9 J sz (.sr a 0 sz l.length y) l.length=some (l.flatMap enc):=by
 simp only[F9,F.cells,H,kn];rw[<-Dl p l];exact D0
theorem DC(J:F):Cv 91 [nS] J nS:=by
 refine Aj Tryz.func91 rfl rfl λb a=>?_
 refine G8 ?_;refine A (ZM bF rfl) ?_;refine G ?_;refine Ab rfl (λc=>?_) Z
 refine G5 ?_;exact⟨_,rfl,_,J,a_ b Y zN,Y,.same rfl,rfl,rfl⟩
end
theorem O2(s):(c7 s).length=3:=rfl
theorem U9{N}(s):I.unds N (c7 s)=true:=rfl
theorem FT(a y l k J)(c:J.get a=some (.cells (l.flatMap c7++k)))(Q:l.length<1000000):Al M 193 [.sr a 0 3 l.length y] J λu g=>u=aD c7 3 l/\g=J:=by
 refine Aj Tryz.func193 rfl rfl λf j=>?_
 obtain⟨v,U,d,h,i,H⟩:=iS (J:=J) (N:=O J) (by':=32) O2 Y aW.emp l (by simp only[az,lP];omega)
 refine G8 ?_;refine A (KO bF rfl) ?_;refine G ?_
 refine Ab rfl (λe=>by cases e) (λe=>?_)
 refine G3 ?_;refine A (Ai aJ bM rfl rfl rfl) ?_;refine G ?_;refine A (Av aJ rfl bF rfl rfl rfl (kH (enc:=c7) O2 c) d) ?_;refine G3 ?_;exact⟨_,rfl,aD c7 3 l,J,bL f i,Y,h.fz O2 (λb Q=>f.none Q) (A2 U9 _),rfl,rfl⟩
def foM{C b:Type}(J:C->b->Option C):List b->C->Option C
 |[],a=>some a
 |x::r,a=>match J a x with
  |none=>none
  |some c=>foM J r c
theorem Ahi{C c J}:∀{l m:List c} {a:C},foM J (l++m) a=match foM J l a with|none=>none|some b=>foM J m b
 |[],m,a=>rfl
 |x::r,m,a=>by
  show(match J a x with|none=>none|some b=>foM J (r++m) b)=match(match J a x with|none=>none|some b=>foM J r b)with|none=>none|some b=>foM J m b
  cases J a x with
  |none=>rfl
  |some b=>exact Ahi
theorem Xd{k R v}:∀(d:List Pt) (a:Nat) (K c:List Sp),K.length=c.length->(∀j,(∀p∈d,p.sort≠[]->p.arg.toNat≠j)->K[j]? =c[j]?)->wyP k R v d a K=wyP k R v d a c
 |[],a,K,c,f,h=>by
  have:K=c:=List.ext_getElem? λj=>h j λp l=>by cases l
  rw[this]
 |p::d,a,K,c,f,h=>by
  unfold wyP
  split
  ·rfl
  ·split
   ·rename_i l
    exact Xd d _ _ _ f λj i=>h j λq b g=>by
     rcases bN.1 b with rfl|b
     ·exact absurd l g
     ·exact i q b g
   ·congr 1
    funext e
    split
    ·refine Xd d _ _ _ (by rw[jO,jO,f]) λj i=>?_
     rw[List.getElem?_set,List.getElem?_set,f]
     by_cases e:p.arg.toNat=j
     ·rw[if_pos e,if_pos e]
     ·rw[if_neg e,if_neg e]
      exact h j λq b g=>by
       rcases bN.1 b with rfl|b
       ·exact e
       ·exact i q b g
    ·rfl
structure iA (mT aK:Nat)(a:Nat->Prop)(J:F)(F':Nat->Prop)(J':F):Prop where
 n:O J<=O J'
 f:∀b,F' b->a b\/O J<=b
 g:∀b,b<O J->¬a b->b≠mT->b≠aK->J'.get b=J.get b
theorem iA.trans{e d o n a J U p}(h:iA e d o J n U)(k:iA e d n U a p):iA e d o J a p:=by
 refine⟨bD h.n k.n,λb c=>?_,λb c i f g=>?_⟩
 ·rcases k.f b c with q|q
  ·exact h.f b q
  ·exact .inr (bD h.n q)
 ·rw[k.g b (cC c h.n) (λq=>?_) f g,h.g b c i f g]
  rcases h.f b q with q|q
  ·exact i q
  ·omega
theorem iA.of{q k o J U}(S:O J<=O U)(H:∀b,b<O J->b≠q->b≠k->U.get b=J.get b):iA q k o J o U:=⟨S,λ_ h=>.inl h,λb d _ a c=>H b d a c⟩
theorem iA.weak{q k o n J U}(h:iA q q o J n U):iA q k o J n U:=⟨h.n,h.f,λb c d a _=>h.g b c d a a⟩
structure qC (Ls:List RF)(L:RF)(g:Gr)(text:List aH)(D:List Sp)(X:Cp)(P mN mT aK n:Nat){α:Type}(I:α->(Nat->Prop)->F->Prop)(aA:XE->F->Prop)(st:α->List Sp->Option α):Prop where
 pk:∀a c U,I a c U->∃lv,ee g text D X P mN mT lv U
 ks:∀a c U,I a c U->¬c aK
 stb:∀a c U U',I a c U->O U<=O U'->(∀b,b<O U->b≠mT->b≠aK->U'.get b=U.get b)->Vo g D text U' mT->I a c U'
 y:∀a c (K:List Sp) U,K.length=n->I a c U->YX M Ls L [aD c7 3 K] U λx U'=>match st a K with
  |some a'=>x=.normal/\∃F',I a' F' U'/\iA mT mT c U F' U'
  |none=>x≠.normal/\aA x U'
theorem Fe{J:F}{b}:J.bump.get b=J.get b:=Fh _ _
theorem Asp{b R v k a K}(h:ldP b R v k a=false):wyP b R v k a K=[]:=by
 cases k with
 |nil=>unfold wyP;rw[if_neg (by rw[h];simp)]
 |cons p k=>unfold wyP;rw[if_pos h]
def Tu{C:Type}(R:List aH)(g:List Sp)(l k n:Nat)(h:C->(Nat->Prop)->F->Prop)(i:XE->F->Prop)(m:C->List Sp->Option C)(t:Nat)(e:List Pt)(a:Nat)(K:List Sp)(f:C)(o:Nat->Prop)(J:F)(v:I)(q:F):Prop:=
 match foM m (wyP g R t e a K) f with
 |some b=>v=.bool true/\∃(d:Nat->Prop) (c:List Sp),h b d q/\iA l k o J d q/\c.length=n/\q.get k=some (.cells (c.flatMap c7))/\∀j,(∀p∈e,p.sort≠[]->p.arg.toNat≠j)->c[j]? =K[j]?
 |none=>v=.bool false/\O J<=O q/\∃x,x≠.normal/\i x q
def zL(P r t n k:Nat)(a:List Pt)(L:RF)(N:Nat):List I:=[.pv [.pr P 0],.pv [nV r],.pv [nV t],.pv [aD cL 3 a],.pv [.yl L.aY],.pv [.sr k 0 3 n (some n)],.pr N 0]
def qY(P r t n k:Nat)(a:List Pt)(L:RF)(N:Nat):I:=.fn (.func 191) [] (zL P r t n k a L N)
theorem Tu.bool{C R k g e n q d j t i a K}{f:C}{o J v c}(h:Tu R k g e n q d j t i a K f o J v c):∃b,v=.bool b:=by
 unfold Tu at h
 grind
theorem OD{Ls L}(hL:L∈Ls){g R Q X P mN mT k n r t N}{w:Rl}{α aa aA U}(hC:qC Ls L g R Q X P mN mT k n aa aA U)(dg:g.rules[r]? =some w)(hG:∀p∈w.parts,p.sort≠[]->∃j:Nat,p.arg=Int.ofNat j/\j<n)(hR:g.rules.length<=1000000)(o5:w.parts.length<=1000000)(lw:R.length<=1000000)(ht:t<=R.length)(hn:n<=1000000-1)(C:N≠k/\N≠mT/\k≠mT)(ps)
  (ih:∀p c,ps=p::c->∀(d a:Nat) (K:List Sp) (f:α) (B:Nat->Prop) (J:F),w.parts.drop d=c->d<=w.parts.length->a<=R.length->K.length=n->aa f B J->¬B N->k<O J/\N<O J->J.get k=some (.cells (K.flatMap c7))->J.get N=some (.cells [qY P r t n k w.parts L N])->Hl M Ls 191 ([nV d,nV a]++zL P r t n k w.parts L N) J (Tu R Q mT k n aa aA U t c a K f B J))
  (d a K f B J)(d9:w.parts.drop d=ps)(hd:d<=w.parts.length)(ha:a<=R.length)(hK:K.length=n)(hI:aa f B J)(aj:¬B N)(al:k<O J/\N<O J)(hk:J.get k=some (.cells (K.flatMap c7)))(hf:J.get N=some (.cells [qY P r t n k w.parts L N])):Hl M Ls 191 ([nV d,nV a]++zL P r t n k w.parts L N) J (Tu R Q mT k n aa aA U t ps a K f B J):=by
 have oh:du g r=w.parts:=by unfold du;rw[dg]
 have eu:(du g r).length<=1000000:=Z;obtain⟨lv,qu⟩:=hC.pk _ _ _ hI;have db:ee g R Q X P mN mT lv J.bump:=qu.of_get Z (λ_ _=>Fe)
 have aq:aa f B J.bump:=hC.stb _ _ _ _ hI Z (λ_ _ _ _=>Fe) db.rs
 obtain⟨J1,nr,ap,v⟩:=E1 dg hR eu lw ht ps d a J.bump Z Z ha db;refine Mo Tryz.func191 (Ke _ _ Tryz.func191) rfl rfl λhw oo=>?_
 refine Cf ?_;refine Dy λy=>B7 ?_
 refine OA rfl (Dd ?_);refine Cf ?_;refine Cf ?_;refine Dy λy=>B7 ?_
 refine A (Ac aG rfl rfl rfl) (A (Ac aG rfl rfl rfl) (OM rfl (OM rfl (A (Ac aG rfl rfl rfl) (Nm rfl rfl rfl rfl nr (A (Dc rfl) (Dd ?_)))))));refine A0 rfl ?_ ?_<;>intro h1
 ·have af:ldP Q R t ps a=false:=Z
  have S:foM U (wyP Q R t ps a K) f=some f:=by rw[Asp af];rfl
  refine Cf ?_;refine Dy λy=>B7 ?_
  refine OA rfl (Dd ?_);refine Gi λE=>?_
  refine Th ?_
  refine⟨_,rfl,_,_,a_ E Y zN,(by have:=v.n;grind),.same rfl,?_⟩
  unfold Tu;rw[S]
  exact⟨rfl,B,K,hC.stb f B _ _ aq v.n (λb hb h1 _=>v.g b hb h1) ap.rs,.of (by have:=v.n;grind) (λb hb h1 _=>by rw[v.g b Z h1,Fe]),hK,by rw[v.g k Z C.2.2,Fe];exact hk,λ_ _=>rfl⟩
 ·have af:ldP Q R t ps a=true:=Z
  have n1:O J+1<=O J1:=by have:=v.n;grind
  have g1:∀b,b<O J->b≠mT->J1.get b=J.get b:=λb hb h1=>by rw[v.g b Z h1,Fe]
  have ac:aa f B J1:=hC.stb f B _ _ aq v.n (λb hb h1 _=>v.g b hb h1) ap.rs
  have ak:=(g1 k al.1 C.2.2).trans hk;have ay:=(g1 N al.2 C.2.1).trans hf;have ai:iA mT k B J B J1:=.of z (λb hb h1 _=>g1 b hb h1)
  refine Jw ?_;refine Cf ?_;refine Cf ?_;refine Dy λy=>B7 ?_
  refine OM rfl (A (Ac aG rfl rfl rfl) (A (Jl bF rfl) (A (H4 aV rfl rfl) (Dd ?_))));refine A0 rfl ?_ ?_<;>intro h2
  ·have am:ps=[]:=by
    rw[<-d9];exact cv Z
   subst am
   have S:foM U (wyP Q R t [] a K) f=U f K:=by
    unfold wyP;rw[if_pos af]
    show(match U f K with|none=>none|some a'=>some a')=_
    grind
   refine Cf ?_;refine HU 3 (Rr:=Dk [(193,[.sr k 0 3 n (some n)],J1,aD c7 3 K,J1)]) (anns:=[aR 0 1,aR 0 0,aE 0 1]) Kr Di (Bw ⟨hK▸FT k (some K.length) K [] J1 Z z,trivial⟩) Kr ?_;refine V (Ac aG rfl rfl rfl) (V (Ac aG rfl rfl rfl) (DT (Bq rfl rfl Bv) (C1 ?_)));refine⟨⟨(λs hs=>⟨_,Ac (aG (t:=356)) rfl rfl rfl⟩),(λs hs=>⟨_,Ac (aG (t:=242)) rfl rfl rfl⟩),trivial,trivial⟩,?_⟩
   refine Lg hL zN rfl rfl rfl rfl (hC.y f B K J1 hK ac) λx J2 hp d5=>?_
   refine Gm 1 λy=>?_
   refine OA rfl (Dd ?_);refine Uy ?_;refine Gi λE=>?_
   refine Th ?_;refine⟨_,rfl,_,_,a_ E Y zN,z,.same rfl,?_⟩
   unfold Tu;rw[S];cases ey:U f K with
   |none=>
    rw[ey]at hp
    exact⟨by cases x with|normal=>exact absurd rfl hp.1|exit _=>rfl|ret=>rfl,by omega,x,hp⟩
   |some an=>
    rw[ey]at hp;obtain⟨rfl,F',ah,ae⟩:=hp
    exact⟨rfl,F',K,ah,ai.trans ae.weak,hK,by rw[ae.g k z (hC.ks _ _ _ ac) C.2.2 C.2.2];exact ak,λ_ _=>rfl⟩
  ·have l7:d<w.parts.length:=Z;obtain⟨p,hp⟩:=Ar l7
   obtain⟨c,am⟩:∃c,ps=p::c:=⟨w.parts.drop (d+1),by rw[<-d9];exact A4 hp⟩
   subst am
   have fp:w.parts.drop (d+1)=c:=by
    have:=A4 hp
    grind
   refine Jw ?_;refine Cf ?_;refine Dy λy=>B7 ?_
   refine A (Ac aG rfl rfl rfl) (OM rfl (A (A1 aJ zF rfl rfl hp) ?_))
   refine A (Ac aG rfl rfl (A6 (Jy p) _)) (Mp bG aG rfl zF rfl (A7 (Jy p)) rfl ?_)
   refine Dd ?_;refine Cf ?_;refine Cf ?_;refine Dy λy=>B7 ?_
   refine A (Ae cP rfl rfl) (A (Ac aG rfl rfl (Tt p)) (A (H5 (q:=[]) aV rfl rfl) (Dd ?_)));refine A0 rfl ?_ ?_<;>intro h3
   ·have cg:p.sort=[]:=of_decide_eq_true h3
    have lz:a<t:=by
     have:(if p.sort=[]then decide (a<t)&&decide (R.getD a []=p.symbol)&&ldP Q R t c (a+1)else _)=true:=af
     grind
    have S:wyP Q R t (p::c) a K=wyP Q R t c (a+1) K:=by
     rw[wyP,if_neg Z,if_pos cg]
    refine Cf ?_;refine Er ?_;refine Gm 5 λy=>?_
    refine A (E8 ay aG rfl rfl) (OM rfl (A (D3 (q:=1) aV rfl rfl z) ?_));refine OM rfl (A (D3 (q:=1) aV rfl rfl z) ?_);refine Dd ?_
    refine L5 zN rfl rfl rfl rfl rfl (ih p c rfl (d+1) (a+1) K f B J1 fp z z hK ac aj ⟨by omega,by omega⟩ ak ay) λu2 J2 i d5=>?_
    obtain⟨b2,rfl⟩:=Tu.bool i;refine Gm 1 λy=>?_
    refine OA rfl (Dd ?_);refine Uy ?_;refine Gi λE=>?_
    refine Th ?_;refine⟨_,rfl,_,_,a_ E Y zN,z,.same rfl,?_⟩
    unfold Tu at i⊢;rw[S];cases a9:foM U (wyP Q R t c (a+1) K) f with
    |none=>
     rw[a9]at i;obtain⟨T,h2,h3⟩:=i;obtain rfl:=I.bool.inj T
     exact⟨rfl,by omega,h3⟩
    |some an=>
     rw[a9]at i;obtain⟨T,F',K',ah,ae,jc,lj,hj⟩:=i;obtain rfl:=I.bool.inj T;exact⟨rfl,F',K',ah,ai.trans ae,jc,lj,λj h=>hj j λq hq=>h q (ch _ hq)⟩
   ·have cg:p.sort≠[]:=of_decide_eq_false h3;obtain⟨ja,lc,lg⟩:=hG p (bA hp) cg;have li:p.arg.toNat=ja:=Z;obtain⟨G,ij⟩:∃G:Nat->List (List Sp),(λe=>if(p.sort,a,e)∈Q then wyP Q R t c e (K.set ja (p.sort,a,e))else[])=G:=⟨_,rfl⟩
    have S:wyP Q R t (p::c) a K=(List.range' a (t+1-a)).flatMap G:=by
     rw[wyP,if_neg Z,if_neg cg,<-ij,li]
    refine Jw ?_;refine Cf ?_;refine Cf ?_;refine Dy λy=>B7 ?_
    refine OM rfl (OA rfl (Dd ?_));refine Qn ?_;refine Hz (λq:Nat×α=>[(0,nV d),(1,nV a),(2,.pv [.pr P 0]),(4,.pv [nV t]),(7,.pv [.sr k 0 3 n (some n)]),(8,.pr N 0),(12,.pv (cL p)),(13,nV q.1)]) (λq J0=>a<=q.1/\(q.1<=t+1\/q.1=a)/\∃F0 W,aa q.2 F0 J0/\iA mT k B J F0 J0/\O J+1<=O J0/\W.length=n/\J0.get k=some (.cells (W.flatMap c7))/\(∀j,(∀q∈p::c,q.sort≠[]->q.arg.toNat≠j)->W[j]? =K[j]?)/\(∀j,(∀q∈c,q.sort≠[]->q.arg.toNat≠j)->j≠ja->W[j]? =K[j]?)/\foM U ((List.range' q.1 (t+1-q.1)).flatMap G) q.2=foM U ((List.range' a (t+1-a)).flatMap G) f) (λq=>t+1-q.1) (a,f) SL ⟨Y,.inr rfl,B,K,ac,ai,n1,hK,ak,λ_ _=>rfl,λ_ _ _=>rfl,rfl⟩ ?_
    rintro⟨e,m⟩ J0 ⟨aw,ax,F0,W,a7,a8,n0,ar,d4,cx,l9,bu⟩;have aw:a<=e:=aw;have ax:e<=t+1\/e=a:=ax;have a7:aa m F0 J0:=a7;have bu:foM U ((List.range' e (t+1-e)).flatMap G) m=foM U ((List.range' a (t+1-a)).flatMap G) f:=bu
    have qh:¬F0 N:=λh=>by
     rcases a8.f N h with q|q
     ·exact aj q
     ·omega
    have l8:J0.get N=some (.cells [qY P r t n k w.parts L N]):=(a8.g N al.2 aj C.2.1 C.1).trans hf;refine Cf ?_;refine Cf ?_;refine Dy λy=>B7 ?_
    refine OM rfl (A (Ac aG rfl rfl rfl) (A (Hn aV rfl rfl) (Dd ?_)));refine A0 rfl ?_ ?_<;>intro h4
    ·have ns:e<=t:=dQ.1 (of_decide_eq_true h4)
     have lu:List.range' e (t+1-e)=e::List.range' (e+1) (t+1-(e+1)):=by
      rw[show t+1-e=(t+1-(e+1))+1 by omega,kI]
     rw[lu,ej,Ahi]at bu;obtain⟨ou,fq⟩:=hC.pk _ _ _ a7;obtain⟨MD,⟨vD,au⟩,dh⟩:=fq.dn;refine Jw ?_;refine Cf ?_;refine Qn ?_;refine Cf ?_;refine Dy λy=>B7 ?_
     refine A (Ae cP rfl rfl) (A (Ac aG rfl rfl rfl) (OM rfl (OM rfl (A (Ut z8 rfl rfl) (Mp bG aG rfl zF rfl rfl rfl ?_)))))
     refine Dd ?_
     by_cases bz:(p.sort,a,e)∈Q
     ·have hm:=(dh _).1 bz;have ag:G e=wyP Q R t c e (K.set ja (p.sort,a,e)):=Z;refine Cf ?_;refine Cf ?_;refine Dy λy=>X0 ?_
      refine V (Ac aG rfl rfl rfl) (V (Ge rfl) (V (Ae cP rfl rfl) (V (E8 fq.pk aG rfl rfl) (V (Ge rfl) (V (Ae cP rfl rfl) (V (E8 fq.cl aG rfl rfl) (V (Ac aG rfl rfl rfl) ?_)))))));refine V (Ns (o:=some true) (z:=.bool false) Va rfl ⟨vD,au⟩ rfl (j' (p.sort,a,e)) hm) (V (Dc rfl) (C1 ?_));refine⟨rfl,rfl,?_⟩;refine A0 rfl Z (λh5=>?_)
      have kr:ja<W.length:=by omega
      have ly:wyP Q R t c e (W.set ja (p.sort,a,e))=G e:=by
       rw[ag];refine Xd _ _ _ _ Z λj hj=>?_
       grind
      obtain⟨J5,gz⟩:=zE (J0.set k (.cells ((W.set ja (p.sort,a,e)).flatMap c7++[])));have n5:O J5=O J0:=Z;have g5:∀b,b≠k->J5.get b=J0.get b:=Z;have ln:J5.get k=some (.cells ((W.set ja (p.sort,a,e)).flatMap c7)):=Z;have iw:aa m F0 J5:=hC.stb _ _ _ _ a7 z (λb _ _ h2=>g5 b h2) (fq.rs.of_get (g5 mT C.2.2.symm))
      have bx:=(g5 N C.1).trans l8;have l5:iA mT k B J F0 J5:=a8.trans (.of z λb _ _ h2=>g5 b h2)
      refine Jw ?_;refine Cf ?_;refine Dy λy=>B7 ?_
      refine A (Ac aG rfl rfl rfl) (A (Ae cP rfl rfl) (A (Ac aG rfl rfl (show _=some (nV ja)from by show some (I.int .i64 p.arg)=_;rw[lc];rfl)) ?_))
      refine A (Ac aG rfl rfl rfl) (A (Br aJ rfl rfl lg) (A (Tb (u:=(p.sort,a,e)) (l:=W) (tl:=[]) O2 aG rfl rfl rfl Z kr) ?_));refine Dd ?_;rw[gz];refine Cf ?_;refine Er ?_;refine Gm 4 λy=>?_
      refine A (E8 bx aG rfl rfl) (OM rfl (A (D3 (q:=1) aV rfl rfl z) ?_));refine OM rfl (Dd ?_)
      refine L5 zN rfl rfl rfl rfl rfl (ih p c rfl (d+1) e (W.set ja (p.sort,a,e)) m F0 J5 fp z z Z iw qh ⟨by omega,by omega⟩ ln bx) λu2 J2 i d5=>?_
      obtain⟨b2,rfl⟩:=Tu.bool i;refine Gm 1 λy=>?_
      refine A (Dc rfl) (Dd ?_);refine Uy ?_;unfold Tu at i;rw[ly]at i;cases a9:foM U (G e) m with
      |none=>
       rw[a9]at i bu;obtain⟨T,h2,h3⟩:=i;obtain rfl:=I.bool.inj T;refine A0 rfl (λh6=>?_) Z
       refine Cf ?_;refine Dy λy=>B7 ?_
       refine OA rfl (Dd ?_);refine Gi λE=>?_
       refine Th ?_;refine⟨_,rfl,_,_,a_ E Y zN,z,.same rfl,?_⟩
       unfold Tu;rw[S,<-bu]
       exact⟨rfl,by omega,h3⟩
      |some ao=>
       rw[a9]at i bu;obtain⟨T,F1,K1,j0,l6,kf,lq,no⟩:=i;obtain rfl:=I.bool.inj T;refine A0 rfl Z (λh6=>?_)
       refine Jw ?_;refine Dy λy=>B7 ?_
       refine OM rfl (A (D3 (q:=1) aV rfl rfl z) ?_);refine OA rfl (Dd ?_);refine⟨(e+1,ao),Z,SL,Z,.inl Z,F1,K1,j0,l5.trans l6,Z,kf,lq,λj hj=>?_,λj hj ft=>?_,bu⟩
       ·grind
       ·grind
     ·have hm:=(dh _).2 bz;have ag:G e=[]:=Z;rw[ag]at bu;refine Cf ?_;refine Cf ?_;refine Dy λy=>X0 ?_
      refine V (Ac aG rfl rfl rfl) (V (Ge rfl) (V (Ae cP rfl rfl) (V (E8 fq.pk aG rfl rfl) (V (Ge rfl) (V (Ae cP rfl rfl) (V (E8 fq.cl aG rfl rfl) (V (Ac aG rfl rfl rfl) ?_)))))));refine V (Ns (o:=none) (z:=.bool false) Va rfl ⟨vD,au⟩ rfl (j' (p.sort,a,e)) hm) (V (Dc rfl) (C1 ?_));refine⟨rfl,rfl,?_⟩;refine A0 rfl (λh5=>?_) Z
      refine Ux ?_;refine Dy λy=>B7 ?_
      refine OM rfl (A (D3 (q:=1) aV rfl rfl z) ?_);refine OA rfl (Dd ?_);refine⟨(e+1,m),Z,SL,Z,.inl Z,F0,W,a7,a8,n0,ar,d4,cx,l9,bu⟩
    ·have mt:¬e<=t:=λq=>(of_decide_eq_false h4) (dQ.2 q)
     rw[show t+1-e=0 by omega]at bu
     have bu:some m=foM U ((List.range' a (t+1-a)).flatMap G) f:=bu;refine Ux ?_;refine Cf ?_;refine Dy λy=>B7 ?_
     refine OA rfl (Dd ?_);refine Gi λE=>?_
     refine Th ?_;refine⟨_,rfl,_,_,a_ E Y zN,z,.same rfl,?_⟩
     unfold Tu;rw[S,<-bu];exact⟨rfl,F0,W,a7,a8,ar,d4,cx⟩
theorem f191{o L}(v:L∈o){g R y X P Q q k n r t aF}{w:Rl}{C l B G}(s:qC o L g R y X P Q q k n l B G)(E:g.rules[r]? =some w)(u:∀p∈w.parts,p.sort≠[]->∃j:Nat,p.arg=Int.ofNat j/\j<n)(x:g.rules.length<=1000000)(i:w.parts.length<=1000000)(N:R.length<=1000000)(m:t<=R.length)(S:n<=1000000-1)(b:aF≠k/\aF≠q/\k≠q):∀(e:List Pt) (d a:Nat) (K:List Sp) (c:C) (f:Nat->Prop) (J:F),w.parts.drop d=e->d<=w.parts.length->a<=R.length->K.length=n->l c f J->¬f aF->k<O J/\aF<O J->J.get k=some (.cells (K.flatMap c7))->J.get aF=some (.cells [qY P r t n k w.parts L aF])->Hl M o 191 ([nV d,nV a]++zL P r t n k w.parts L aF) J (Tu R y q k n l B G t e a K c f J)
 |[]=>OD v s E u x i N m S b [] Z
 |p::e=>OD v s E u x i N m S b (p::e) λU T h=>by cases h;exact f191 v s E u x i N m S b e
end Go.AM

