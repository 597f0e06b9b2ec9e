/- A part of the proof; shortened by program. -/
import Derived.ChangeKeysEq
import Derived.Laws.StructEq
import Derived.Test.YtmkaboegdoadhaaGreatDoorP01
set_option maxRecDepth 100000
set_option maxHeartbeats 4000000
set_option linter.all false
namespace Go.AM
open Go
section
variable {P:Program}{C:aO}{N:Nat}{w:World}
def Dz(P:Program)(C:aO)(N:Nat)(w:World)(s:Sem Value)(v:I):Prop:=∃x,s.run P w=.ok x w/\R C N w v x
theorem Dz.runs{J s v}(j:aX P C w J)(h:Dz P C (O J) w s v):Iv P C w J s v J:=
 let⟨x,a,b⟩:=h;⟨x,x,w,C,a,rfl,j,dJ _ _ _,b⟩
theorem E7{op t x y a b}(u:∀l m,¬(a=.agg l/\b=.agg m))(r:¬(a=.nilIface/\b=.nilIface)):
  (eqGuard op t x y a b).run P w=.ok () w:=by
 cases op<;>first
  |(simp[eqGuard];done)
  |(cases a<;>cases b<;>first
    |(simp[eqGuard];done)
    |exact absurd ⟨rfl,rfl⟩ r
    |exact absurd ⟨rfl,rfl⟩ (u _ _))
theorem SC{a t x y}(h:(Cm x||Cm y)=true):(eqGuard a t x y .nilIface .nilIface).run P w=.ok () w:=by
 cases a<;>first
  |(simp[eqGuard];done)
  |(cases x<;>cases y<;>first
    |(simp[Cm]at h;done)
    |(simp[eqGuard];done))
theorem Ahy{e a b v}(h:T3 e (B2 a) (B2 b)=some v)(t):
  ∃x,(binOp e t (.string a) (.string b)).run P w=.ok x w/\R C N w v x:=by
 have d:C8 (B2 a) (B2 b)=Op.bytesLess a.toList b.toList:=by rw[ByteArray.toList_eq,ByteArray.toList_eq];exact Aaj _ _
 cases e<;>simp only[T3]at h
 case add=>
  cases f:Nat.ble ((B2 a).length+(B2 b).length) EY
  ·grind
  ·simp only[f,cond_true]at h;cases h;have c:=dB f;rw[Fg,Fg]at c
   have g:¬(((a.size+b.size:Nat):Int)>IntKind.i64.max):=by
    have:IntKind.i64.max=9223372036854775807:=by decide
    rw[this];unfold EY at c;omega
   refine⟨.string (a++b),?_,by unfold R;exact⟨_,rfl,UV a b⟩⟩
   simp only[binOp,Op.stringOp,Sem.run_ite,if_neg g,Sem.run_pure]
 case eql=>cases h;exact⟨_,by simp only[binOp];simp[Op.stringOp];rfl,by unfold R;rw[Lt]⟩
 case neq=>cases h;exact⟨_,by simp only[binOp];simp[Op.stringOp];rfl,by unfold R;rw[Lt]⟩
 case lss=>cases h;exact⟨_,by simp only[binOp];simp[Op.stringOp];rfl,by unfold R;rw[d]⟩
 case leq=>cases h;exact⟨_,by simp only[binOp];simp[Op.stringOp];rfl,by unfold R;rw[d,Lt]⟩
 case gtr=>cases h;exact⟨.bool (!(Op.bytesLess a.toList b.toList||a.toList==b.toList)),by simp only[binOp,Op.stringOp,Sem.run_pure],by unfold R;rw[d,Lt]⟩
 case geq=>cases h;exact⟨_,by simp only[binOp];simp[Op.stringOp];rfl,by unfold R;rw[d]⟩
 all_goals (cases h)
structure cR (P:Program)(w:World)(t:TypeId)(X Y:Value)(b:Bool):Prop where
 eql:(binOp .eql t X Y).run P w=.ok (.bool b) w
 neq:(binOp .neq t X Y).run P w=.ok (.bool !b) w
theorem cR.mk'{t X J b}(h:∀d,(Op.equalIn (d+1) t X J).run P w=.ok b w)
  (c:binOp .eql t X J=(do pure (.bool (<-Op.equal t X J))))(e:binOp .neq t X J=(do pure (.bool (!(<-Op.equal t X J))))):cR P w t X J b:=by
 have a:(Op.equal t X J).run P w=.ok b w:=h 9999
 exact⟨by rw[c];simp only[Sem.run_bind,a,Result.andThen_ok,Sem.run_pure],by rw[e];simp only[Sem.run_bind,a,Result.andThen_ok,Sem.run_pure]⟩
section
variable {t:TypeId}{d:TypeDesc}
theorem cR.slice(g:P.underlying t=some d)(h:∃e,d=.slice e)(X n k):cR P w t (.slice (some X) n k) (.slice none 0 0) false/\cR P w t (.slice none 0 0) (.slice (some X) n k) false/\cR P w t (.slice none 0 0) (.slice none 0 0) true:=by
 obtain⟨e,rfl⟩:=h
 exact⟨.mk' (λd=>by simp[Op.equalIn,Aa g]) rfl rfl,.mk' (λd=>by simp[Op.equalIn,Aa g]) rfl rfl,.mk' (λd=>by simp[Op.equalIn,Aa g]) rfl rfl⟩
abbrev xy:=@cR.slice
theorem cR.pointer(g:P.underlying t=some d)(h:∃e,d=.pointer e)(X):cR P w t (.pointer (some X)) (.pointer none) false/\cR P w t (.pointer none) (.pointer (some X)) false/\cR P w t (.pointer none) (.pointer none) true:=by
 obtain⟨e,rfl⟩:=h
 exact⟨.mk' (λd=>by simp[Op.equalIn,Aa g]) rfl rfl,.mk' (λd=>by simp[Op.equalIn,Aa g]) rfl rfl,.mk' (λd=>by simp[Op.equalIn,Aa g]) rfl rfl⟩
abbrev FC:=@cR.pointer
theorem cR.map(g:P.underlying t=some d)(h:∃k e,d=.map k e)(c):cR P w t (.map (some c)) (.map none) false/\cR P w t (.map none) (.map (some c)) false/\cR P w t (.map none) (.map none) true:=by
 obtain⟨k,e,rfl⟩:=h
 exact⟨.mk' (λd=>by simp[Op.equalIn,Aa g]) rfl rfl,.mk' (λd=>by simp[Op.equalIn,Aa g]) rfl rfl,.mk' (λd=>by simp[Op.equalIn,Aa g]) rfl rfl⟩
theorem cR.func(g:P.underlying t=some d)(h:∃a b c,d=.func a b c)(f p q):cR P w t (.func f p q) .nilFunc false/\cR P w t .nilFunc (.func f p q) false/\cR P w t .nilFunc .nilFunc true:=by
 obtain⟨a,b,c,rfl⟩:=h
 exact⟨.mk' (λd=>by simp[Op.equalIn,Aa g]) rfl rfl,.mk' (λd=>by simp[Op.equalIn,Aa g]) rfl rfl,.mk' (λd=>by simp[Op.equalIn,Aa g]) rfl rfl⟩
theorem cR.iface(g:P.underlying t=some d)(h:∃m,d=.interface m)(u v):cR P w t (.iface u v) .nilIface false/\cR P w t .nilIface (.iface u v) false/\cR P w t .nilIface .nilIface true:=by
 obtain⟨m,rfl⟩:=h
 exact⟨.mk' (λd=>by simp[Op.equalIn,Aa g]) rfl rfl,.mk' (λd=>by simp[Op.equalIn,Aa g]) rfl rfl,.mk' (λd=>by simp[Op.equalIn,Aa g]) rfl rfl⟩
theorem cR.bool(g:P.underlying t=some .bool)(a b):cR P w t (.bool a) (.bool b) (a==b):=
 .mk' (λd=>by simp[Op.equalIn,Aa g]) rfl rfl
end
def AB(X:Value):Prop:=∀l,X≠.agg l
theorem Uc{d t}(g:P.underlying t=some d){x y X J}(W:R C N w x X)(B:R C N w y J)(h:Pm d x y=true):
  cR P w t X J false/\cR P w t J X false/\AB X/\AB J:=by
 unfold Pm at h
 split at h
 ·unfold R at B;obtain⟨rfl,_⟩:=B
  split at h
  ·unfold R at W;obtain⟨e,k,rfl,_⟩:=W
   have:=xy (w:=w) g ⟨_,rfl⟩ e;exact⟨(this _ _).1,(this _ _).2.1,(λ_ h=>by cases h),(λ_ h=>by cases h)⟩
  ·unfold R at W;obtain⟨f,k,rfl,i,_,_,j,_⟩:=W
   obtain _|e:=f
   ·grind
   have:=xy (w:=w) g ⟨_,rfl⟩ e;exact⟨(this _ _).1,(this _ _).2.1,(λ_ h=>by cases h),(λ_ h=>by cases h)⟩
  grind
 ·unfold R at B;obtain⟨rfl,_⟩:=B
  split at h
  ·unfold R at W;obtain⟨e,rfl,_⟩:=W
   have:=FC (w:=w) g ⟨_,rfl⟩ e;exact⟨this.1,this.2.1,(λ_ h=>by cases h),(λ_ h=>by cases h)⟩
  ·unfold R at W;obtain⟨c,o,rfl,_⟩:=W
   have:=FC (w:=w) g ⟨_,rfl⟩ ⟨c,o,none⟩;exact⟨this.1,this.2.1,(λ_ h=>by cases h),(λ_ h=>by cases h)⟩
  grind
 ·unfold R at B;obtain⟨rfl,_⟩:=B
  split at h
  ·unfold R at W;obtain⟨c,rfl,_⟩:=W
   have:=cR.map (w:=w) g ⟨_,_,rfl⟩ c;exact⟨this.1,this.2.1,(λ_ h=>by cases h),(λ_ h=>by cases h)⟩
  grind
 ·unfold R at B;obtain⟨rfl,_⟩:=B
  split at h
  ·unfold R at W;obtain⟨a,b,rfl,_⟩:=W
   have:=cR.func (w:=w) g ⟨_,_,_,rfl⟩;exact⟨(this _ _ _).1,(this _ _ _).2.1,(λ_ h=>by cases h),(λ_ h=>by cases h)⟩
  grind
 ·unfold R at B;obtain⟨rfl,_⟩:=B
  split at h
  ·unfold R at W;obtain⟨l,rfl,_⟩:=W
   have:=cR.iface (w:=w) g ⟨_,rfl⟩;exact⟨(this _ _).1,(this _ _).2.1,(λ_ h=>by cases h),(λ_ h=>by cases h)⟩
  grind
 grind
theorem ZU{d t}(g:P.underlying t=some d){x y X J}(W:R C N w x X)(B:R C N w y J){b}(h:vO d x y=some b):
  cR P w t X J b/\AB X/\AB J:=by
 unfold vO at h;cases a:Q6 d x y
 ·simp only[a,cond_false]at h;cases c:Pm d x y
  ·cases e:Pm d y x
   ·grind
   ·simp[e]at h;subst h;have:=Uc g B W e;grind
  ·simp[c]at h;subst h;have:=Uc g W B c;grind
 ·simp only[a,cond_true,bH]at h;subst h;unfold Q6 at a
  split at a
  ·unfold R at W B;obtain⟨rfl,_⟩:=W;obtain⟨rfl,_⟩:=B
   exact⟨(xy (w:=w) g ⟨_,rfl⟩ ⟨0,0,none⟩ 0 0).2.2,(λ_ h=>by cases h),(λ_ h=>by cases h)⟩
  ·unfold R at W B;obtain⟨rfl,_⟩:=W;obtain⟨rfl,_⟩:=B
   exact⟨(FC (w:=w) g ⟨_,rfl⟩ ⟨0,0,none⟩).2.2,(λ_ h=>by cases h),(λ_ h=>by cases h)⟩
  ·unfold R at W B;obtain⟨rfl,_⟩:=W;obtain⟨rfl,_⟩:=B
   exact⟨(cR.map (w:=w) g ⟨_,_,rfl⟩ 0).2.2,(λ_ h=>by cases h),(λ_ h=>by cases h)⟩
  ·unfold R at W B;obtain⟨rfl,_⟩:=W;obtain⟨rfl,_⟩:=B
   exact⟨(cR.func (w:=w) g ⟨_,_,_,rfl⟩ (.func 0) #[] #[]).2.2,(λ_ h=>by cases h),(λ_ h=>by cases h)⟩
  ·unfold R at W B;obtain⟨rfl,_⟩:=W;obtain⟨rfl,_⟩:=B
   exact⟨(cR.iface (w:=w) g ⟨_,rfl⟩ 0 .nilIface).2.2,(λ_ h=>by cases h),(λ_ h=>by cases h)⟩
  grind
theorem Wi{d x k v}(h:uW d x=some k)(a:R C N w x v):KV k v/\KS d v:=by
 unfold uW at h
 split at h
 ·rename_i j e n
  cases c:Ed j e
  ·grind
  ·simp only[c,cond_true,bH]at h;subst h;have:=(N4 j e).1 c;subst this;unfold R at a;subst a
   exact⟨by unfold KV;rfl,n,rfl⟩
 ·rename_i l
  cases h;unfold R at a;obtain⟨s,rfl,f⟩:=a
  exact⟨by unfold KV;grind,s,rfl⟩
 ·rename_i b
  cases h;unfold R at a;subst a
  exact⟨by unfold KV;rfl,b,rfl⟩
 grind
theorem Aal:∀{l:List Field} {j:List I} {g:List aQ} {b:List Value},Z9 P l j=some g->RL C N w j b->dM g b/\KFs P l b
 |[],[],g,b,h,a=>by
  simp only[Z9,bH]at h;subst h;cases b with
  |nil=>exact⟨by unfold dM;trivial,by unfold KFs;trivial⟩
  |cons=>unfold RL at a;exact a.elim
 |f::l,c::j,g,b,h,a=>by
  cases b with
  |nil=>unfold RL at a;exact a.elim
  |cons v b=>
   unfold RL at a;simp only[Z9]at h
   split at h
   ·rename_i B n
    split at h
    ·rename_i k x t m
     cases e:(f.name != "_" &&Nat.beq B.size 1)
     ·grind
     ·simp only[e,cond_true,bH]at h;subst h;simp only[bg,bne_iff_ne,ne_eq]at e;obtain⟨i,d,p,q,r,s,_,_,_⟩:=Ap n;obtain⟨E,o⟩:=Wi t a.1;obtain⟨G,y⟩:=Aal m a.2
      have u:i.size=1:=by rw[<-s];exact bK e.2
      rw[r]at o
      exact⟨by unfold dM;grind,by unfold KFs;exact⟨⟨i,d,p,q,u,by cases d<;>first|rfl|exact o.elim,o,e.1⟩,y⟩⟩
    grind
   ·cases h
 |[],_::_,_,_,h,_=>by simp[Z9]at h
 |_::_,[],_,_,h,_=>by simp[Z9]at h
theorem Aam{d}:∀{f:List I} {e:List aQ} {b:List Value},Ahu d f=some e->RL C N w f b->dM e b/\∀x∈b,KS d x
 |[],e,b,h,a=>by
  simp only[Ahu,bH]at h;subst h;cases b with
  |nil=>exact⟨by unfold dM;trivial,by simp⟩
  |cons=>unfold RL at a;exact a.elim
 |c::f,e,b,h,a=>by
  cases b with
  |nil=>unfold RL at a;exact a.elim
  |cons v b=>
   unfold RL at a;simp only[Ahu]at h
   split at h
   ·rename_i k j i g
    cases h;obtain⟨m,n⟩:=Wi i a.1;obtain⟨o,p⟩:=Aam g a.2
    refine⟨by unfold dM;grind,λx l=>?_⟩
    grind
   ·cases h
theorem H3{s:TypeId}{x k v}(h:D4 P s x=some k)(f:R C N w x v):KV k v/\KT P s v:=by
 unfold D4 at h
 split at h
 ·rename_i ti q
  obtain⟨i,d,X,K,L,h4,_,_,_⟩:=Ap q
  split at h
  ·rename_i t Q
   cases b:(Jz t.toList 0&& !P.stoodInHeld s)
   ·grind
   ·simp only[b]at h;unfold KU at h
    split at h
    ·rename_i r
     split at h
     ·rename_i l o
      cases h;unfold R at f;obtain⟨a,rfl,j,U⟩:=f;obtain⟨m,c⟩:=Aal o j;simp only[bg,eQ]at b
      exact⟨by unfold KV;grind,.inr (.inl ⟨t,a,Z,rfl,c,b.1,b.2⟩)⟩
     grind
    grind
  ·rename_i n e S
   split at h
   ·rename_i u p
    obtain⟨T,y,B,E,G,J,_,_,W⟩:=Ap p;cases b:(Nat.beq u.size 1&& !u.isAgg)
    ·grind
    ·simp only[b]at h;simp only[bg,eQ]at b;unfold Mc at h
     split at h
     ·rename_i r
      cases g:(Nat.beq r.length n&& !Nat.beq n 0)
      ·grind
      ·simp only[g]at h;simp only[bg,eQ]at g
       split at h
       ·rename_i l o
        cases h;unfold R at f;obtain⟨a,rfl,j,U⟩:=f;obtain⟨m,c⟩:=Aam o j;rw[G]at c
        refine⟨by unfold KV;grind,.inr (.inr ⟨n,e,a,y,T,Z,rfl,B,by rw[<-J];exact bK b.1,E,Z,?_,?_,c⟩)⟩
        ·have:=j.length;rw[<-kE,<-this];exact bK g.1
        ·rintro rfl;cases g.2
       grind
     grind
   grind
  ·obtain⟨m,c⟩:=Wi h f;rw[L]at c;exact⟨m,.inl ⟨d,K,c⟩⟩
 grind
theorem Wj{d k c v U}(h:KV k v)(a:KV c U)(t:KS d v)(f:KS d U):
  (aQ.eq k c=true↔v=U)/\∀(t:TypeId),P.underlying t=some d->∀n,(Op.equalIn (n+1) t v U).run P w=.ok (aQ.eq k c) w:=by
 unfold KS at t f
 split at t
 ·obtain⟨n,rfl⟩:=t;obtain⟨m,rfl⟩:=f
  cases k<;>unfold KV at h<;>first|(cases h;done)|(obtain⟨_,b,_⟩:=h;cases b;done)|skip
  cases c<;>unfold KV at a<;>first|(cases a;done)|(obtain⟨_,b,_⟩:=a;cases b;done)|skip
  cases h;cases a;have g:∀j:IntKind,Ed j j=true:=λj=>(N4 j j).2 rfl
  refine⟨by simp[aQ.eq,g,Jg],λt e n=>?_⟩
  rw[run_equalIn_int _ _ _ _ _ _ _ e];simp[aQ.eq,g,Jg]
 ·obtain⟨n,rfl⟩:=t;obtain⟨m,rfl⟩:=f
  cases k<;>unfold KV at h<;>first|(cases h;done)|skip
  cases c<;>unfold KV at a<;>first|(cases a;done)|skip
  ·obtain⟨s,i,l⟩:=h;obtain⟨q,o,p⟩:=a;cases i;cases o;subst l;subst p;refine⟨?_,λt e n=>?_⟩
   ·simp only[aQ.eq,Gu,Value.string.injEq];exact⟨Xo,Z⟩
   ·rw[run_equalIn_string _ _ _ _ _ e];simp only[aQ.eq,Lt]
  ·grind
  grind
 ·obtain⟨n,rfl⟩:=t;obtain⟨m,rfl⟩:=f
  cases k<;>unfold KV at h<;>first|(cases h;done)|(obtain⟨_,b,_⟩:=h;cases b;done)|skip
  cases c<;>unfold KV at a<;>first|(cases a;done)|(obtain⟨_,b,_⟩:=a;cases b;done)|skip
  cases h;cases a
  refine⟨by cases n<;>cases m<;>simp[aQ.eq],λt e _=>?_⟩
  rw[run_equalIn_bool' _ _ _ _ _ e];cases n<;>cases m<;>simp[aQ.eq]
 grind
theorem Aan(n m q):∀(p:List Field) (i:Nat) (h b:List aQ) (c a:List Value),Jz p i=true->KFs P p c->KFs P p a->dM h c->dM b a->
  (∀j,j<c.length->m[i+j]? =c[j]?)->(∀j,j<a.length->q[i+j]? =a[j]?)->
  (aQ.eqs h b=true↔c=a)/\(Op.eqFields (n+1) m q p).run P w=.ok (aQ.eqs h b) w
 |[],i,h,b,c,a,_,e,g,l,o,_,_=>by
  cases c<;>unfold KFs at e<;>first|exact e.elim|skip
  cases a<;>unfold KFs at g<;>first|exact g.elim|skip
  cases h<;>unfold dM at l<;>first|exact l.elim|skip
  cases b<;>unfold dM at o<;>first|exact o.elim|skip
  exact⟨by simp[aQ.eqs],by simp[Op.eqFields,aQ.eqs]⟩
 |f::p,i,h,b,c,a,s,e,g,l,o,x,y=>by
  cases c with
  |nil=>unfold KFs at e;exact e.elim
  |cons v c=>
  cases a with
  |nil=>unfold KFs at g;exact g.elim
  |cons T a=>
  cases h with
  |nil=>unfold dM at l;exact l.elim
  |cons k h=>
  cases b with
  |nil=>unfold dM at o;exact o.elim
  |cons k' b=>
  unfold KFs at e g;unfold dM at l o;obtain⟨⟨Q,d,X,r,g3,u,G,J⟩,e⟩:=e;obtain⟨⟨C,U,W,t,_,_,E,_⟩,g⟩:=g;rw[r]at t;cases t;simp only[Jz,bg]at s;have B:f.offset=i:=bK s.1;obtain⟨q1,R⟩:=Wj (P:=P) (w:=w) l.1 o.1 G E
  obtain⟨q3,S⟩:=Aan n m q p (i+1) h b c a s.2 e g l.2 o.2 (λj K=>by have:=x (j+1) Z;grind)
   (λj K=>by have:=y (j+1) Z;grind)
  have L:(part f.type m f.offset).run P w=.ok v w:=by
   have:=x 0 zS
   unfold part;simp only[Sem.run_bind,Fp r,Result.andThen_ok,u,fY,if_false,B]
   simp at this;simp[this]
  have N:(part f.type q f.offset).run P w=.ok T w:=by
   have:=y 0 zS
   unfold part;simp only[Sem.run_bind,Fp r,Result.andThen_ok,u,fY,if_false,B]
   simp at this;simp[this]
  constructor
  ·simp only[aQ.eqs,pw]
   grind
  ·simp only[Op.eqFields,if_pos J,Sem.run_bind,L,N,Result.andThen_ok,R _ r n,Sem.run_ite,S,Sem.run_pure,aQ.eqs]
   grind
theorem Aed(n){e d o}(s:P.info? e=some o)(t:o.size=1)(p:P.underlying e=some d)(y:Mx d=false)(m q):∀(c a:List aQ) (f b:List Value) (i:Nat),f.length=b.length->(∀x∈f,KS d x)->(∀x∈b,KS d x)->dM c f->dM a b->
  (∀j,j<f.length->m[i+j]? =f[j]?)->(∀j,j<b.length->q[i+j]? =b[j]?)->
  (aQ.eqs c a=true↔f=b)/\(Op.eqItems (n+1) e (P.cellsOf e) m q (List.range' i f.length)).run P w=.ok (aQ.eqs c a) w
 |c,a,[],[],i,_,_,_,g,h,_,_=>by
  cases c<;>unfold dM at g<;>first|exact g.elim|skip
  cases a<;>unfold dM at h<;>first|exact h.elim|skip
  exact⟨by simp[aQ.eqs],by simp[Op.eqItems,aQ.eqs]⟩
 |_,_,[],_::_,_,r,_,_,_,_,_,_=>by cases r
 |_,_,_::_,[],_,r,_,_,_,_,_,_=>by cases r
 |c,a,v::f,J::b,i,r,u,B,g,h,C,E=>by
  cases c with
  |nil=>unfold dM at g;exact g.elim
  |cons k c=>
  cases a with
  |nil=>unfold dM at h;exact h.elim
  |cons R a=>
  unfold dM at g h
  have G:P.cellsOf e=1:=by simp[Program.cellsOf,s,t]
  obtain⟨S,N⟩:=Wj (P:=P) (w:=w) g.1 h.1 (u v zS) (B J zS)
  obtain⟨T,Q⟩:=Aed n s t p y m q c a f b (i+1) Z (λx l=>u x (by simp[l])) (λx l=>B x (by simp[l])) g.2 h.2 (λj K=>by have:=C (j+1) Z;grind)
   (λj K=>by have:=E (j+1) Z;grind)
  have l:(part e m (i*P.cellsOf e)).run P w=.ok v w:=by
   have:=C 0 zS
   unfold part;simp only[Sem.run_bind,Fp p,Result.andThen_ok,y,fY,if_false,G,lT]
   simp at this;simp[this]
  have L:(part e q (i*P.cellsOf e)).run P w=.ok J w:=by
   have:=E 0 zS
   unfold part;simp only[Sem.run_bind,Fp p,Result.andThen_ok,y,fY,if_false,G,lT]
   simp at this;simp[this]
  constructor
  ·simp only[aQ.eqs,pw]
   grind
  ·simp only[cZ,kI,Op.eqItems,Sem.run_bind,l,L,Result.andThen_ok,N _ p n,Sem.run_ite,Q,Sem.run_pure,aQ.eqs]
   grind
theorem AI{s:TypeId}{k c v U}(h:KV k v)(g:KV c U)(t:KT P s v)(l:KT P s U):
  (aQ.eq k c=true↔v=U)/\∀n,(Op.equalIn (n+2) s v U).run P w=.ok (aQ.eq k c) w:=by
 rcases t with⟨d,i,t⟩|⟨p,a,i,rfl,u,x,W⟩|⟨S,e,a,d,R,i,rfl,B,L,C,N,u,t0,x⟩
 ·rcases l with⟨q,b,l⟩|⟨p,a,b,rfl,_,_,_⟩|⟨_,_,_,_,_,b,rfl,_⟩
  ·rw[i]at b;cases b;obtain⟨q1,q2⟩:=Wj (P:=P) (w:=w) h g t l
   grind
  ·rw[i]at b;cases b;exact t.elim
  ·rw[i]at b;cases b;exact t.elim
 case inr.inr=>
  rcases l with⟨q,b,l⟩|⟨p,a,b,rfl,_,_,_⟩|⟨G,e',m,q,E,b,rfl,K,_,o,_,T,_,y⟩
  ·rw[i]at b;cases b;exact l.elim
  ·grind
  ·rw[i]at b;cases b;rw[C]at o;cases o
   cases k<;>unfold KV at h<;>first|(cases h;done)|(obtain⟨_,f,_⟩:=h;cases f;done)|skip
   cases c<;>unfold KV at g<;>first|(cases g;done)|(obtain⟨_,f,_⟩:=g;cases f;done)|skip
   obtain⟨_,f,h⟩:=h;cases f;obtain⟨_,f,g⟩:=g;cases f;have j:=λn=>Aed (P:=P) (w:=w) n B L C N a m _ _ a.toList m.toList 0 Z x y h g Z Z
   constructor
   ·simp only[aQ.eq];rw[(j 0).1]
    constructor
    ·intro r;rw[Array.toList_inj.1 r]
    grind
   ·intro n;have:=(j n).2;rw[run_equalIn_array w (n+1) a m i B,zM,<-u,<-kE,this];simp only[aQ.eq]
 ·rcases l with⟨q,b,l⟩|⟨J,m,b,rfl,X,_,_⟩|⟨_,_,_,_,_,b,rfl,_⟩
  ·rw[i]at b;cases b;exact l.elim
  case inr.inr=>rw[i]at b;cases b
  ·rw[i]at b;cases b
   cases k<;>unfold KV at h<;>first|(cases h;done)|(obtain⟨_,f,_⟩:=h;cases f;done)|skip
   cases c<;>unfold KV at g<;>first|(cases g;done)|(obtain⟨_,f,_⟩:=g;cases f;done)|skip
   obtain⟨_,f,h⟩:=h;cases f;obtain⟨_,f,g⟩:=g;cases f
   have Q:P.fieldsOf s=p:=by unfold Program.fieldsOf;rw[i]
   have j:=λn=>Aan (P:=P) (w:=w) n a m p.toList 0 _ _ a.toList m.toList x u X h g Z Z
   constructor
   ·simp only[aQ.eq];rw[(j 0).1]
    constructor
    ·intro r;rw[Array.toList_inj.1 r]
    grind
   ·intro n;rw[run_equalIn_struct w (n+1) s a m Z W,Q,(j n).2];simp only[aQ.eq]
theorem Kt(e n a):∀(g:List Field) (i:Nat) (b:List Value),Jz g i=true->KFs P g b->(∀j,j<b.length->a[i+j]? =b[j]?)->
  (forIn g PUnit.unit λf _=>if f.name≠ "_" then do
    let x<-part f.type a f.offset
    Instr.checkKey e (n+1) f.type x
    pure (ForInStep.yield PUnit.unit)
   else pure (ForInStep.yield PUnit.unit):Sem PUnit).run P w=.ok PUnit.unit w
 |[],_,_,_,_,_=>by simp
 |f::g,i,b,k,c,m=>by
  cases b with
  |nil=>unfold KFs at c;exact c.elim
  |cons v b=>
  unfold KFs at c;obtain⟨⟨t,d,u,l,y,o,h,p⟩,c⟩:=c;simp only[Jz,bg]at k;have r:f.offset=i:=bK k.1
  have s:(part f.type a f.offset).run P w=.ok v w:=by
   have:=m 0 zS
   unfold part;simp only[Sem.run_bind,Fp l,Result.andThen_ok,o,fY,if_false,r]
   simp at this;simp[this]
  have q:(Instr.checkKey e (n+1) f.type v).run P w=.ok () w:=by
   unfold Instr.checkKey;simp only[Sem.run_bind,Aa l,Result.andThen_ok];unfold KS at h
   split at h
   ·obtain⟨_,rfl⟩:=h;rfl
   ·obtain⟨_,rfl⟩:=h;rfl
   ·obtain⟨_,rfl⟩:=h;rfl
   grind
  have:=Kt e n a g (i+1) b k.2 c (λj B=>by have:=m (j+1) Z;grind)
  simp only[List.forIn_cons,Sem.run_bind,if_pos p,s,Result.andThen_ok,q,Sem.run_pure];exact this
theorem Lu(e n){b d g}(h:P.info? b=some g)(m:g.size=1)(k:P.underlying b=some d)(y:Mx d=false)(a):∀(c:List Value) (i:Nat),(∀x∈c,KS d x)->(∀j,j<c.length->a[i+j]? =c[j]?)->
  (forIn (List.range' i c.length) PUnit.unit λi _=>do
    let s<-sizeOf b
    let x<-part b a (i*s)
    Instr.checkKey e (n+1) b x
    pure (ForInStep.yield PUnit.unit):Sem PUnit).run P w=.ok PUnit.unit w
 |[],_,_,_=>by simp
 |v::c,i,o,p=>by
  have f:=o v zS
  have l:(part b a i).run P w=.ok v w:=by
   have:=p 0 zS
   unfold part;simp only[Sem.run_bind,Fp k,Result.andThen_ok,y,fY,if_false]
   simp at this;simp[this]
  have q:(Instr.checkKey e (n+1) b v).run P w=.ok () w:=by
   unfold Instr.checkKey;simp only[Sem.run_bind,Aa k,Result.andThen_ok];unfold KS at f
   split at f
   ·obtain⟨_,rfl⟩:=f;rfl
   ·obtain⟨_,rfl⟩:=f;rfl
   ·obtain⟨_,rfl⟩:=f;rfl
   grind
  have r:(sizeOf b).run P w=.ok 1 w:=by rw[run_sizeOf w h];simp[Program.cellsOf,h,m]
  have:=Lu e n h m k y a c (i+1) (λx l=>o x (by simp[l])) (λj t=>by have:=p (j+1) Z;grind)
  simp only[cZ,kI,List.forIn_cons,Sem.run_bind,r,lT,l,Result.andThen_ok,q,Sem.run_pure]
  grind
theorem C3{s:TypeId}{v}(t:KT P s v)(e n):(Instr.checkKey e (n+2) s v).run P w=.ok () w:=by
 rcases t with⟨d,b,t⟩|⟨g,a,b,rfl,c,f,q⟩|⟨m,o,a,d,l,b,rfl,h,j,i,k,c,p,f⟩
 case inr.inr=>
  unfold Instr.checkKey;simp only[Sem.run_bind,Aa b,Result.andThen_ok];have:=Lu (w:=w) e n h j i k a a.toList 0 f Z;simp only[Std.Legacy.Range.forIn_eq_forIn_range',Std.Legacy.Range.size,mO,Nat.add_one_sub_one,Nat.div_one];rw[kE,c]at this;rw[this]
  rfl
 ·unfold Instr.checkKey;simp only[Sem.run_bind,Aa b,Result.andThen_ok];unfold KS at t
  split at t
  ·obtain⟨_,rfl⟩:=t;rfl
  ·obtain⟨_,rfl⟩:=t;rfl
  ·obtain⟨_,rfl⟩:=t;rfl
  grind
 ·unfold Instr.checkKey;simp only[Sem.run_bind,Aa b,Result.andThen_ok];rw[<-Array.forIn_toList];have:=Kt (w:=w) e n a g.toList 0 a.toList f c Z;rw[this]
  rfl
end
section
variable {P:Program}{C:aO}{N:Nat}{w:World}
theorem Aao{t:TypeId}{x y X J}(W:R C N w x X)(B:R C N w y J){b}(h:Pn P t x y=some b):
  ∃l m,X=.agg l/\J=.agg m/\cR P w t X J b/\KT P t X:=by
 unfold Pn at h
 split at h
 ·rename_i i j
  split at h
  ·rename_i k n d a
   cases h;obtain⟨f,c⟩:=H3 d W;obtain⟨g,e⟩:=H3 a B;unfold R at W B;obtain⟨l,rfl,_⟩:=W;obtain⟨m,rfl,_⟩:=B;have:=(AI (P:=P) (w:=w) f g c e).2;refine⟨l,m,rfl,rfl,⟨?_,?_⟩,c⟩
   ·rw[run_eql_struct,this 9998];rfl
   ·rw[run_neq_struct,this 9998];rfl
  grind
 grind
theorem Ud{t:TypeId}{l}(h:KT P t (.agg l)):P.eqGuardType P.depth t=false:=by
 rcases h with⟨d,j,h⟩|⟨b,a,j,_,L,N,Q⟩|⟨n,e,a,d,B,j,R,p,q,k,r,G,E,J⟩
 ·unfold KS at h;grind
 case inr.inr=>
  have o:P.depth=(2*(P.types.size+Made.depth))+1+1:=by unfold Program.depth;omega
  rw[o]
  generalize 2*(P.types.size+Made.depth)=m
  unfold Program.eqGuardType;rw[j];simp only;unfold Program.eqGuardType;rw[k]
  obtain⟨x,w⟩:∃x,x∈a.toList:=by
   cases u:a.toList with
   |nil=>exact absurd (by rw[<-G,<-kE,u];rfl) E
   |cons x _=>exact⟨x,by simp⟩
  have:=J x w;unfold KS at this
  split at this<;>first|rfl|exact this.elim
 ·have o:P.depth=(2*(P.types.size+Made.depth))+1+1:=by unfold Program.depth;omega
  rw[o]
  generalize 2*(P.types.size+Made.depth)=n
  unfold Program.eqGuardType;rw[j];simp only[<-Array.any_toList]
  have C:∀(b:List Field) (g:List Value), KFs P b g->(b.any λf=>f.name != "_" &&P.eqGuardType (n+1) f.type)=false:=by
   intro b
   induction b with
   |nil=>intro g _;rfl
   |cons f b y=>
    intro g c;cases g with
    |nil=>unfold KFs at c;exact c.elim
    |cons v g=>
     unfold KFs at c;obtain⟨⟨i,d,p,k,q,r,s,K⟩,c⟩:=c;simp only[yR,y g c,zT]
     have:P.eqGuardType (n+1) f.type=false:=by
      unfold Program.eqGuardType;rw[k];unfold KS at s
      grind
     simp[this]
  grind
theorem A8s(o:Option Ordering)(x:Ordering):uK o x=(o==some x):=by
 cases o with
 |none=>cases x<;>rfl
 |some y=>cases y<;>cases x<;>rfl
theorem A81{k:FloatKind}{r:Option Nat}{v:I}(h:iR k r=some v):∃n,r=some n/\v=.flt k n:=by
 cases r with
 |none=>simp[iR]at h
 |some n=>simp only[iR,Ak,bH]at h;exact⟨n,rfl,h.symm⟩
theorem η{c k a b v}(h:BX c k a b=some v)(t):
  ∃x,(binOp c t (.float k a) (.float k b)).run P w=.ok x w/\R C N w v x:=by
 unfold BX at h;cases h
theorem XL{o}{t:TypeId}{p q x y X J}(W:R C N w x X)(B:R C N w y J){v}
  (h:Wb P o t (Cm p||Cm q) x y=some v):Dz P C N w (do eqGuard o t p q X J;binOp o t X J) v:=by
 have e:∀{v:I},(eqGuard o t p q X J).run P w=.ok () w->Dz P C N w (binOp o t X J) v->Dz P C N w (do eqGuard o t p q X J;binOp o t X J) v:=by
  intro v j ⟨a7,n,S⟩
  exact⟨a7,by simp only[Sem.run_bind,j,Result.andThen_ok,n],S⟩
 unfold Wb at h
 split at h
 ·rename_i ti L
  obtain⟨i,d,_,G,K,_⟩:=Ap L
  split at h
  ·rename_i k a Q b
   unfold R at W B;subst W;subst B;cases E:Ed k Q
   ·grind
   ·simp only[E,cond_true]at h;have:=(N4 k Q).1 E;subst this
    exact e (E7 (λ_ _ c=>by cases c.1) (λc=>by cases c.1)) (ZI h t)
  ·unfold R at W B;obtain⟨s,rfl,rfl⟩:=W;obtain⟨u,rfl,rfl⟩:=B
   exact e (E7 (λ_ _ c=>by cases c.1) (λc=>by cases c.1)) (Ahy h t)
  ·rename_i k a Q b
   unfold R at W B;subst W;subst B
   split at h
   ·rename_i E
    have:=of_decide_eq_true E;subst this
    exact e (E7 (λ_ _ c=>by cases c.1) (λc=>by cases c.1)) (η h t)
   grind
  ·rename_i a b
   unfold R at W B;subst W;subst B
   split at h
   ·rename_i g
    cases h;have:=cR.bool (w:=w) (G.trans Z) a b
    exact e (E7 (λ_ _ c=>by cases c.1) (λc=>by cases c.1)) ⟨_,this.eql,by unfold R;cases a<;>cases b<;>rfl⟩
   ·rename_i g
    cases h;have:=cR.bool (w:=w) (G.trans Z) a b
    exact e (E7 (λ_ _ c=>by cases c.1) (λc=>by cases c.1)) ⟨_,this.neq,by unfold R;cases a<;>cases b<;>rfl⟩
   grind
  ·have f:∀b,Ir P ti t (Cm p||Cm q) x y=some b->cR P w t X J b/\(eqGuard o t p q X J).run P w=.ok () w:=by
    intro b g;unfold Ir at g
    split at g
    ·rename_i b' r
     cases g
     cases T:(Cm p||Cm q)
     ·grind
     ·simp only[T,cond_true]at r
      obtain⟨j,n,S⟩:=ZU (by rw[K];exact G) W B r
      refine⟨j,?_⟩
      by_cases U:X=.nilIface/\J=.nilIface
      ·obtain⟨rfl,rfl⟩:=U;exact SC T
      ·exact E7 (λl m c=>n l c.1) U
    ·obtain⟨l,m,rfl,rfl,j,n⟩:=Aao W B g;exact⟨j,run_eqGuard_agg w o t p q l m (Ud n)⟩
   split at h
   ·split at h
    ·rename_i b g
     cases h;obtain⟨j,n⟩:=f b g
     exact e n ⟨_,j.eql,by unfold R;rfl⟩
    grind
   ·split at h
    ·rename_i b g
     cases h;obtain⟨j,n⟩:=f b g
     exact e n ⟨_,j.neq,by unfold R;rfl⟩
    grind
   grind
 grind
theorem UC{a x X}(W:R C N w x X){v}(h:yJ a x=some v):Dz P C N w (Op.unary a X) v:=by
 unfold yJ at h
 split at h
 ·cases h;unfold R at W;subst W;exact⟨_,rfl,by unfold R;rfl⟩
 ·cases h;unfold R at W;subst W
  refine⟨_,by simp[Op.unary,Op.intArith];rfl,?_⟩
  rw[Nh,Wh,Int.zero_sub];unfold R;rfl
 grind
theorem S0{x n X}(h:My x=some n)(W:R C N w x X):∃k,X=.int k (n:Int):=by
 unfold My at h
 split at h
 ·cases h;unfold R at W;grind
 grind
theorem P0{t:TypeId}{j}(f:Ay P t=some j){l c o}(e:RC C N w c l o){v}(h:Ff j l=some v):
  Dz P C N w (loadVar t ⟨c,o,none⟩) v:=by
 obtain⟨i,d,n,p,B,q,_,_,r⟩:=Ap f;unfold Ff at h;unfold loadVar Dz;simp only[Sem.run_bind,Fp p,Result.andThen_ok];rw[<-r];cases k:j.isAgg
 ·simp only[k]at h;simp only[fY,if_false]
  split at h
  ·cases h;unfold RC at e;obtain⟨⟨x,g,u,m⟩,_⟩:=e
   exact⟨x,by simp[g],m⟩
  grind
 ·simp only[k]at h
  split at h
  ·rename_i y b
   cases h;obtain⟨a,g,u,m⟩:=Adj (P:=P) (e.take _ b);have s:=(Hu b).2
   refine⟨.agg a,?_,by unfold R;grind⟩
   simp only[if_true,Sem.run_bind,A9 n,Result.andThen_ok];rw[<-q,<-s,g]
   simp
  grind
theorem P1{J q}(j:aX P C w J){t:TypeId}{i}(d:Ay P t=some i){x X}(W:R C (O J) w x X){v}(h:Na i x J=some (v,q)):
  q=J/\Dz P C (O J) w (Instr.loadAt t X) v:=by
 unfold Na at h
 split at h
 ·rename_i a g
  split at h
  ·rename_i s b
   split at h
   ·rename_i u e
    cases h;refine⟨rfl,?_⟩;unfold R at W;obtain⟨n,rfl,_,k⟩:=W;unfold F.cells at b
    split at b
    ·rename_i m H
     cases b;obtain⟨c,o,p,T,l,r,f⟩:=j.obj a _ H;rw[k c o l];exact P0 d (f.drop g) e
    grind
   grind
  grind
 ·split at h
  ·rename_i u e
   cases h;refine⟨rfl,?_⟩;unfold R at W;obtain⟨c,o,rfl,_,f⟩:=W;exact P0 d f e
  grind
 grind
theorem Ue{x X}(W:R C N w x X){n v}(h:Po x n=some v):∃a,X=.pointer (some a)/\R C N w v (.pointer (some (a.add n))):=by
 unfold Po at h
 split at h
 ·rw[Ak]at h;cases h;unfold R at W;obtain⟨a,rfl,b,d⟩:=W;refine⟨a,rfl,?_⟩;unfold R
  exact⟨a.add n,rfl,b,λc o e=>by rw[d c o e,Hb,Nat.add_assoc]⟩
 ·cases h;unfold R at W;obtain⟨c,o,rfl,b,d⟩:=W;refine⟨⟨c,o,none⟩,rfl,?_⟩;rw[Hb];unfold R;refine⟨c,o+n,rfl,λf=>b ?_,d.drop n⟩
  grind
 grind
theorem TH{t:TypeId}{k}(g:Ay P t=some k){a}(c:k.desc=.struct a){i f}(u:a.toList[i]? =some f){j}(e:Ay P f.type=some j)
  (s:j.size≠0){x X}(W:R C N w x X){v}(h:Po x f.offset=some v):Dz P C N w (Instr.fieldAt t X i) v:=by
 obtain⟨_,d,_,n,o,_⟩:=Ap g;obtain⟨q,_,m,_,_,r,_⟩:=Ap e;obtain⟨l,rfl,p⟩:=Ue W h;refine⟨.pointer (some (l.add f.offset)),?_,p⟩;unfold Instr.fieldAt;have b:a[i]? =some f:=Z
 simp only[Sem.run_bind,Aa (n.trans (by rw[<-o,c])),Result.andThen_ok,b,Instr.sureAddr,Sem.run_pure,fieldPlace,A9 m,Sem.run_ite]
 rw[if_neg Z]
 simp
theorem XP{t:TypeId}{J}(q:Ay P t=some J){k}(o:J.desc=.struct k){i f}(hf:k.toList[i]? =some f){g}(p:Ay P f.type=some g)
  {j X}(W:R C N w (.agg j) X){v}(h:Ff g (j.drop f.offset)=some v):Dz P C N w (Instr.field t X i) v:=by
 obtain⟨_,d,_,T,U,_⟩:=Ap q;have m:k[i]? =some f:=Z;unfold R at W;obtain⟨a,rfl,q1,q2⟩:=W;unfold Instr.field
 have hp:Dz P C N w (part f.type a f.offset) v:=by
  obtain⟨B,fd,K,L,g3,Q,_,_,S⟩:=Ap p;unfold Ff at h;unfold part Dz;simp only[Sem.run_bind,Fp L,Result.andThen_ok];rw[<-S];have hd:=q1.drop f.offset;cases E:g.isAgg
  ·simp only[E]at h;simp only[fY,if_false]
   split at h
   ·rename_i u r he
    cases h;have:(j.drop f.offset)[0]? =some v:=Z;obtain⟨x,G,s⟩:=hd.get 0 v this;have:a[f.offset]? =some x:=Z
    exact⟨x,by simp[this],s⟩
   grind
  ·simp only[E]at h
   split at h
   ·rename_i l b
    cases h
    refine⟨.agg (a.extract f.offset (f.offset+B.size)),by simp[A9 K],?_⟩
    obtain⟨t1,t2⟩:=Hu b;unfold R;refine⟨_,rfl,?_,?_⟩
    ·have e:(a.extract f.offset (f.offset+B.size)).toList=(a.toList.drop f.offset).take g.size:=by
      rw[Q];simp[AH]
     rw[e,t1]
     have a7:∀(n:Nat) (l:List I) (c:List Value),RL C N w l c->RL C N w (l.take n) (c.take n):=by
      intro n
      induction n with
      |zero=>intro l c _;simp only[List.take_zero];unfold RL;trivial
      |succ n ih=>intro l c b;cases l<;>cases c<;>unfold RL at b<;>first|exact b.elim|(simp only[List.take_nil];unfold RL;trivial)|(simp only[List.take_succ_cons];unfold RL;exact⟨b.1,ih _ _ b.2⟩)
     grind
    ·intro y hy;refine q2 y ?_
     simp at hy
     grind
   grind
 obtain⟨x,G,s⟩:=hp
 exact⟨x,by simp only[Sem.run_bind,Aa (T.trans (by rw[<-U,o])),Result.andThen_ok,m,asAgg,Sem.run_pure,G],s⟩
theorem Wl{J G}{t e:TypeId}{ti y}(E:Ay P t=some ti)(hd:ti.desc=.slice e)(B:Ay P e=some y){x i X q}(W:R C N w x X)(L:R C N w i q){v}
  (h:Gt y.size x i J=some (v,G)):G=J/\Dz P C N w (Instr.indexAt t X q) v:=by
 obtain⟨_,d,_,h2,h3,_⟩:=Ap E;obtain⟨K,_,Q,_,_,S,_⟩:=Ap B
 have T:=h2.trans (by rw[<-h3,hd])
 unfold Gt at h
 split at h
 ·rename_i k n
  unfold R at L;subst L
  split at h
  ·rename_i a a7 sz f r
   cases g:Nat.blt n f
   ·grind
   ·simp only[g,cond_true,Ak,bH,cE]at h;obtain⟨rfl,rfl⟩:=h;have s:n<f:=dB g;refine⟨rfl,?_⟩;unfold R at W;obtain⟨m,kk,rfl,q1,q2,q3,U⟩:=W;refine⟨.pointer (some (m.add (n*K.size))),?_,?_⟩
    ·unfold Instr.indexAt;simp only[asIntOf,Sem.run_bind,Sem.run_pure,Result.andThen_ok,Aa T]
     rw[if_pos ⟨by simp,Z⟩]
     simp[A9 Q]
    ·unfold R;refine⟨_,rfl,q1,λc o hc=>?_⟩
     rw[(U c o hc).1 z,Hb,S];grind
  ·rename_i cs sz f r
   cases g:Nat.blt n f
   ·grind
   ·simp only[g,cond_true,bH,cE]at h;obtain⟨rfl,rfl⟩:=h;have s:n<f:=dB g;refine⟨rfl,?_⟩;unfold R at W;obtain⟨p,kk,rfl,q2,q3,U,q0,l⟩:=W
    obtain _|m:=p
    ·grind
    obtain⟨q5,q6,q7⟩:=l m rfl;have j:=q5 z;obtain⟨b,o,sp⟩:=m;simp only at j;subst j;refine⟨.pointer (some ⟨b,o+n*K.size,none⟩),?_,?_⟩
    ·unfold Instr.indexAt;simp only[asIntOf,Sem.run_bind,Sem.run_pure,Result.andThen_ok,Aa T]
     rw[if_pos ⟨by simp,Z⟩]
     simp[A9 Q,Hb]
    ·unfold R;rw[S];exact⟨b,_,rfl,λu=>q6 (λhh=>u Z),q7.drop _⟩
  grind
 grind
theorem Sa{J f}{t e:TypeId}{a l y}(c:Ay P t=some l)(g:l.desc=.array a e)(b:Ay P e=some y){x i X q}(W:R C N w x X)(L:R C N w i q){v}
  (h:E6 a y.size x i J=some (v,f)):f=J/\Dz P C N w (Instr.indexAt t X q) v:=by
 obtain⟨_,d,_,r,s,_⟩:=Ap c;obtain⟨o,_,p,_,_,K,_⟩:=Ap b
 have G:=r.trans (by rw[<-s,g])
 unfold E6 at h
 split at h
 ·rename_i k n
  unfold R at L;subst L;cases j:Nat.blt n a
  ·grind
  ·simp only[j,cond_true]at h
   split at h
   ·rename_i u E
    cases h;have B:n<a:=dB j;obtain⟨m,rfl,Q⟩:=Ue W E;refine⟨rfl,.pointer (some (m.add (n*o.size))),?_,Z⟩;unfold Instr.indexAt;simp only[asIntOf,Sem.run_bind,Sem.run_pure,Result.andThen_ok,Aa G,Instr.sureAddr]
    rw[if_pos ⟨by simp,Z⟩]
    simp[A9 p]
   grind
 grind
theorem Ah2{s}{n b:Nat}(h:(B2 s)[n]? =some b):∃u:UInt8,s[n]? =some u/\u.toNat=b:=by
 unfold B2 at h;simp only[eC,pR]at h;obtain⟨u,c,e⟩:=h;refine⟨u,?_,e⟩;have a:n<s.data.toList.length:=(bQ.1 c).1
 have d:n<s.size:=by simpa using a
 rw[getElem?_pos s n d];have:=(bQ.1 c).2;simp only[Array.getElem_toList]at this;rw[<-this];rfl
theorem Yj{J c}{t:TypeId}{e}(a:Ay P t=some e)(g:e.desc=.string){x i X q}(W:R C N w x X)(L:R C N w i q){v}
  (h:Lc x i J=some (v,c)):c=J/\Dz P C N w (Instr.index t X q) v:=by
 obtain⟨_,d,_,f,j,_⟩:=Ap a
 have o:=f.trans (by rw[<-j,g])
 unfold Lc at h
 split at h
 ·rename_i l k n
  split at h
  ·rename_i b m
   cases h;unfold R at W L;subst L;obtain⟨s,rfl,rfl⟩:=W;obtain⟨u,p,r⟩:=Ah2 m
   refine⟨rfl,.int .u8 u.toNat,?_,by unfold R;grind⟩
   unfold Instr.index;simp only[asIntOf,Sem.run_bind,Sem.run_pure,Result.andThen_ok,Aa o];have:(if(0:Int)<=Int.ofNat n then s[(Int.ofNat n).toNat]? else none)=some u:=Z;rw[this]
   rfl
  grind
 grind
end
section
variable {P:Program}{C:aO}{N:Nat}{w:World}
def RO(C:aO)(N:Nat)(w:World):Option I->Option Value->Prop
 |none,none=>True
 |some x,some v=>R C N w x v
 |_,_=>False
theorem Hv{n y:Nat}{k a}(h:n<=y):(Instr.sliceBound (.int k (n:Int)) y a).run P w=.ok n w:=by
 unfold Instr.sliceBound;simp only[asIntOf,Sem.run_bind,Sem.run_pure,Result.andThen_ok]
 rw[if_pos ⟨by omega,by omega⟩]
 simp
theorem Ju{d cap k:Nat}{a}(hk:d<=k)(X:∀q,a=some q->k=q){S L b K y s}(u:RO C N w S K)(r:RO C N w L y)(t:RO C N w b s)
  {l h c}(Q:Do d a S L b=some (l,h,c))(sl):
  ∃m,(Instr.sliceBounds sl d k K y s).run P w=.ok (l,h,m) w/\l<=h/\h<=m/\m<=k/\(∀q,c=some q->m-l=q)/\(b=none->m=k/\c=Mz a l):=by
 have U:∀n,Li d a n=true->n<=k:=λn p=>by
  unfold Li at p;cases Q:Nat.ble n d
  ·simp only[Q,cond_false]at p
   split at p
   ·rename_i q;have:=X q rfl;have:=dB p;omega
   ·cases p
  ·have:=dB Q;omega
 unfold Do at Q
 split at Q
 ·rename_i J j G E
  have B:(K=none/\J=0)\/∃e,K=some (.int e (J:Int)):=by
   cases S with
   |none=>
    cases K with
    |none=>simp at G;exact .inl ⟨rfl,G.symm⟩
    |some _=>unfold RO at u;exact u.elim
   |some v=>
    cases K with
    |none=>unfold RO at u;exact u.elim
    |some T=>
     unfold RO at u;simp only at G;obtain⟨e,rfl⟩:=S0 G u;exact .inr ⟨e,rfl⟩
  have x:(L=none/\y=none/\j=d)\/∃e,y=some (.int e (j:Int)):=by
   cases L with
   |none=>
    cases y with
    |none=>simp at E;exact .inl ⟨rfl,rfl,E.symm⟩
    |some _=>unfold RO at r;exact r.elim
   |some v=>
    cases y with
    |none=>unfold RO at r;exact r.elim
    |some T=>
     unfold RO at r;simp only at E;obtain⟨e,rfl⟩:=S0 E r;exact .inr ⟨e,rfl⟩
  split at Q
  ·have o:s=none:=by
    cases s with
    |none=>rfl
    |some _=>unfold RO at t;exact t.elim
   subst o;cases i:(Nat.ble J j&&Li d a j)
   ·grind
   ·simp only[i,cond_true,bH,cE]at Q;obtain⟨rfl,rfl,rfl⟩:=Q;simp only[bg]at i;have g:=dB i.1;have f:=U j i.2;refine⟨k,?_,g,f,Y,λq hq=>?_,λ_=>⟨rfl,rfl⟩⟩
    ·unfold Instr.sliceBounds
     rcases x with⟨_,rfl,rfl⟩|⟨e,rfl⟩<;>rcases B with⟨rfl,rfl⟩|⟨R,rfl⟩<;>
      simp only[Sem.run_bind,Sem.run_pure,Result.andThen_ok,Hv f,Hv g]
    ·unfold Mz at hq
     grind
  ·rename_i mv
   split at Q
   ·rename_i m hv hm
    have o:∃e,s=some (.int e (m:Int)):=by
     cases s with
     |none=>unfold RO at t;exact t.elim
     |some T=>unfold RO at t;obtain⟨e,rfl⟩:=S0 hm t;exact⟨e,rfl⟩
    obtain⟨k3,rfl⟩:=o;cases i:(Nat.ble J j&&Nat.ble j m&&Li d a m)
    ·grind
    ·simp only[i,cond_true,bH,cE]at Q;obtain⟨rfl,rfl,rfl⟩:=Q;simp only[bg]at i;have g:=dB i.1.1;have W:=dB i.1.2;have f:=U m i.2;refine⟨m,?_,g,W,f,Z,Z⟩;unfold Instr.sliceBounds
     rcases x with⟨p,_,_⟩|⟨e,rfl⟩
     ·cases p
     ·rcases B with⟨rfl,rfl⟩|⟨R,rfl⟩<;>
       simp only[Sem.run_bind,Sem.run_pure,Result.andThen_ok,Hv f,Hv g,Hv W]
   ·cases Q
 ·cases Q
theorem WJ{J J'}{t e:TypeId}{ti te}(a8:Ay P t=some ti)(hd:ti.desc=.slice e)(a7:Ay P e=some te){x X}(W:R C N w x X){lo hi mx LO HI MX}
  (u:RO C N w lo LO)(r:RO C N w hi HI)(h3:RO C N w mx MX){v}(h:Lj te.size x lo hi mx J=some (v,J')):J'=J/\Dz P C N w (Instr.sliceAt t X LO HI MX) v:=by
 obtain⟨_,d,_,g2,g3,_⟩:=Ap a8;obtain⟨s,_,Q,_,_,e4,_⟩:=Ap a7
 have j:=g2.trans (by rw[<-g3,hd])
 unfold Lj at h
 split at h
 ·rename_i a af p a9 cap
  split at h
  ·rename_i n
   split at h
   ·rename_i l g c B
    simp only[Ak,bH,cE]at h;obtain⟨rfl,rfl⟩:=h;refine⟨rfl,?_⟩;unfold R at W;obtain⟨f,k,rfl,q1,q2,q3,q4⟩:=W;obtain⟨m,q,b2,b3,b4,L,_⟩:=Ju (P:=P) (cap:=0) q2 q3 u r h3 B true
    have hs:p=s.size:=by rw[<-e4];exact bK n
    refine⟨.slice (if m=l then some f else some (f.add (l*s.size))) (g-l) (m-l),?_,?_⟩
    ·unfold Instr.sliceAt;simp only[Sem.run_bind,Aa j,Result.andThen_ok];unfold Instr.slice;simp only[Sem.run_bind,Aa j,Result.andThen_ok,q,A9 Q,Sem.run_pure,mH]
    ·unfold R
     refine⟨if m=l then f else f.add (l*s.size),m-l,Z,q1,by omega,L,λc' o hc=>?_⟩
     obtain⟨G,q6⟩:=q4 c' o hc;refine⟨λec=>?_,?_⟩
     ·rw[if_neg z,G z,Hb,hs];congr 1;omega
     ·have:(m-l)*p+l*p<=k*p:=by rw[<-wI];exact wH _ z
      omega
   ·cases h
  ·cases h
 ·rename_i cs p a9 cap
  split at h
  ·rename_i n
   split at h
   ·rename_i l g c B
    split at h
    ·rename_i y E
     simp only[Ak,bH,cE]at h;obtain⟨rfl,rfl⟩:=h;refine⟨rfl,?_⟩;unfold R at W;obtain⟨T,k,rfl,q2,q3,q4,q0,K⟩:=W;obtain⟨m,q,b2,b3,b4,L,_⟩:=Ju (P:=P) (cap:=0) q2 q3 u r h3 B true
     have hs:p=s.size:=by rw[<-e4];exact bK n
     obtain⟨t1,t2⟩:=Hu E
     obtain _|f:=T
     ·have ac:=q0 rfl
      have:m=l/\g-l=0/\m-l=0:=by omega
      refine⟨.slice none (g-l) (m-l),?_,?_⟩
      ·unfold Instr.sliceAt;simp only[Sem.run_bind,Aa j,Result.andThen_ok];unfold Instr.slice;simp only[Sem.run_bind,Aa j,Result.andThen_ok,q,A9 Q,Sem.run_pure,CD]
       split<;>rfl
      ·unfold R
       grind
     obtain⟨G,q6,q7⟩:=K f rfl;refine⟨.slice (if m=l then some f else some (f.add (l*s.size))) (g-l) (m-l),?_,?_⟩
     ·unfold Instr.sliceAt;simp only[Sem.run_bind,Aa j,Result.andThen_ok];unfold Instr.slice;simp only[Sem.run_bind,Aa j,Result.andThen_ok,q,A9 Q,Sem.run_pure,mH]
     ·have i:y≠[]->¬m=l:=λi ae=>by
       apply i
       have:g-l=0:=by omega
       rw[this]at t2;grind
      unfold R
      refine⟨some (if m=l then f else f.add (l*s.size)),m-l,Z,by omega,L,t2,λg=>(by cases g),λaa ha=>?_⟩
      cases ha;refine⟨λec=>?_,λS=>?_,?_⟩
      ·rw[if_neg z];have:=G z;obtain⟨b,o,sp⟩:=f;simp only at this;subst this;rw[Hb]
      ·have o8:cs≠[]:=Z;rw[if_neg (i S)];have U:0<k:=Z;have:=G U;obtain⟨b,o,sp⟩:=f;simp only at this;subst this;rw[Hb];exact q6 o8
      ·by_cases S:y=[]
       ·rw[S];unfold RC;trivial
       ·rw[if_neg (i S)];have U:0<k:=Z;have:=G U;obtain⟨b,o,sp⟩:=f;simp only at this;subst this;rw[Hb,<-hs];exact(q7.drop (l*p)).take _ E
    ·cases h
   ·cases h
  ·cases h
 ·split at h
  ·rename_i b B
   cases h;refine⟨rfl,?_⟩;obtain⟨l,g,c⟩:=b;unfold R at W;obtain⟨rfl,hn⟩:=W;obtain⟨m,q,b2,b3,b4,L,_⟩:=Ju (P:=P) (cap:=0) (k:=0) Y Z u r h3 B true
   have:g-l=0/\m-l=0:=by omega
   refine⟨.slice none 0 0,?_,by unfold R;grind⟩
   unfold Instr.sliceAt;simp only[Sem.run_bind,Aa j,Result.andThen_ok];unfold Instr.slice;simp only[Sem.run_bind,Aa j,Result.andThen_ok,q,A9 Q,Sem.run_pure,CD,this.1,this.2]
   split<;>rfl
  ·cases h
 ·cases h
theorem Yk(s l h):B2 (s.extract l h)=((B2 s).take h).drop l:=by
 unfold B2;rw[AH]
 simp[ByteArray.data_extract,List.map_take,List.map_drop]
theorem Yl{J q}{t:TypeId}{n}(e:Ay P t=some n)(g:n.desc=.string){x X}(W:R C N w x X){j L K y}
  (u:RO C N w j K)(r:RO C N w L y){v}(h:Nb x j L J=some (v,q)):q=J/\Dz P C N w (Instr.sliceAt t X K y none) v:=by
 obtain⟨_,d,_,o,p,_⟩:=Ap e
 have i:=o.trans (by rw[<-p,g])
 unfold Nb at h
 split at h
 ·rename_i l
  split at h
  ·rename_i a b c B
   cases h;refine⟨rfl,?_⟩;unfold R at W;obtain⟨s,rfl,rfl⟩:=W
   obtain⟨m,f,E,G,Q,S,_⟩:=Ju (P:=P) (cap:=0) (k:=(B2 s).length) Y Z u r (show RO C N w none none by unfold RO;trivial) B false
   rw[Fg]at f
   refine⟨.string (s.extract a b),?_,by unfold R;exact⟨_,rfl,Yk s a b⟩⟩
   unfold Instr.sliceAt;simp only[Sem.run_bind,Aa i,Result.andThen_ok];unfold Instr.slice;simp only[Sem.run_bind,Aa i,Result.andThen_ok,Option.isSome_none,fY,if_false,f,Sem.run_pure]
  ·cases h
 ·cases h
theorem Zn{J b i x X}(W:R C N w x X){v}(h:Nc i x J=some (v,b)):b=J/\Dz P C N w (Instr.extract X i) v:=by
 unfold Nc at h
 split at h
 ·split at h
  ·rename_i g u d
   cases h;unfold R at W;obtain⟨a,rfl,q⟩:=W;obtain⟨c,f,e⟩:=q.get i _ d;have:a[i]? =some c:=Z
   exact⟨rfl,c,by simp[Instr.extract,this],e⟩
  ·cases h
 ·cases h
theorem Ym{J q x X}(W:R C N w x X){v}(h:Jf x J=some (v,q))(i o f)(e:f o=X)(l j d g):
  q=J/\(execOp f ⟨i,.nilCheck o,l,j,d,g⟩).run P w=.ok (.value X) w/\R C N w v X:=by
 unfold Jf at h
 split at h
 ·cases h;refine⟨rfl,?_,W⟩;unfold R at W;obtain⟨k,rfl,_⟩:=W
  simp[execOp,e]
 ·cases h;refine⟨rfl,?_,W⟩;unfold R at W;obtain⟨c,m,rfl,_⟩:=W
  simp[execOp,e]
 ·cases h;refine⟨rfl,?_,W⟩;unfold R at W;obtain⟨a,b,rfl,_⟩:=W
  simp[execOp,e]
 ·cases h
theorem Yn{J q}{t e:TypeId}{n T y}(s:Ay P t=some T)(hd:T.desc=.array n e)(r:Ay P e=some y){x X}(W:R C N w x X)(i:∀a p,J.get a=some (.cells p)->p≠[]->∃c o,C.loc a=some (c,o)/\o+p.length<=csize w c)
  {S L b K u B}
  (h1:RO C N w S K)(h2:RO C N w L u)(h3:RO C N w b B){v}(h:Wf n y.size x S L b J=some (v,q)):q=J/\Dz P C N w (Instr.sliceAt t X K u B) v:=by
 obtain ⟨_,d,_,g2,g3,_⟩ := Ap s;obtain ⟨ei,_,e1,_,_,e4,_⟩ := Ap r
 have hu := g2.trans (by rw [<- g3,hd])
 unfold Wf at h
 split at h
 ·rename_i a a7
  split at h
  ·rename_i p f
   split at h
   ·rename_i j
    split at h
    ·rename_i l hh c hb
     simp only [Ak,bH,cE] at h;obtain ⟨rfl,rfl⟩ := h;refine ⟨rfl,?_⟩;unfold R at W;obtain ⟨E,rfl,q1,q4⟩ := W;obtain ⟨m,U,b2,b3,b4,b5,_⟩ := Ju (P := P) (cap := 0) (k := n) Y Z h1 h2 h3 hb false;refine ⟨.slice (some (if m = l then E else E.add (l * ei.size))) (hh - l) (m - l),?_,?_⟩
     ·unfold Instr.sliceAt;simp only [Sem.run_bind,Aa hu,Result.andThen_ok,Instr.sureAddr,U,A9 e1,Sem.run_pure]
     ·unfold R
      refine ⟨_,m - l,rfl,q1,by omega,b5,λc' o G => ⟨λec => ?_,?_⟩⟩
      ·rw [if_neg z,q4 c' o G,Hb,e4]; congr 1; omega
      ·unfold F.cells at f
       split at f
       ·rename_i a8 H
        cases f;rw [bg] at j;obtain ⟨g,j⟩ := j
        obtain ⟨c2,o2,Q,k2⟩ := i a _ H (λh0 => by rw [h0] at g; cases g)
        rw [G] at Q; cases Q;have hr := dB j
        have : (m - l) * y.size + l * y.size <= n * y.size := by rw [<- wI]; exact wH _ z
        omega
       ·cases f
    ·cases h
   ·cases h
  ·cases h
 ·cases h
theorem RC.room:∀{a:List I} {c o:Nat},RC C N w c a o->a≠[]->o+a.length<=csize w c
 |[x],c,o,h,_=>by
  unfold RC at h;obtain⟨⟨v,b,_⟩,_⟩:=h;unfold World.cell? at b;unfold csize
  grind
 |x::y::r,c,o,h,_=>by
  unfold RC at h
  have:=RC.room h.2 zS
  grind
theorem WD{J q:F}{t B:TypeId}{j:TI}(e:Ay P t=some j)(hd:∀m,j.desc≠.interface m){f:Bool}{x:I}{X:Value}(W:R C N w x X){v:I}(h:Zr t (Lh j) f x J=some (v,q)):
  q=J/\Dz P C N w (Instr.typeAssert X B t f) v:=by
 obtain⟨i,d,S,l,T,U,_,g6,g7⟩:=Ap e;have a:∀m,d≠.interface m:=Z
 have b:f=true->∀g,Lh j=some g->(∃u y,X=.iface u y/\u≠t)\/X=.nilIface->Dz P C N w (Instr.typeAssert X B t f) (.tup [g,.bool false]):=by
  intro o g p G;subst o;obtain⟨E,s,L⟩:=Ub (P:=P) (C:=C) (N:=N) (w:=w) e p
  refine⟨.tuple #[E,.bool false],?_,by unfold R;exact⟨_,rfl,by unfold RL;exact⟨L,by unfold RL;exact⟨by unfold R;rfl,by unfold RL;trivial⟩⟩⟩⟩
  unfold Instr.typeAssert;simp only[Sem.run_bind,Aa l,Result.andThen_ok]
  rcases G with⟨u,y,rfl,n⟩|rfl
  ·cases d<;>first|(exact absurd rfl (a _))|simp[n,s]
  ·cases d<;>first|(exact absurd rfl (a _))|simp[s]
 unfold Zr at h
 split at h
 ·rename_i Q y
  unfold R at W;obtain⟨k,rfl,r⟩:=W
  split at h
  ·rename_i c
   have c:=bK c;subst c;cases h;refine⟨rfl,?_⟩;cases f
   ·refine⟨k,?_,r⟩;unfold Instr.typeAssert;simp only[Sem.run_bind,Aa l,Result.andThen_ok]
    cases d<;>first|(exact absurd rfl (a _))|simp
   ·refine⟨.tuple #[k,.bool true],?_,by simp only[nh];unfold R;exact⟨_,rfl,by unfold RL;exact⟨r,by unfold RL;exact⟨by unfold R;rfl,by unfold RL;trivial⟩⟩⟩⟩
    unfold Instr.typeAssert;simp only[Sem.run_bind,Aa l,Result.andThen_ok]
    cases d<;>first|(exact absurd rfl (a _))|simp
  ·rename_i c
   split at h
   ·rename_i g p
    cases h
    exact⟨rfl,b rfl g p (.inl ⟨Q,k,rfl,λK=>by rw[K]at c;simp at c⟩)⟩
   ·cases h
 ·unfold R at W
  grind
 ·cases h
end
section
variable {P:Program}{C C':aO}{N N':Nat}{w w':World}
theorem RL.of_get:∀{l:List I} {b:List Value},l.length=b.length->(∀(i:Nat) (x:I),l[i]? =some x->∃v,b[i]? =some v/\R C N w x v)->RL C N w l b
 |[],[],_,_=>by unfold RL;trivial
 |x::r,v::s,a,h=>by
  unfold RL;obtain⟨f,c,d⟩:=h 0 x rfl
  simp at c;subst c
  exact⟨d,RL.of_get (by simpa using a) λi y e=>by have:=h (i+1) y (by simpa using e);simpa using this⟩
 |[],_::_,a,_=>by simp at a
 |_::_,[],a,_=>by simp at a
abbrev IG:=@RL.of_get
theorem RC.of_get:∀{a:List I} {c o:Nat},(∀(i:Nat) (x:I),a[i]? =some x->∃v,w.cell? ⟨c,o+i,none⟩=some v/\v.oneCell=true/\R C N w x v)->RC C N w c a o
 |[],_,_,_=>by unfold RC;trivial
 |x::r,c,o,h=>by
  unfold RC
  exact⟨h 0 x rfl,RC.of_get λi y b=>by have:=h (i+1) y (by simpa using b);rwa[show o+1+i=o+(i+1) by omega]⟩
abbrev BA:=@RC.of_get
theorem N5:∀{l:List I} {b:Nat} {a c:List I},Et l b a=some c->
  c.length=l.length/\b+a.length<=l.length/\∀j:Nat,c[j]? =if b<=j/\j<b+a.length then a[j-b]? else l[j]?
 |l,0,[],c,h=>by
  have:l=c:=by cases l<;>simpa[Et]using h
  subst this
  exact⟨rfl,by simp,λj=>by rw[if_neg zS]⟩
 |y::r,0,x::a,c,h=>by
  simp only[Et]at h
  split at h
  ·rename_i m d
   cases h;obtain⟨e,i,f⟩:=N5 d
   refine⟨by simp[e],by simp at i⊢;omega,λj=>?_⟩
   cases j with
   |zero=>rw[if_pos zS];rfl
   |succ j=>
    have:=f j;simp only[rE,this];simp only[cZ]
    by_cases g:j<a.length
    ·rw[if_pos z,if_pos z];simp
    ·rw[if_neg z,if_neg z]
  ·cases h
 |y::r,k+1,a,c,h=>by
  have n:∃m,Et r k a=some m/\y::m=c:=by
   cases a with
   |nil=>
    simp only[Et]at h;cases d:Et r k []with
    |none=>rw[d]at h;cases h
    |some m=>rw[d]at h;simp only[bH]at h;exact⟨m,rfl,h⟩
   |cons x a=>
    simp only[Et]at h;cases d:Et r k (x::a)with
    |none=>rw[d]at h;cases h
    |some m=>rw[d]at h;simp only[bH]at h;exact⟨m,rfl,h⟩
  obtain⟨m,d,o⟩:=n;subst o
  ·obtain⟨e,i,f⟩:=N5 d
   refine⟨by simp[e],by simp;omega,λj=>?_⟩
   cases j with
   |zero=>rw[if_neg z];rfl
   |succ j=>
    simp only[rE,f j]
    by_cases g:k<=j/\j<k+a.length
    ·rw[if_pos g,if_pos z,show j+1-(k+1)=j-k by omega]
    ·rw[if_neg g,if_neg z]
 |[],0,x::a,c,h=>by simp[Et]at h
 |[],k+1,a,c,h=>by cases a<;>simp[Et]at h
theorem RL.set{l m n a b e}(h:RL C N w l b.toList)(W:RL C N w m e)(j:Et l a m=some n):RL C N w n (Wg b a e).toList/\a+e.length<=b.size:=by
 obtain⟨o,q,p⟩:=N5 j;have k:=h.length;have f:=W.length
 have d:a+e.length<=b.size:=by rw[<-f];simp at k;omega
 refine⟨IG (by rw[o,k];simp[Nf]) λi x c=>?_,d⟩
 rw[p i]at c;rw[iO,Pw e b a d]
 by_cases g:a<=i/\i<a+m.length
 ·rw[if_pos g]at c;rw[if_pos z];exact W.get _ x c
 ·rw[if_neg g]at c;rw[if_neg z,<-iO];exact h.get i x c
theorem VM{e d a}(h:∀x∈d.toList,x.oneCell=true)(b:∀x∈e,x.oneCell=true)(q:a+e.length<=d.size):∀x∈(Wg d a e).toList,x.oneCell=true:=by
 intro x f;obtain⟨i,c⟩:=fA.1 f;rw[iO,Pw e d a q]at c
 split at c
 ·exact b x (bA c)
 ·exact h x (by rw[<-iO]at c;exact bA c)
theorem ZV(l):∀(a k:Nat) (b:Array Value),((l.zipIdx k).foldl (λb (x:Value×Nat)=>b.setIfInBounds (a+x.2) x.1) b)=Wg b (a+k) l:=by
 induction l with
 |nil=>intro a k b;rfl
 |cons v r c=>
  intro a k b;simp only[List.zipIdx_cons,iU,Wg];rw[c a (k+1)]
  rfl
def Mi(C:aO)(N:Nat)(w:World)(k:Nat->Option (Nat×Nat)):List (Nat×Nat×I)->List (Nat×Value)->Prop
 |[],[]=>True
 |x::r,p::s=>(k p.1=some (x.1,x.2.1)/\R C N w x.2.2 p.2)/\Mi C N w k r s
 |_,_=>False
theorem N6{k}:∀{u:List (Nat×Nat×I)} {B:List (Nat×Value)} {l d:List I} {b:Array Value},Mi C N w k u B->RL C N w l b.toList->(∀x∈b.toList,x.oneCell=true)->Si l u=some d->
  ∃a,Instr.fill k b B=some a/\RL C N w d a.toList/\(∀x∈a.toList,x.oneCell=true)/\a.size=b.size
 |[],[],l,d,b,_,f,g,h=>by
  simp only[Si,bH]at h;subst h;exact⟨b,rfl,f,g,rfl⟩
 |x::r,p::s,l,d,b,c,f,g,h=>by
  obtain⟨t,y,v⟩:=x;obtain⟨i,e⟩:=p;unfold Mi at c;obtain⟨⟨n,o⟩,q⟩:=c;simp only[Si]at h
  split at h
  ·rename_i m L
   split at h
   ·rename_i W j
    obtain⟨S,T,X,U⟩:=Hc L o;obtain⟨Q,R⟩:=f.set S j;obtain⟨a,E,G,J,K⟩:=N6 q Q (VM g U R) h
    refine⟨a,?_,G,J,by rw[K,Nf]⟩
    have P:e.cells.toList.length=e.cells.size:=by simp
    simp only[Instr.fill,n]
    rw[if_neg (by simp;exact⟨T,by omega⟩)]
    rw[<-E]
    congr 1
    have:=ZV e.cells.toList t 0 b;rw[oE]at this;rw[<-this,<-KI]
    congr 1
    simp
   ·cases h
  ·cases h
 |[],_::_,_,_,_,c,_,_,_=>by unfold Mi at c;exact c.elim
 |_::_,[],_,_,_,c,_,_,_=>by unfold Mi at c;exact c.elim
end
end Go.AM

