/- A part of the proof; shortened by program. -/
import Derived.ChangeKeysEq
import Derived.Laws.StructEq
import Derived.Test.YtmkaboegdoadhaaGreatDoorP01
set_option maxRecDepth 100000
set_option maxHeartbeats 4000000
set_option linter.unusedSimpArgs false
set_option linter.unusedVariables false
namespace Go.AM
open Go
section
variable {P:Program}{C:Ctx}{N:Nat}{w:World}
def Dz(P:Program)(C:Ctx)(N:Nat)(w:World)(s:Sem Value)(v:AV):Prop:=∃x,s.run P w=.ok x w/\R C N w v x
theorem Dz.runs{σ s v}(hs:Sim P C w σ)(h:Dz P C (nx σ) w s v):Iv P C w σ s v σ:=
 let⟨x,h1,h2⟩:=h;⟨x,x,w,C,h1,rfl,hs,cf_ _ _ _,h2⟩
theorem E7{op t x y a b}(h1:∀l m,¬(a=.agg l/\b=.agg m))(h2:¬(a=.nilIface/\b=.nilIface)):
  (eqGuard op t x y a b).run P w=.ok () w:=by
 cases op<;>first
  |(simp[eqGuard];done)
  |(cases a<;>cases b<;>first
    |(simp[eqGuard];done)
    |exact absurd ⟨rfl,rfl⟩ h2
    |exact absurd ⟨rfl,rfl⟩ (h1 _ _))
theorem Adl{op t x y}(h:(Cm x||Cm y)=true):(eqGuard op t x y .nilIface .nilIface).run P w=.ok () w:=by
 cases op<;>first
  |(simp[eqGuard];done)
  |(cases x<;>cases y<;>first
    |(simp[Cm]at h;done)
    |(simp[eqGuard];done))
theorem Ahy{op a b v}(h:T3 op (B2 a) (B2 b)=some v)(t):
  ∃x,(binOp op t (.string a) (.string b)).run P w=.ok x w/\R C N w v x:=by
 have hl:C8 (B2 a) (B2 b)=Op.bytesLess a.toList b.toList:=by rw[ByteArray.toList_eq,ByteArray.toList_eq];exact Aaj _ _
 cases op<;>simp only[T3]at h
 case add=>
  cases hb:Nat.ble ((B2 a).length+(B2 b).length) Aaa
  ·grind
  ·simp only[hb,cond_true]at h;cases h;have hle:=al_ hb;rw[Fg,Fg]at hle
   have hm:¬(((a.size+b.size:Nat):Int)>IntKind.i64.max):=by
    have:IntKind.i64.max=9223372036854775807:=by decide
    rw[this];unfold Aaa at hle;omega
   refine⟨.string (a++b),?_,by unfold R;exact⟨_,rfl,Aak a b⟩⟩
   simp only[binOp,Op.stringOp,Sem.run_ite,if_neg hm,Sem.run_pure]
 case eql=>cases h;exact⟨_,by simp only[binOp];simp[Op.stringOp];rfl,by unfold R;rw[Lt]⟩
 case neq=>cases h;exact⟨_,by simp only[binOp];simp[Op.stringOp];rfl,by unfold R;rw[Lt]⟩
 case lss=>cases h;exact⟨_,by simp only[binOp];simp[Op.stringOp];rfl,by unfold R;rw[hl]⟩
 case leq=>cases h;exact⟨_,by simp only[binOp];simp[Op.stringOp];rfl,by unfold R;rw[hl,Lt]⟩
 case gtr=>cases h;exact⟨.bool (!(Op.bytesLess a.toList b.toList||a.toList==b.toList)),by simp only[binOp,Op.stringOp,Sem.run_pure],by unfold R;rw[hl,Lt]⟩
 case geq=>cases h;exact⟨_,by simp only[binOp];simp[Op.stringOp];rfl,by unfold R;rw[hl]⟩
 all_goals (cases h)
structure EqR (P:Program)(w:World)(t:TypeId)(X Y:Value)(b:Bool):Prop where
 eql:(binOp .eql t X Y).run P w=.ok (.bool b) w
 neq:(binOp .neq t X Y).run P w=.ok (.bool !b) w
theorem EqR.mk'{t X Y b}(h:∀d,(Op.equalIn (d+1) t X Y).run P w=.ok b w)
  (e1:binOp .eql t X Y=(do pure (.bool (←Op.equal t X Y))))(e2:binOp .neq t X Y=(do pure (.bool (!(←Op.equal t X Y))))):EqR P w t X Y b:=by
 have h':(Op.equal t X Y).run P w=.ok b w:=h 9999
 exact⟨by rw[e1];simp only[Sem.run_bind,h',Result.andThen_ok,Sem.run_pure],by rw[e2];simp only[Sem.run_bind,h',Result.andThen_ok,Sem.run_pure]⟩
section
variable {t:TypeId}{d:TypeDesc}
theorem EqR.slice(hd:P.underlying t=some d)(h:∃e,d=.slice e)(ad n k):EqR P w t (.slice (some ad) n k) (.slice none 0 0) false/\EqR P w t (.slice none 0 0) (.slice (some ad) n k) false/\EqR P w t (.slice none 0 0) (.slice none 0 0) true:=by
 obtain⟨e,rfl⟩:=h
 exact⟨.mk' (fun d=>by simp[Op.equalIn,Aa hd]) rfl rfl,.mk' (fun d=>by simp[Op.equalIn,Aa hd]) rfl rfl,.mk' (fun d=>by simp[Op.equalIn,Aa hd]) rfl rfl⟩
abbrev gh_:=@EqR.slice
theorem EqR.pointer(hd:P.underlying t=some d)(h:∃e,d=.pointer e)(ad):EqR P w t (.pointer (some ad)) (.pointer none) false/\EqR P w t (.pointer none) (.pointer (some ad)) false/\EqR P w t (.pointer none) (.pointer none) true:=by
 obtain⟨e,rfl⟩:=h
 exact⟨.mk' (fun d=>by simp[Op.equalIn,Aa hd]) rfl rfl,.mk' (fun d=>by simp[Op.equalIn,Aa hd]) rfl rfl,.mk' (fun d=>by simp[Op.equalIn,Aa hd]) rfl rfl⟩
abbrev gk_:=@EqR.pointer
theorem EqR.map(hd:P.underlying t=some d)(h:∃k e,d=.map k e)(c):EqR P w t (.map (some c)) (.map none) false/\EqR P w t (.map none) (.map (some c)) false/\EqR P w t (.map none) (.map none) true:=by
 obtain⟨k,e,rfl⟩:=h
 exact⟨.mk' (fun d=>by simp[Op.equalIn,Aa hd]) rfl rfl,.mk' (fun d=>by simp[Op.equalIn,Aa hd]) rfl rfl,.mk' (fun d=>by simp[Op.equalIn,Aa hd]) rfl rfl⟩
theorem EqR.func(hd:P.underlying t=some d)(h:∃a b c,d=.func a b c)(f p q):EqR P w t (.func f p q) .nilFunc false/\EqR P w t .nilFunc (.func f p q) false/\EqR P w t .nilFunc .nilFunc true:=by
 obtain⟨a,b,c,rfl⟩:=h
 exact⟨.mk' (fun d=>by simp[Op.equalIn,Aa hd]) rfl rfl,.mk' (fun d=>by simp[Op.equalIn,Aa hd]) rfl rfl,.mk' (fun d=>by simp[Op.equalIn,Aa hd]) rfl rfl⟩
theorem EqR.iface(hd:P.underlying t=some d)(h:∃m,d=.interface m)(u v):EqR P w t (.iface u v) .nilIface false/\EqR P w t .nilIface (.iface u v) false/\EqR P w t .nilIface .nilIface true:=by
 obtain⟨m,rfl⟩:=h
 exact⟨.mk' (fun d=>by simp[Op.equalIn,Aa hd]) rfl rfl,.mk' (fun d=>by simp[Op.equalIn,Aa hd]) rfl rfl,.mk' (fun d=>by simp[Op.equalIn,Aa hd]) rfl rfl⟩
theorem EqR.bool(hd:P.underlying t=some .bool)(a b):EqR P w t (.bool a) (.bool b) (a==b):=
 .mk' (fun d=>by simp[Op.equalIn,Aa hd]) rfl rfl
end
def Al8(X:Value):Prop:=∀l,X≠.agg l
theorem Uc{d t}(hd:P.underlying t=some d){x y X Y}(hx:R C N w x X)(hy:R C N w y Y)(h:Pm d x y=true):
  EqR P w t X Y false/\EqR P w t Y X false/\Al8 X/\Al8 Y:=by
 unfold Pm at h
 split at h
 ·unfold R at hy;obtain⟨rfl,_⟩:=hy
  split at h
  ·unfold R at hx;obtain⟨ad,k,rfl,_⟩:=hx
   have:=gh_ (w:=w) hd ⟨_,rfl⟩ ad;exact⟨(this _ _).1,(this _ _).2.1,(fun _ h=>by cases h),(fun _ h=>by cases h)⟩
  ·unfold R at hx;obtain⟨ado,k,rfl,hle,_,_,hn,_⟩:=hx
   obtain _|ad:=ado
   ·grind
   have:=gh_ (w:=w) hd ⟨_,rfl⟩ ad;exact⟨(this _ _).1,(this _ _).2.1,(fun _ h=>by cases h),(fun _ h=>by cases h)⟩
  grind
 ·unfold R at hy;obtain⟨rfl,_⟩:=hy
  split at h
  ·unfold R at hx;obtain⟨ad,rfl,_⟩:=hx
   have:=gk_ (w:=w) hd ⟨_,rfl⟩ ad;exact⟨this.1,this.2.1,(fun _ h=>by cases h),(fun _ h=>by cases h)⟩
  ·unfold R at hx;obtain⟨c,o,rfl,_⟩:=hx
   have:=gk_ (w:=w) hd ⟨_,rfl⟩ ⟨c,o,none⟩;exact⟨this.1,this.2.1,(fun _ h=>by cases h),(fun _ h=>by cases h)⟩
  grind
 ·unfold R at hy;obtain⟨rfl,_⟩:=hy
  split at h
  ·unfold R at hx;obtain⟨c,rfl,_⟩:=hx
   have:=EqR.map (w:=w) hd ⟨_,_,rfl⟩ c;exact⟨this.1,this.2.1,(fun _ h=>by cases h),(fun _ h=>by cases h)⟩
  grind
 ·unfold R at hy;obtain⟨rfl,_⟩:=hy
  split at h
  ·unfold R at hx;obtain⟨a,b,rfl,_⟩:=hx
   have:=EqR.func (w:=w) hd ⟨_,_,_,rfl⟩;exact⟨(this _ _ _).1,(this _ _ _).2.1,(fun _ h=>by cases h),(fun _ h=>by cases h)⟩
  grind
 ·unfold R at hy;obtain⟨rfl,_⟩:=hy
  split at h
  ·unfold R at hx;obtain⟨z,rfl,_⟩:=hx
   have:=EqR.iface (w:=w) hd ⟨_,rfl⟩;exact⟨(this _ _).1,(this _ _).2.1,(fun _ h=>by cases h),(fun _ h=>by cases h)⟩
  grind
 grind
theorem Ahz{d t}(hd:P.underlying t=some d){x y X Y}(hx:R C N w x X)(hy:R C N w y Y){b}(h:Ad7 d x y=some b):
  EqR P w t X Y b/\Al8 X/\Al8 Y:=by
 unfold Ad7 at h;cases hb:Q6 d x y
 ·simp only[hb,cond_false]at h;cases h1:Pm d x y
  ·cases h2:Pm d y x
   ·grind
   ·simp[h2]at h;subst h;have:=Uc hd hy hx h2;grind
  ·simp[h1]at h;subst h;have:=Uc hd hx hy h1;grind
 ·simp only[hb,cond_true,af_]at h;subst h;unfold Q6 at hb
  split at hb
  ·unfold R at hx hy;obtain⟨rfl,_⟩:=hx;obtain⟨rfl,_⟩:=hy
   exact⟨(gh_ (w:=w) hd ⟨_,rfl⟩ ⟨0,0,none⟩ 0 0).2.2,(fun _ h=>by cases h),(fun _ h=>by cases h)⟩
  ·unfold R at hx hy;obtain⟨rfl,_⟩:=hx;obtain⟨rfl,_⟩:=hy
   exact⟨(gk_ (w:=w) hd ⟨_,rfl⟩ ⟨0,0,none⟩).2.2,(fun _ h=>by cases h),(fun _ h=>by cases h)⟩
  ·unfold R at hx hy;obtain⟨rfl,_⟩:=hx;obtain⟨rfl,_⟩:=hy
   exact⟨(EqR.map (w:=w) hd ⟨_,_,rfl⟩ 0).2.2,(fun _ h=>by cases h),(fun _ h=>by cases h)⟩
  ·unfold R at hx hy;obtain⟨rfl,_⟩:=hx;obtain⟨rfl,_⟩:=hy
   exact⟨(EqR.func (w:=w) hd ⟨_,_,_,rfl⟩ (.func 0) #[] #[]).2.2,(fun _ h=>by cases h),(fun _ h=>by cases h)⟩
  ·unfold R at hx hy;obtain⟨rfl,_⟩:=hx;obtain⟨rfl,_⟩:=hy
   exact⟨(EqR.iface (w:=w) hd ⟨_,rfl⟩ 0 .nilIface).2.2,(fun _ h=>by cases h),(fun _ h=>by cases h)⟩
  grind
theorem Wi{d x k v}(h:Akn d x=some k)(hr:R C N w x v):KV k v/\KS d v:=by
 unfold Akn at h
 split at h
 ·rename_i j k' n
  cases hk:Ed j k'
  ·grind
  ·simp only[hk,cond_true,af_]at h;subst h;have:=(N4 j k').1 hk;subst this;unfold R at hr;subst hr
   exact⟨by unfold KV;rfl,n,rfl⟩
 ·rename_i l
  cases h;unfold R at hr;obtain⟨s,rfl,h2⟩:=hr
  exact⟨by unfold KV;grind,s,rfl⟩
 ·rename_i b
  cases h;unfold R at hr;subst hr
  exact⟨by unfold KV;rfl,b,rfl⟩
 grind
theorem Aal:∀{fs:List Field} {cs:List AV} {ks:List Key} {vs:List Value},Z9 P fs cs=some ks->RL C N w cs vs->KVs ks vs/\KFs P fs vs
 |[],[],ks,vs,h,hr=>by
  simp only[Z9,af_]at h;subst h;cases vs with
  |nil=>exact⟨by unfold KVs;trivial,by unfold KFs;trivial⟩
  |cons=>unfold RL at hr;exact hr.elim
 |f::fs,c::cs,ks,vs,h,hr=>by
  cases vs with
  |nil=>unfold RL at hr;exact hr.elim
  |cons v vs=>
   unfold RL at hr;simp only[Z9]at h
   split at h
   ·rename_i ti hti
    split at h
    ·rename_i k ks' hk hks
     cases hb:(f.name != "_" &&Nat.beq ti.size 1)
     ·grind
     ·simp only[hb,cond_true,af_]at h;subst h;simp only[ad_,bne_iff_ne,ne_eq]at hb;obtain⟨i,d,h1,h2,h3,h4,_,_,_⟩:=Ap hti;obtain⟨q1,q2⟩:=Wi hk hr.1;obtain⟨q3,q4⟩:=Aal hks hr.2
      have hs:i.size=1:=by rw[←h4];exact ac_ hb.2
      rw[h3]at q2
      exact⟨by unfold KVs;grind,by unfold KFs;exact⟨⟨i,d,h1,h2,hs,by cases d<;>first|rfl|exact q2.elim,q2,hb.1⟩,q4⟩⟩
    grind
   ·cases h
 |[],_::_,_,_,h,_=>by simp[Z9]at h
 |_::_,[],_,_,h,_=>by simp[Z9]at h
theorem Aam{d}:∀{cs:List AV} {ks:List Key} {vs:List Value},Ahu d cs=some ks->RL C N w cs vs->KVs ks vs/\∀x∈vs,KS d x
 |[],ks,vs,h,hr=>by
  simp only[Ahu,af_]at h;subst h;cases vs with
  |nil=>exact⟨by unfold KVs;trivial,by simp⟩
  |cons=>unfold RL at hr;exact hr.elim
 |c::cs,ks,vs,h,hr=>by
  cases vs with
  |nil=>unfold RL at hr;exact hr.elim
  |cons v vs=>
   unfold RL at hr;simp only[Ahu]at h
   split at h
   ·rename_i k ks' hk hks
    cases h;obtain⟨q1,q2⟩:=Wi hk hr.1;obtain⟨q3,q4⟩:=Aam hks hr.2
    refine⟨by unfold KVs;grind,fun x hx=>?_⟩
    grind
   ·cases h
theorem H3{kt:TypeId}{x k v}(h:D4 P kt x=some k)(hr:R C N w x v):KV k v/\KT P kt v:=by
 unfold D4 at h
 split at h
 ·rename_i ti hti
  obtain⟨i,d,h1,h2,h3,h4,_,_,_⟩:=Ap hti
  split at h
  ·rename_i fs hfs
   cases hb:(Jz fs.toList 0&& !P.stoodInHeld kt)
   ·grind
   ·simp only[hb]at h;unfold Aqg at h
    split at h
    ·rename_i cs
     split at h
     ·rename_i l hl
      cases h;unfold R at hr;obtain⟨a,rfl,q1,q2⟩:=hr;obtain⟨g1,g2⟩:=Aal hl q1;simp only[ad_,bi_]at hb
      exact⟨by unfold KV;grind,.inr (.inl ⟨fs,a,gr,rfl,g2,hb.1,hb.2⟩)⟩
     grind
    grind
  ·rename_i n e hne
   split at h
   ·rename_i te hte
    obtain⟨i',d',e1,e2,e3,e4,_,_,e5⟩:=Ap hte;cases hb:(Nat.beq te.size 1&& !te.isAgg)
    ·grind
    ·simp only[hb]at h;simp only[ad_,bi_]at hb;unfold Aqh at h
     split at h
     ·rename_i cs
      cases bl:(Nat.beq cs.length n&& !Nat.beq n 0)
      ·grind
      ·simp only[bl]at h;simp only[ad_,bi_]at bl
       split at h
       ·rename_i l hl
        cases h;unfold R at hr;obtain⟨a,rfl,q1,q2⟩:=hr;obtain⟨g1,g2⟩:=Aam hl q1;rw[e3]at g2
        refine⟨by unfold KV;grind,.inr (.inr ⟨n,e,a,d',i',gr,rfl,e1,by rw[←e4];exact ac_ hb.1,e2,gr,?_,?_,g2⟩)⟩
        ·have:=q1.length;rw[←cd_,←this];exact ac_ bl.1
        ·rintro rfl;cases bl.2
       grind
     grind
   grind
  ·obtain⟨g1,g2⟩:=Wi h hr;rw[h3]at g2;exact⟨g1,.inl ⟨d,h2,g2⟩⟩
 grind
theorem Wj{d k k' v v'}(h:KV k v)(h':KV k' v')(t:KS d v)(t':KS d v'):
  (Key.eq k k'=true↔v=v')/\∀(t:TypeId),P.underlying t=some d->∀n,(Op.equalIn (n+1) t v v').run P w=.ok (Key.eq k k') w:=by
 unfold KS at t t'
 split at t
 ·obtain⟨n,rfl⟩:=t;obtain⟨m,rfl⟩:=t'
  cases k<;>unfold KV at h<;>first|(cases h;done)|(obtain⟨_,hh,_⟩:=h;cases hh;done)|skip
  cases k'<;>unfold KV at h'<;>first|(cases h';done)|(obtain⟨_,hh,_⟩:=h';cases hh;done)|skip
  cases h;cases h';have hk:∀j:IntKind,Ed j j=true:=fun j=>(N4 j j).2 rfl
  refine⟨by simp[Key.eq,hk,Jg],fun t ht n=>?_⟩
  rw[run_equalIn_int _ _ _ _ _ _ _ ht];simp[Key.eq,hk,Jg]
 ·obtain⟨n,rfl⟩:=t;obtain⟨m,rfl⟩:=t'
  cases k<;>unfold KV at h<;>first|(cases h;done)|skip
  cases k'<;>unfold KV at h'<;>first|(cases h';done)|skip
  ·obtain⟨s,q1,q2⟩:=h;obtain⟨s',q3,q4⟩:=h';cases q1;cases q3;subst q2;subst q4;refine⟨?_,fun t ht n=>?_⟩
   ·simp only[Key.eq,Gu,Value.string.injEq];exact⟨Xo,gr⟩
   ·rw[run_equalIn_string _ _ _ _ _ ht];simp only[Key.eq,Lt]
  ·grind
  grind
 ·obtain⟨n,rfl⟩:=t;obtain⟨m,rfl⟩:=t'
  cases k<;>unfold KV at h<;>first|(cases h;done)|(obtain⟨_,hh,_⟩:=h;cases hh;done)|skip
  cases k'<;>unfold KV at h'<;>first|(cases h';done)|(obtain⟨_,hh,_⟩:=h';cases hh;done)|skip
  cases h;cases h'
  refine⟨by cases n<;>cases m<;>simp[Key.eq],fun t ht _=>?_⟩
  rw[run_equalIn_bool' _ _ _ _ _ ht];cases n<;>cases m<;>simp[Key.eq]
 grind
theorem Aan(n xs ys):∀(fs:List Field) (i:Nat) (ks ks':List Key) (vs vs':List Value),Jz fs i=true->KFs P fs vs->KFs P fs vs'->KVs ks vs->KVs ks' vs'->
  (∀j,j<vs.length->xs[i+j]? =vs[j]?)->(∀j,j<vs'.length->ys[i+j]? =vs'[j]?)->
  (Key.eqs ks ks'=true↔vs=vs')/\(Op.eqFields (n+1) xs ys fs).run P w=.ok (Key.eqs ks ks') w
 |[],i,ks,ks',vs,vs',_,h1,h2,h3,h4,_,_=>by
  cases vs<;>unfold KFs at h1<;>first|exact h1.elim|skip
  cases vs'<;>unfold KFs at h2<;>first|exact h2.elim|skip
  cases ks<;>unfold KVs at h3<;>first|exact h3.elim|skip
  cases ks'<;>unfold KVs at h4<;>first|exact h4.elim|skip
  exact⟨by simp[Key.eqs],by simp[Op.eqFields,Key.eqs]⟩
 |f::fs,i,ks,ks',vs,vs',h0,h1,h2,h3,h4,h5,h6=>by
  cases vs with
  |nil=>unfold KFs at h1;exact h1.elim
  |cons v vs=>
  cases vs' with
  |nil=>unfold KFs at h2;exact h2.elim
  |cons v' vs'=>
  cases ks with
  |nil=>unfold KVs at h3;exact h3.elim
  |cons k ks=>
  cases ks' with
  |nil=>unfold KVs at h4;exact h4.elim
  |cons k' ks'=>
  unfold KFs at h1 h2;unfold KVs at h3 h4;obtain⟨⟨inf,d,g1,g2,g3,g4,g5,g6⟩,h1⟩:=h1;obtain⟨⟨inf',d',e1,e2,_,_,e5,_⟩,h2⟩:=h2;rw[g2]at e2;cases e2;simp only[Jz,ad_]at h0;have ho:f.offset=i:=ac_ h0.1;obtain⟨q1,q2⟩:=Wj (P:=P) (w:=w) h3.1 h4.1 g5 e5
  obtain⟨q3,q4⟩:=Aan n xs ys fs (i+1) ks ks' vs vs' h0.2 h1 h2 h3.2 h4.2 (fun j hj=>by have:=h5 (j+1) gr;grind)
   (fun j hj=>by have:=h6 (j+1) gr;grind)
  have hx:(part f.type xs f.offset).run P w=.ok v w:=by
   have:=h5 0 (by simp)
   unfold part;simp only[Sem.run_bind,Fp g2,Result.andThen_ok,g4,bp_,if_false,ho]
   simp at this;simp[this]
  have hy:(part f.type ys f.offset).run P w=.ok v' w:=by
   have:=h6 0 (by simp)
   unfold part;simp only[Sem.run_bind,Fp g2,Result.andThen_ok,g4,bp_,if_false,ho]
   simp at this;simp[this]
  constructor
  ·simp only[Key.eqs,dl_]
   grind
  ·simp only[Op.eqFields,if_pos g6,Sem.run_bind,hx,hy,Result.andThen_ok,q2 _ g2 n,Sem.run_ite,q4,Sem.run_pure,Key.eqs]
   grind
theorem Aed(n){e d inf}(g1:P.info? e=some inf)(g3:inf.size=1)(g2:P.underlying e=some d)(g4:Mx d=false)(xs ys):∀(ks ks':List Key) (vs vs':List Value) (i:Nat),vs.length=vs'.length->(∀x∈vs,KS d x)->(∀x∈vs',KS d x)->KVs ks vs->KVs ks' vs'->
  (∀j,j<vs.length->xs[i+j]? =vs[j]?)->(∀j,j<vs'.length->ys[i+j]? =vs'[j]?)->
  (Key.eqs ks ks'=true↔vs=vs')/\(Op.eqItems (n+1) e (P.cellsOf e) xs ys (List.range' i vs.length)).run P w=.ok (Key.eqs ks ks') w
 |ks,ks',[],[],i,_,_,_,h3,h4,_,_=>by
  cases ks<;>unfold KVs at h3<;>first|exact h3.elim|skip
  cases ks'<;>unfold KVs at h4<;>first|exact h4.elim|skip
  exact⟨by simp[Key.eqs],by simp[Op.eqItems,Key.eqs]⟩
 |_,_,[],_::_,_,hl,_,_,_,_,_,_=>by cases hl
 |_,_,_::_,[],_,hl,_,_,_,_,_,_=>by cases hl
 |ks,ks',v::vs,v'::vs',i,hl,h1,h2,h3,h4,h5,h6=>by
  cases ks with
  |nil=>unfold KVs at h3;exact h3.elim
  |cons k ks=>
  cases ks' with
  |nil=>unfold KVs at h4;exact h4.elim
  |cons k' ks'=>
  unfold KVs at h3 h4
  have hc:P.cellsOf e=1:=by simp[Program.cellsOf,g1,g3]
  obtain⟨q1,q2⟩:=Wj (P:=P) (w:=w) h3.1 h4.1 (h1 v (by simp)) (h2 v' (by simp))
  obtain⟨q3,q4⟩:=Aed n g1 g3 g2 g4 xs ys ks ks' vs vs' (i+1) gr (fun x hx=>h1 x (by simp[hx])) (fun x hx=>h2 x (by simp[hx])) h3.2 h4.2 (fun j hj=>by have:=h5 (j+1) gr;grind)
   (fun j hj=>by have:=h6 (j+1) gr;grind)
  have hx:(part e xs (i*P.cellsOf e)).run P w=.ok v w:=by
   have:=h5 0 (by simp)
   unfold part;simp only[Sem.run_bind,Fp g2,Result.andThen_ok,g4,bp_,if_false,hc,fr_]
   simp at this;simp[this]
  have hy:(part e ys (i*P.cellsOf e)).run P w=.ok v' w:=by
   have:=h6 0 (by simp)
   unfold part;simp only[Sem.run_bind,Fp g2,Result.andThen_ok,g4,bp_,if_false,hc,fr_]
   simp at this;simp[this]
  constructor
  ·simp only[Key.eqs,dl_]
   grind
  ·simp only[as_,cj_,Op.eqItems,Sem.run_bind,hx,hy,Result.andThen_ok,q2 _ g2 n,Sem.run_ite,q4,Sem.run_pure,Key.eqs]
   grind
theorem Al9{kt:TypeId}{k k' v v'}(h:KV k v)(h':KV k' v')(t:KT P kt v)(t':KT P kt v'):
  (Key.eq k k'=true↔v=v')/\∀n,(Op.equalIn (n+2) kt v v').run P w=.ok (Key.eq k k') w:=by
 rcases t with⟨d,ht,t⟩|⟨fs,a,ht,rfl,t1,t2,t3⟩|⟨len,e,a,d,inf,ht,rfl,g1,g3,g2,g4,t1,t0,t2⟩
 ·rcases t' with⟨d',ht',t'⟩|⟨fs,a,ht',rfl,_,_,_⟩|⟨_,_,_,_,_,ht',rfl,_⟩
  ·rw[ht]at ht';cases ht';obtain⟨q1,q2⟩:=Wj (P:=P) (w:=w) h h' t t'
   grind
  ·rw[ht]at ht';cases ht';exact t.elim
  ·rw[ht]at ht';cases ht';exact t.elim
 case inr.inr=>
  rcases t' with⟨d',ht',t'⟩|⟨fs,a,ht',rfl,_,_,_⟩|⟨len',e',a',d',inf',ht',rfl,g1',_,g2',_,t1',_,t2'⟩
  ·rw[ht]at ht';cases ht';exact t'.elim
  ·grind
  ·rw[ht]at ht';cases ht';rw[g2]at g2';cases g2'
   cases k<;>unfold KV at h<;>first|(cases h;done)|(obtain⟨_,hh,_⟩:=h;cases hh;done)|skip
   cases k'<;>unfold KV at h'<;>first|(cases h';done)|(obtain⟨_,hh,_⟩:=h';cases hh;done)|skip
   obtain⟨_,hh,h⟩:=h;cases hh;obtain⟨_,hh,h'⟩:=h';cases hh;have key:=fun n=>Aed (P:=P) (w:=w) n g1 g3 g2 g4 a a' _ _ a.toList a'.toList 0 gr t2 t2' h h' gr gr
   constructor
   ·simp only[Key.eq];rw[(key 0).1]
    constructor
    ·intro hl;rw[Array.toList_inj.1 hl]
    grind
   ·intro n;have:=(key n).2;rw[run_equalIn_array w (n+1) a a' ht g1,dr_,←t1,←cd_,this];simp only[Key.eq]
 ·rcases t' with⟨d',ht',t'⟩|⟨fs',a',ht',rfl,t4,_,_⟩|⟨_,_,_,_,_,ht',rfl,_⟩
  ·rw[ht]at ht';cases ht';exact t'.elim
  case inr.inr=>rw[ht]at ht';cases ht'
  ·rw[ht]at ht';cases ht'
   cases k<;>unfold KV at h<;>first|(cases h;done)|(obtain⟨_,hh,_⟩:=h;cases hh;done)|skip
   cases k'<;>unfold KV at h'<;>first|(cases h';done)|(obtain⟨_,hh,_⟩:=h';cases hh;done)|skip
   obtain⟨_,hh,h⟩:=h;cases hh;obtain⟨_,hh,h'⟩:=h';cases hh
   have hf:P.fieldsOf kt=fs:=by unfold Program.fieldsOf;rw[ht]
   have key:=fun n=>Aan (P:=P) (w:=w) n a a' fs.toList 0 _ _ a.toList a'.toList t2 t1 t4 h h' gr gr
   constructor
   ·simp only[Key.eq];rw[(key 0).1]
    constructor
    ·intro hl;rw[Array.toList_inj.1 hl]
    grind
   ·intro n;rw[run_equalIn_struct w (n+1) kt a a' gr t3,hf,(key n).2];simp only[Key.eq]
theorem Kt(e n a):∀(fs:List Field) (i:Nat) (vs:List Value),Jz fs i=true->KFs P fs vs->(∀j,j<vs.length->a[i+j]? =vs[j]?)->
  (forIn fs PUnit.unit fun f _=>if f.name≠ "_" then do
    let x←part f.type a f.offset
    Instr.checkKey e (n+1) f.type x
    pure (ForInStep.yield PUnit.unit)
   else pure (ForInStep.yield PUnit.unit):Sem PUnit).run P w=.ok PUnit.unit w
 |[],_,_,_,_,_=>by simp
 |f::fs,i,vs,h0,h1,h2=>by
  cases vs with
  |nil=>unfold KFs at h1;exact h1.elim
  |cons v vs=>
  unfold KFs at h1;obtain⟨⟨inf,d,g1,g2,g3,g4,g5,g6⟩,h1⟩:=h1;simp only[Jz,ad_]at h0;have ho:f.offset=i:=ac_ h0.1
  have hx:(part f.type a f.offset).run P w=.ok v w:=by
   have:=h2 0 (by simp)
   unfold part;simp only[Sem.run_bind,Fp g2,Result.andThen_ok,g4,bp_,if_false,ho]
   simp at this;simp[this]
  have hc:(Instr.checkKey e (n+1) f.type v).run P w=.ok () w:=by
   unfold Instr.checkKey;simp only[Sem.run_bind,Aa g2,Result.andThen_ok];unfold KS at g5
   split at g5
   ·obtain⟨_,rfl⟩:=g5;rfl
   ·obtain⟨_,rfl⟩:=g5;rfl
   ·obtain⟨_,rfl⟩:=g5;rfl
   grind
  have:=Kt e n a fs (i+1) vs h0.2 h1 (fun j hj=>by have:=h2 (j+1) gr;grind)
  simp only[List.forIn_cons,Sem.run_bind,if_pos g6,hx,Result.andThen_ok,hc,Sem.run_pure];exact this
theorem Lu(e n){el d inf}(g1:P.info? el=some inf)(g3:inf.size=1)(g2:P.underlying el=some d)(g4:Mx d=false)(a):∀(vs:List Value) (i:Nat),(∀x∈vs,KS d x)->(∀j,j<vs.length->a[i+j]? =vs[j]?)->
  (forIn (List.range' i vs.length) PUnit.unit fun i _=>do
    let s←sizeOf el
    let x←part el a (i*s)
    Instr.checkKey e (n+1) el x
    pure (ForInStep.yield PUnit.unit):Sem PUnit).run P w=.ok PUnit.unit w
 |[],_,_,_=>by simp
 |v::vs,i,h1,h2=>by
  have g5:=h1 v (by simp)
  have hx:(part el a i).run P w=.ok v w:=by
   have:=h2 0 (by simp)
   unfold part;simp only[Sem.run_bind,Fp g2,Result.andThen_ok,g4,bp_,if_false]
   simp at this;simp[this]
  have hc:(Instr.checkKey e (n+1) el v).run P w=.ok () w:=by
   unfold Instr.checkKey;simp only[Sem.run_bind,Aa g2,Result.andThen_ok];unfold KS at g5
   split at g5
   ·obtain⟨_,rfl⟩:=g5;rfl
   ·obtain⟨_,rfl⟩:=g5;rfl
   ·obtain⟨_,rfl⟩:=g5;rfl
   grind
  have hs:(sizeOf el).run P w=.ok 1 w:=by rw[run_sizeOf w g1];simp[Program.cellsOf,g1,g3]
  have:=Lu e n g1 g3 g2 g4 a vs (i+1) (fun x hx=>h1 x (by simp[hx])) (fun j hj=>by have:=h2 (j+1) gr;grind)
  simp only[as_,cj_,List.forIn_cons,Sem.run_bind,hs,fr_,hx,Result.andThen_ok,hc,Sem.run_pure]
  grind
theorem C3{kt:TypeId}{v}(t:KT P kt v)(e n):(Instr.checkKey e (n+2) kt v).run P w=.ok () w:=by
 rcases t with⟨d,ht,t⟩|⟨fs,a,ht,rfl,t1,t2,t3⟩|⟨len,el,a,d,inf,ht,rfl,g1,g3,g2,g4,t1,t0,t2⟩
 case inr.inr=>
  unfold Instr.checkKey;simp only[Sem.run_bind,Aa ht,Result.andThen_ok];have:=Lu (w:=w) e n g1 g3 g2 g4 a a.toList 0 t2 gr;simp only[Std.Legacy.Range.forIn_eq_forIn_range',Std.Legacy.Range.size,es_,Nat.add_one_sub_one,Nat.div_one];rw[cd_,t1]at this;rw[this]
  rfl
 ·unfold Instr.checkKey;simp only[Sem.run_bind,Aa ht,Result.andThen_ok];unfold KS at t
  split at t
  ·obtain⟨_,rfl⟩:=t;rfl
  ·obtain⟨_,rfl⟩:=t;rfl
  ·obtain⟨_,rfl⟩:=t;rfl
  grind
 ·unfold Instr.checkKey;simp only[Sem.run_bind,Aa ht,Result.andThen_ok];rw[←Array.forIn_toList];have:=Kt (w:=w) e n a fs.toList 0 a.toList t2 t1 gr;rw[this]
  rfl
end
section
variable {P:Program}{C:Ctx}{N:Nat}{w:World}
theorem Aao{t:TypeId}{x y X Y}(hx:R C N w x X)(hy:R C N w y Y){b}(h:Pn P t x y=some b):
  ∃l m,X=.agg l/\Y=.agg m/\EqR P w t X Y b/\KT P t X:=by
 unfold Pn at h
 split at h
 ·rename_i cs ds
  split at h
  ·rename_i k k' hk hk'
   cases h;obtain⟨v1,t1⟩:=H3 hk hx;obtain⟨v2,t2⟩:=H3 hk' hy;unfold R at hx hy;obtain⟨l,rfl,_⟩:=hx;obtain⟨m,rfl,_⟩:=hy;have:=(Al9 (P:=P) (w:=w) v1 v2 t1 t2).2;refine⟨l,m,rfl,rfl,⟨?_,?_⟩,t1⟩
   ·rw[run_eql_struct,this 9998];rfl
   ·rw[run_neq_struct,this 9998];rfl
  grind
 grind
theorem Ud{t:TypeId}{l}(h:KT P t (.agg l)):P.eqGuardType P.depth t=false:=by
 rcases h with⟨d,ht,h⟩|⟨fs,a,ht,_,h1,h2,h3⟩|⟨n,e,a,d,inf,ht,hh,g1,g3,g2,g4,t1,t0,t2⟩
 ·unfold KS at h;grind
 case inr.inr=>
  have hd:P.depth=(2*(P.types.size+Made.depth))+1+1:=by unfold Program.depth;omega
  rw[hd]
  generalize 2*(P.types.size+Made.depth)=m
  unfold Program.eqGuardType;rw[ht];simp only;unfold Program.eqGuardType;rw[g2]
  obtain⟨x,hx⟩:∃x,x∈a.toList:=by
   cases hl:a.toList with
   |nil=>exact absurd (by rw[←t1,←cd_,hl];rfl) t0
   |cons x _=>exact⟨x,by simp⟩
  have:=t2 x hx;unfold KS at this
  split at this<;>first|rfl|exact this.elim
 ·have hd:P.depth=(2*(P.types.size+Made.depth))+1+1:=by unfold Program.depth;omega
  rw[hd]
  generalize 2*(P.types.size+Made.depth)=n
  unfold Program.eqGuardType;rw[ht];simp only[←Array.any_toList]
  have key:∀(fs:List Field) (vs:List Value), KFs P fs vs->(fs.any fun f=>f.name != "_" &&P.eqGuardType (n+1) f.type)=false:=by
   intro fs
   induction fs with
   |nil=>intro vs _;rfl
   |cons f fs ih=>
    intro vs hk;cases vs with
    |nil=>unfold KFs at hk;exact hk.elim
    |cons v vs=>
     unfold KFs at hk;obtain⟨⟨i,d,g1,g2,g3,g4,g5,g6⟩,hk⟩:=hk;simp only[dh_,ih vs hk,gl_]
     have:P.eqGuardType (n+1) f.type=false:=by
      unfold Program.eqGuardType;rw[g2];unfold KS at g5
      grind
     simp[this]
  grind
theorem Ah0{op k a b v}(h:Aqi op k a b=some v)(t):
  ∃x,(binOp op t (.float k a) (.float k b)).run P w=.ok x w/\R C N w v x:=by
 unfold Aqi at h;cases h
theorem Aks{op}{t:TypeId}{xo yo x y X Y}(hx:R C N w x X)(hy:R C N w y Y){v}
  (h:Wb P op t (Cm xo||Cm yo) x y=some v):Dz P C N w (do eqGuard op t xo yo X Y;binOp op t X Y) v:=by
 have fin:∀{v:AV},(eqGuard op t xo yo X Y).run P w=.ok () w->Dz P C N w (binOp op t X Y) v->Dz P C N w (do eqGuard op t xo yo X Y;binOp op t X Y) v:=by
  intro v h1 ⟨z,h2,h3⟩
  exact⟨z,by simp only[Sem.run_bind,h1,Result.andThen_ok,h2],h3⟩
 unfold Wb at h
 split at h
 ·rename_i ti hti
  obtain⟨i,d,_,hd,hdd,_⟩:=Ap hti
  split at h
  ·rename_i k a k' b
   unfold R at hx hy;subst hx;subst hy;cases hk:Ed k k'
   ·grind
   ·simp only[hk,cond_true]at h;have:=(N4 k k').1 hk;subst this
    exact fin (E7 (fun _ _ hh=>by cases hh.1) (fun hh=>by cases hh.1)) (Ahx h t)
  ·unfold R at hx hy;obtain⟨s,rfl,rfl⟩:=hx;obtain⟨u,rfl,rfl⟩:=hy
   exact fin (E7 (fun _ _ hh=>by cases hh.1) (fun hh=>by cases hh.1)) (Ahy h t)
  ·rename_i k a k' b
   unfold R at hx hy;subst hx;subst hy
   split at h
   ·rename_i hk
    have:=of_decide_eq_true hk;subst this
    exact fin (E7 (fun _ _ hh=>by cases hh.1) (fun hh=>by cases hh.1)) (Ah0 h t)
   grind
  ·rename_i a b
   unfold R at hx hy;subst hx;subst hy
   split at h
   ·rename_i hb
    cases h;have:=EqR.bool (w:=w) (hd.trans gr) a b
    exact fin (E7 (fun _ _ hh=>by cases hh.1) (fun hh=>by cases hh.1)) ⟨_,this.eql,by unfold R;cases a<;>cases b<;>rfl⟩
   ·rename_i hb
    cases h;have:=EqR.bool (w:=w) (hd.trans gr) a b
    exact fin (E7 (fun _ _ hh=>by cases hh.1) (fun hh=>by cases hh.1)) ⟨_,this.neq,by unfold R;cases a<;>cases b<;>rfl⟩
   grind
  ·have other:∀b,Ir P ti t (Cm xo||Cm yo) x y=some b->EqR P w t X Y b/\(eqGuard op t xo yo X Y).run P w=.ok () w:=by
    intro b hb;unfold Ir at hb
    split at hb
    ·rename_i b' hb'
     cases hb
     cases hc:(Cm xo||Cm yo)
     ·grind
     ·simp only[hc,cond_true]at hb'
      obtain⟨h1,h2,h3⟩:=Ahz (by rw[hdd];exact hd) hx hy hb'
      refine⟨h1,?_⟩
      by_cases hn:X=.nilIface/\Y=.nilIface
      ·obtain⟨rfl,rfl⟩:=hn;exact Adl hc
      ·exact E7 (fun l m hh=>h2 l hh.1) hn
    ·obtain⟨l,m,rfl,rfl,h1,h2⟩:=Aao hx hy hb;exact⟨h1,run_eqGuard_agg w op t xo yo l m (Ud h2)⟩
   split at h
   ·split at h
    ·rename_i b hb
     cases h;obtain⟨h1,h2⟩:=other b hb
     exact fin h2 ⟨_,h1.eql,by unfold R;rfl⟩
    grind
   ·split at h
    ·rename_i b hb
     cases h;obtain⟨h1,h2⟩:=other b hb
     exact fin h2 ⟨_,h1.neq,by unfold R;rfl⟩
    grind
   grind
 grind
theorem Aol{op x X}(hx:R C N w x X){v}(h:unA op x=some v):Dz P C N w (Op.unary op X) v:=by
 unfold unA at h
 split at h
 ·cases h;unfold R at hx;subst hx;exact⟨_,rfl,by unfold R;rfl⟩
 ·cases h;unfold R at hx;subst hx
  refine⟨_,by simp[Op.unary,Op.intArith];rfl,?_⟩
  rw[Nh,Wh,Int.zero_sub];unfold R;rfl
 grind
theorem S0{x n X}(h:My x=some n)(hx:R C N w x X):∃k,X=.int k (n:Int):=by
 unfold My at h
 split at h
 ·cases h;unfold R at hx;grind
 grind
theorem P0{t:TypeId}{ti}(hti:Ay P t=some ti){l c o}(hc:RC C N w c l o){v}(h:Ff ti l=some v):
  Dz P C N w (loadVar t ⟨c,o,none⟩) v:=by
 obtain⟨i,d,h1,h2,h3,h4,_,_,h5⟩:=Ap hti;unfold Ff at h;unfold loadVar Dz;simp only[Sem.run_bind,Fp h2,Result.andThen_ok];rw[←h5];cases ha:ti.isAgg
 ·simp only[ha]at h;simp only[bp_,if_false]
  split at h
  ·cases h;unfold RC at hc;obtain⟨⟨x,q1,q2,q3⟩,_⟩:=hc
   exact⟨x,by simp[q1],q3⟩
  grind
 ·simp only[ha]at h
  split at h
  ·rename_i cs hcs
   cases h;obtain⟨a,q1,q2,q3⟩:=Adj (P:=P) (hc.take _ hcs);have hl:=(Hu hcs).2
   refine⟨.agg a,?_,by unfold R;grind⟩
   simp only[if_true,Sem.run_bind,A9 h1,Result.andThen_ok];rw[←h4,←hl,q1]
   simp
  grind
theorem P1{σ σ'}(hs:Sim P C w σ){t:TypeId}{ti}(hti:Ay P t=some ti){x X}(hx:R C (nx σ) w x X){v}(h:Na ti x σ=some (v,σ')):
  σ'=σ/\Dz P C (nx σ) w (Instr.loadAt t X) v:=by
 unfold Na at h
 split at h
 ·rename_i a off
  split at h
  ·rename_i vs hvs
   split at h
   ·rename_i u hu
    cases h;refine⟨rfl,?_⟩;unfold R at hx;obtain⟨ad,rfl,_,hl⟩:=hx;unfold Sto.cells at hvs
    split at hvs
    ·rename_i vs' hg
     cases hvs;obtain⟨c,o,cs,T,k1,k2,k3⟩:=hs.obj a _ hg;rw[hl c o k1];exact P0 hti (k3.drop off) hu
    grind
   grind
  grind
 ·split at h
  ·rename_i u hu
   cases h;refine⟨rfl,?_⟩;unfold R at hx;obtain⟨c,o,rfl,_,k3⟩:=hx;exact P0 hti k3 hu
  grind
 grind
theorem Ue{x X}(hx:R C N w x X){n v}(h:Po x n=some v):∃ad,X=.pointer (some ad)/\R C N w v (.pointer (some (ad.add n))):=by
 unfold Po at h
 split at h
 ·rw[Ak]at h;cases h;unfold R at hx;obtain⟨ad,rfl,h1,h2⟩:=hx;refine⟨ad,rfl,?_⟩;unfold R
  exact⟨ad.add n,rfl,h1,fun c o hc=>by rw[h2 c o hc,Hb,Nat.add_assoc]⟩
 ·cases h;unfold R at hx;obtain⟨c,o,rfl,h1,h2⟩:=hx;refine⟨⟨c,o,none⟩,rfl,?_⟩;rw[Hb];unfold R;refine⟨c,o+n,rfl,fun hne=>h1 ?_,h2.drop n⟩
  grind
 grind
theorem Adm{t:TypeId}{ti}(hti:Ay P t=some ti){fs}(hfs:ti.desc=.struct fs){i f}(hf:fs.toList[i]? =some f){tf}(htf:Ay P f.type=some tf)
  (hsz:tf.size≠0){x X}(hx:R C N w x X){v}(h:Po x f.offset=some v):Dz P C N w (Instr.fieldAt t X i) v:=by
 obtain⟨_,d,_,h2,h3,_⟩:=Ap hti;obtain⟨fi,_,g1,_,_,g4,_⟩:=Ap htf;obtain⟨ad,rfl,hr⟩:=Ue hx h;refine⟨.pointer (some (ad.add f.offset)),?_,hr⟩;unfold Instr.fieldAt;have hf':fs[i]? =some f:=gr
 simp only[Sem.run_bind,Aa (h2.trans (by rw[←h3,hfs])),Result.andThen_ok,hf',Instr.sureAddr,Sem.run_pure,fieldPlace,A9 g1,Sem.run_ite]
 rw[if_neg gr]
 simp
theorem Ah1{t:TypeId}{ti}(hti:Ay P t=some ti){fs}(hfs:ti.desc=.struct fs){i f}(hf:fs.toList[i]? =some f){tf}(htf:Ay P f.type=some tf)
  {cs X}(hx:R C N w (.agg cs) X){v}(h:Ff tf (cs.drop f.offset)=some v):Dz P C N w (Instr.field t X i) v:=by
 obtain⟨_,d,_,h2,h3,_⟩:=Ap hti;have hf':fs[i]? =some f:=gr;unfold R at hx;obtain⟨a,rfl,q1,q2⟩:=hx;unfold Instr.field
 have hp:Dz P C N w (part f.type a f.offset) v:=by
  obtain⟨fi,fd,g1,g2,g3,g4,_,_,g5⟩:=Ap htf;unfold Ff at h;unfold part Dz;simp only[Sem.run_bind,Fp g2,Result.andThen_ok];rw[←g5];have hd:=q1.drop f.offset;cases ha:tf.isAgg
  ·simp only[ha]at h;simp only[bp_,if_false]
   split at h
   ·rename_i u r he
    cases h;have:(cs.drop f.offset)[0]? =some v:=gr;obtain⟨x,k1,k2⟩:=hd.get 0 v this;have:a[f.offset]? =some x:=gr
    exact⟨x,by simp[this],k2⟩
   grind
  ·simp only[ha]at h
   split at h
   ·rename_i l hl
    cases h
    refine⟨.agg (a.extract f.offset (f.offset+fi.size)),by simp[A9 g1],?_⟩
    obtain⟨t1,t2⟩:=Hu hl;unfold R;refine⟨_,rfl,?_,?_⟩
    ·have e:(a.extract f.offset (f.offset+fi.size)).toList=(a.toList.drop f.offset).take tf.size:=by
      rw[g4];simp[gd_]
     rw[e,t1]
     have key:∀(n:Nat) (l:List AV) (vs:List Value),RL C N w l vs->RL C N w (l.take n) (vs.take n):=by
      intro n
      induction n with
      |zero=>intro l vs _;simp only[List.take_zero];unfold RL;trivial
      |succ n ih=>intro l vs hl;cases l<;>cases vs<;>unfold RL at hl<;>first|exact hl.elim|(simp only[List.take_nil];unfold RL;trivial)|(simp only[List.take_succ_cons];unfold RL;exact⟨hl.1,ih _ _ hl.2⟩)
     grind
    ·intro y hy;refine q2 y ?_
     simp at hy
     grind
   grind
 obtain⟨x,k1,k2⟩:=hp
 exact⟨x,by simp only[Sem.run_bind,Aa (h2.trans (by rw[←h3,hfs])),Result.andThen_ok,hf',asAgg,Sem.run_pure,k1],k2⟩
theorem Wl{σ σ'}{t e:TypeId}{ti te}(hti:Ay P t=some ti)(hd:ti.desc=.slice e)(hte:Ay P e=some te){x i X I}(hx:R C N w x X)(hi:R C N w i I){v}
  (h:Gt te.size x i σ=some (v,σ')):σ'=σ/\Dz P C N w (Instr.indexAt t X I) v:=by
 obtain⟨_,d,_,h2,h3,_⟩:=Ap hti;obtain⟨ei,_,g1,_,_,g4,_⟩:=Ap hte
 have hu:=h2.trans (by rw[←h3,hd])
 unfold Gt at h
 split at h
 ·rename_i k n
  unfold R at hi;subst hi
  split at h
  ·rename_i a off sz len cap
   cases hb:Nat.blt n len
   ·grind
   ·simp only[hb,cond_true,Ak,af_,ba_]at h;obtain⟨rfl,rfl⟩:=h;have hlt:n<len:=al_ hb;refine⟨rfl,?_⟩;unfold R at hx;obtain⟨ad,kk,rfl,q1,q2,q3,q4⟩:=hx;refine⟨.pointer (some (ad.add (n*ei.size))),?_,?_⟩
    ·unfold Instr.indexAt;simp only[asIntOf,Sem.run_bind,Sem.run_pure,Result.andThen_ok,Aa hu]
     rw[if_pos ⟨by simp,gr⟩]
     simp[A9 g1]
    ·unfold R;refine⟨_,rfl,q1,fun c o hc=>?_⟩
     rw[(q4 c o hc).1 Om,Hb,g4];grind
  ·rename_i cs sz len cap
   cases hb:Nat.blt n len
   ·grind
   ·simp only[hb,cond_true,af_,ba_]at h;obtain⟨rfl,rfl⟩:=h;have hlt:n<len:=al_ hb;refine⟨rfl,?_⟩;unfold R at hx;obtain⟨ado,kk,rfl,q2,q3,q4,q0,q567⟩:=hx
    obtain _|ad:=ado
    ·grind
    obtain⟨q5,q6,q7⟩:=q567 ad rfl;have hsp:=q5 Om;obtain⟨b,o,sp⟩:=ad;simp only at hsp;subst hsp;refine⟨.pointer (some ⟨b,o+n*ei.size,none⟩),?_,?_⟩
    ·unfold Instr.indexAt;simp only[asIntOf,Sem.run_bind,Sem.run_pure,Result.andThen_ok,Aa hu]
     rw[if_pos ⟨by simp,gr⟩]
     simp[A9 g1,Hb]
    ·unfold R;rw[g4];exact⟨b,_,rfl,fun hne=>q6 (fun hh=>hne gr),q7.drop _⟩
  grind
 grind
theorem Sa{σ σ'}{t e:TypeId}{len ti te}(hti:Ay P t=some ti)(hd:ti.desc=.array len e)(hte:Ay P e=some te){x i X I}(hx:R C N w x X)(hi:R C N w i I){v}
  (h:E6 len te.size x i σ=some (v,σ')):σ'=σ/\Dz P C N w (Instr.indexAt t X I) v:=by
 obtain⟨_,d,_,h2,h3,_⟩:=Ap hti;obtain⟨ei,_,g1,_,_,g4,_⟩:=Ap hte
 have hu:=h2.trans (by rw[←h3,hd])
 unfold E6 at h
 split at h
 ·rename_i k n
  unfold R at hi;subst hi;cases hb:Nat.blt n len
  ·grind
  ·simp only[hb,cond_true]at h
   split at h
   ·rename_i u hp
    cases h;have hlt:n<len:=al_ hb;obtain⟨ad,rfl,hr⟩:=Ue hx hp;refine⟨rfl,.pointer (some (ad.add (n*ei.size))),?_,gr⟩;unfold Instr.indexAt;simp only[asIntOf,Sem.run_bind,Sem.run_pure,Result.andThen_ok,Aa hu,Instr.sureAddr]
    rw[if_pos ⟨by simp,gr⟩]
    simp[A9 g1]
   grind
 grind
theorem Ah2{s}{n b:Nat}(h:(B2 s)[n]? =some b):∃u:UInt8,s[n]? =some u/\u.toNat=b:=by
 unfold B2 at h;simp only[br_,cy_]at h;obtain⟨u,h1,h2⟩:=h;refine⟨u,?_,h2⟩;have hlt:n<s.data.toList.length:=(ae_.1 h1).1
 have d8:n<s.size:=by simpa using hlt
 rw[getElem?_pos s n d8];have:=(ae_.1 h1).2;simp only[Array.getElem_toList]at this;rw[←this];rfl
theorem Yj{σ σ'}{t:TypeId}{ti}(hti:Ay P t=some ti)(hd:ti.desc=.string){x i X I}(hx:R C N w x X)(hi:R C N w i I){v}
  (h:Lc x i σ=some (v,σ')):σ'=σ/\Dz P C N w (Instr.index t X I) v:=by
 obtain⟨_,d,_,h2,h3,_⟩:=Ap hti
 have hu:=h2.trans (by rw[←h3,hd])
 unfold Lc at h
 split at h
 ·rename_i l k n
  split at h
  ·rename_i b hb
   cases h;unfold R at hx hi;subst hi;obtain⟨s,rfl,rfl⟩:=hx;obtain⟨u,q1,q2⟩:=Ah2 hb
   refine⟨rfl,.int .u8 u.toNat,?_,by unfold R;grind⟩
   unfold Instr.index;simp only[asIntOf,Sem.run_bind,Sem.run_pure,Result.andThen_ok,Aa hu];have:(if(0:Int)<=Int.ofNat n then s[(Int.ofNat n).toNat]? else none)=some u:=gr;rw[this]
   rfl
  grind
 grind
end
section
variable {P:Program}{C:Ctx}{N:Nat}{w:World}
def RO(C:Ctx)(N:Nat)(w:World):Option AV->Option Value->Prop
 |none,none=>True
 |some x,some v=>R C N w x v
 |_,_=>False
theorem Hv{n y:Nat}{k code}(h:n<=y):(Instr.sliceBound (.int k (n:Int)) y code).run P w=.ok n w:=by
 unfold Instr.sliceBound;simp only[asIntOf,Sem.run_bind,Sem.run_pure,Result.andThen_ok]
 rw[if_pos ⟨by omega,by omega⟩]
 simp
theorem Ju{len cap k:Nat}{acap}(hk:len<=k)(fw:∀q,acap=some q->k=q){lo hi mx LO HI MX}(h1:RO C N w lo LO)(h2:RO C N w hi HI)(h3:RO C N w mx MX)
  {l h c}(hb:Do len acap lo hi mx=some (l,h,c))(sl):
  ∃m,(Instr.sliceBounds sl len k LO HI MX).run P w=.ok (l,h,m) w/\l<=h/\h<=m/\m<=k/\(∀q,c=some q->m-l=q)/\(mx=none->m=k/\c=Mz acap l):=by
 have fy:∀n,Li len acap n=true->n<=k:=fun n hn=>by
  unfold Li at hn;cases hb:Nat.ble n len
  ·simp only[hb,cond_false]at hn
   split at hn
   ·rename_i q;have:=fw q rfl;have:=al_ hn;omega
   ·cases hn
  ·have:=al_ hb;omega
 unfold Do at hb
 split at hb
 ·rename_i l' h' hl hh
  have hLO:(LO=none/\l'=0)∨∃kk,LO=some (.int kk (l':Int)):=by
   cases lo with
   |none=>
    cases LO with
    |none=>simp at hl;exact .inl ⟨rfl,hl.symm⟩
    |some _=>unfold RO at h1;exact h1.elim
   |some v=>
    cases LO with
    |none=>unfold RO at h1;exact h1.elim
    |some V=>
     unfold RO at h1;simp only at hl;obtain⟨kk,rfl⟩:=S0 hl h1;exact .inr ⟨kk,rfl⟩
  have hHI:(hi=none/\HI=none/\h'=len)∨∃kk,HI=some (.int kk (h':Int)):=by
   cases hi with
   |none=>
    cases HI with
    |none=>simp at hh;exact .inl ⟨rfl,rfl,hh.symm⟩
    |some _=>unfold RO at h2;exact h2.elim
   |some v=>
    cases HI with
    |none=>unfold RO at h2;exact h2.elim
    |some V=>
     unfold RO at h2;simp only at hh;obtain⟨kk,rfl⟩:=S0 hh h2;exact .inr ⟨kk,rfl⟩
  split at hb
  ·have hMX:MX=none:=by
    cases MX with
    |none=>rfl
    |some _=>unfold RO at h3;exact h3.elim
   subst hMX;cases hc:(Nat.ble l' h'&&Li len acap h')
   ·grind
   ·simp only[hc,cond_true,af_,ba_]at hb;obtain⟨rfl,rfl,rfl⟩:=hb;simp only[ad_]at hc;have hle:=al_ hc.1;have hk':=fy h' hc.2;refine⟨k,?_,hle,hk',nl,fun q hq=>?_,fun _=>⟨rfl,rfl⟩⟩
    ·unfold Instr.sliceBounds
     rcases hHI with⟨_,rfl,rfl⟩|⟨kk,rfl⟩<;>rcases hLO with⟨rfl,rfl⟩|⟨kk',rfl⟩<;>
      simp only[Sem.run_bind,Sem.run_pure,Result.andThen_ok,Hv hk',Hv hle]
    ·unfold Mz at hq
     grind
  ·rename_i mv
   split at hb
   ·rename_i m hv hm
    have hMX:∃kk,MX=some (.int kk (m:Int)):=by
     cases MX with
     |none=>unfold RO at h3;exact h3.elim
     |some V=>unfold RO at h3;obtain⟨kk,rfl⟩:=S0 hm h3;exact⟨kk,rfl⟩
    obtain⟨k3,rfl⟩:=hMX;cases hc:(Nat.ble l' h'&&Nat.ble h' m&&Li len acap m)
    ·grind
    ·simp only[hc,cond_true,af_,ba_]at hb;obtain⟨rfl,rfl,rfl⟩:=hb;simp only[ad_]at hc;have hle:=al_ hc.1.1;have kw:=al_ hc.1.2;have hk':=fy m hc.2;refine⟨m,?_,hle,kw,hk',gr,gr⟩;unfold Instr.sliceBounds
     rcases hHI with⟨hn,_,_⟩|⟨kk,rfl⟩
     ·cases hn
     ·rcases hLO with⟨rfl,rfl⟩|⟨kk',rfl⟩<;>
       simp only[Sem.run_bind,Sem.run_pure,Result.andThen_ok,Hv hk',Hv hle,Hv kw]
   ·cases hb
 ·cases hb
theorem Agb{σ σ'}{t e:TypeId}{ti te}(hti:Ay P t=some ti)(hd:ti.desc=.slice e)(hte:Ay P e=some te){x X}(hx:R C N w x X){lo hi mx LO HI MX}
  (h1:RO C N w lo LO)(h2:RO C N w hi HI)(h3:RO C N w mx MX){v}(h:Lj te.size x lo hi mx σ=some (v,σ')):σ'=σ/\Dz P C N w (Instr.sliceAt t X LO HI MX) v:=by
 obtain⟨_,d,_,g2,g3,_⟩:=Ap hti;obtain⟨ei,_,e1,_,_,e4,_⟩:=Ap hte
 have hu:=g2.trans (by rw[←g3,hd])
 unfold Lj at h
 split at h
 ·rename_i a off sz len cap
  split at h
  ·rename_i hsz
   split at h
   ·rename_i l hh c hb
    simp only[Ak,af_,ba_]at h;obtain⟨rfl,rfl⟩:=h;refine⟨rfl,?_⟩;unfold R at hx;obtain⟨ad,k,rfl,q1,q2,q3,q4⟩:=hx;obtain⟨m,b1,b2,b3,b4,b5,_⟩:=Ju (P:=P) (cap:=0) q2 q3 h1 h2 h3 hb true
    have hs:sz=ei.size:=by rw[←e4];exact ac_ hsz
    refine⟨.slice (if m=l then some ad else some (ad.add (l*ei.size))) (hh-l) (m-l),?_,?_⟩
    ·unfold Instr.sliceAt;simp only[Sem.run_bind,Aa hu,Result.andThen_ok];unfold Instr.slice;simp only[Sem.run_bind,Aa hu,Result.andThen_ok,b1,A9 e1,Sem.run_pure,ds_]
    ·unfold R
     refine⟨if m=l then ad else ad.add (l*ei.size),m-l,gr,q1,by omega,b5,fun c' o hc=>?_⟩
     obtain⟨q5,q6⟩:=q4 c' o hc;refine⟨fun ec=>?_,?_⟩
     ·rw[if_neg Om,q5 Om,Hb,hs];congr 1;omega
     ·have:(m-l)*sz+l*sz<=k*sz:=by rw[←ha_];exact el_ _ Om
      omega
   ·cases h
  ·cases h
 ·rename_i cs sz len cap
  split at h
  ·rename_i hsz
   split at h
   ·rename_i l hh c hb
    split at h
    ·rename_i cs' hcs
     simp only[Ak,af_,ba_]at h;obtain⟨rfl,rfl⟩:=h;refine⟨rfl,?_⟩;unfold R at hx;obtain⟨ado,k,rfl,q2,q3,q4,q0,q567⟩:=hx;obtain⟨m,b1,b2,b3,b4,b5,_⟩:=Ju (P:=P) (cap:=0) q2 q3 h1 h2 h3 hb true
     have hs:sz=ei.size:=by rw[←e4];exact ac_ hsz
     obtain⟨t1,t2⟩:=Hu hcs
     obtain _|ad:=ado
     ·have hk0:=q0 rfl
      have:m=l/\hh-l=0/\m-l=0:=by omega
      refine⟨.slice none (hh-l) (m-l),?_,?_⟩
      ·unfold Instr.sliceAt;simp only[Sem.run_bind,Aa hu,Result.andThen_ok];unfold Instr.slice;simp only[Sem.run_bind,Aa hu,Result.andThen_ok,b1,A9 e1,Sem.run_pure,gt_]
       split<;>rfl
      ·unfold R
       grind
     obtain⟨q5,q6,q7⟩:=q567 ad rfl;refine⟨.slice (if m=l then some ad else some (ad.add (l*ei.size))) (hh-l) (m-l),?_,?_⟩
     ·unfold Instr.sliceAt;simp only[Sem.run_bind,Aa hu,Result.andThen_ok];unfold Instr.slice;simp only[Sem.run_bind,Aa hu,Result.andThen_ok,b1,A9 e1,Sem.run_pure,ds_]
     ·have hne:cs'≠[]->¬m=l:=fun hne hml=>by
       apply hne
       have:hh-l=0:=by omega
       rw[this]at t2;grind
      unfold R
      refine⟨some (if m=l then ad else ad.add (l*ei.size)),m-l,gr,by omega,b5,t2,fun hh=>(by cases hh),fun ad' ha=>?_⟩
      cases ha;refine⟨fun ec=>?_,fun ft=>?_,?_⟩
      ·rw[if_neg Om];have:=q5 Om;obtain⟨b,o,sp⟩:=ad;simp only at this;subst this;rw[Hb]
      ·have o8:cs≠[]:=gr;rw[if_neg (hne ft)];have bl:0<k:=gr;have:=q5 bl;obtain⟨b,o,sp⟩:=ad;simp only at this;subst this;rw[Hb];exact q6 o8
      ·by_cases ft:cs'=[]
       ·rw[ft];unfold RC;trivial
       ·rw[if_neg (hne ft)];have bl:0<k:=gr;have:=q5 bl;obtain⟨b,o,sp⟩:=ad;simp only at this;subst this;rw[Hb,←hs];exact(q7.drop (l*sz)).take _ hcs
    ·cases h
   ·cases h
  ·cases h
 ·split at h
  ·rename_i b hb
   cases h;refine⟨rfl,?_⟩;obtain⟨l,hh,c⟩:=b;unfold R at hx;obtain⟨rfl,hn⟩:=hx;obtain⟨m,b1,b2,b3,b4,b5,_⟩:=Ju (P:=P) (cap:=0) (k:=0) nl gr h1 h2 h3 hb true
   have:hh-l=0/\m-l=0:=by omega
   refine⟨.slice none 0 0,?_,by unfold R;grind⟩
   unfold Instr.sliceAt;simp only[Sem.run_bind,Aa hu,Result.andThen_ok];unfold Instr.slice;simp only[Sem.run_bind,Aa hu,Result.andThen_ok,b1,A9 e1,Sem.run_pure,gt_,this.1,this.2]
   split<;>rfl
  ·cases h
 ·cases h
theorem Yk(s l h):B2 (s.extract l h)=((B2 s).take h).drop l:=by
 unfold B2;rw[gd_]
 simp[ByteArray.data_extract,List.map_take,List.map_drop]
theorem Yl{σ σ'}{t:TypeId}{ti}(hti:Ay P t=some ti)(hd:ti.desc=.string){x X}(hx:R C N w x X){lo hi LO HI}
  (h1:RO C N w lo LO)(h2:RO C N w hi HI){v}(h:Nb x lo hi σ=some (v,σ')):σ'=σ/\Dz P C N w (Instr.sliceAt t X LO HI none) v:=by
 obtain⟨_,d,_,g2,g3,_⟩:=Ap hti
 have hu:=g2.trans (by rw[←g3,hd])
 unfold Nb at h
 split at h
 ·rename_i l
  split at h
  ·rename_i a b c hb
   cases h;refine⟨rfl,?_⟩;unfold R at hx;obtain⟨s,rfl,rfl⟩:=hx
   obtain⟨m,b1,b2,b3,b4,b5,_⟩:=Ju (P:=P) (cap:=0) (k:=(B2 s).length) nl gr h1 h2 (show RO C N w none none by unfold RO;trivial) hb false
   rw[Fg]at b1
   refine⟨.string (s.extract a b),?_,by unfold R;exact⟨_,rfl,Yk s a b⟩⟩
   unfold Instr.sliceAt;simp only[Sem.run_bind,Aa hu,Result.andThen_ok];unfold Instr.slice;simp only[Sem.run_bind,Aa hu,Result.andThen_ok,Option.isSome_none,bp_,if_false,b1,Sem.run_pure]
  ·cases h
 ·cases h
theorem Aap{σ σ' i x X}(hx:R C N w x X){v}(h:Nc i x σ=some (v,σ')):σ'=σ/\Dz P C N w (Instr.extract X i) v:=by
 unfold Nc at h
 split at h
 ·split at h
  ·rename_i vs u hu
   cases h;unfold R at hx;obtain⟨a,rfl,q⟩:=hx;obtain⟨z,k1,k2⟩:=q.get i _ hu;have:a[i]? =some z:=gr
   exact⟨rfl,z,by simp[Instr.extract,this],k2⟩
  ·cases h
 ·cases h
theorem Ym{σ σ' x X}(hx:R C N w x X){v}(h:Jf x σ=some (v,σ'))(dst o ρ)(hρ:ρ o=X)(ty pos after g):
  σ'=σ/\(execOp ρ ⟨dst,.nilCheck o,ty,pos,after,g⟩).run P w=.ok (.value X) w/\R C N w v X:=by
 unfold Jf at h
 split at h
 ·cases h;refine⟨rfl,?_,hx⟩;unfold R at hx;obtain⟨ad,rfl,_⟩:=hx
  simp[execOp,hρ]
 ·cases h;refine⟨rfl,?_,hx⟩;unfold R at hx;obtain⟨c,o',rfl,_⟩:=hx
  simp[execOp,hρ]
 ·cases h;refine⟨rfl,?_,hx⟩;unfold R at hx;obtain⟨a,b,rfl,_⟩:=hx
  simp[execOp,hρ]
 ·cases h
theorem Yn{σ σ'}{t e:TypeId}{n ti te}(hti:Ay P t=some ti)(hd:ti.desc=.array n e)(hte:Ay P e=some te){x X}(hx:R C N w x X)(hsim:∀a vs,σ.get a=some (.cells vs)->vs≠[]->∃c o,C.loc a=some (c,o)/\o+vs.length<=csize w c)
  {lo hi mx LO HI MX}
  (h1:RO C N w lo LO)(h2:RO C N w hi HI)(h3:RO C N w mx MX){v}(h:Wf n te.size x lo hi mx σ=some (v,σ')):σ'=σ/\Dz P C N w (Instr.sliceAt t X LO HI MX) v:=by
 unfold Wf at h;cases h
theorem RC.room:∀{vs:List AV} {c o:Nat},RC C N w c vs o->vs≠[]->o+vs.length<=csize w c
 |[x],c,o,h,_=>by
  unfold RC at h;obtain⟨⟨v,h1,_⟩,_⟩:=h;unfold World.cell? at h1;unfold csize
  grind
 |x::y::r,c,o,h,_=>by
  unfold RC at h
  have:=RC.room h.2 (by simp)
  grind
theorem Adn{σ σ'}{t xt:TypeId}{ti}(hti:Ay P t=some ti)(hd:∀m,ti.desc≠.interface m){ok x X}(hx:R C N w x X){v}(h:Zr t (Lh ti) ok x σ=some (v,σ')):
  σ'=σ/\Dz P C N w (Instr.typeAssert X xt t ok) v:=by
 unfold Zr at h;cases h
end
section
variable {P:Program}{C C':Ctx}{N N':Nat}{w w':World}
theorem RL.of_get:∀{l:List AV} {vs:List Value},l.length=vs.length->(∀(i:Nat) (x:AV),l[i]? =some x->∃v,vs[i]? =some v/\R C N w x v)->RL C N w l vs
 |[],[],_,_=>by unfold RL;trivial
 |x::r,v::s,hl,h=>by
  unfold RL;obtain⟨v',h1,h2⟩:=h 0 x rfl
  simp at h1;subst h1
  exact⟨h2,RL.of_get (by simpa using hl) fun i y hy=>by have:=h (i+1) y (by simpa using hy);simpa using this⟩
 |[],_::_,hl,_=>by simp at hl
 |_::_,[],hl,_=>by simp at hl
abbrev gu_:=@RL.of_get
theorem RC.of_get:∀{cs:List AV} {c o:Nat},(∀(i:Nat) (x:AV),cs[i]? =some x->∃v,w.cell? ⟨c,o+i,none⟩=some v/\v.oneCell=true/\R C N w x v)->RC C N w c cs o
 |[],_,_,_=>by unfold RC;trivial
 |x::r,c,o,h=>by
  unfold RC
  exact⟨h 0 x rfl,RC.of_get fun i y hy=>by have:=h (i+1) y (by simpa using hy);rwa[show o+1+i=o+(i+1) by omega]⟩
abbrev gv_:=@RC.of_get
theorem N5:∀{l:List AV} {off:Nat} {xs l':List AV},Et l off xs=some l'->
  l'.length=l.length/\off+xs.length<=l.length/\∀j:Nat,l'[j]? =if off<=j/\j<off+xs.length then xs[j-off]? else l[j]?
 |l,0,[],l',h=>by
  have:l=l':=by cases l<;>simpa[Et]using h
  subst this
  exact⟨rfl,by simp,fun j=>by rw[if_neg (by simp)]⟩
 |y::r,0,x::xs,l',h=>by
  simp only[Et]at h
  split at h
  ·rename_i m hm
   cases h;obtain⟨h1,h2,h3⟩:=N5 hm
   refine⟨by simp[h1],by simp at h2⊢;omega,fun j=>?_⟩
   cases j with
   |zero=>rw[if_pos (by simp)];rfl
   |succ j=>
    have:=h3 j;simp only[cq_,this];simp only[as_]
    by_cases hj:j<xs.length
    ·rw[if_pos Om,if_pos Om];simp
    ·rw[if_neg Om,if_neg Om]
  ·cases h
 |y::r,k+1,xs,l',h=>by
  have h':∃m,Et r k xs=some m/\y::m=l':=by
   cases xs with
   |nil=>
    simp only[Et]at h;cases hm:Et r k []with
    |none=>rw[hm]at h;cases h
    |some m=>rw[hm]at h;simp only[af_]at h;exact⟨m,rfl,h⟩
   |cons x xs=>
    simp only[Et]at h;cases hm:Et r k (x::xs)with
    |none=>rw[hm]at h;cases h
    |some m=>rw[hm]at h;simp only[af_]at h;exact⟨m,rfl,h⟩
  obtain⟨m,hm,he⟩:=h';subst he
  ·obtain⟨h1,h2,h3⟩:=N5 hm
   refine⟨by simp[h1],by simp;omega,fun j=>?_⟩
   cases j with
   |zero=>rw[if_neg Om];rfl
   |succ j=>
    simp only[cq_,h3 j]
    by_cases hj:k<=j/\j<k+xs.length
    ·rw[if_pos hj,if_pos Om,show j+1-(k+1)=j-k by omega]
    ·rw[if_neg hj,if_neg Om]
 |[],0,x::xs,l',h=>by simp[Et]at h
 |[],k+1,xs,l',h=>by cases xs<;>simp[Et]at h
theorem RL.set{l xs l' off cs vs}(h:RL C N w l cs.toList)(hx:RL C N w xs vs)(hs:Et l off xs=some l'):RL C N w l' (Wg cs off vs).toList/\off+vs.length<=cs.size:=by
 obtain⟨h1,h2,h3⟩:=N5 hs;have hl:=h.length;have hxl:=hx.length
 have hle:off+vs.length<=cs.size:=by rw[←hxl];simp at hl;omega
 refine⟨gu_ (by rw[h1,hl];simp[Nf]) fun i x hi=>?_,hle⟩
 rw[h3 i]at hi;rw[bw_,Pw vs cs off hle]
 by_cases hc:off<=i/\i<off+xs.length
 ·rw[if_pos hc]at hi;rw[if_pos Om];exact hx.get _ x hi
 ·rw[if_neg hc]at hi;rw[if_neg Om,←bw_];exact h.get i x hi
theorem Aqo{vs cs off}(h:∀x∈cs.toList,x.oneCell=true)(hv:∀x∈vs,x.oneCell=true)(hle:off+vs.length<=cs.size):∀x∈(Wg cs off vs).toList,x.oneCell=true:=by
 intro x hx;obtain⟨i,hi⟩:=au_.1 hx;rw[bw_,Pw vs cs off hle]at hi
 split at hi
 ·exact hv x (ab_ hi)
 ·exact h x (by rw[←bw_]at hi;exact ab_ hi)
theorem Akt(l):∀(off k:Nat) (cs:Array Value),((l.zipIdx k).foldl (fun cs (x:Value×Nat)=>cs.setIfInBounds (off+x.2) x.1) cs)=Wg cs (off+k) l:=by
 induction l with
 |nil=>intro off k cs;rfl
 |cons v r ih=>
  intro off k cs;simp only[List.zipIdx_cons,ct_,Wg];rw[ih off (k+1)]
  rfl
def Mi(C:Ctx)(N:Nat)(w:World)(place:Nat->Option (Nat×Nat)):List (Nat×Nat×AV)->List (Nat×Value)->Prop
 |[],[]=>True
 |x::r,p::s=>(place p.1=some (x.1,x.2.1)/\R C N w x.2.2 p.2)/\Mi C N w place r s
 |_,_=>False
theorem N6{place}:∀{ps:List (Nat×Nat×AV)} {vs:List (Nat×Value)} {l l':List AV} {cs:Array Value},Mi C N w place ps vs->RL C N w l cs.toList->(∀x∈cs.toList,x.oneCell=true)->Si l ps=some l'->
  ∃cs',Instr.fill place cs vs=some cs'/\RL C N w l' cs'.toList/\(∀x∈cs'.toList,x.oneCell=true)/\cs'.size=cs.size
 |[],[],l,l',cs,_,h1,h2,h=>by
  simp only[Si,af_]at h;subst h;exact⟨cs,rfl,h1,h2,rfl⟩
 |x::r,p::s,l,l',cs,hp,h1,h2,h=>by
  obtain⟨off,size,v⟩:=x;obtain⟨i,V⟩:=p;unfold Mi at hp;obtain⟨⟨hp1,hp2⟩,hp3⟩:=hp;simp only[Si]at h
  split at h
  ·rename_i m hm
   split at h
   ·rename_i l1 hl1
    obtain⟨q1,q2,q3,q4⟩:=Hc hm hp2;obtain⟨k1,k2⟩:=h1.set q1 hl1;obtain⟨cs',g1,g2,g3,g4⟩:=N6 hp3 k1 (Aqo h2 q4 k2) h
    refine⟨cs',?_,g2,g3,by rw[g4,Nf]⟩
    have hsz:V.cells.toList.length=V.cells.size:=by simp
    simp only[Instr.fill,hp1]
    rw[if_neg (by simp;exact⟨q2,by omega⟩)]
    rw[←g1]
    congr 1
    have:=Akt V.cells.toList off 0 cs;rw[fd_]at this;rw[←this,←fv_]
    congr 1
    simp
   ·cases h
  ·cases h
 |[],_::_,_,_,_,hp,_,_,_=>by unfold Mi at hp;exact hp.elim
 |_::_,[],_,_,_,hp,_,_,_=>by unfold Mi at hp;exact hp.elim
end
end Go.AM
